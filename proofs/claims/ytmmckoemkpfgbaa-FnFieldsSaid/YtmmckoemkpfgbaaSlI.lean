/- Slices of numbers that a call has made: held against each other, marked, read again; no condition. -/
import Derived.Test.YtmmckoemkpfgbaaTy
import Derived.Test.YtmmckoemkpfgbaaSlc
set_option linter.unusedVariables false
namespace Go.Proofs.Ytmmckoemkpfgbaa
open Go.BigFrame
open Go.RowKit Go.Arr
theorem slInts : SlTy Try.prog 34 2 (.int .i64 0) 1 8 := ⟨Try.underlying34, by kernel_rfl, rfl, by omega⟩
/-- a row of numbers of the call's own -/
def Row (W : World) (base : Nat) (v : Value) (n : Nat) (f : Nat → Int) : Prop := W.ownsRow base 2 1 v n (irow n .i64 f)
/-- the numbers behind a slice's address -/
def Reads (W : World) (a : Option Addr) (n : Nat) (f : Nat → Int) : Prop := ∀ j, j < n → ∃ g cur, a = some ⟨g, 0, none⟩ ∧ obj W g = some (.cells cur 2) ∧ cur[j]? = some (.int .i64 (f j))
section
variable {W W' : World} {base : Nat} {v : Value} {n : Nat} {f f' : Nat → Int}
theorem Row.shape (h : Row W base v n f) : (v = .slice none 0 0 ∧ n = 0) ∨ ∃ g cap cur, v = .slice (some ⟨g, 0, none⟩) n cap ∧ base ≤ g ∧ g < W.heap.size ∧ obj W g = some (.cells cur 2) ∧ n ≤ cap ∧ cap ≤ maxLen ∧ cur.size = cap ∧ ∀ j, j < n → cur[j]? = some (.int .i64 (f j)) := by
  obtain ⟨hl, h | ⟨g, cap, cur, h1, h2, h3, h4, h5, h6, h7⟩⟩ := h
  · exact .inl h
  · refine .inr ⟨g, cap, cur, h1, h2, obj_lt h3, h3, h4, h5, by omega, fun j hj => ?_⟩
    have h8 := congrArg (fun l => l[j]?) h7
    simp only [Nat.mul_one] at h8
    rw [List.getElem?_take, if_pos hj, Array.getElem?_toList, get_irow j hj] at h8
    exact h8
theorem Row.of {g cap : Nat} {cur : Array Value} (h : obj W g = some (.cells cur 2)) (hb : base ≤ g) (hn : n ≤ cap) (hc : cap ≤ maxLen) (hs : cur.size = cap) (hf : ∀ j, j < n → cur[j]? = some (.int .i64 (f j))) : Row W base (.slice (some ⟨g, 0, none⟩) n cap) n f := by
  refine ⟨by simp, .inr ⟨g, cap, cur, rfl, hb, h, hn, hc, by omega, ?_⟩⟩
  apply List.ext_getElem?
  intro j
  simp only [Nat.mul_one]
  rw [List.getElem?_take]
  by_cases hj : j < n
  · rw [if_pos hj, Array.getElem?_toList, get_irow j hj]; exact hf j hj
  · rw [if_neg hj, List.getElem?_eq_none (by simp; omega)]
theorem Row.nil : Row W base (.slice none 0 0) 0 f := ⟨by simp, .inl ⟨rfl, rfl⟩⟩
theorem Row.reads (h : Row W base v n f) : ∃ a cap, v = .slice a n cap ∧ Reads W a n f := by
  rcases h.shape with ⟨rfl, rfl⟩ | ⟨g, cap, cur, rfl, _, _, ho, _, _, _, hc⟩
  · exact ⟨none, 0, rfl, fun j hj => absurd hj (by omega)⟩
  · exact ⟨_, cap, rfl, fun j hj => ⟨g, cur, rfl, ho, hc j hj⟩⟩
theorem Row.reads' {a : Option Addr} {c : Nat} (h : Row W base (.slice a n c) n f) : Reads W a n f := by
  obtain ⟨a', c', h1, h2⟩ := h.reads
  simp only [Value.slice.injEq] at h1
  rw [h1.1]
  exact h2
theorem Row.new (h : Row W base v n f) (hn : New W W') : Row W' base v n f := own_new h hn
theorem Row.lower {b : Nat} (h : Row W base v n f) (hb : b ≤ base) : Row W b v n f := own_lower h hb
theorem Row.same (h : Row W base v n f) (hs : ∀ b, v.ownBlock = some b → obj W' b = obj W b) : Row W' base v n f := by
  rcases h.shape with ⟨rfl, rfl⟩ | ⟨g, cap, cur, rfl, hb, _, ho, h4, h5, h6, hc⟩
  · exact Row.nil
  · exact Row.of ((hs g rfl).trans ho) hb h4 h5 h6 hc
theorem Row.block (h : Row W base v n f) : ∀ b, v.ownBlock = some b → base ≤ b ∧ b < W.heap.size := by
  rcases h.shape with ⟨rfl, rfl⟩ | ⟨g, cap, cur, rfl, hb, hl, _⟩
  · intro b hb; simp [Value.ownBlock] at hb
  · intro b hb2; simp [Value.ownBlock] at hb2; omega
theorem Row.congr (h : Row W base v n f) (hf : ∀ j, j < n → f j = f' j) : Row W base v n f' := by
  unfold Row at *
  rw [← irow_congr hf]
  exact h
end
end Go.Proofs.Ytmmckoemkpfgbaa
