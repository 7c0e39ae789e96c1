/- Rows behind a row: made, read, held against themselves, marked; no condition. -/
import Derived.Test.YtmmckoemkpfgbaaSlI
import Derived.Test.YtmmckoemkpfgbaaSel
set_option linter.unusedVariables false
namespace Go.Proofs.Ytmmckoemkpfgbaa
open Go.BigFrame
open Go.RowKit Go.Arr
theorem slRows : SlTy Try.prog 29 34 (.slice none 0 0) 1 24 := ⟨Try.underlying29, by kernel_rfl, rfl, by omega⟩
/-- n rows, each in memory of its own, behind a row in memory of its own -/
def RR (W : World) (base : Nat) (v : Value) (n : Nat) (vs : Nat → Value) (m : Nat → Nat) (F : Nat → Nat → Int) : Prop :=
  W.ownsRow base 34 1 v n ((List.range n).map vs) ∧ (∀ i, i < n → Row W base (vs i) (m i) (F i)) ∧
  (∀ i j b, i < n → j < n → (vs i).ownBlock = some b → (vs j).ownBlock = some b → i = j) ∧ (∀ i b, i < n → (vs i).ownBlock = some b → v.ownBlock ≠ some b)
section
variable {W W' : World} {base n : Nat} {v : Value} {vs : Nat → Value} {m : Nat → Nat} {F F' : Nat → Nat → Int}
theorem RR.new (h : RR W base v n vs m F) (hn : New W W') : RR W' base v n vs m F :=
  ⟨own_new h.1 hn, fun i hi => (h.2.1 i hi).new hn, h.2.2.1, h.2.2.2⟩
theorem RR.lower {b : Nat} (h : RR W base v n vs m F) (hb : b ≤ base) : RR W b v n vs m F :=
  ⟨own_lower h.1 hb, fun i hi => (h.2.1 i hi).lower hb, h.2.2.1, h.2.2.2⟩
theorem RR.row (h : RR W base v n vs m F) {i : Nat} (hi : i < n) : Row W base (vs i) (m i) (F i) := h.2.1 i hi
theorem RR.shape (h : RR W base v n vs m F) : (v = .slice none 0 0 ∧ n = 0) ∨ ∃ g cap cur, v = .slice (some ⟨g, 0, none⟩) n cap ∧ base ≤ g ∧ g < W.heap.size ∧ obj W g = some (.cells cur 34) ∧ n ≤ cap ∧ cap ≤ maxLen ∧ cur.size = cap ∧ ∀ j, j < n → cur[j]? = some (vs j) := by
  obtain ⟨hl, h | ⟨g, cap, cur, h1, h2, h3, h4, h5, h6, h7⟩⟩ := h.1
  · exact .inl h
  · have hg : g < W.heap.size := obj_lt h3
    refine .inr ⟨g, cap, cur, h1, h2, hg, h3, h4, h5, by rw [h6, Nat.mul_one], fun j hj => ?_⟩
    have e : (cur.toList.take (n * 1))[j]? = ((List.range n).map vs)[j]? := by rw [h7]
    rw [Nat.mul_one, List.getElem?_take, if_pos hj, Array.getElem?_toList] at e
    rw [e]
    simp [hj]
theorem RR.form (h : RR W base v n vs m F) : ∃ a cap, v = .slice a n cap := by
  rcases h.shape with ⟨h1, h2⟩ | ⟨g, cap, cur, h1, _⟩
  · exact ⟨_, _, by rw [h2]; exact h1⟩
  · exact ⟨_, _, h1⟩
theorem RR.block (h : RR W base v n vs m F) : ∀ b, v.ownBlock = some b → base ≤ b ∧ b < W.heap.size := by
  intro b hb
  rcases h.shape with ⟨rfl, _⟩ | ⟨g, cap, cur, rfl, h1, h2, _⟩
  · cases hb
  · simp [Value.ownBlock] at hb; subst hb; exact ⟨h1, h2⟩
theorem RR.congr (h : RR W base v n vs m F) (hf : ∀ i, i < n → ∀ j, j < m i → F i j = F' i j) : RR W base v n vs m F' :=
  ⟨h.1, fun i hi => (h.2.1 i hi).congr (hf i hi), h.2.2.1, h.2.2.2⟩
theorem RR.nil : RR W base (.slice none 0 0) 0 vs m F := ⟨⟨by simp, .inl ⟨rfl, rfl⟩⟩, fun i hi => absurd hi (by omega), fun i j b hi => absurd hi (by omega), fun i b hi => absurd hi (by omega)⟩
theorem RR.empty {g : Nat} (h : obj W g = some (.cells #[] 34)) (hb : base ≤ g) : RR W base (.slice (some ⟨g, 0, none⟩) 0 0) 0 vs m F :=
  ⟨⟨by simp, .inr ⟨g, 0, #[], rfl, hb, h, by omega, by omega, rfl, by simp⟩⟩, fun i hi => absurd hi (by omega), fun i j b hi => absurd hi (by omega), fun i b hi => absurd hi (by omega)⟩
theorem RR.same (h : RR W base v n vs m F) (h0 : ∀ b, v.ownBlock = some b → obj W' b = obj W b) (h1 : ∀ i b, i < n → (vs i).ownBlock = some b → obj W' b = obj W b) : RR W' base v n vs m F := by
  refine ⟨?_, fun i hi => (h.2.1 i hi).same (h1 i · hi), h.2.2.1, h.2.2.2⟩
  obtain ⟨hl, h' | ⟨g, cap, cur, e1, e2, e3, e4⟩⟩ := h.1
  · exact ⟨hl, .inl h'⟩
  · refine ⟨hl, .inr ⟨g, cap, cur, e1, e2, ?_, e4⟩⟩
    have := h0 g (by rw [e1]; rfl)
    exact this.trans e3
/-- a row laid behind the others -/
theorem RR.app {r : Value} {k : Nat} {f : Nat → Int} {g cap : Nat} (h : RR W base v n vs m F) (hr : Row W base r k f) (hd : ∀ i b, i < n → (vs i).ownBlock = some b → r.ownBlock ≠ some b) (hd2 : ∀ b, r.ownBlock = some b → v.ownBlock ≠ some b)
    (ho : W'.ownsRow base 34 1 (.slice (some ⟨g, 0, none⟩) (n + 1) cap) (n + 1) ((List.range n).map vs ++ [r])) (hg : W.grownBy W' v.ownBlock) (hat : v.ownBlock = some g ∨ W.heap.size ≤ g) :
    RR W' base (.slice (some ⟨g, 0, none⟩) (n + 1) cap) (n + 1) (fun i => if i = n then r else vs i) (fun i => if i = n then k else m i) (fun i => if i = n then f else F i) := by
  have hold : ∀ i b, i < n → (vs i).ownBlock = some b → obj W' b = obj W b := fun i b hi hb => grown_obj hg b ((h.2.1 i hi).block b hb).2 (fun e => h.2.2.2 i b hi hb e.symm)
  have hrow : Row W' base r k f := hr.same fun b hb => grown_obj hg b (hr.block b hb).2 (fun e => hd2 b hb e.symm)
  have hfar : ∀ b, b < W.heap.size → v.ownBlock ≠ some b → some g ≠ some b := by
    intro b hb hv e
    cases e
    rcases hat with h' | h'
    · exact hv h'
    · omega
  refine ⟨?_, ?_, ?_, ?_⟩
  · have e : (List.range (n + 1)).map (fun i => if i = n then r else vs i) = (List.range n).map vs ++ [r] := by
      rw [List.range_succ, List.map_append, List.map_singleton, if_pos rfl]
      congr 1
      refine List.map_congr_left fun i hi => ?_
      rw [List.mem_range] at hi
      exact if_neg (by omega)
    rw [e]
    exact ho
  · intro i hi
    by_cases e : i = n
    · simp only [if_pos e]; exact hrow
    · simp only [if_neg e]; exact (h.2.1 i (by omega)).same (hold i · (by omega))
  · intro i j b hi hj hb1 hb2
    by_cases ei : i = n
    · by_cases ej : j = n
      · omega
      · simp only [if_pos ei] at hb1
        simp only [if_neg ej] at hb2
        exact absurd hb1 (hd j b (by omega) hb2)
    · by_cases ej : j = n
      · simp only [if_neg ei] at hb1
        simp only [if_pos ej] at hb2
        exact absurd hb2 (hd i b (by omega) hb1)
      · simp only [if_neg ei] at hb1
        simp only [if_neg ej] at hb2
        exact h.2.2.1 i j b (by omega) (by omega) hb1 hb2
  · intro i b hi hb
    show some g ≠ some b
    by_cases e : i = n
    · simp only [if_pos e] at hb; exact hfar b (hr.block b hb).2 (hd2 b hb)
    · simp only [if_neg e] at hb
      exact hfar b ((h.2.1 i (by omega)).block b hb).2 (h.2.2.2 i b (by omega) hb)
end
/-- a row's numbers can be read -/
def NewSl (W : World) (a : Option Addr) (n : Nat) (f : Nat → Int) : Prop := Reads W a n f
theorem NewSl.at {W W' : World} {a : Option Addr} {n : Nat} {f : Nat → Int} (h : NewSl W a n f) (hn : New W W') : Reads W' a n f := fun j hj => by
  obtain ⟨g, cur, h1, h2, h3⟩ := h j hj
  exact ⟨g, cur, h1, (hn.objs _ (obj_lt h2)).trans h2, h3⟩
/-- what has been counted ahead of row i -/
def sumM (m : Nat → Nat) : Nat → Nat
  | 0 => 0
  | i + 1 => sumM m i + m i
theorem sumM_le {m : Nat → Nat} {K : Nat} (h : ∀ i, m i ≤ K) (i : Nat) : sumM m i ≤ i * K := by
  induction i with
  | zero => simp [sumM]
  | succ i ih => have := h i; unfold sumM; rw [Nat.succ_mul]; omega
theorem RR.slot {W : World} {base n cap : Nat} {a : Option Addr} {vs : Nat → Value} {m : Nat → Nat} {F : Nat → Nat → Int} (h : RR W base (.slice a n cap) n vs m F) {i : Nat} (hi : i < n) : ∃ g cur, a = some ⟨g, 0, none⟩ ∧ obj W g = some (.cells cur 34) ∧ (∃ l : i < cur.size, cur[i] = vs i) := by
  rcases h.shape with ⟨_, h0⟩ | ⟨g, c, cur, h1, h2, h3, h4, h5, h6, h7, h8⟩
  · omega
  · simp only [Value.slice.injEq] at h1
    exact ⟨g, cur, h1.1, h4, Array.getElem?_eq_some_iff.1 (h8 i hi)⟩
end Go.Proofs.Ytmmckoemkpfgbaa
