/- Slices of numbers that a call has made: held against each other, marked, read again; no condition. -/
import Derived.Test.YtpofhbdnjecfjaaTy
import Derived.Test.YtpofhbdnjecfjaaSlc
set_option linter.unusedVariables false
namespace Go.Proofs.Ytpofhbdnjecfjaa
open Go.BigFrame
open Go.RowKit Go.Arr
theorem slInts : SlTy Try.prog 45 2 (.int .i64 0) 1 8 := ⟨Try.underlying45, by kernel_rfl, rfl, by omega⟩
/-- a row of numbers of the call's own -/
def Row (W : World) (base : Nat) (v : Value) (n : Nat) (f : Nat → Int) : Prop := W.ownsRow base 2 1 v n (irow n .i64 f)
/-- the numbers behind a slice's address -/
def Reads (W : World) (a : Option Addr) (n : Nat) (f : Nat → Int) : Prop := ∀ j, j < n → ∃ g cur, a = some ⟨g, 0, none⟩ ∧ obj W g = some (.cells cur 2) ∧ cur[j]? = some (.int .i64 (f j))
section
variable {W W' : World} {base : Nat} {v : Value} {n : Nat} {f f' : Nat → Int}
theorem Row.shape (h : Row W base v n f) : (v = .slice none 0 0 ∧ n = 0) ∨ ∃ g cap cur, v = .slice (some ⟨g, 0, none⟩) n cap ∧ base ≤ g ∧ g < W.heap.size ∧ obj W g = some (.cells cur 2) ∧ n ≤ cap ∧ cap ≤ maxLen ∧ cur.size = cap ∧ ∀ j, j < n → cur[j]? = some (.int .i64 (f j)) := by
  obtain ⟨hl, h | ⟨g, cap, cur, h1, h2, h3, h4, h5, h6, h7⟩⟩ := h
  · exact .inl h
  · refine .inr ⟨g, cap, cur, h1, h2, obj_lt h3, h3, h4, h5, by omega, fun j hj => ?_⟩
    have h8 := congrArg (fun l => l[j]?) h7
    simp only [Nat.mul_one] at h8
    rw [List.getElem?_take, if_pos hj, Array.getElem?_toList, get_irow j hj] at h8
    exact h8
theorem Row.of {g cap : Nat} {cur : Array Value} (h : obj W g = some (.cells cur 2)) (hb : base ≤ g) (hn : n ≤ cap) (hc : cap ≤ maxLen) (hs : cur.size = cap) (hf : ∀ j, j < n → cur[j]? = some (.int .i64 (f j))) : Row W base (.slice (some ⟨g, 0, none⟩) n cap) n f := by
  refine ⟨by simp, .inr ⟨g, cap, cur, rfl, hb, h, hn, hc, by omega, ?_⟩⟩
  apply List.ext_getElem?
  intro j
  simp only [Nat.mul_one]
  rw [List.getElem?_take]
  by_cases hj : j < n
  · rw [if_pos hj, Array.getElem?_toList, get_irow j hj]; exact hf j hj
  · rw [if_neg hj, List.getElem?_eq_none (by simp; omega)]
theorem Row.nil : Row W base (.slice none 0 0) 0 f := ⟨by simp, .inl ⟨rfl, rfl⟩⟩
theorem Row.reads (h : Row W base v n f) : ∃ a cap, v = .slice a n cap ∧ Reads W a n f := by
  rcases h.shape with ⟨rfl, rfl⟩ | ⟨g, cap, cur, rfl, _, _, ho, _, _, _, hc⟩
  · exact ⟨none, 0, rfl, fun j hj => absurd hj (by omega)⟩
  · exact ⟨_, cap, rfl, fun j hj => ⟨g, cur, rfl, ho, hc j hj⟩⟩
theorem Row.reads' {a : Option Addr} {c : Nat} (h : Row W base (.slice a n c) n f) : Reads W a n f := by
  obtain ⟨a', c', h1, h2⟩ := h.reads
  simp only [Value.slice.injEq] at h1
  rw [h1.1]
  exact h2
theorem Row.new (h : Row W base v n f) (hn : New W W') : Row W' base v n f := own_new h hn
theorem Row.lower {b : Nat} (h : Row W base v n f) (hb : b ≤ base) : Row W b v n f := own_lower h hb
theorem Row.same (h : Row W base v n f) (hs : ∀ b, v.ownBlock = some b → obj W' b = obj W b) : Row W' base v n f := by
  rcases h.shape with ⟨rfl, rfl⟩ | ⟨g, cap, cur, rfl, hb, _, ho, h4, h5, h6, hc⟩
  · exact Row.nil
  · exact Row.of ((hs g rfl).trans ho) hb h4 h5 h6 hc
theorem Row.block (h : Row W base v n f) : ∀ b, v.ownBlock = some b → base ≤ b ∧ b < W.heap.size := by
  rcases h.shape with ⟨rfl, rfl⟩ | ⟨g, cap, cur, rfl, hb, hl, _⟩
  · intro b hb; simp [Value.ownBlock] at hb
  · intro b hb2; simp [Value.ownBlock] at hb2; omega
theorem Row.congr (h : Row W base v n f) (hf : ∀ j, j < n → f j = f' j) : Row W base v n f' := by
  unfold Row at *
  rw [← irow_congr hf]
  exact h
end
set_option maxHeartbeats 1000000 in
set_option maxRecDepth 100000 in
theorem eqRows_refl (a1 a2 : Option Addr) (n c1 c2 : Nat) (f : Nat → Int) (hn : n ≤ 1000000) (W : World) (h1 : Reads W a1 n f) (h2 : Reads W a2 n f) :
    Calls Try.prog 14 #[.slice a1 n c1, .slice a2 n c2] W fun e w' => e = .returned (.bool true) ∧ New W w' := by
  go_enter Try.func14, Try.ntmps14
  go_wp2_with (fail)
  go_loopw [5] (fun i wr => ∃ k : Nat, k ≤ n ∧ i = .int .i64 k ∧ New W wr) (fun i _ => n - (intOf i).toNat)
  case atStart => exact ⟨0, by omega, rfl, New.refl W⟩
  case round =>
    obtain ⟨k, hk, rfl, hnw⟩ := hrel
    by_cases hlt : k < n
    · obtain ⟨g1, cur1, rfl, o1, e1⟩ := h1 k hlt
      obtain ⟨g2, cur2, rfl, o2, e2⟩ := h2 k hlt
      have p1 := (hnw.objs _ (obj_lt o1)).trans o1
      have p2 := (hnw.objs _ (obj_lt o2)).trans o2
      obtain ⟨l1, e1⟩ := Array.getElem?_eq_some_iff.1 e1
      obtain ⟨l2, e2⟩ := Array.getElem?_eq_some_iff.1 e2
      clear o1 o2
      have hne : (f k != f k) = false := by simp
      go_wp2_with (fail)
      go_quiet (fail)
      go_wp2_with (fail)
      go_roundw
      case rel => exact ⟨k + 1, by omega, by go_num, hnw.drewN _⟩
      case measure => simp [intOf]; omega
    · obtain rfl : k = n := by omega
      go_wp2_with (fail)
      go_ret
      exact ⟨rfl, hnw⟩
set_option maxHeartbeats 1000000 in
set_option maxRecDepth 100000 in
theorem held_row_ (a1 : Option Addr) (n c1 : Nat) (s : Int) (hs : 0 ≤ s ∧ s ≤ 1000000) (hn : n ≤ 1000000) (W : World) (h1 : Reads W a1 n fun j => s + j) :
    Calls Try.prog 17 #[.slice a1 n c1, .int .i64 s] W fun e w' => e = .returned (.int .i64 (s + n)) ∧ New W w' := by
  go_enter Try.func17, Try.ntmps17
  go_wp2_with (fail)
  go_loopw [1, 5] (fun x i wr => ∃ k : Nat, k ≤ n ∧ i = .int .i64 k ∧ x = .int .i64 (s + k) ∧ New W wr) (fun _ i _ => n - (intOf i).toNat)
  case atStart => exact ⟨0, by omega, rfl, by simp, New.refl W⟩
  case round =>
    obtain ⟨k, hk, rfl, rfl, hnw⟩ := hrel
    by_cases hlt : k < n
    · obtain ⟨g1, cur1, rfl, o1, e1⟩ := h1 k hlt
      have p1 := (hnw.objs _ (obj_lt o1)).trans o1
      obtain ⟨l1, e1⟩ := Array.getElem?_eq_some_iff.1 e1
      clear o1
      go_wp2_with (fail)
      go_roundw
      case rel => exact ⟨k + 1, by omega, by go_num, by go_num, hnw⟩
      case measure => simp [intOf]; omega
    · obtain rfl : k = n := by omega
      go_wp2_with (fail)
      go_ret
      exact ⟨rfl, hnw⟩
set_option maxHeartbeats 1000000 in
set_option maxRecDepth 100000 in
theorem mark_row (v : Value) (base n : Nat) (f : Nat → Int) (s : Int) (hs : 0 ≤ s ∧ s ≤ 1000000) (hn : n ≤ 1000000) (W : World) (h : Row W base v n f) :
    Calls Try.prog 16 #[v, .int .i64 s] W fun e w' => e = .returned (.int .i64 (s + n)) ∧ (Row w' base v n fun j => s + j) ∧ (∀ b, v.ownBlock ≠ some b → obj w' b = obj W b) ∧ w'.heap.size = W.heap.size ∧ ∀ a0, New a0 W → (∀ b, v.ownBlock = some b → a0.heap.size ≤ b) → New a0 w' := by
  rcases h.shape with ⟨rfl, rfl⟩ | ⟨g, cap, cur, rfl, hb, hgl, ho, hnc, hcm, hcs, hcf⟩
  · go_enter Try.func16, Try.ntmps16
    go_wp2_with (fail)
    go_loopw [1, 5] (fun x i wr => i = .int .i64 0 ∧ x = .int .i64 s ∧ wr = W) (fun _ i _ => 0)
    case atStart => exact ⟨rfl, rfl, rfl⟩
    case round =>
      obtain ⟨rfl, rfl, rfl⟩ := hrel
      go_wp2_with (fail)
      go_ret
      exact ⟨by simp, Row.nil, fun _ _ => rfl, rfl, fun a0 h0 _ => h0⟩
  · clear h
    have hcf := hide hcf
    go_enter Try.func16, Try.ntmps16
    go_wp2_with (fail)
    go_loopw [1, 5] (fun x i wr => ∃ (k : Nat) (cu : Array Value), k ≤ n ∧ i = .int .i64 k ∧ x = .int .i64 (s + k) ∧ Hid (obj wr g = some (.cells cu 2)) ∧ cu.size = cap ∧ Hid (∀ j, j < k → cu[j]? = some (.int .i64 (s + j))) ∧ Hid (∀ b, b ≠ g → obj wr b = obj W b) ∧ wr.heap.size = W.heap.size ∧ Hid (∀ a0, New a0 W → a0.heap.size ≤ g → New a0 wr)) (fun _ i _ => n - (intOf i).toNat)
    case atStart => exact ⟨0, cur, by omega, rfl, by simp, ho, hcs, fun j hj => absurd hj (by omega), fun _ _ => rfl, rfl, fun _ h _ => h⟩
    case round =>
      obtain ⟨k, cu, hk, rfl, rfl, hq1, hsz, hcu, hot, hws, hnw⟩ := hrel
      have hq := hq1.out
      by_cases hlt : k < n
      · have l1 : k < cu.size := by omega
        have l2 : g < wr.heap.size := by omega
        have e1 : cu[k]? = some cu[k] := Array.getElem?_eq_getElem l1
        go_wp2_with (fail)
        go_roundw
        case rel =>
          refine ⟨k + 1, cu.setIfInBounds k (.int .i64 (s + k)), by omega, by go_num, by go_num, ?_, by simp [hsz], ?_, ?_, ?_, ?_⟩
          · show _ = _
            rw [obj_setCell_same, hq]
            simp only [Option.map_some, reCell_cells]
          · intro j hj
            rw [Array.getElem?_setIfInBounds]
            by_cases e : k = j
            · subst e; rw [if_pos rfl, if_pos l1]
            · rw [if_neg e, hcu.out j (by omega)]
          · intro b hb
            rw [obj_setCell_other _ _ _ _ _ hb, hot.out b hb]
          · rw [World.size_setCell, hws]
          · intro a0 h0 hg
            exact (hnw.out a0 h0 hg).setCell hg _
        case measure => simp [intOf]; omega
      · obtain rfl : k = n := by omega
        go_wp2_with (fail)
        go_ret
        refine ⟨rfl, Row.of hq hb hnc hcm hsz hcu.out, fun b hb2 => hot.out b fun e => hb2 (by rw [e]; rfl), hws, fun a0 h0 h1 => hnw.out a0 h0 (h1 g rfl)⟩
end Go.Proofs.Ytpofhbdnjecfjaa
