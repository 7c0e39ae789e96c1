/- A palette of the call's own is marked, and found marked; no condition. -/
import Derived.Test.YtnaecghpahbojaaDoorMov
set_option linter.unusedVariables false
namespace Go.Proofs.YtnaecghpahbojaaDoor
open Go.BigFrame
open Go.RowKit Go.Arr
set_option maxHeartbeats 2000000 in
set_option maxRecDepth 100000 in
theorem mark_prow (v : Value) (base n : Nat) (f : Nat → Int) (s : Int) (hs : 0 ≤ s ∧ s ≤ 10) (hn : n ≤ 15) (W : World) (h : PRow W base v n f) :
    Calls Tryd.prog 11 #[v, .int .i64 s] W fun e w' => e = .returned (.int .i64 (s + 3 * n)) ∧ (PRow w' base v n fun j => s + j) ∧ (∀ b, v.ownBlock ≠ some b → obj w' b = obj W b) ∧ w'.heap.size = W.heap.size ∧ ∀ a0, New a0 W → (∀ b, v.ownBlock = some b → a0.heap.size ≤ b) → New a0 w' := by
  rcases h.shape with ⟨rfl, rfl⟩ | ⟨g, cap, cur, rfl, hb, hgl, ho, hnc, hcm, hcs, hcf⟩
  · go_enter Tryd.func11, Tryd.ntmps11
    go_wp2_with (fail)
    go_loopw [1, 5] (fun x i wr => i = .int .i64 0 ∧ x = .int .i64 s ∧ wr = W) (fun _ i _ => 0)
    case atStart => exact ⟨rfl, rfl, rfl⟩
    case round =>
      obtain ⟨rfl, rfl, rfl⟩ := hrel
      go_wp2_with (fail)
      go_ret
      exact ⟨by simp, PRow.nil, fun _ _ => rfl, rfl, fun a0 h0 _ => h0⟩
  · clear h
    have hcf := hide hcf
    go_enter Tryd.func11, Tryd.ntmps11
    go_wp2_with (fail)
    go_loopw [1, 5] (fun x i wr => ∃ (k : Nat) (cu : Array Value), k ≤ n ∧ i = .int .i64 k ∧ x = .int .i64 (s + 3 * k) ∧ Hid (obj wr g = some (.cells cu 45)) ∧ cu.size = cap * 3 ∧ Hid (∀ j, j < k * 3 → cu[j]? = some (.int .u8 (s + j))) ∧ Hid (∀ b, b ≠ g → obj wr b = obj W b) ∧ wr.heap.size = W.heap.size ∧ Hid (∀ a0, New a0 W → a0.heap.size ≤ g → New a0 wr)) (fun _ i _ => n - (intOf i).toNat)
    case atStart => exact ⟨0, cur, by omega, rfl, by simp, ho, hcs, fun j hj => absurd hj (by omega), fun _ _ => rfl, rfl, fun _ h _ => h⟩
    case round =>
      obtain ⟨k, cu, hk, rfl, rfl, hq1, hsz, hcu, hot, hws, hnw⟩ := hrel
      by_cases hlt : k < n
      · go_wp2_with (fail)
        go_loopw [1, 6] (fun x i wq => ∃ (q : Nat) (cu : Array Value), q ≤ 3 ∧ i = .int .i64 q ∧ x = .int .i64 (s + 3 * k + q) ∧ Hid (obj wq g = some (.cells cu 45)) ∧ cu.size = cap * 3 ∧ Hid (∀ j, j < k * 3 + q → cu[j]? = some (.int .u8 (s + j))) ∧ Hid (∀ b, b ≠ g → obj wq b = obj W b) ∧ wq.heap.size = W.heap.size ∧ Hid (∀ a0, New a0 W → a0.heap.size ≤ g → New a0 wq)) (fun _ i _ => 3 - (intOf i).toNat)
        case atStart => exact ⟨0, cu, by omega, rfl, by simp, hq1, hsz, by rw [Nat.add_zero]; exact hcu, hot, hws, hnw⟩
        case round =>
          clear hq1 hsz hcu hot hws hnw
          obtain ⟨q, cu, hq, rfl, rfl, hq1, hsz, hcu, hot, hws, hnw⟩ := hrel
          by_cases hq3 : q < 3
          · have ho1 := hq1.out
            have l1 : k * 3 + q < cu.size := by omega
            have l2 : g < wr.heap.size := by omega
            have e1 : cu[k * 3 + q]? = some cu[k * 3 + q] := Array.getElem?_eq_getElem l1
            have hval : Hid (s + 3 * (k : Int) + (q : Int) = s + ((k * 3 + q : Nat) : Int)) := by show _ = _; omega
            clear ho
            go_wp2_with (fail)
            go_roundw
            case rel =>
              refine ⟨q + 1, cu.setIfInBounds (k * 3 + q) (.int .u8 (s + 3 * k + q)), by omega, by go_num, by go_num, ?_, by simp [hsz], ?_, ?_, ?_, ?_⟩
              · show _ = _
                rw [obj_setCell_same, ho1]
                simp only [Option.map_some, reCell_cells]
              · intro j hj
                rw [Array.getElem?_setIfInBounds]
                by_cases e : k * 3 + q = j
                · subst e; rw [if_pos rfl, if_pos l1, hval.out]
                · rw [if_neg e, hcu.out j (by omega)]
              · intro b hb
                rw [obj_setCell_other _ _ _ _ _ hb, hot.out b hb]
              · rw [World.size_setCell, hws]
              · intro a0 h0 hg
                exact (hnw.out a0 h0 hg).setCell hg _
            case measure => simp [intOf]; omega
          · obtain rfl : q = 3 := by omega
            go_wp2_with (fail)
            go_roundw
            case rel => exact ⟨k + 1, cu, by omega, by go_num, by go_num, hq1, hsz, fun j hj => hcu.out j (by omega), hot, hws, hnw⟩
            case measure => simp [intOf]; omega
      · obtain rfl : k = n := by omega
        go_wp2_with (fail)
        go_ret
        refine ⟨rfl, PRow.of hq1.out hb hnc hcm hsz hcu.out, fun b hb2 => hot.out b fun e => hb2 (by rw [e]; rfl), hws, fun a0 h0 h1 => hnw.out a0 h0 (h1 g rfl)⟩
set_option maxHeartbeats 2000000 in
set_option maxRecDepth 100000 in
theorem held_prow (v : Value) (base n : Nat) (s : Int) (hs : 0 ≤ s ∧ s ≤ 10) (hn : n ≤ 15) (W : World) (h : PRow W base v n fun j => s + j) :
    Calls Tryd.prog 12 #[v, .int .i64 s] W fun e w' => e = .returned (.int .i64 (s + 3 * n)) ∧ New W w' := by
  obtain ⟨a, cap, rfl⟩ := h.form
  go_enter Tryd.func12, Tryd.ntmps12
  go_wp2_with (fail)
  go_loopw [1, 5] (fun x i wr => ∃ k : Nat, k ≤ n ∧ i = .int .i64 k ∧ x = .int .i64 (s + 3 * k) ∧ New W wr) (fun _ i _ => n - (intOf i).toNat)
  case atStart => exact ⟨0, by omega, rfl, by simp, New.refl W⟩
  case round =>
    obtain ⟨k, hk, rfl, rfl, hnw⟩ := hrel
    by_cases hlt : k < n
    · obtain ⟨g, cp, cur, he, hbb, ho, _, hsz, hel⟩ := h.at (by omega)
      simp only [Value.slice.injEq, true_and] at he
      obtain ⟨rfl, rfl⟩ := he
      have hel := hide hel
      have p1 := (hnw.objs _ (obj_lt ho)).trans ho
      clear ho h
      go_wp2_with (fail)
      go_loopw [1, 6] (fun x i wq => ∃ q : Nat, q ≤ 3 ∧ i = .int .i64 q ∧ x = .int .i64 (s + 3 * k + q) ∧ New W wq ∧ Hid (obj wq g = some (.cells cur 45))) (fun _ i _ => 3 - (intOf i).toNat)
      case atStart => exact ⟨0, by omega, rfl, by simp, hnw, p1⟩
      case round =>
        clear hnw p1
        obtain ⟨q, hq, rfl, rfl, hnq, hp⟩ := hrel
        by_cases hq3 : q < 3
        · have p2 := hp.out
          have l2 := obj_lt p2
          obtain ⟨l1, e1⟩ := Array.getElem?_eq_some_iff.1 (hel.out (k * 3 + q) (by omega))
          rw [show s + ((k * 3 + q : Nat) : Int) = s + 3 * (k : Int) + (q : Int) by omega] at e1
          have hne : (s + 3 * (k : Int) + (q : Int) != s + 3 * (k : Int) + (q : Int)) = false := by simp
          go_wp2_with (fail)
          go_roundw
          case rel => exact ⟨q + 1, by omega, by go_num, by go_num, hnq, hp⟩
          case measure => simp [intOf]; omega
        · obtain rfl : q = 3 := by omega
          go_wp2_with (fail)
          go_roundw
          case rel => exact ⟨k + 1, by omega, by go_num, by go_num, hnq⟩
          case measure => simp [intOf]; omega
    · obtain rfl : k = n := by omega
      go_wp2_with (fail)
      go_ret
      exact ⟨rfl, hnw⟩
end Go.Proofs.YtnaecghpahbojaaDoor
