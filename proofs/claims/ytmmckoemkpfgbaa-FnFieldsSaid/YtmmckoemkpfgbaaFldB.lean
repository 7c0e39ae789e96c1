/- The neighbours of a cell, by the program; no condition. -/
import Derived.Test.YtmmckoemkpfgbaaFldW
set_option linter.unusedVariables false
namespace Go.Proofs.Ytmmckoemkpfgbaa
open Go.BigFrame
open Go.RowKit Go.Arr
theorem cellXY_t {x y a b : Int} (h : 0 ≤ x ∧ x < a ∧ 0 ≤ y ∧ y < b) : isCellB x y a b = true := by unfold isCellB; rw [Bool.and_eq_true, inB_t, inB_t]; omega
theorem cellXY_f {x y a b : Int} (h : ¬ (0 ≤ x ∧ x < a ∧ 0 ≤ y ∧ y < b)) : isCellB x y a b = false := by
  cases h2 : isCellB x y a b
  · rfl
  · unfold isCellB at h2
    rw [Bool.and_eq_true, inB_t, inB_t] at h2
    omega
theorem ixD0 (w : World) : (Instr.index 77 (.agg #[.int .i64 0, .int .i64 (-1), .int .i64 (-1), .int .i64 0, .int .i64 1, .int .i64 0, .int .i64 0, .int .i64 1]) (.int .i64 0)).run Try.prog w = .ok (.agg #[.int .i64 0, .int .i64 (-1)]) w := by kernel_rfl
theorem ixD1 (w : World) : (Instr.index 77 (.agg #[.int .i64 0, .int .i64 (-1), .int .i64 (-1), .int .i64 0, .int .i64 1, .int .i64 0, .int .i64 0, .int .i64 1]) (.int .i64 1)).run Try.prog w = .ok (.agg #[.int .i64 (-1), .int .i64 0]) w := by kernel_rfl
theorem ixD2 (w : World) : (Instr.index 77 (.agg #[.int .i64 0, .int .i64 (-1), .int .i64 (-1), .int .i64 0, .int .i64 1, .int .i64 0, .int .i64 0, .int .i64 1]) (.int .i64 2)).run Try.prog w = .ok (.agg #[.int .i64 1, .int .i64 0]) w := by kernel_rfl
theorem ixD3 (w : World) : (Instr.index 77 (.agg #[.int .i64 0, .int .i64 (-1), .int .i64 (-1), .int .i64 0, .int .i64 1, .int .i64 0, .int .i64 0, .int .i64 1]) (.int .i64 3)).run Try.prog w = .ok (.agg #[.int .i64 0, .int .i64 1]) w := by kernel_rfl
attribute [local go_sem high] ixD0 ixD1 ixD2 ixD3
set_option maxHeartbeats 4000000 in
set_option maxRecDepth 100000 in
theorem beside_any (a b : Int) (ha : -128 ≤ a ∧ a ≤ 12) (hb : -128 ≤ b ∧ b ≤ 12) (c : Nat) (hc : cellN a b c = true) (w : World) :
    Calls Try.prog 34 #[.int .i64 c, .int .i8 a, .int .i8 b] w fun e w' => ∃ v, e = .returned v ∧ Row w' w.heap.size v (nbL a b c).length (QF (nbL a b c)) ∧ New w w' := by
  have hce := cellN_e.1 hc
  have d1 : 0 ≤ (c : Int) % 12 ∧ (c : Int) % 12 ≤ 11 := by omega
  have d2 : 0 ≤ (c : Int) / 12 ∧ (c : Int) / 12 ≤ 11 := by omega
  have hcl : c < 144 := hce.1
  have hce' := hide hce
  clear hc hce
  go_enter Try.func34, Try.ntmps34
  go_wp2_with (fail)
  go_loopw [18, 7] (fun i v wr => ∃ k : Nat, k ≤ 4 ∧ i = .int .i64 k ∧ Row wr w.heap.size v (nbU a b c k).length (QF (nbU a b c k)) ∧ New w wr ∧ w.heap.size ≤ wr.heap.size) (fun i _ _ => 4 - (intOf i).toNat)
  case atStart => exact ⟨0, by omega, rfl, row_empty2 (obj_alloc_at _ _ _ rfl) (Nat.le_refl _), (New.refl w).alloc _, by simp⟩
  case round =>
    obtain ⟨k, hk, rfl, hrow, hn, hlw⟩ := hrel
    have hlen := nbU_len a b c k
    by_cases hlt : k < 4
    · have hkk : k = 0 ∨ k = 1 ∨ k = 2 ∨ k = 3 := by omega
      rcases hkk with rfl | rfl | rfl | rfl
      · by_cases h0 : 12 ≤ c
        · have hP : Hid (nbU a b c 1 = nbU a b c 0 ++ [c - 12]) := nbU_s (if_pos h0)
          have hcc : ∀ x y : Int, x = ((c : Int) % 12 + 0) → y = ((c : Int) / 12 + -1) → isCellB x y a b = true := fun x y e1 e2 => cellXY_t (by have := hce'.out; omega)
          have hcc' := hide hcc
          have h0' := hide h0
          clear h0 hcc
          go_wp2_with (fail)
          go_quiet (fail)
          go_wp2_with (first | (go_at_call 48; refine (isCell_any _ _ _ _ (by omega) (by omega) _).mono ?_; rintro e w' ⟨rfl, rfl⟩; rw [hcc'.out _ _ (by omega) (by omega)]) | (at_builtin; refine wpList_app slInts rfl _ _ rfl w.heap.size _ _ _ rfl (hrow.new (by repeat (first | exact New.refl _ | refine New.drew ?_ | refine New.drewN ?_ _ | refine New.alloc ?_ _))) ⟨wr.heap.size + 1, 0, none⟩ 1 1 [.int .i64 ((c : Int) % 12 + 12 * ((c : Int) / 12 + -1))] rfl rfl (news_new _ _ _ _ _ (by simp)) (by simp [Value.oneCell']) (by omega) (by unfold maxLen; omega) (by omega) (by simp; omega) ?_))
          intro g1 cap1 w3 hown1 hg1 hat1 hlt1
          have hbk := hrow.block
          have hn9 : New w w3 := grown_new (by repeat (first | assumption | refine New.drew ?_ | refine New.drewN ?_ _ | refine New.alloc ?_ _)) hg1 fun b hb => (hbk b hb).1
          have h0 := h0'.out
          rw [show ((c : Int) % 12 + 12 * ((c : Int) / 12 + -1)) = ((c - 12 : Nat) : Int) by omega] at hown1
          have hr1 := qrow_app hown1
          have hz := hn9.le
          clear hown1 hg1 hat1 hrow hbk h0
          go_wp2_with (fail)
          go_roundw
          case rel => exact ⟨1, by omega, by go_num, by rw [hP.out]; simpa using hr1, hn9, hz⟩
          case measure => simp [intOf]
        · have hP : Hid (nbU a b c 1 = nbU a b c 0) := nbU_n (if_neg h0)
          have hcc : ∀ x y : Int, x = ((c : Int) % 12 + 0) → y = ((c : Int) / 12 + -1) → isCellB x y a b = false := fun x y e1 e2 => cellXY_f (by have := hce'.out; omega)
          have hcc' := hide hcc
          clear h0 hcc
          go_wp2_with (fail)
          go_quiet (fail)
          go_wp2_with (go_at_call 48; refine (isCell_any _ _ _ _ (by omega) (by omega) _).mono ?_; rintro e w' ⟨rfl, rfl⟩; rw [hcc'.out _ _ (by omega) (by omega)])
          go_roundw
          case rel => exact ⟨1, by omega, by go_num, by rw [hP.out]; exact hrow.new (by repeat (first | exact New.refl _ | refine New.drew ?_ | refine New.drewN ?_ _ | refine New.alloc ?_ _)), (by repeat (first | assumption | refine New.drew ?_ | refine New.drewN ?_ _ | refine New.alloc ?_ _)), by simp; omega⟩
          case measure => simp [intOf]
      · by_cases h0 : 0 < c % 12
        · have hP : Hid (nbU a b c 2 = nbU a b c 1 ++ [c - 1]) := nbU_s (if_pos h0)
          have hcc : ∀ x y : Int, x = ((c : Int) % 12 + -1) → y = ((c : Int) / 12 + 0) → isCellB x y a b = true := fun x y e1 e2 => cellXY_t (by have := hce'.out; omega)
          have hcc' := hide hcc
          have h0' := hide h0
          clear h0 hcc
          go_wp2_with (fail)
          go_quiet (fail)
          go_wp2_with (first | (go_at_call 48; refine (isCell_any _ _ _ _ (by omega) (by omega) _).mono ?_; rintro e w' ⟨rfl, rfl⟩; rw [hcc'.out _ _ (by omega) (by omega)]) | (at_builtin; refine wpList_app slInts rfl _ _ rfl w.heap.size _ _ _ rfl (hrow.new (by repeat (first | exact New.refl _ | refine New.drew ?_ | refine New.drewN ?_ _ | refine New.alloc ?_ _))) ⟨wr.heap.size + 1, 0, none⟩ 1 1 [.int .i64 (((c : Int) % 12 + -1) + 12 * ((c : Int) / 12))] rfl rfl (news_new _ _ _ _ _ (by simp)) (by simp [Value.oneCell']) (by omega) (by unfold maxLen; omega) (by omega) (by simp; omega) ?_))
          intro g1 cap1 w3 hown1 hg1 hat1 hlt1
          have hbk := hrow.block
          have hn9 : New w w3 := grown_new (by repeat (first | assumption | refine New.drew ?_ | refine New.drewN ?_ _ | refine New.alloc ?_ _)) hg1 fun b hb => (hbk b hb).1
          have h0 := h0'.out
          rw [show (((c : Int) % 12 + -1) + 12 * ((c : Int) / 12)) = ((c - 1 : Nat) : Int) by omega] at hown1
          have hr1 := qrow_app hown1
          have hz := hn9.le
          clear hown1 hg1 hat1 hrow hbk h0
          go_wp2_with (fail)
          go_roundw
          case rel => exact ⟨2, by omega, by go_num, by rw [hP.out]; simpa using hr1, hn9, hz⟩
          case measure => simp [intOf]
        · have hP : Hid (nbU a b c 2 = nbU a b c 1) := nbU_n (if_neg h0)
          have hcc : ∀ x y : Int, x = ((c : Int) % 12 + -1) → y = ((c : Int) / 12 + 0) → isCellB x y a b = false := fun x y e1 e2 => cellXY_f (by have := hce'.out; omega)
          have hcc' := hide hcc
          clear h0 hcc
          go_wp2_with (fail)
          go_quiet (fail)
          go_wp2_with (go_at_call 48; refine (isCell_any _ _ _ _ (by omega) (by omega) _).mono ?_; rintro e w' ⟨rfl, rfl⟩; rw [hcc'.out _ _ (by omega) (by omega)])
          go_roundw
          case rel => exact ⟨2, by omega, by go_num, by rw [hP.out]; exact hrow.new (by repeat (first | exact New.refl _ | refine New.drew ?_ | refine New.drewN ?_ _ | refine New.alloc ?_ _)), (by repeat (first | assumption | refine New.drew ?_ | refine New.drewN ?_ _ | refine New.alloc ?_ _)), by simp; omega⟩
          case measure => simp [intOf]
      · by_cases h0 : ((c % 12 : Nat) : Int) + 1 < a
        · have hP : Hid (nbU a b c 3 = nbU a b c 2 ++ [c + 1]) := nbU_s (if_pos h0)
          have hcc : ∀ x y : Int, x = ((c : Int) % 12 + 1) → y = ((c : Int) / 12 + 0) → isCellB x y a b = true := fun x y e1 e2 => cellXY_t (by have := hce'.out; omega)
          have hcc' := hide hcc
          have h0' := hide h0
          clear h0 hcc
          go_wp2_with (fail)
          go_quiet (fail)
          go_wp2_with (first | (go_at_call 48; refine (isCell_any _ _ _ _ (by omega) (by omega) _).mono ?_; rintro e w' ⟨rfl, rfl⟩; rw [hcc'.out _ _ (by omega) (by omega)]) | (at_builtin; refine wpList_app slInts rfl _ _ rfl w.heap.size _ _ _ rfl (hrow.new (by repeat (first | exact New.refl _ | refine New.drew ?_ | refine New.drewN ?_ _ | refine New.alloc ?_ _))) ⟨wr.heap.size + 1, 0, none⟩ 1 1 [.int .i64 (((c : Int) % 12 + 1) + 12 * ((c : Int) / 12))] rfl rfl (news_new _ _ _ _ _ (by simp)) (by simp [Value.oneCell']) (by omega) (by unfold maxLen; omega) (by omega) (by simp; omega) ?_))
          intro g1 cap1 w3 hown1 hg1 hat1 hlt1
          have hbk := hrow.block
          have hn9 : New w w3 := grown_new (by repeat (first | assumption | refine New.drew ?_ | refine New.drewN ?_ _ | refine New.alloc ?_ _)) hg1 fun b hb => (hbk b hb).1
          have h0 := h0'.out
          rw [show (((c : Int) % 12 + 1) + 12 * ((c : Int) / 12)) = ((c + 1 : Nat) : Int) by omega] at hown1
          have hr1 := qrow_app hown1
          have hz := hn9.le
          clear hown1 hg1 hat1 hrow hbk h0
          go_wp2_with (fail)
          go_roundw
          case rel => exact ⟨3, by omega, by go_num, by rw [hP.out]; simpa using hr1, hn9, hz⟩
          case measure => simp [intOf]
        · have hP : Hid (nbU a b c 3 = nbU a b c 2) := nbU_n (if_neg h0)
          have hcc : ∀ x y : Int, x = ((c : Int) % 12 + 1) → y = ((c : Int) / 12 + 0) → isCellB x y a b = false := fun x y e1 e2 => cellXY_f (by have := hce'.out; omega)
          have hcc' := hide hcc
          clear h0 hcc
          go_wp2_with (fail)
          go_quiet (fail)
          go_wp2_with (go_at_call 48; refine (isCell_any _ _ _ _ (by omega) (by omega) _).mono ?_; rintro e w' ⟨rfl, rfl⟩; rw [hcc'.out _ _ (by omega) (by omega)])
          go_roundw
          case rel => exact ⟨3, by omega, by go_num, by rw [hP.out]; exact hrow.new (by repeat (first | exact New.refl _ | refine New.drew ?_ | refine New.drewN ?_ _ | refine New.alloc ?_ _)), (by repeat (first | assumption | refine New.drew ?_ | refine New.drewN ?_ _ | refine New.alloc ?_ _)), by simp; omega⟩
          case measure => simp [intOf]
      · by_cases h0 : ((c / 12 : Nat) : Int) + 1 < b
        · have hP : Hid (nbU a b c 4 = nbU a b c 3 ++ [c + 12]) := nbU_s (if_pos h0)
          have hcc : ∀ x y : Int, x = ((c : Int) % 12 + 0) → y = ((c : Int) / 12 + 1) → isCellB x y a b = true := fun x y e1 e2 => cellXY_t (by have := hce'.out; omega)
          have hcc' := hide hcc
          have h0' := hide h0
          clear h0 hcc
          go_wp2_with (fail)
          go_quiet (fail)
          go_wp2_with (first | (go_at_call 48; refine (isCell_any _ _ _ _ (by omega) (by omega) _).mono ?_; rintro e w' ⟨rfl, rfl⟩; rw [hcc'.out _ _ (by omega) (by omega)]) | (at_builtin; refine wpList_app slInts rfl _ _ rfl w.heap.size _ _ _ rfl (hrow.new (by repeat (first | exact New.refl _ | refine New.drew ?_ | refine New.drewN ?_ _ | refine New.alloc ?_ _))) ⟨wr.heap.size + 1, 0, none⟩ 1 1 [.int .i64 ((c : Int) % 12 + 12 * ((c : Int) / 12 + 1))] rfl rfl (news_new _ _ _ _ _ (by simp)) (by simp [Value.oneCell']) (by omega) (by unfold maxLen; omega) (by omega) (by simp; omega) ?_))
          intro g1 cap1 w3 hown1 hg1 hat1 hlt1
          have hbk := hrow.block
          have hn9 : New w w3 := grown_new (by repeat (first | assumption | refine New.drew ?_ | refine New.drewN ?_ _ | refine New.alloc ?_ _)) hg1 fun b hb => (hbk b hb).1
          have h0 := h0'.out
          rw [show ((c : Int) % 12 + 12 * ((c : Int) / 12 + 1)) = ((c + 12 : Nat) : Int) by omega] at hown1
          have hr1 := qrow_app hown1
          have hz := hn9.le
          clear hown1 hg1 hat1 hrow hbk h0
          go_wp2_with (fail)
          go_roundw
          case rel => exact ⟨4, by omega, by go_num, by rw [hP.out]; simpa using hr1, hn9, hz⟩
          case measure => simp [intOf]
        · have hP : Hid (nbU a b c 4 = nbU a b c 3) := nbU_n (if_neg h0)
          have hcc : ∀ x y : Int, x = ((c : Int) % 12 + 0) → y = ((c : Int) / 12 + 1) → isCellB x y a b = false := fun x y e1 e2 => cellXY_f (by have := hce'.out; omega)
          have hcc' := hide hcc
          clear h0 hcc
          go_wp2_with (fail)
          go_quiet (fail)
          go_wp2_with (go_at_call 48; refine (isCell_any _ _ _ _ (by omega) (by omega) _).mono ?_; rintro e w' ⟨rfl, rfl⟩; rw [hcc'.out _ _ (by omega) (by omega)])
          go_roundw
          case rel => exact ⟨4, by omega, by go_num, by rw [hP.out]; exact hrow.new (by repeat (first | exact New.refl _ | refine New.drew ?_ | refine New.drewN ?_ _ | refine New.alloc ?_ _)), (by repeat (first | assumption | refine New.drew ?_ | refine New.drewN ?_ _ | refine New.alloc ?_ _)), by simp; omega⟩
          case measure => simp [intOf]
    · obtain rfl : k = 4 := by omega
      have h4 := hide (nbU_4 a b c)
      go_wp2_with (fail)
      go_ret
      exact ⟨_, rfl, by rw [← h4.out]; exact hrow, hn⟩
end Go.Proofs.Ytmmckoemkpfgbaa
