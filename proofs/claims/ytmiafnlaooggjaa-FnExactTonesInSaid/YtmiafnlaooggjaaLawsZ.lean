/- The law on the tones of an image, walked; no condition. -/
import Derived.Test.YtmiafnlaooggjaaTinS
import Derived.Test.YtmiafnlaooggjaaTinI
import Derived.Test.YtmiafnlaooggjaaPMark
import Derived.Test.YtmiafnlaooggjaaStock
import Derived.Test.YtmiafnlaooggjaaPal
set_option linter.unusedVariables false
namespace Go.Proofs.Ytmiafnlaooggjaa
open Go.BigFrame
open Go.RowKit Go.Arr
theorem tinN_le (a b : Int) (fm : Nat → Int) : tinN a b fm ≤ 15 := by
  unfold tinN
  split
  · rename_i h
    unfold tinC at h
    split at h
    · omega
    · split at h
      · omega
      · omega
  · omega
set_option maxHeartbeats 4000000 in
set_option maxRecDepth 100000 in
theorem TonesIn_law (a b : Int) (fm : Nat → Int) (ha : -128 ≤ a ∧ a ≤ 127) (hb : -128 ≤ b ∧ b ≤ 127) (hfm : ∀ i, 0 ≤ fm i ∧ fm i ≤ 255) (w : World) :
    Calls Try.prog 8 #[.agg (pic 432 a b fm)] w fun e w' => e = .returned (.bool true) ∧ New w w' := by
  have hN := tinN_le a b fm
  generalize hSN : tinN a b fm = N at hN
  generalize hSF : tinF a b fm = F
  generalize hC : tinC a b fm = C
  have hq0 : ∀ k : Int, (k != k) = false := by simp
  go_enter Try.func8, Try.ntmps8
  go_wp2_with (fail)
  generalize hw_1 : (w.alloc (Obj.cells (pic 432 a b fm) 34)) = v_1
  have b_1 : obj v_1 (w.heap.size) = some (.cells (pic 432 a b fm) 34) := by subst hw_1; go_simp
  have hn_1 : New w v_1 := by subst hw_1; exact (New.refl _).alloc _
  clear hw_1
  refine (toImage_any a b fm _).mono ?_
  rintro e_2 v_2 ⟨rfl, hn_2⟩
  have b_2 := (hn_2.objs _ (obj_lt b_1)).trans b_1
  clear b_1
  have N_2 := hn_1.trans hn_2
  go_wp2_with (fail)
  refine (tin_spec a b fm ha hb hfm _).mono ?_
  rintro e_3 v_3 ⟨va1, rfl, R1, hn_3⟩
  have b_3 := (hn_3.objs _ (obj_lt b_2)).trans b_2
  clear b_2
  have N_3 := N_2.trans hn_3
  rw [hSN, hSF] at R1
  rw [hC]
  have hR1b := R1.block
  obtain ⟨x1, y1, rfl⟩ := R1.form
  go_wp2_with (fail)
  have hl3 := obj_lt b_3
  refine (toImage_any a b fm _).mono ?_
  rintro e_4 v_4 ⟨rfl, hn_4⟩
  have b_4 := (hn_4.objs _ (obj_lt b_3)).trans b_3
  clear b_3
  have R1_4 := R1.new hn_4
  clear R1
  have N_4 := N_3.trans hn_4
  have hz6 := hn_4.le
  go_wp2_with (fail)
  refine (tin_impl a b fm ha hb hfm _).mono ?_
  rintro e_5 v_5 ⟨va2, rfl, R2, hn_5⟩
  have b_5 := (hn_5.objs _ (obj_lt b_4)).trans b_4
  clear b_4
  have R1_5 := R1_4.new hn_5
  clear R1_4
  have N_5 := N_4.trans hn_5
  rw [hSN, hSF] at R2
  rw [hC]
  have hR2b := R2.block
  obtain ⟨x2, y2, rfl⟩ := R2.form
  have hR12 : ∀ q r, (Value.slice x1 N y1).ownBlock = some q → (Value.slice x2 N y2).ownBlock = some r → q < r := fun q r h1 h2 => by have := hR1b q h1; have := hR2b r h2; omega
  have hR2w : ∀ b, (Value.slice x2 N y2).ownBlock = some b → w.heap.size < b := fun b hb => by have := hR2b b hb; omega
  go_wp2_with (fail)
  refine (eqPalette_refl x2 x1 N y2 y1 _ (by omega) _ R2.sl R1_5.sl).mono ?_
  rintro e_6 v_6 ⟨rfl, hn_6⟩
  have b_6 := (hn_6.objs _ (obj_lt b_5)).trans b_5
  clear b_5
  have R1_6 := R1_5.new hn_6
  clear R1_5
  have R2_6 := R2.new hn_6
  clear R2
  have N_6 := N_5.trans hn_6
  go_wp2_with (fail)
  refine (mark_prow _ _ _ _ 1 (by omega) (by omega) _ R2_6).mono ?_
  rintro en vn ⟨rfl, R2n, hot, hzn, hNm⟩
  have Nn : New w vn := hNm w N_6 (fun b hb => by have := hR2w b hb; omega)
  have R1n : PRow vn _ _ N F := R1_6.same fun b hb => hot b fun e => by have := hR12 b b hb e; omega
  have bn : obj vn w.heap.size = _ := (hot _ fun e => by have := hR2w _ e; omega).trans b_6
  clear hot hNm R1_6 R2_6 b_6
  go_wp2_with (fail)
  refine (held_prow _ _ N 1 (by omega) (by omega) _ R2n).mono ?_
  rintro e_7 v_7 ⟨rfl, hn_7⟩
  have R1_7 := R1n.new hn_7
  clear R1n
  have R2_7 := R2n.new hn_7
  clear R2n
  have b_7 := (hn_7.objs _ (obj_lt bn)).trans bn
  clear bn
  have N_7 := Nn.trans hn_7
  have m2 : ¬ (1 + 3 * (N : Int) < 0) := by omega
  go_wp2_with (fail)
  refine (toImage_any a b fm _).mono ?_
  rintro e_8 v_8 ⟨rfl, hn_8⟩
  have R1_8 := R1_7.new hn_8
  clear R1_7
  have R2_8 := R2_7.new hn_8
  clear R2_7
  have b_8 := (hn_8.objs _ (obj_lt b_7)).trans b_7
  clear b_7
  have N_8 := N_7.trans hn_8
  go_wp2_with (fail)
  refine (tin_impl a b fm ha hb hfm _).mono ?_
  rintro e_9 v_9 ⟨va3, rfl, R3, hn_9⟩
  have R1_9 := R1_8.new hn_9
  clear R1_8
  have R2_9 := R2_8.new hn_9
  clear R2_8
  have b_9 := (hn_9.objs _ (obj_lt b_8)).trans b_8
  clear b_8
  have N_9 := N_8.trans hn_9
  rw [hSN, hSF] at R3
  rw [hC]
  obtain ⟨x3, y3, rfl⟩ := R3.form
  go_wp2_with (fail)
  refine (eqPalette_refl x3 x1 N y3 y1 _ (by omega) _ R3.sl R1_9.sl).mono ?_
  rintro e_10 v_10 ⟨rfl, hn_10⟩
  have R1_10 := R1_9.new hn_10
  clear R1_9
  have R2_10 := R2_9.new hn_10
  clear R2_9
  have b_10 := (hn_10.objs _ (obj_lt b_9)).trans b_9
  clear b_9
  have R3_10 := R3.new hn_10
  clear R3
  have N_10 := N_9.trans hn_10
  go_wp2_with (fail)
  refine (held_prow _ _ N 1 (by omega) (by omega) _ R2_10).mono ?_
  rintro e_11 v_11 ⟨rfl, hn_11⟩
  have R1_11 := R1_10.new hn_11
  clear R1_10
  have R2_11 := R2_10.new hn_11
  clear R2_10
  have b_11 := (hn_11.objs _ (obj_lt b_10)).trans b_10
  clear b_10
  have R3_11 := R3_10.new hn_11
  clear R3_10
  have N_11 := N_10.trans hn_11
  go_wp2_with (fail)
  go_ret
  exact ⟨rfl, N_11⟩
end Go.Proofs.Ytmiafnlaooggjaa
