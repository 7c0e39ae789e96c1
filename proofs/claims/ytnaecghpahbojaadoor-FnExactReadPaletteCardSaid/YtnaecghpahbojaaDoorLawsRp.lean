/- The law on a palette that is read from its text, walked; no condition. -/
import Derived.Test.YtnaecghpahbojaaDoorRdP
import Derived.Test.YtnaecghpahbojaaDoorRdQ
import Derived.Test.YtnaecghpahbojaaDoorPMark
import Derived.Test.YtnaecghpahbojaaDoorPal
set_option linter.unusedVariables false
namespace Go.Proofs.YtnaecghpahbojaaDoor
open Go.BigFrame
open Go.RowKit Go.Arr
set_option maxHeartbeats 4000000 in
set_option maxRecDepth 100000 in
theorem ReadPalette_law (s : ByteArray) (hm : s.size ≤ maxLen) (m : Int) (w : World) (hmx : w.cell? ⟨Tryd.laysM146_ren.g 1, 0, none⟩ = some (.int .i64 m)) :
    Calls Tryd.prog 4 #[.string s] w fun e w' => e = .returned (.bool true) ∧ New w w' := by
  have hm2 : s.size ≤ 9223372036854775807 := by unfold maxLen at hm; omega
  have hgl := World.block_lt_of_cell? _ _ hmx
  have hmn : Hid (∀ w', New w w' → w'.cell? ⟨Tryd.laysM146_ren.g 1, 0, none⟩ = some (.int .i64 m)) := fun w' h => by rw [h.cells _ _ hgl]; exact hmx
  clear hmx hgl
  by_cases hbig : 1048576 < s.size
  · go_enter Tryd.func4, Tryd.ntmps4
    go_wp2_with (fail)
    go_ret
    exact ⟨rfl, New.refl w⟩
  have hs : s.size ≤ 1048576 := by omega
  have hN := rpN_le s
  generalize hSN : rpN s = N at hN
  generalize hSF : wdF (wds s) = F
  generalize hC : rpC s = C
  have hq0 : ∀ k : Int, (k != k) = false := by simp
  go_enter Tryd.func4, Tryd.ntmps4
  go_wp2_with (fail)
  refine (readPal_spec s hs _).mono ?_
  rintro e_1 v_1 ⟨va1, rfl, R1, hn_1⟩
  rw [hSN, hSF] at R1
  rw [hC]
  have hR1b := R1.block
  obtain ⟨x1, y1, rfl⟩ := R1.form
  go_wp2_with (fail)
  refine (readPal_impl s hs m _ (hmn.out _ hn_1)).mono ?_
  rintro e_2 v_2 ⟨va2, rfl, R2, hn_2⟩
  have R1_2 := R1.new hn_2
  clear R1
  have N_2 := hn_1.trans hn_2
  rw [hSN, hSF] at R2
  rw [hC]
  have hR2b := R2.block
  obtain ⟨x2, y2, rfl⟩ := R2.form
  have hR2g : ∀ b, (Value.slice x2 N y2).ownBlock = some b → v_1.heap.size ≤ b := fun b hb => (hR2b b hb).1
  have hR1g : ∀ b, (Value.slice x1 N y1).ownBlock = some b → b < v_1.heap.size := fun b hb => (hR1b b hb).2
  have hwv : w.heap.size ≤ v_1.heap.size := hn_1.le
  go_wp2_with (fail)
  refine (eqPalette_refl x2 x1 N y2 y1 _ (by omega) _ R2.sl R1_2.sl).mono ?_
  rintro e_3 v_3 ⟨rfl, hn_3⟩
  have R1_3 := R1_2.new hn_3
  clear R1_2
  have R2_3 := R2.new hn_3
  clear R2
  have N_3 := N_2.trans hn_3
  go_wp2_with (fail)
  refine (mark_prow _ _ _ _ 1 (by omega) (by omega) _ R2_3).mono ?_
  rintro en vn ⟨rfl, R2n, hot, hzn, hNm⟩
  have Nn : New w vn := hNm w N_3 (fun b hb => by have := hR2g b hb; omega)
  have R1n : PRow vn _ _ N F := R1_3.same fun b hb => hot b fun e => by have h1 := hR1g b hb; have h2 := hR2g b e; omega
  clear hot hNm R1_3 R2_3
  go_wp2_with (fail)
  refine (held_prow _ _ N 1 (by omega) (by omega) _ R2n).mono ?_
  rintro e_4 v_4 ⟨rfl, hn_4⟩
  have R1_4 := R1n.new hn_4
  clear R1n
  have R2_4 := R2n.new hn_4
  clear R2n
  have N_4 := Nn.trans hn_4
  have m2 : ¬ (1 + 3 * (N : Int) < 0) := by omega
  go_wp2_with (fail)
  refine (readPal_impl s hs m _ (hmn.out _ N_4)).mono ?_
  rintro e_5 v_5 ⟨va3, rfl, R3, hn_5⟩
  have R1_5 := R1_4.new hn_5
  clear R1_4
  have R2_5 := R2_4.new hn_5
  clear R2_4
  have N_5 := N_4.trans hn_5
  rw [hSN, hSF] at R3
  rw [hC]
  obtain ⟨x3, y3, rfl⟩ := R3.form
  go_wp2_with (fail)
  refine (eqPalette_refl x3 x1 N y3 y1 _ (by omega) _ R3.sl R1_5.sl).mono ?_
  rintro e_6 v_6 ⟨rfl, hn_6⟩
  have R1_6 := R1_5.new hn_6
  clear R1_5
  have R2_6 := R2_5.new hn_6
  clear R2_5
  have R3_6 := R3.new hn_6
  clear R3
  have N_6 := N_5.trans hn_6
  go_wp2_with (fail)
  refine (held_prow _ _ N 1 (by omega) (by omega) _ R2_6).mono ?_
  rintro e_7 v_7 ⟨rfl, hn_7⟩
  have R1_7 := R1_6.new hn_7
  clear R1_6
  have R2_7 := R2_6.new hn_7
  clear R2_6
  have R3_7 := R3_6.new hn_7
  clear R3_6
  have N_7 := N_6.trans hn_7
  go_wp2_with (fail)
  go_ret
  exact ⟨rfl, N_7⟩
end Go.Proofs.YtnaecghpahbojaaDoor
