/- The law on a picture that is read from its text, walked; no condition. -/
import Derived.Test.YtnaecghpahbojaaDoorRpcS
import Derived.Test.YtnaecghpahbojaaDoorRpcJ
import Derived.Test.YtnaecghpahbojaaDoorEqP
set_option linter.unusedVariables false
namespace Go.Proofs.YtnaecghpahbojaaDoor
open Go.BigFrame
open Go.RowKit Go.Arr
set_option maxHeartbeats 1000000 in
set_option maxRecDepth 100000 in
theorem ReadPicture_law (s : ByteArray) (hm : s.size ≤ maxLen) (m : Int) (w : World) (hmx : w.cell? ⟨Tryd.laysM146_ren.g 1, 0, none⟩ = some (.int .i64 m)) :
    Calls Tryd.prog 3 #[.string s] w fun e w' => e = .returned (.bool true) ∧ New w w' := by
  have hm2 : s.size ≤ 9223372036854775807 := by unfold maxLen at hm; omega
  have hgl := World.block_lt_of_cell? _ _ hmx
  have hmn : Hid (∀ w', New w w' → w'.cell? ⟨Tryd.laysM146_ren.g 1, 0, none⟩ = some (.int .i64 m)) := fun w' h => by rw [h.cells _ _ hgl]; exact hmx
  clear hmx hgl
  by_cases hbig : 1048576 < s.size
  · go_enter Tryd.func3, Tryd.ntmps3
    go_wp2_with (fail)
    go_ret
    exact ⟨rfl, New.refl w⟩
  have hs : s.size ≤ 1048576 := by omega
  obtain ⟨pa, pb, pf, hA⟩ : ∃ (pa pb : Int) (pf : Nat → Int), rdA s = pic 144 pa pb pf := by
    cases h : rdO s
    · exact ⟨_, _, _, rdA_f h⟩
    · exact ⟨_, _, _, rdA_t h⟩
  generalize hC : rdC s = C
  have hq0 : ∀ k : Int, (k != k) = false := by simp
  go_enter Tryd.func3, Tryd.ntmps3
  go_wp2_with (fail)
  refine (readPic_spec s hs _).mono ?_
  rintro e1 w1 ⟨rfl, hn1⟩
  rw [hA, hC]
  go_wp2_with (fail)
  generalize hwa : w1.alloc (Obj.cells (pic 144 pa pb pf) 25) = wa
  have t2 : obj wa w1.heap.size = some (.cells (pic 144 pa pb pf) 25) := by subst hwa; go_simp
  have hN2 : New w wa := by subst hwa; exact hn1.alloc _
  clear hwa
  refine (readPic_impl s hs m _ (hmn.out _ hN2)).mono ?_
  rintro e3 w3 ⟨rfl, hn3⟩
  rw [hA, hC]
  have t3 := (hn3.objs _ (obj_lt t2)).trans t2
  have r3 := obj_lt t3
  have hN3 := hN2.trans hn3
  clear t2
  go_wp2_with (fail)
  generalize hwb : w3.alloc (Obj.cells (pic 144 pa pb pf) 25) = wb
  have hN4 : New w wb := by subst hwb; exact hN3.alloc _
  clear hwb t3
  refine (eqPicture_refl _ _ _ _).mono ?_
  rintro e4 w4 ⟨rfl, hn4⟩
  go_wp2_with (fail)
  go_ret
  exact ⟨rfl, hN4.trans hn4⟩
end Go.Proofs.YtnaecghpahbojaaDoor
