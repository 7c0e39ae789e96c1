/- The law on a field that is filled, walked; no condition. -/
import Derived.Test.YtbaphikficnjdaaFilE
import Derived.Test.YtbaphikficnjdaaPic
import Derived.Test.YtbaphikficnjdaaEqP
set_option linter.unusedVariables false
namespace Go.Proofs.Ytbaphikficnjdaa
open Go.BigFrame
open Go.RowKit Go.Arr
set_option maxHeartbeats 4000000 in
set_option maxRecDepth 100000 in
theorem FillField_law (a b : Int) (f : Nat → Int) (ha : -128 ≤ a ∧ a ≤ 127) (hb : -128 ≤ b ∧ b ≤ 127) (hf : ∀ i, 0 ≤ f i ∧ f i ≤ 255) (x : Int) (hx : -9223372036854775808 ≤ x ∧ x ≤ 9223372036854775807) (y : Int) (hy : -9223372036854775808 ≤ y ∧ y ≤ 9223372036854775807) (c : Int) (hc : -9223372036854775808 ≤ c ∧ c ≤ 9223372036854775807) (w : World) :
    Calls Try.prog 8 #[.agg (pic 144 a b f), .int .i64 x, .int .i64 y, .int .i64 c] w fun e w' => e = .returned (.bool true) ∧ New w w' := by
  obtain ⟨pc, pa, pb, pf, hA⟩ : ∃ (pc pa pb : Int) (pf : Nat → Int), fillA a b f x y c = ⟨pc, pa, pb, pf⟩ := ⟨_, _, _, _, rfl⟩
  have hq0 : ∀ k : Int, (k != k) = false := by simp
  go_enter Try.func8, Try.ntmps8
  go_wp2_with (fail)
  generalize hw_1 : (w.alloc (Obj.cells (pic 144 a b f) 25)) = v_1
  have b_1 : obj v_1 (w.heap.size) = some (.cells (pic 144 a b f) 25) := by subst hw_1; go_simp
  have hn_1 : New w v_1 := by subst hw_1; exact (New.refl _).alloc _
  clear hw_1
  refine (toPicture_any a b f _).mono ?_
  rintro e_2 v_2 ⟨rfl, hn_2⟩
  have b_2 := (hn_2.objs _ (obj_lt b_1)).trans b_1
  clear b_1
  have N_2 := hn_1.trans hn_2
  go_wp2_with (fail)
  refine (fill_spec a b f x y c ha hb hf _).mono ?_
  rintro e_3 v_3 ⟨rfl, hn_3⟩
  have b_3 := (hn_3.objs _ (obj_lt b_2)).trans b_2
  clear b_2
  have N_3 := N_2.trans hn_3
  rw [hA]
  dsimp only
  have rb := obj_lt b_3
  go_wp2_with (fail)
  generalize hw_4 : (v_3.alloc (Obj.cells (pic 144 pa pb pf) 27)) = v_4
  have t_4 : obj v_4 (v_3.heap.size) = some (.cells (pic 144 pa pb pf) 27) := by subst hw_4; go_simp
  have hn_4 : New v_3 v_4 := by subst hw_4; exact (New.refl _).alloc _
  clear hw_4
  have b_4 := (hn_4.objs _ (obj_lt b_3)).trans b_3
  clear b_3
  have N_4 := N_3.trans hn_4
  clear rb
  refine (toPicture_any a b f _).mono ?_
  rintro e_5 v_5 ⟨rfl, hn_5⟩
  have b_5 := (hn_5.objs _ (obj_lt b_4)).trans b_4
  clear b_4
  have t_5 := (hn_5.objs _ (obj_lt t_4)).trans t_4
  clear t_4
  have N_5 := N_4.trans hn_5
  clear b_5
  go_wp2_with (fail)
  refine (fill_impl a b f x y c ha hb hf _).mono ?_
  rintro e_6 v_6 ⟨rfl, hn_6⟩
  have t_6 := (hn_6.objs _ (obj_lt t_5)).trans t_5
  clear t_5
  have N_6 := N_5.trans hn_6
  rw [hA]
  dsimp only
  have rt := obj_lt t_6
  go_wp2_with (fail)
  generalize hw_7 : (v_6.alloc (Obj.cells (pic 144 pa pb pf) 27)) = v_7
  have u_7 : obj v_7 (v_6.heap.size) = some (.cells (pic 144 pa pb pf) 27) := by subst hw_7; go_simp
  have hn_7 : New v_6 v_7 := by subst hw_7; exact (New.refl _).alloc _
  clear hw_7
  have t_7 := (hn_7.objs _ (obj_lt t_6)).trans t_6
  clear t_6
  have N_7 := N_6.trans hn_7
  clear t_7
  clear u_7
  refine (eqPicture_refl _ _ _ _).mono ?_
  rintro e_8 v_8 ⟨rfl, hn_8⟩
  have N_8 := N_7.trans hn_8
  go_wp2_with (fail)
  go_ret
  exact ⟨rfl, N_8⟩
end Go.Proofs.Ytbaphikficnjdaa
