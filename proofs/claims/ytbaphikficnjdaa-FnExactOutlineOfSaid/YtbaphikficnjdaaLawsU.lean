/- The law on the outline of a field, walked; no condition. -/
import Derived.Test.YtbaphikficnjdaaOutE
import Derived.Test.YtbaphikficnjdaaPic
set_option linter.unusedVariables false
namespace Go.Proofs.Ytbaphikficnjdaa
open Go.BigFrame
open Go.RowKit Go.Arr
set_option maxHeartbeats 4000000 in
set_option maxRecDepth 100000 in
theorem OutlineOf_law (a b : Int) (f : Nat → Int) (ha : -128 ≤ a ∧ a ≤ 127) (hb : -128 ≤ b ∧ b ≤ 127) (hf : ∀ i, 0 ≤ f i ∧ f i ≤ 255) (x : Int) (hx : -9223372036854775808 ≤ x ∧ x ≤ 9223372036854775807) (y : Int) (hy : -9223372036854775808 ≤ y ∧ y ≤ 9223372036854775807) (w : World) :
    Calls Try.prog 7 #[.agg (pic 144 a b f), .int .i64 x, .int .i64 y] w fun e w' => e = .returned (.bool true) ∧ New w w' := by
  generalize hV : outV a b f x y = V
  generalize hC : fC a b f x y = C
  have hq0 : ∀ k : Int, (k != k) = false := by simp
  go_enter Try.func7, Try.ntmps7
  go_wp2_with (fail)
  generalize hw_1 : (w.alloc (Obj.cells (pic 144 a b f) 25)) = v_1
  have b_1 : obj v_1 (w.heap.size) = some (.cells (pic 144 a b f) 25) := by subst hw_1; go_simp
  have hn_1 : New w v_1 := by subst hw_1; exact (New.refl _).alloc _
  clear hw_1
  refine (toPicture_any a b f _).mono ?_
  rintro e_2 v_2 ⟨rfl, hn_2⟩
  have b_2 := (hn_2.objs _ (obj_lt b_1)).trans b_1
  clear b_1
  have N_2 := hn_1.trans hn_2
  go_wp2_with (fail)
  refine (outline_spec a b f x y ha hb hf _).mono ?_
  rintro e_3 v_3 ⟨rfl, hn_3⟩
  have b_3 := (hn_3.objs _ (obj_lt b_2)).trans b_2
  clear b_2
  have N_3 := N_2.trans hn_3
  rw [hV, hC]
  go_wp2_with (fail)
  refine (toPicture_any a b f _).mono ?_
  rintro e_4 v_4 ⟨rfl, hn_4⟩
  have b_4 := (hn_4.objs _ (obj_lt b_3)).trans b_3
  clear b_3
  have N_4 := N_3.trans hn_4
  go_wp2_with (fail)
  refine (outline_impl a b f x y ha hb hf _).mono ?_
  rintro e_5 v_5 ⟨rfl, hn_5⟩
  have b_5 := (hn_5.objs _ (obj_lt b_4)).trans b_4
  clear b_4
  have N_5 := N_4.trans hn_5
  rw [hV, hC]
  go_wp2_with (fail)
  go_ret
  exact ⟨rfl, N_5⟩
end Go.Proofs.Ytbaphikficnjdaa
