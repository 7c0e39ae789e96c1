/- The symmetries of a picture by the reference, and the law; no condition. -/
import Derived.Test.YtfopllkienogfaaSymS
import Derived.Test.YtfopllkienogfaaEqP
set_option linter.unusedVariables false
namespace Go.Proofs.Ytfopllkienogfaa
open Go.BigFrame
open Go.RowKit Go.Arr
def sumB (b0 b1 b2 b3 : Bool) : Int := (if b0 then 1 else 0) + (if b1 then 2 else 0) + (if b2 then 4 else 0) + (if b3 then 8 else 0)
theorem symU_4 (m : Nat → Bool) : symU m 4 = sumB (m 0) (m 1) (m 2) (m 3) := by
  have e : ∀ j, symU m (j + 1) = if m j = true then symU m j + kindN j else symU m j := fun j => rfl
  rw [e 3, e 2, e 1, e 0]
  unfold sumB
  cases m 0 <;> cases m 1 <;> cases m 2 <;> cases m 3 <;> rfl
set_option maxHeartbeats 4000000 in
set_option maxRecDepth 100000 in
theorem sym_spec (a b : Int) (f : Nat → Int) (ha : -128 ≤ a ∧ a ≤ 127) (hb : -128 ≤ b ∧ b ≤ 127) (hf : ∀ i, 0 ≤ f i ∧ f i ≤ 255) (w : World) :
    Calls Try.prog 6 #[.agg (pic 144 a b f)] w fun e w' => e = .returned (.tuple #[.int .i64 (symV a b f), .int .i64 (symC a b f)]) ∧ New w w' := by
  cases h1 : okPic a b f
  · have hV : Hid (symV a b f = 0) := if_neg (by rw [h1]; simp)
    have hC : Hid (symC a b f = 1) := if_neg (by rw [h1]; simp)
    go_enter Try.func6, Try.ntmps6
    go_wp2_with (fail)
    refine (l01Ok_any _ 28 a b f ha hb hf _ (by go_simp)).mono ?_
    rintro e w1 ⟨rfl, rfl⟩
    rw [h1]
    clear h1
    go_wp2_with (fail)
    go_ret2
    refine ⟨by rw [hV.out, hC.out]; rfl, ?_⟩
    repeat' (first | exact New.refl _ | refine New.alloc ?_ _ | refine New.drew ?_ | refine New.drewN ?_ _ | refine New.setRow ?_ (by omega) _ | refine New.setCell ?_ (by first | omega | (simp; done) | (simp; omega)) _)
  have gd := okPic_dims h1
  have hV : Hid (symV a b f = sumB (symM a b f 0) (symM a b f 1) (symM a b f 2) (symM a b f 3)) := (if_pos h1).trans (symU_4 _)
  have hC : Hid (symC a b f = 0) := if_pos h1
  go_enter Try.func6, Try.ntmps6
  go_wp2_with (fail)
  generalize hw0 : w.alloc (Obj.cells (pic 144 a b f) 28) = w0
  have c0 : obj w0 w.heap.size = some (.cells (pic 144 a b f) 28) := by subst hw0; go_simp
  have hn0 : New w w0 := by subst hw0; exact (New.refl w).alloc _
  clear hw0
  refine (l01Ok_any _ 28 a b f ha hb hf _ c0).mono ?_
  rintro e w1 ⟨rfl, rfl⟩
  rw [h1]
  clear h1
  go_wp2_with (fail)
  refine (l01Turn_any _ 28 a b f gd.1 gd.2 _ c0).mono ?_
  rintro e w1 ⟨rfl, hn1⟩
  have c1 := (hn1.objs _ (obj_lt c0)).trans c0
  clear c0
  have r1 := obj_lt c1
  go_wp2_with (fail)
  generalize hw2 : w1.alloc (Obj.cells (pic 144 b a (paint b a (turnH b f))) 28) = w2
  have c2 : obj w2 w.heap.size = some (.cells (pic 144 a b f) 28) := by subst hw2; exact (obj_alloc_past _ _ _ r1).trans c1
  have d2 : obj w2 w1.heap.size = some (.cells (pic 144 b a (paint b a (turnH b f))) 28) := by subst hw2; exact obj_alloc_at _ _ _ rfl
  have N2 : New w w2 := by subst hw2; exact (hn0.trans hn1).alloc _
  clear hw2 hn0 hn1 c1
  have r2 := obj_lt c2
  have s2 := obj_lt d2
  have hm0 : symM a b f 0 = eqPic 144 a b (paint a b (mirH a f)) a b f := rfl
  have hm1 : symM a b f 1 = eqPic 144 a b (paint a b (flipH b f)) a b f := rfl
  have hm2 : symM a b f 2 = eqPic 144 a b (paint a b (turnH a (paint b a (turnH b f)))) a b f := rfl
  have hm3 : symM a b f 3 = eqPic 144 b a (paint b a (turnH b f)) a b f := rfl
  rw [hm0, hm1, hm2, hm3] at hV
  clear hm0 hm1 hm2 hm3
  generalize hB0 : eqPic 144 a b (paint a b (mirH a f)) a b f = B0 at hV
  generalize hB1 : eqPic 144 a b (paint a b (flipH b f)) a b f = B1 at hV
  generalize hB2 : eqPic 144 a b (paint a b (turnH a (paint b a (turnH b f)))) a b f = B2 at hV
  generalize hB3 : eqPic 144 b a (paint b a (turnH b f)) a b f = B3 at hV
  cases B0 <;> cases B1 <;> cases B2 <;> cases B3
  all_goals
    go_wp2_with (fail)
    refine wp_region_new (by kernel_rfl) (by kernel_rfl) ?_
    repeat (go_big_quiet_step (first | fail | (go_at_call 33; with_reducible exact calls_new (l01Mirror_any _ 28 a b f gd.1 gd.2 _ (((NewW.is _).objs _ r2).trans c2)))))
    refine wpQuiet_nil ?_
    intro w1 hc1
    have hn1 := NewW.of hc1
    clear hc1
    have ho1 := hn1.objs
    have hz1 := hn1.le
    try simp at hz1
    have r3 := obj_lt ((hn1.objs _ r2).trans c2)
    have c3 := (hn1.objs _ r2).trans c2
    have d3 := (hn1.objs _ s2).trans d2
    have s3 := obj_lt d3
    clear c2 d2 ho1
    go_wp2_with (fail)
    go_wp2_with (fail)
    refine wp_region_new (by kernel_rfl) (by kernel_rfl) ?_
    repeat (go_big_quiet_step (first | fail | (go_at_call 34; with_reducible exact calls_new (l01Flip_any _ 28 a b f gd.1 gd.2 _ (((NewW.is _).objs _ r3).trans c3)))))
    refine wpQuiet_nil ?_
    intro w2 hc2
    have hn2 := NewW.of hc2
    clear hc2
    have ho2 := hn2.objs
    have hz2 := hn2.le
    try simp at hz2
    have c4 := (hn2.objs _ r3).trans c3
    have d4 := (hn2.objs _ s3).trans d3
    have r4 := obj_lt c4
    have s4 := obj_lt d4
    clear c3 d3 ho2
    go_wp2_with (fail)
    go_wp2_with (fail)
    refine wp_region_new (by kernel_rfl) (by kernel_rfl) ?_
    repeat (go_big_quiet_step (first | fail | (go_at_call 32; with_reducible exact calls_new (l01Turn_any _ 28 b a (paint b a (turnH b f)) gd.2 gd.1 _ (((NewW.is _).objs _ s4).trans d4)))))
    refine wpQuiet_nil ?_
    intro w3 hc3
    have hn3 := NewW.of hc3
    clear hc3
    have ho3 := hn3.objs
    have hz3 := hn3.le
    try simp at hz3
    have c5 := (hn3.objs _ r4).trans c4
    have d5 := (hn3.objs _ s4).trans d4
    have r5 := obj_lt c5
    have s5 := obj_lt d5
    clear c4 d4 ho3
    go_wp2_with (fail)
    go_ret2
    exact ⟨by rw [hV.out, hC.out]; rfl, ((N2.trans hn1).trans hn2).trans hn3⟩
set_option maxHeartbeats 1000000 in
set_option maxRecDepth 100000 in
theorem sym_law (a b : Int) (f : Nat → Int) (ha : -128 ≤ a ∧ a ≤ 127) (hb : -128 ≤ b ∧ b ≤ 127) (hf : ∀ i, 0 ≤ f i ∧ f i ≤ 255) (w : World) :
    Calls Try.prog 3 #[.agg (pic 144 a b f)] w fun e w' => e = .returned (.bool true) ∧ New w w' := by
  have h0 : ∀ k : Int, (k != k) = false := by simp
  generalize hV : symV a b f = V
  generalize hC : symC a b f = C
  go_enter Try.func3, Try.ntmps3
  go_wp2_with (fail)
  refine (toPicture_any a b f _).mono ?_
  rintro e1 w1 ⟨rfl, hn1⟩
  have ho1 := hn1.objs
  have hz1 := hn1.le
  try simp at hz1
  have k1_0 : w.heap.size < w1.heap.size := by omega
  go_wp2_with (fail)
  refine (sym_spec a b f ha hb hf _).mono ?_
  rintro e w8 ⟨rfl, hn8⟩
  rw [hV, hC]
  have c8 : obj w8 w.heap.size = some (.cells (pic 144 a b f) 25) := (hn8.objs _ (by omega)).trans ((hn1.objs _ (by simp)).trans (by go_simp))
  have N8 : New w w8 := (((New.refl w).alloc _).trans hn1).trans hn8
  clear hn1 ho1 hn8
  go_wp2_with (fail)
  refine (toPicture_any a b f _).mono ?_
  rintro e w3 ⟨rfl, hn3⟩
  go_wp2_with (fail)
  refine (sym_impl a b f ha hb hf _).mono ?_
  rintro e w4 ⟨rfl, hn4⟩
  rw [hV, hC]
  go_wp2_with (fail)
  go_ret
  exact ⟨rfl, (N8.trans hn3).trans hn4⟩
end Go.Proofs.Ytfopllkienogfaa
