/- The program's recoloured, pasted and bordered pictures; no condition. -/
import Derived.Test.YtomfjicjejoakaaDoorU6
import Derived.Test.YtomfjicjejoakaaDoorImplB
set_option linter.unusedVariables false
namespace Go.Proofs.YtomfjicjejoakaaDoor
open Go.BigFrame
open Go.RowKit Go.Arr
set_option maxHeartbeats 2000000 in
set_option maxRecDepth 100000 in
theorem rec_fn (gp g1 g2 : Nat) (t1 t2 t3 : TypeId) (a b : Int) (f : Nat → Int) (hf : ∀ i, 0 ≤ f i ∧ f i ≤ 255) (p q : Int) (hq : 0 ≤ q ∧ q ≤ 15) (x y : Nat) (hx : x < 12) (hy : y < 12) (w : World)
    (lp : gp < w.heap.size) (l1 : g1 < w.heap.size) (l2 : g2 < w.heap.size) (hp : obj w gp = some (.cells (pic 144 a b f) t1)) (h1 : obj w g1 = some (.cells #[.int .i64 p] t2)) (h2 : obj w g2 = some (.cells #[.int .i64 q] t3)) :
    Calls Tryd.prog 54 #[.int .i64 x, .int .i64 y, .pointer (some ⟨gp, 0, none⟩), .pointer (some ⟨g1, 0, none⟩), .pointer (some ⟨g2, 0, none⟩)] w fun e w' => e = .returned (.int .u8 (recH f p q x y)) ∧ New w w' := by
  have q0 : 0 ≤ (x : Int) + 12 * y := by omega
  have q1 : (x : Int) + 12 * y < 144 := by omega
  have q2 : ((x : Int) + 12 * y).toNat < 144 := by omega
  have e9 : ((x : Int) + 12 * y).toNat = x + 12 * y := by omega
  have hfk := hf (x + 12 * y)
  by_cases he : f (x + 12 * y) = p
  · have hA : recH f p q x y = q := by unfold recH; rw [e9, if_pos he]
    have he1 : (f (x + 12 * y) == p) = true := by simp [he]
    rw [hA]
    clear hA he e9
    go_enter Tryd.func54, Tryd.ntmps54
    go_wp2_with (fail)
    go_wp2_with (fail)
    refine wp_region_new (by kernel_rfl) (by kernel_rfl) ?_
    repeat (go_big_quiet_step (first | fail | (go_at_call 33; with_reducible exact calls_new (at_any a b f _ _ (by omega) (by omega) (by omega) _))))
    refine wpQuiet_nil ?_
    intro w1 hc1
    have hn1 := NewW.of hc1
    clear hc1
    have ho1 := hn1.objs
    have hz1 := hn1.le
    try simp at hz1
    have k1_0 : gp < w1.heap.size := by omega
    have k1_1 : g1 < w1.heap.size := by omega
    have k1_2 : g2 < w1.heap.size := by omega
    go_wp2_with (fail)
    go_ret
    refine ⟨rfl, ?_⟩
    repeat' (first | exact New.refl _ | refine New.alloc ?_ _ | refine New.drew ?_ | refine New.drewN ?_ _ | refine New.setRow ?_ (by omega) _ | refine New.setCell ?_ (by first | omega | (simp; done) | (simp; omega)) _ | refine New.trans ?_ hn1)
  · have hA : recH f p q x y = f ((x : Int) + 12 * y).toNat := by unfold recH; rw [e9, if_neg he]
    have he1 : (f (x + 12 * y) == p) = false := by simp [he]
    rw [hA]
    clear hA he e9
    go_enter Tryd.func54, Tryd.ntmps54
    go_wp2_with (fail)
    go_wp2_with (fail)
    refine wp_region_new (by kernel_rfl) (by kernel_rfl) ?_
    repeat (go_big_quiet_step (first | fail | (go_at_call 33; with_reducible exact calls_new (at_any a b f _ _ (by omega) (by omega) (by omega) _))))
    refine wpQuiet_nil ?_
    intro w2 hc2
    have hn2 := NewW.of hc2
    clear hc2
    have ho2 := hn2.objs
    have hz2 := hn2.le
    try simp at hz2
    have k2_0 : gp < w2.heap.size := by omega
    have k2_1 : g1 < w2.heap.size := by omega
    have k2_2 : g2 < w2.heap.size := by omega
    go_wp2_with (fail)
    refine (at_any a b f _ _ (by omega) (by omega) (by omega) _).mono ?_
    rintro e w9 ⟨rfl, hn9⟩
    go_wp2_with (fail)
    go_ret
    refine ⟨rfl, New.trans ?_ hn9⟩
    repeat' (first | exact New.refl _ | refine New.alloc ?_ _ | refine New.drew ?_ | refine New.drewN ?_ _ | refine New.setRow ?_ (by omega) _ | refine New.setCell ?_ (by first | omega | (simp; done) | (simp; omega)) _ | refine New.trans ?_ hn2 | refine New.trans ?_ hn1)
set_option maxHeartbeats 2000000 in
set_option maxRecDepth 100000 in
theorem rec_impl (a b : Int) (f : Nat → Int) (p q : Int) (ha : -128 ≤ a ∧ a ≤ 127) (hb : -128 ≤ b ∧ b ≤ 127) (hf : ∀ i, 0 ≤ f i ∧ f i ≤ 255) (w : World) :
    Calls Tryd.prog 22 #[.agg (pic 144 a b f), .int .i64 p, .int .i64 q] w fun e w' => e = .returned (.tuple #[.agg (pic 144 (recA a b f p q).w (recA a b f p q).h (recA a b f p q).f), .int .i64 (recA a b f p q).c]) ∧ New w w' := by
  rcases rec_cases a b f p q with ⟨h1, h2, h3, hA⟩ | ⟨h1, h2, h3, hA⟩ | ⟨h1, h2, hA⟩ | ⟨h1, hA⟩
  rotate_left
  all_goals rw [hA]
  all_goals clear hA
  · go_enter Tryd.func22, Tryd.ntmps22
    go_wp2_with (fail)
    refine wp_region_new (by kernel_rfl) (by kernel_rfl) ?_
    repeat (go_big_quiet_step (first | fail | (go_at_call 12; with_reducible exact calls_new (valid_v a b f ha hb hf _ h1 _)) | (go_at_call 53; with_reducible exact calls_new (isColour_v p _ h2 _)) | (go_at_call 53; with_reducible exact calls_new (isColour_v q _ h3 _)) | (go_at_call 45; with_reducible exact calls_new (new_same (codeOf_any _ _ _)))))
    refine wpQuiet_nil ?_
    intro w1 hc1
    have hn1 := NewW.of hc1
    clear hc1
    have ho1 := hn1.objs
    have hz1 := hn1.le
    try simp at hz1
    have k1_0 : w.heap.size < w1.heap.size := by omega
    have k1_1 : w.heap.size + 1 < w1.heap.size := by omega
    have k1_2 : w.heap.size + 1 + 1 < w1.heap.size := by omega
    have k1_3 : w.heap.size + 1 + 1 + 1 < w1.heap.size := by omega
    go_wp2_with (fail)
    refine ret_cell_tmp agg27 rfl rfl (c := pic 144 0 0 fun _ => 0) (t := 27) (fr := (0, 0)) (by go_simp) size_pic rfl ⟨rfl, ?_⟩
    repeat' (first | exact New.refl _ | refine New.alloc ?_ _ | refine New.drew ?_ | refine New.drewN ?_ _ | refine New.setRow ?_ (by omega) _ | refine New.setCell ?_ (by first | omega | (simp; done) | (simp; omega)) _ | refine New.trans ?_ hn1)
  · go_enter Tryd.func22, Tryd.ntmps22
    go_wp2_with (fail)
    refine wp_region_new (by kernel_rfl) (by kernel_rfl) ?_
    repeat (go_big_quiet_step (first | fail | (go_at_call 12; with_reducible exact calls_new (valid_v a b f ha hb hf _ h1 _)) | (go_at_call 53; with_reducible exact calls_new (isColour_v p _ h2 _)) | (go_at_call 53; with_reducible exact calls_new (isColour_v q _ h3 _)) | (go_at_call 45; with_reducible exact calls_new (new_same (codeOf_any _ _ _)))))
    refine wpQuiet_nil ?_
    intro w2 hc2
    have hn2 := NewW.of hc2
    clear hc2
    have ho2 := hn2.objs
    have hz2 := hn2.le
    try simp at hz2
    have k2_0 : w.heap.size < w2.heap.size := by omega
    have k2_1 : w.heap.size + 1 < w2.heap.size := by omega
    have k2_2 : w.heap.size + 1 + 1 < w2.heap.size := by omega
    have k2_3 : w.heap.size + 1 + 1 + 1 < w2.heap.size := by omega
    go_wp2_with (fail)
    refine ret_cell_tmp agg27 rfl rfl (c := pic 144 0 0 fun _ => 0) (t := 27) (fr := (0, 0)) (by go_simp) size_pic rfl ⟨rfl, ?_⟩
    repeat' (first | exact New.refl _ | refine New.alloc ?_ _ | refine New.drew ?_ | refine New.drewN ?_ _ | refine New.setRow ?_ (by omega) _ | refine New.setCell ?_ (by first | omega | (simp; done) | (simp; omega)) _ | refine New.trans ?_ hn2 | refine New.trans ?_ hn1)
  · cases h2 : inB p 0 15
    · go_enter Tryd.func22, Tryd.ntmps22
      go_wp2_with (fail)
      refine wp_region_new (by kernel_rfl) (by kernel_rfl) ?_
      repeat (go_big_quiet_step (first | fail | (go_at_call 12; with_reducible exact calls_new (valid_v a b f ha hb hf _ h1 _)) | (go_at_call 53; with_reducible exact calls_new (isColour_v p _ h2 _)) | (go_at_call 53; with_reducible exact calls_new (isColour_v q _ h3 _)) | (go_at_call 45; with_reducible exact calls_new (new_same (codeOf_any _ _ _)))))
      refine wpQuiet_nil ?_
      intro w3 hc3
      have hn3 := NewW.of hc3
      clear hc3
      have ho3 := hn3.objs
      have hz3 := hn3.le
      try simp at hz3
      have k3_0 : w.heap.size < w3.heap.size := by omega
      have k3_1 : w.heap.size + 1 < w3.heap.size := by omega
      have k3_2 : w.heap.size + 1 + 1 < w3.heap.size := by omega
      have k3_3 : w.heap.size + 1 + 1 + 1 < w3.heap.size := by omega
      go_wp2_with (fail)
      refine ret_cell_tmp agg27 rfl rfl (c := pic 144 0 0 fun _ => 0) (t := 27) (fr := (0, 0)) (by go_simp) size_pic rfl ⟨rfl, ?_⟩
      repeat' (first | exact New.refl _ | refine New.alloc ?_ _ | refine New.drew ?_ | refine New.drewN ?_ _ | refine New.setRow ?_ (by omega) _ | refine New.setCell ?_ (by first | omega | (simp; done) | (simp; omega)) _ | refine New.trans ?_ hn3 | refine New.trans ?_ hn2 | refine New.trans ?_ hn1)
    · cases h3 : inB q 0 15
      all_goals
        go_enter Tryd.func22, Tryd.ntmps22
        go_wp2_with (fail)
        refine wp_region_new (by kernel_rfl) (by kernel_rfl) ?_
        repeat (go_big_quiet_step (first | fail | (go_at_call 12; with_reducible exact calls_new (valid_v a b f ha hb hf _ h1 _)) | (go_at_call 53; with_reducible exact calls_new (isColour_v p _ h2 _)) | (go_at_call 53; with_reducible exact calls_new (isColour_v q _ h3 _)) | (go_at_call 45; with_reducible exact calls_new (new_same (codeOf_any _ _ _)))))
        refine wpQuiet_nil ?_
        intro w4 hc4
        have hn4 := NewW.of hc4
        clear hc4
        have ho4 := hn4.objs
        have hz4 := hn4.le
        try simp at hz4
        have k4_0 : w.heap.size < w4.heap.size := by omega
        have k4_1 : w.heap.size + 1 < w4.heap.size := by omega
        have k4_2 : w.heap.size + 1 + 1 < w4.heap.size := by omega
        have k4_3 : w.heap.size + 1 + 1 + 1 < w4.heap.size := by omega
        go_wp2_with (fail)
        refine ret_cell_tmp agg27 rfl rfl (c := pic 144 0 0 fun _ => 0) (t := 27) (fr := (0, 0)) (by go_simp) size_pic rfl ⟨rfl, ?_⟩
        repeat' (first | exact New.refl _ | refine New.alloc ?_ _ | refine New.drew ?_ | refine New.drewN ?_ _ | refine New.setRow ?_ (by omega) _ | refine New.setCell ?_ (by first | omega | (simp; done) | (simp; omega)) _ | refine New.trans ?_ hn4 | refine New.trans ?_ hn3 | refine New.trans ?_ hn2 | refine New.trans ?_ hn1)
  have gd := okPic_dims h1
  have g2 := inB_t.1 h2
  have g3 := inB_t.1 h3
  go_enter Tryd.func22, Tryd.ntmps22
  go_wp2_with (fail)
  refine wp_region_new (by kernel_rfl) (by kernel_rfl) ?_
  repeat (go_big_quiet_step (first | fail | (go_at_call 12; with_reducible exact calls_new (valid_v a b f ha hb hf _ h1 _)) | (go_at_call 53; with_reducible exact calls_new (isColour_v p _ h2 _)) | (go_at_call 53; with_reducible exact calls_new (isColour_v q _ h3 _)) | (go_at_call 45; with_reducible exact calls_new (new_same (codeOf_any _ _ _)))))
  refine wpQuiet_nil ?_
  intro w5 hc5
  have hn5 := NewW.of hc5
  clear hc5
  have ho5 := hn5.objs
  have hz5 := hn5.le
  try simp at hz5
  have k5_0 : w.heap.size < w5.heap.size := by omega
  have k5_1 : w.heap.size + 1 < w5.heap.size := by omega
  have k5_2 : w.heap.size + 1 + 1 < w5.heap.size := by omega
  have k5_3 : w.heap.size + 1 + 1 + 1 < w5.heap.size := by omega
  go_wp2_with (fail)
  refine (size_any a b f ha hb _).mono ?_
  rintro e6 w6 ⟨rfl, hn6⟩
  have ho6 := hn6.objs
  have hz6 := hn6.le
  try simp at hz6
  have k6_0 : w.heap.size < w6.heap.size := by omega
  have k6_1 : w.heap.size + 1 < w6.heap.size := by omega
  have k6_2 : w.heap.size + 1 + 1 < w6.heap.size := by omega
  have k6_3 : w.heap.size + 1 + 1 + 1 < w6.heap.size := by omega
  go_wp2_with (fail)
  refine (painted_any a b (by omega) (by omega) 54 _ (recH f p q) _ (enters Tryd.func54 (by kernel_rfl) rfl) (fun W x y hW hx hy => ?_)).mono ?_
  · refine rec_fn w.heap.size (w.heap.size + 1) (w.heap.size + 1 + 1) 27 2 2 a b f hf p q (by omega) x y (by omega) (by omega) W ?_ ?_ ?_ ?_ ?_ ?_ <;> first | (have := hW.le; omega) | (rw [hW.objs _ (by omega)]; go_simp)
  rintro e3 w3 ⟨rfl, hn3⟩
  have ho3 := hn3.objs
  have hz3 := hn3.le
  try simp at hz3
  have k3 : w.heap.size + 1 + 1 + 1 < w3.heap.size := by omega
  go_wp2_with (fail)
  refine ret_cell_tmp agg27 rfl rfl (c := pic 144 a b (paint a b (recH f p q))) (t := 27) (fr := (0, 0)) (by go_simp) size_pic rfl ⟨rfl, ?_⟩
  refine New.setRow (New.trans ?_ hn3) (by omega) _
  repeat' (first | exact New.refl _ | refine New.alloc ?_ _ | refine New.drew ?_ | refine New.drewN ?_ _ | refine New.setRow ?_ (by omega) _ | refine New.setCell ?_ (by first | omega | (simp; done) | (simp; omega)) _ | refine New.trans ?_ hn6 | refine New.trans ?_ hn5 | refine New.trans ?_ hn4 | refine New.trans ?_ hn3 | refine New.trans ?_ hn2 | refine New.trans ?_ hn1)
set_option maxHeartbeats 2000000 in
set_option maxRecDepth 100000 in
theorem bor_fn (gp gc : Nat) (t1 t2 : TypeId) (a b : Int) (f : Nat → Int) (ha : -128 ≤ a ∧ a ≤ 12) (hb : -128 ≤ b ∧ b ≤ 12) (c : Int) (hc : 0 ≤ c ∧ c ≤ 15) (x y : Nat) (hx : x < 12) (hy : y < 12) (w : World)
    (hp : obj w gp = some (.cells (pic 144 a b f) t1)) (h1 : obj w gc = some (.cells #[.int .i64 c] t2)) (lp : gp < w.heap.size) (lc : gc < w.heap.size) :
    Calls Tryd.prog 56 #[.int .i64 x, .int .i64 y, .pointer (some ⟨gp, 0, none⟩), .pointer (some ⟨gc, 0, none⟩)] w fun e w' => e = .returned (.int .u8 (borH a b f c x y)) ∧ New w w' := by
  cases hi : isCellB ((x : Int) - 1) ((y : Int) - 1) a b
  · have hA : borH a b f c x y = c := by simp [borH, hi]
    rw [hA]
    clear hA
    go_enter Tryd.func56, Tryd.ntmps56
    go_wp2_with (fail)
    refine (has_any a b f _ _ (by omega) (by omega) _).mono ?_
    rintro e1 w1 ⟨rfl, hn1⟩
    have ho1 := hn1.objs
    have hz1 := hn1.le
    try simp at hz1
    have k1_0 : gp < w1.heap.size := by omega
    have k1_1 : gc < w1.heap.size := by omega
    go_wp2_with (fail)
    go_ret
    exact ⟨rfl, hn1⟩
  · have hA : borH a b f c x y = f ((x : Int) - 1 + 12 * ((y : Int) - 1)).toNat := by simp [borH, hi]
    rw [hA]
    clear hA
    have gi := isCellB_t hi
    go_enter Tryd.func56, Tryd.ntmps56
    go_wp2_with (fail)
    refine (has_any a b f _ _ (by omega) (by omega) _).mono ?_
    rintro e2 w2 ⟨rfl, hn2⟩
    have ho2 := hn2.objs
    have hz2 := hn2.le
    try simp at hz2
    have k2_0 : gp < w2.heap.size := by omega
    have k2_1 : gc < w2.heap.size := by omega
    go_wp2_with (fail)
    refine (at_any a b f _ _ (by omega) (by omega) (by omega) _).mono ?_
    rintro e w9 ⟨rfl, hn9⟩
    go_wp2_with (fail)
    go_ret
    refine ⟨rfl, New.trans ?_ hn9⟩
    repeat' (first | exact New.refl _ | refine New.alloc ?_ _ | refine New.drew ?_ | refine New.drewN ?_ _ | refine New.setRow ?_ (by omega) _ | refine New.setCell ?_ (by first | omega | (simp; done) | (simp; omega)) _ | refine New.trans ?_ hn2 | refine New.trans ?_ hn1)
set_option maxHeartbeats 2000000 in
set_option maxRecDepth 100000 in
theorem bor_impl (a b : Int) (f : Nat → Int) (c : Int) (ha : -128 ≤ a ∧ a ≤ 127) (hb : -128 ≤ b ∧ b ≤ 127) (hf : ∀ i, 0 ≤ f i ∧ f i ≤ 255) (w : World) :
    Calls Tryd.prog 25 #[.agg (pic 144 a b f), .int .i64 c] w fun e w' => e = .returned (.tuple #[.agg (pic 144 (borA a b f c).w (borA a b f c).h (borA a b f c).f), .int .i64 (borA a b f c).c]) ∧ New w w' := by
  rcases bor_cases a b f c with ⟨h1, h2, h3, hA⟩ | ⟨h1, h2, h3, hA⟩ | ⟨h1, h2, hA⟩ | ⟨h1, hA⟩
  rotate_left
  all_goals rw [hA]
  all_goals clear hA
  · have gd := okPic_dims h1
    go_enter Tryd.func25, Tryd.ntmps25
    go_wp2_with (fail)
    refine wp_region_new (by kernel_rfl) (by kernel_rfl) ?_
    repeat (go_big_quiet_step (first | fail | (go_at_call 12; with_reducible exact calls_new (valid_v a b f ha hb hf _ h1 _)) | (go_at_call 53; with_reducible exact calls_new (isColour_v c _ h2 _)) | (go_at_call 45; with_reducible exact calls_new (new_same (codeOf_any _ _ _)))))
    refine wpQuiet_nil ?_
    intro w1 hc1
    have hn1 := NewW.of hc1
    clear hc1
    have ho1 := hn1.objs
    have hz1 := hn1.le
    try simp at hz1
    have k1_0 : w.heap.size < w1.heap.size := by omega
    have k1_1 : w.heap.size + 1 < w1.heap.size := by omega
    have k1_2 : w.heap.size + 1 + 1 < w1.heap.size := by omega
    go_wp2_with (fail)
    refine (size_any a b f ha hb _).mono ?_
    rintro e2 w2 ⟨rfl, hn2⟩
    have ho2 := hn2.objs
    have hz2 := hn2.le
    try simp at hz2
    have k2_0 : w.heap.size < w2.heap.size := by omega
    have k2_1 : w.heap.size + 1 < w2.heap.size := by omega
    have k2_2 : w.heap.size + 1 + 1 < w2.heap.size := by omega
    go_wp2_with (fail)
    refine (isSize_any _ _ _).mono ?_
    rintro e w' ⟨rfl, rfl⟩
    go_wp2_with (fail)
    refine ret_cell_tmp agg27 rfl rfl (c := pic 144 0 0 fun _ => 0) (t := 27) (fr := (0, 0)) (by go_simp) size_pic rfl ⟨rfl, ?_⟩
    repeat' (first | exact New.refl _ | refine New.alloc ?_ _ | refine New.drew ?_ | refine New.drewN ?_ _ | refine New.setRow ?_ (by omega) _ | refine New.setCell ?_ (by first | omega | (simp; done) | (simp; omega)) _ | refine New.trans ?_ hn2 | refine New.trans ?_ hn1)
  · go_enter Tryd.func25, Tryd.ntmps25
    go_wp2_with (fail)
    refine wp_region_new (by kernel_rfl) (by kernel_rfl) ?_
    repeat (go_big_quiet_step (first | fail | (go_at_call 12; with_reducible exact calls_new (valid_v a b f ha hb hf _ h1 _)) | (go_at_call 53; with_reducible exact calls_new (isColour_v c _ h2 _)) | (go_at_call 45; with_reducible exact calls_new (new_same (codeOf_any _ _ _)))))
    refine wpQuiet_nil ?_
    intro w3 hc3
    have hn3 := NewW.of hc3
    clear hc3
    have ho3 := hn3.objs
    have hz3 := hn3.le
    try simp at hz3
    have k3_0 : w.heap.size < w3.heap.size := by omega
    have k3_1 : w.heap.size + 1 < w3.heap.size := by omega
    have k3_2 : w.heap.size + 1 + 1 < w3.heap.size := by omega
    go_wp2_with (fail)
    refine ret_cell_tmp agg27 rfl rfl (c := pic 144 0 0 fun _ => 0) (t := 27) (fr := (0, 0)) (by go_simp) size_pic rfl ⟨rfl, ?_⟩
    repeat' (first | exact New.refl _ | refine New.alloc ?_ _ | refine New.drew ?_ | refine New.drewN ?_ _ | refine New.setRow ?_ (by omega) _ | refine New.setCell ?_ (by first | omega | (simp; done) | (simp; omega)) _ | refine New.trans ?_ hn3 | refine New.trans ?_ hn2 | refine New.trans ?_ hn1)
  · cases h2 : inB c 0 15
    all_goals
      go_enter Tryd.func25, Tryd.ntmps25
      go_wp2_with (fail)
      refine wp_region_new (by kernel_rfl) (by kernel_rfl) ?_
      repeat (go_big_quiet_step (first | fail | (go_at_call 12; with_reducible exact calls_new (valid_v a b f ha hb hf _ h1 _)) | (go_at_call 53; with_reducible exact calls_new (isColour_v c _ h2 _)) | (go_at_call 45; with_reducible exact calls_new (new_same (codeOf_any _ _ _)))))
      refine wpQuiet_nil ?_
      intro w4 hc4
      have hn4 := NewW.of hc4
      clear hc4
      have ho4 := hn4.objs
      have hz4 := hn4.le
      try simp at hz4
      have k4_0 : w.heap.size < w4.heap.size := by omega
      have k4_1 : w.heap.size + 1 < w4.heap.size := by omega
      have k4_2 : w.heap.size + 1 + 1 < w4.heap.size := by omega
      go_wp2_with (fail)
      refine ret_cell_tmp agg27 rfl rfl (c := pic 144 0 0 fun _ => 0) (t := 27) (fr := (0, 0)) (by go_simp) size_pic rfl ⟨rfl, ?_⟩
      repeat' (first | exact New.refl _ | refine New.alloc ?_ _ | refine New.drew ?_ | refine New.drewN ?_ _ | refine New.setRow ?_ (by omega) _ | refine New.setCell ?_ (by first | omega | (simp; done) | (simp; omega)) _ | refine New.trans ?_ hn4 | refine New.trans ?_ hn3 | refine New.trans ?_ hn2 | refine New.trans ?_ hn1)
  have gd := okPic_dims h1
  have g2 := inB_t.1 h2
  have g3 := isSizeB_t h3
  go_enter Tryd.func25, Tryd.ntmps25
  go_wp2_with (fail)
  refine wp_region_new (by kernel_rfl) (by kernel_rfl) ?_
  repeat (go_big_quiet_step (first | fail | (go_at_call 12; with_reducible exact calls_new (valid_v a b f ha hb hf _ h1 _)) | (go_at_call 53; with_reducible exact calls_new (isColour_v c _ h2 _)) | (go_at_call 45; with_reducible exact calls_new (new_same (codeOf_any _ _ _)))))
  refine wpQuiet_nil ?_
  intro w5 hc5
  have hn5 := NewW.of hc5
  clear hc5
  have ho5 := hn5.objs
  have hz5 := hn5.le
  try simp at hz5
  have k5_0 : w.heap.size < w5.heap.size := by omega
  have k5_1 : w.heap.size + 1 < w5.heap.size := by omega
  have k5_2 : w.heap.size + 1 + 1 < w5.heap.size := by omega
  go_wp2_with (fail)
  refine (size_any a b f ha hb _).mono ?_
  rintro e6 w6 ⟨rfl, hn6⟩
  have ho6 := hn6.objs
  have hz6 := hn6.le
  try simp at hz6
  have k6_0 : w.heap.size < w6.heap.size := by omega
  have k6_1 : w.heap.size + 1 < w6.heap.size := by omega
  have k6_2 : w.heap.size + 1 + 1 < w6.heap.size := by omega
  go_wp2_with (fail)
  refine (isSize_any _ _ _).mono ?_
  rintro e w' ⟨rfl, rfl⟩
  go_wp2_with (fail)
  refine (painted_any (a + 2) (b + 2) (by omega) (by omega) 56 _ (borH a b f c) _ (enters Tryd.func56 (by kernel_rfl) rfl) (fun W x y hW hx hy => ?_)).mono ?_
  · refine bor_fn w.heap.size (w.heap.size + 1) 27 2 a b f (by omega) (by omega) c (by omega) x y (by omega) (by omega) W ?_ ?_ ?_ ?_ <;> first | (have := hW.le; omega) | (rw [hW.objs _ (by omega)]; go_simp)
  rintro e3 w3 ⟨rfl, hn3⟩
  have ho3 := hn3.objs
  have hz3 := hn3.le
  try simp at hz3
  have k3 : w.heap.size + 1 + 1 < w3.heap.size := by omega
  go_wp2_with (fail)
  refine ret_cell_tmp agg27 rfl rfl (c := pic 144 (a + 2) (b + 2) (paint (a + 2) (b + 2) (borH a b f c))) (t := 27) (fr := (0, 0)) (by go_simp) size_pic rfl ⟨rfl, ?_⟩
  refine New.setRow (New.trans ?_ hn3) (by omega) _
  repeat' (first | exact New.refl _ | refine New.alloc ?_ _ | refine New.drew ?_ | refine New.drewN ?_ _ | refine New.setRow ?_ (by omega) _ | refine New.setCell ?_ (by first | omega | (simp; done) | (simp; omega)) _ | refine New.trans ?_ hn6 | refine New.trans ?_ hn5 | refine New.trans ?_ hn4 | refine New.trans ?_ hn3 | refine New.trans ?_ hn2 | refine New.trans ?_ hn1)
set_option maxHeartbeats 2000000 in
set_option maxRecDepth 100000 in
theorem pas_fn (gq gx gy gp : Nat) (t1 t2 t3 t4 : TypeId) (a b : Int) (f : Nat → Int) (c d : Int) (g : Nat → Int) (hg : ∀ i, 0 ≤ g i ∧ g i ≤ 255) (hc : -128 ≤ c ∧ c ≤ 12) (hd : -128 ≤ d ∧ d ≤ 12) (x y : Int) (hx : -12 ≤ x ∧ x ≤ 12) (hy : -12 ≤ y ∧ y ≤ 12) (u v : Nat) (hu : u < 12) (hv : v < 12) (w : World)
    (hq : obj w gq = some (.cells (pic 144 c d g) t1)) (h1 : obj w gx = some (.cells #[.int .i64 x] t2)) (h2 : obj w gy = some (.cells #[.int .i64 y] t3)) (hp : obj w gp = some (.cells (pic 144 a b f) t4))
    (lq : gq < w.heap.size) (l1 : gx < w.heap.size) (l2 : gy < w.heap.size) (lp : gp < w.heap.size) :
    Calls Tryd.prog 52 #[.int .i64 u, .int .i64 v, .pointer (some ⟨gq, 0, none⟩), .pointer (some ⟨gx, 0, none⟩), .pointer (some ⟨gy, 0, none⟩), .pointer (some ⟨gp, 0, none⟩)] w fun e w' => e = .returned (.int .u8 (pasH f c d g x y u v)) ∧ New w w' := by
  cases hi : isCellB ((u : Int) - x) ((v : Int) - y) c d
  · have hA : pasH f c d g x y u v = f ((u : Int) + 12 * (v : Int)).toNat := by simp [pasH, hi]
    rw [hA]
    clear hA
    go_enter Tryd.func52, Tryd.ntmps52
    go_wp2_with (fail)
    refine (has_any c d g _ _ (by omega) (by omega) _).mono ?_
    rintro e1 w1 ⟨rfl, hn1⟩
    have ho1 := hn1.objs
    have hz1 := hn1.le
    try simp at hz1
    have k1_0 : gq < w1.heap.size := by omega
    have k1_1 : gx < w1.heap.size := by omega
    have k1_2 : gy < w1.heap.size := by omega
    have k1_3 : gp < w1.heap.size := by omega
    go_wp2_with (fail)
    refine (at_any a b f _ _ (by omega) (by omega) (by omega) _).mono ?_
    rintro e w9 ⟨rfl, hn9⟩
    go_wp2_with (fail)
    go_ret
    refine ⟨rfl, New.trans ?_ hn9⟩
    repeat' (first | exact New.refl _ | refine New.alloc ?_ _ | refine New.drew ?_ | refine New.drewN ?_ _ | refine New.setRow ?_ (by omega) _ | refine New.setCell ?_ (by first | omega | (simp; done) | (simp; omega)) _ | refine New.trans ?_ hn1)
  have gi := isCellB_t hi
  have hgk := hg ((u : Int) - x + 12 * ((v : Int) - y)).toNat
  by_cases he : g ((u : Int) - x + 12 * ((v : Int) - y)).toNat = 0
  · have hA : pasH f c d g x y u v = f ((u : Int) + 12 * (v : Int)).toNat := by simp [pasH, he]
    have he1 : (g ((u : Int) - x + 12 * ((v : Int) - y)).toNat != 0) = false := by simp [he]
    rw [hA]
    clear hA he
    go_enter Tryd.func52, Tryd.ntmps52
    go_wp2_with (fail)
    refine (has_any c d g _ _ (by omega) (by omega) _).mono ?_
    rintro e2 w2 ⟨rfl, hn2⟩
    have ho2 := hn2.objs
    have hz2 := hn2.le
    try simp at hz2
    have k2_0 : gq < w2.heap.size := by omega
    have k2_1 : gx < w2.heap.size := by omega
    have k2_2 : gy < w2.heap.size := by omega
    have k2_3 : gp < w2.heap.size := by omega
    go_wp2_with (fail)
    refine (at_any c d g _ _ (by omega) (by omega) (by omega) _).mono ?_
    rintro e3 w3 ⟨rfl, hn3⟩
    have ho3 := hn3.objs
    have hz3 := hn3.le
    try simp at hz3
    have k3_0 : gq < w3.heap.size := by omega
    have k3_1 : gx < w3.heap.size := by omega
    have k3_2 : gy < w3.heap.size := by omega
    have k3_3 : gp < w3.heap.size := by omega
    go_wp2_with (fail)
    refine (at_any a b f _ _ (by omega) (by omega) (by omega) _).mono ?_
    rintro e w9 ⟨rfl, hn9⟩
    go_wp2_with (fail)
    go_ret
    refine ⟨rfl, New.trans ?_ hn9⟩
    repeat' (first | exact New.refl _ | refine New.alloc ?_ _ | refine New.drew ?_ | refine New.drewN ?_ _ | refine New.setRow ?_ (by omega) _ | refine New.setCell ?_ (by first | omega | (simp; done) | (simp; omega)) _ | refine New.trans ?_ hn3 | refine New.trans ?_ hn2 | refine New.trans ?_ hn1)
  · have hA : pasH f c d g x y u v = g ((u : Int) - x + 12 * ((v : Int) - y)).toNat := by simp [pasH, he, hi]
    have he1 : (g ((u : Int) - x + 12 * ((v : Int) - y)).toNat != 0) = true := by simp [he]
    rw [hA]
    clear hA he
    go_enter Tryd.func52, Tryd.ntmps52
    go_wp2_with (fail)
    refine (has_any c d g _ _ (by omega) (by omega) _).mono ?_
    rintro e4 w4 ⟨rfl, hn4⟩
    have ho4 := hn4.objs
    have hz4 := hn4.le
    try simp at hz4
    have k4_0 : gq < w4.heap.size := by omega
    have k4_1 : gx < w4.heap.size := by omega
    have k4_2 : gy < w4.heap.size := by omega
    have k4_3 : gp < w4.heap.size := by omega
    go_wp2_with (fail)
    refine (at_any c d g _ _ (by omega) (by omega) (by omega) _).mono ?_
    rintro e5 w5 ⟨rfl, hn5⟩
    have ho5 := hn5.objs
    have hz5 := hn5.le
    try simp at hz5
    have k5_0 : gq < w5.heap.size := by omega
    have k5_1 : gx < w5.heap.size := by omega
    have k5_2 : gy < w5.heap.size := by omega
    have k5_3 : gp < w5.heap.size := by omega
    go_wp2_with (fail)
    refine (at_any c d g _ _ (by omega) (by omega) (by omega) _).mono ?_
    rintro e w9 ⟨rfl, hn9⟩
    go_wp2_with (fail)
    go_ret
    refine ⟨rfl, New.trans ?_ hn9⟩
    repeat' (first | exact New.refl _ | refine New.alloc ?_ _ | refine New.drew ?_ | refine New.drewN ?_ _ | refine New.setRow ?_ (by omega) _ | refine New.setCell ?_ (by first | omega | (simp; done) | (simp; omega)) _ | refine New.trans ?_ hn5 | refine New.trans ?_ hn4 | refine New.trans ?_ hn3 | refine New.trans ?_ hn2 | refine New.trans ?_ hn1)
set_option maxHeartbeats 2000000 in
set_option maxRecDepth 100000 in
theorem pas_impl (a b : Int) (f : Nat → Int) (c d : Int) (g : Nat → Int) (x y : Int) (ha : -128 ≤ a ∧ a ≤ 127) (hb : -128 ≤ b ∧ b ≤ 127) (hf : ∀ i, 0 ≤ f i ∧ f i ≤ 255) (hc : -128 ≤ c ∧ c ≤ 127) (hd : -128 ≤ d ∧ d ≤ 127) (hg : ∀ i, 0 ≤ g i ∧ g i ≤ 255) (w : World) :
    Calls Tryd.prog 20 #[.agg (pic 144 a b f), .agg (pic 144 c d g), .int .i64 x, .int .i64 y] w fun e w' => e = .returned (.tuple #[.agg (pic 144 (pasA a b f c d g x y).w (pasA a b f c d g x y).h (pasA a b f c d g x y).f), .int .i64 (pasA a b f c d g x y).c]) ∧ New w w' := by
  rcases pas_cases a b f c d g x y with ⟨h1, h2, h3, h4, hA⟩ | ⟨h1, h2, h3, h4, hA⟩ | ⟨h1, h2, h3, hA⟩ | ⟨h1, h2, hA⟩ | ⟨h1, hA⟩
  rotate_left
  all_goals rw [hA]
  all_goals clear hA
  · go_enter Tryd.func20, Tryd.ntmps20
    go_wp2_with (fail)
    refine wp_region_new (by kernel_rfl) (by kernel_rfl) ?_
    repeat (go_big_quiet_step (first | fail | (go_at_call 12; with_reducible exact calls_new (valid_v a b f ha hb hf _ h1 _)) | (go_at_call 12; with_reducible exact calls_new (valid_v c d g hc hd hg _ h2 _)) | (go_at_call 46; with_reducible exact calls_new (within_v x _ _ _ h3 _)) | (go_at_call 46; with_reducible exact calls_new (within_v y _ _ _ h4 _)) | (go_at_call 45; with_reducible exact calls_new (new_same (codeOf_any _ _ _)))))
    refine wpQuiet_nil ?_
    intro w1 hc1
    have hn1 := NewW.of hc1
    clear hc1
    have ho1 := hn1.objs
    have hz1 := hn1.le
    try simp at hz1
    have k1_0 : w.heap.size < w1.heap.size := by omega
    have k1_1 : w.heap.size + 1 < w1.heap.size := by omega
    have k1_2 : w.heap.size + 1 + 1 < w1.heap.size := by omega
    have k1_3 : w.heap.size + 1 + 1 + 1 < w1.heap.size := by omega
    have k1_4 : w.heap.size + 1 + 1 + 1 + 1 < w1.heap.size := by omega
    go_wp2_with (fail)
    refine ret_cell_tmp agg27 rfl rfl (c := pic 144 0 0 fun _ => 0) (t := 27) (fr := (0, 0)) (by go_simp) size_pic rfl ⟨rfl, ?_⟩
    repeat' (first | exact New.refl _ | refine New.alloc ?_ _ | refine New.drew ?_ | refine New.drewN ?_ _ | refine New.setRow ?_ (by omega) _ | refine New.setCell ?_ (by first | omega | (simp; done) | (simp; omega)) _ | refine New.trans ?_ hn1)
  · go_enter Tryd.func20, Tryd.ntmps20
    go_wp2_with (fail)
    refine wp_region_new (by kernel_rfl) (by kernel_rfl) ?_
    repeat (go_big_quiet_step (first | fail | (go_at_call 12; with_reducible exact calls_new (valid_v a b f ha hb hf _ h1 _)) | (go_at_call 12; with_reducible exact calls_new (valid_v c d g hc hd hg _ h2 _)) | (go_at_call 46; with_reducible exact calls_new (within_v x _ _ _ h3 _)) | (go_at_call 46; with_reducible exact calls_new (within_v y _ _ _ h4 _)) | (go_at_call 45; with_reducible exact calls_new (new_same (codeOf_any _ _ _)))))
    refine wpQuiet_nil ?_
    intro w2 hc2
    have hn2 := NewW.of hc2
    clear hc2
    have ho2 := hn2.objs
    have hz2 := hn2.le
    try simp at hz2
    have k2_0 : w.heap.size < w2.heap.size := by omega
    have k2_1 : w.heap.size + 1 < w2.heap.size := by omega
    have k2_2 : w.heap.size + 1 + 1 < w2.heap.size := by omega
    have k2_3 : w.heap.size + 1 + 1 + 1 < w2.heap.size := by omega
    have k2_4 : w.heap.size + 1 + 1 + 1 + 1 < w2.heap.size := by omega
    go_wp2_with (fail)
    refine ret_cell_tmp agg27 rfl rfl (c := pic 144 0 0 fun _ => 0) (t := 27) (fr := (0, 0)) (by go_simp) size_pic rfl ⟨rfl, ?_⟩
    repeat' (first | exact New.refl _ | refine New.alloc ?_ _ | refine New.drew ?_ | refine New.drewN ?_ _ | refine New.setRow ?_ (by omega) _ | refine New.setCell ?_ (by first | omega | (simp; done) | (simp; omega)) _ | refine New.trans ?_ hn2 | refine New.trans ?_ hn1)
  · cases h3 : inB x (-12) 12
    · go_enter Tryd.func20, Tryd.ntmps20
      go_wp2_with (fail)
      refine wp_region_new (by kernel_rfl) (by kernel_rfl) ?_
      repeat (go_big_quiet_step (first | fail | (go_at_call 12; with_reducible exact calls_new (valid_v a b f ha hb hf _ h1 _)) | (go_at_call 12; with_reducible exact calls_new (valid_v c d g hc hd hg _ h2 _)) | (go_at_call 46; with_reducible exact calls_new (within_v x _ _ _ h3 _)) | (go_at_call 46; with_reducible exact calls_new (within_v y _ _ _ h4 _)) | (go_at_call 45; with_reducible exact calls_new (new_same (codeOf_any _ _ _)))))
      refine wpQuiet_nil ?_
      intro w3 hc3
      have hn3 := NewW.of hc3
      clear hc3
      have ho3 := hn3.objs
      have hz3 := hn3.le
      try simp at hz3
      have k3_0 : w.heap.size < w3.heap.size := by omega
      have k3_1 : w.heap.size + 1 < w3.heap.size := by omega
      have k3_2 : w.heap.size + 1 + 1 < w3.heap.size := by omega
      have k3_3 : w.heap.size + 1 + 1 + 1 < w3.heap.size := by omega
      have k3_4 : w.heap.size + 1 + 1 + 1 + 1 < w3.heap.size := by omega
      go_wp2_with (fail)
      refine ret_cell_tmp agg27 rfl rfl (c := pic 144 0 0 fun _ => 0) (t := 27) (fr := (0, 0)) (by go_simp) size_pic rfl ⟨rfl, ?_⟩
      repeat' (first | exact New.refl _ | refine New.alloc ?_ _ | refine New.drew ?_ | refine New.drewN ?_ _ | refine New.setRow ?_ (by omega) _ | refine New.setCell ?_ (by first | omega | (simp; done) | (simp; omega)) _ | refine New.trans ?_ hn3 | refine New.trans ?_ hn2 | refine New.trans ?_ hn1)
    · cases h4 : inB y (-12) 12
      all_goals
        go_enter Tryd.func20, Tryd.ntmps20
        go_wp2_with (fail)
        refine wp_region_new (by kernel_rfl) (by kernel_rfl) ?_
        repeat (go_big_quiet_step (first | fail | (go_at_call 12; with_reducible exact calls_new (valid_v a b f ha hb hf _ h1 _)) | (go_at_call 12; with_reducible exact calls_new (valid_v c d g hc hd hg _ h2 _)) | (go_at_call 46; with_reducible exact calls_new (within_v x _ _ _ h3 _)) | (go_at_call 46; with_reducible exact calls_new (within_v y _ _ _ h4 _)) | (go_at_call 45; with_reducible exact calls_new (new_same (codeOf_any _ _ _)))))
        refine wpQuiet_nil ?_
        intro w4 hc4
        have hn4 := NewW.of hc4
        clear hc4
        have ho4 := hn4.objs
        have hz4 := hn4.le
        try simp at hz4
        have k4_0 : w.heap.size < w4.heap.size := by omega
        have k4_1 : w.heap.size + 1 < w4.heap.size := by omega
        have k4_2 : w.heap.size + 1 + 1 < w4.heap.size := by omega
        have k4_3 : w.heap.size + 1 + 1 + 1 < w4.heap.size := by omega
        have k4_4 : w.heap.size + 1 + 1 + 1 + 1 < w4.heap.size := by omega
        go_wp2_with (fail)
        refine ret_cell_tmp agg27 rfl rfl (c := pic 144 0 0 fun _ => 0) (t := 27) (fr := (0, 0)) (by go_simp) size_pic rfl ⟨rfl, ?_⟩
        repeat' (first | exact New.refl _ | refine New.alloc ?_ _ | refine New.drew ?_ | refine New.drewN ?_ _ | refine New.setRow ?_ (by omega) _ | refine New.setCell ?_ (by first | omega | (simp; done) | (simp; omega)) _ | refine New.trans ?_ hn4 | refine New.trans ?_ hn3 | refine New.trans ?_ hn2 | refine New.trans ?_ hn1)
  · cases h3 : inB x (-12) 12
    · go_enter Tryd.func20, Tryd.ntmps20
      go_wp2_with (fail)
      refine wp_region_new (by kernel_rfl) (by kernel_rfl) ?_
      repeat (go_big_quiet_step (first | fail | (go_at_call 12; with_reducible exact calls_new (valid_v a b f ha hb hf _ h1 _)) | (go_at_call 12; with_reducible exact calls_new (valid_v c d g hc hd hg _ h2 _)) | (go_at_call 46; with_reducible exact calls_new (within_v x _ _ _ h3 _)) | (go_at_call 46; with_reducible exact calls_new (within_v y _ _ _ h4 _)) | (go_at_call 45; with_reducible exact calls_new (new_same (codeOf_any _ _ _)))))
      refine wpQuiet_nil ?_
      intro w5 hc5
      have hn5 := NewW.of hc5
      clear hc5
      have ho5 := hn5.objs
      have hz5 := hn5.le
      try simp at hz5
      have k5_0 : w.heap.size < w5.heap.size := by omega
      have k5_1 : w.heap.size + 1 < w5.heap.size := by omega
      have k5_2 : w.heap.size + 1 + 1 < w5.heap.size := by omega
      have k5_3 : w.heap.size + 1 + 1 + 1 < w5.heap.size := by omega
      have k5_4 : w.heap.size + 1 + 1 + 1 + 1 < w5.heap.size := by omega
      go_wp2_with (fail)
      refine ret_cell_tmp agg27 rfl rfl (c := pic 144 0 0 fun _ => 0) (t := 27) (fr := (0, 0)) (by go_simp) size_pic rfl ⟨rfl, ?_⟩
      repeat' (first | exact New.refl _ | refine New.alloc ?_ _ | refine New.drew ?_ | refine New.drewN ?_ _ | refine New.setRow ?_ (by omega) _ | refine New.setCell ?_ (by first | omega | (simp; done) | (simp; omega)) _ | refine New.trans ?_ hn5 | refine New.trans ?_ hn4 | refine New.trans ?_ hn3 | refine New.trans ?_ hn2 | refine New.trans ?_ hn1)
    · cases h4 : inB y (-12) 12
      all_goals
        go_enter Tryd.func20, Tryd.ntmps20
        go_wp2_with (fail)
        refine wp_region_new (by kernel_rfl) (by kernel_rfl) ?_
        repeat (go_big_quiet_step (first | fail | (go_at_call 12; with_reducible exact calls_new (valid_v a b f ha hb hf _ h1 _)) | (go_at_call 12; with_reducible exact calls_new (valid_v c d g hc hd hg _ h2 _)) | (go_at_call 46; with_reducible exact calls_new (within_v x _ _ _ h3 _)) | (go_at_call 46; with_reducible exact calls_new (within_v y _ _ _ h4 _)) | (go_at_call 45; with_reducible exact calls_new (new_same (codeOf_any _ _ _)))))
        refine wpQuiet_nil ?_
        intro w6 hc6
        have hn6 := NewW.of hc6
        clear hc6
        have ho6 := hn6.objs
        have hz6 := hn6.le
        try simp at hz6
        have k6_0 : w.heap.size < w6.heap.size := by omega
        have k6_1 : w.heap.size + 1 < w6.heap.size := by omega
        have k6_2 : w.heap.size + 1 + 1 < w6.heap.size := by omega
        have k6_3 : w.heap.size + 1 + 1 + 1 < w6.heap.size := by omega
        have k6_4 : w.heap.size + 1 + 1 + 1 + 1 < w6.heap.size := by omega
        go_wp2_with (fail)
        refine ret_cell_tmp agg27 rfl rfl (c := pic 144 0 0 fun _ => 0) (t := 27) (fr := (0, 0)) (by go_simp) size_pic rfl ⟨rfl, ?_⟩
        repeat' (first | exact New.refl _ | refine New.alloc ?_ _ | refine New.drew ?_ | refine New.drewN ?_ _ | refine New.setRow ?_ (by omega) _ | refine New.setCell ?_ (by first | omega | (simp; done) | (simp; omega)) _ | refine New.trans ?_ hn6 | refine New.trans ?_ hn5 | refine New.trans ?_ hn4 | refine New.trans ?_ hn3 | refine New.trans ?_ hn2 | refine New.trans ?_ hn1)
  have gd := okPic_dims h1
  have ge := okPic_dims h2
  have g3 := inB_t.1 h3
  have g4 := inB_t.1 h4
  go_enter Tryd.func20, Tryd.ntmps20
  go_wp2_with (fail)
  refine wp_region_new (by kernel_rfl) (by kernel_rfl) ?_
  repeat (go_big_quiet_step (first | fail | (go_at_call 12; with_reducible exact calls_new (valid_v a b f ha hb hf _ h1 _)) | (go_at_call 12; with_reducible exact calls_new (valid_v c d g hc hd hg _ h2 _)) | (go_at_call 46; with_reducible exact calls_new (within_v x _ _ _ h3 _)) | (go_at_call 46; with_reducible exact calls_new (within_v y _ _ _ h4 _)) | (go_at_call 45; with_reducible exact calls_new (new_same (codeOf_any _ _ _)))))
  refine wpQuiet_nil ?_
  intro w7 hc7
  have hn7 := NewW.of hc7
  clear hc7
  have ho7 := hn7.objs
  have hz7 := hn7.le
  try simp at hz7
  have k7_0 : w.heap.size < w7.heap.size := by omega
  have k7_1 : w.heap.size + 1 < w7.heap.size := by omega
  have k7_2 : w.heap.size + 1 + 1 < w7.heap.size := by omega
  have k7_3 : w.heap.size + 1 + 1 + 1 < w7.heap.size := by omega
  have k7_4 : w.heap.size + 1 + 1 + 1 + 1 < w7.heap.size := by omega
  go_wp2_with (fail)
  refine (size_any a b f ha hb _).mono ?_
  rintro e8 w8 ⟨rfl, hn8⟩
  have ho8 := hn8.objs
  have hz8 := hn8.le
  try simp at hz8
  have k8_0 : w.heap.size < w8.heap.size := by omega
  have k8_1 : w.heap.size + 1 < w8.heap.size := by omega
  have k8_2 : w.heap.size + 1 + 1 < w8.heap.size := by omega
  have k8_3 : w.heap.size + 1 + 1 + 1 < w8.heap.size := by omega
  have k8_4 : w.heap.size + 1 + 1 + 1 + 1 < w8.heap.size := by omega
  go_wp2_with (fail)
  refine (painted_any a b (by omega) (by omega) 52 _ (pasH f c d g x y) _ (enters Tryd.func52 (by kernel_rfl) rfl) (fun W u v hW hu hv => ?_)).mono ?_
  · refine pas_fn (w.heap.size + 1) (w.heap.size + 1 + 1) (w.heap.size + 1 + 1 + 1) w.heap.size 27 2 2 27 a b f c d g hg (by omega) (by omega) x y (by omega) (by omega) u v (by omega) (by omega) W ?_ ?_ ?_ ?_ ?_ ?_ ?_ ?_ <;> first | (have := hW.le; omega) | (rw [hW.objs _ (by omega)]; go_simp)
  rintro e3 w3 ⟨rfl, hn3⟩
  have ho3 := hn3.objs
  have hz3 := hn3.le
  try simp at hz3
  have k3 : w.heap.size + 1 + 1 + 1 + 1 < w3.heap.size := by omega
  go_wp2_with (fail)
  refine ret_cell_tmp agg27 rfl rfl (c := pic 144 a b (paint a b (pasH f c d g x y))) (t := 27) (fr := (0, 0)) (by go_simp) size_pic rfl ⟨rfl, ?_⟩
  refine New.setRow (New.trans ?_ hn3) (by omega) _
  repeat' (first | exact New.refl _ | refine New.alloc ?_ _ | refine New.drew ?_ | refine New.drewN ?_ _ | refine New.setRow ?_ (by omega) _ | refine New.setCell ?_ (by first | omega | (simp; done) | (simp; omega)) _ | refine New.trans ?_ hn8 | refine New.trans ?_ hn7 | refine New.trans ?_ hn6 | refine New.trans ?_ hn5 | refine New.trans ?_ hn4 | refine New.trans ?_ hn3 | refine New.trans ?_ hn2 | refine New.trans ?_ hn1)
end Go.Proofs.YtomfjicjejoakaaDoor
