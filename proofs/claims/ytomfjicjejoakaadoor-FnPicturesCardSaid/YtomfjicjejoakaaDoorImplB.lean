/- The program's plain pictures and parts of pictures; no condition. -/
import Derived.Test.YtomfjicjejoakaaDoorU5
set_option linter.unusedVariables false
namespace Go.Proofs.YtomfjicjejoakaaDoor
open Go.BigFrame
open Go.RowKit Go.Arr
set_option maxHeartbeats 2000000 in
set_option maxRecDepth 100000 in
theorem cut_fn (gp gx gy : Nat) (t1 t2 t3 : TypeId) (a b : Int) (f : Nat → Int) (x y : Int) (hx : 0 ≤ x ∧ x ≤ 12) (hy : 0 ≤ y ∧ y ≤ 12) (u v : Nat) (hu : (u : Int) + x < 12) (hv : (v : Int) + y < 12) (w : World)
    (hp : obj w gp = some (.cells (pic 144 a b f) t1)) (h1 : obj w gx = some (.cells #[.int .i64 x] t2)) (h2 : obj w gy = some (.cells #[.int .i64 y] t3)) :
    Calls Tryd.prog 48 #[.int .i64 u, .int .i64 v, .pointer (some ⟨gp, 0, none⟩), .pointer (some ⟨gx, 0, none⟩), .pointer (some ⟨gy, 0, none⟩)] w fun e w' => e = .returned (.int .u8 (cutH f x y u v)) ∧ New w w' := by
  go_enter Tryd.func48, Tryd.ntmps48
  go_wp2_with (fail)
  refine (at_any a b f _ _ (by omega) (by omega) (by omega) _).mono ?_
  rintro e w1 ⟨rfl, hn1⟩
  go_wp2_with (fail)
  go_ret
  exact ⟨rfl, hn1⟩
set_option maxHeartbeats 2000000 in
set_option maxRecDepth 100000 in
theorem cut_impl (a b : Int) (f : Nat → Int) (x y c d : Int) (ha : -128 ≤ a ∧ a ≤ 127) (hb : -128 ≤ b ∧ b ≤ 127) (hf : ∀ i, 0 ≤ f i ∧ f i ≤ 255) (w : World) :
    Calls Tryd.prog 18 #[.agg (pic 144 a b f), .int .i64 x, .int .i64 y, .int .i64 c, .int .i64 d] w fun e w' => e = .returned (.tuple #[.agg (pic 144 (cutA a b f x y c d).w (cutA a b f x y c d).h (cutA a b f x y c d).f), .int .i64 (cutA a b f x y c d).c]) ∧ New w w' := by
  have gsz := size_any a b f ha hb
  rcases cut_cases a b f x y c d with ⟨h1, h2, h3, h4, hA, h5⟩ | ⟨h1, h2, h3, h4, hA, h5⟩ | ⟨h1, h2, h3, hA, h5⟩ | ⟨h1, h2, hA, h5⟩ | ⟨h1, hA, h5⟩
  rotate_left
  all_goals rw [hA]
  all_goals clear hA h5
  · have gc := isCellB_t h2
    go_enter Tryd.func18, Tryd.ntmps18
    go_wp2_with (fail)
    refine (size_any a b f ha hb _).mono ?_
    rintro e1 w1 ⟨rfl, hn1⟩
    have ho1 := hn1.objs
    have hz1 := hn1.le
    try simp at hz1
    have k1_0 : w.heap.size < w1.heap.size := by omega
    have k1_1 : w.heap.size + 1 < w1.heap.size := by omega
    have k1_2 : w.heap.size + 1 + 1 < w1.heap.size := by omega
    have k1_3 : w.heap.size + 1 + 1 + 1 < w1.heap.size := by omega
    go_wp2_with (fail)
    refine wp_region_new (by kernel_rfl) (by kernel_rfl) ?_
    repeat (go_big_quiet_step (first | fail | (go_at_call 12; with_reducible exact calls_new (valid_v a b f ha hb hf _ h1 _)) | (go_at_call 41; with_reducible exact calls_new (has_v a b f x y ha hb _ h2 _)) | (go_at_call 45; with_reducible exact calls_new (new_same (codeOf_any _ _ _))) | (go_at_call 46; with_reducible exact calls_new (within_v _ _ _ _ h3 _)) | (go_at_call 46; with_reducible exact calls_new (within_v _ _ _ _ h4 _))))
    refine wpQuiet_nil ?_
    intro w2 hc2
    have hn2 := NewW.of hc2
    clear hc2
    have ho2 := hn2.objs
    have hz2 := hn2.le
    try simp at hz2
    have k2_0 : w.heap.size < w2.heap.size := by omega
    have k2_1 : w.heap.size + 1 < w2.heap.size := by omega
    have k2_2 : w.heap.size + 1 + 1 < w2.heap.size := by omega
    have k2_3 : w.heap.size + 1 + 1 + 1 < w2.heap.size := by omega
    go_wp2_with (fail)
    refine ret_cell_tmp agg27 rfl rfl (c := pic 144 0 0 fun _ => 0) (t := 27) (fr := (0, 0)) (by go_simp) size_pic rfl ⟨rfl, ?_⟩
    repeat' (first | exact New.refl _ | refine New.alloc ?_ _ | refine New.drew ?_ | refine New.drewN ?_ _ | refine New.setRow ?_ (by omega) _ | refine New.setCell ?_ (by first | omega | (simp; done) | (simp; omega)) _ | refine New.trans ?_ hn2 | refine New.trans ?_ hn1)
  · have gc := isCellB_t h2
    go_enter Tryd.func18, Tryd.ntmps18
    go_wp2_with (fail)
    refine (size_any a b f ha hb _).mono ?_
    rintro e3 w3 ⟨rfl, hn3⟩
    have ho3 := hn3.objs
    have hz3 := hn3.le
    try simp at hz3
    have k3_0 : w.heap.size < w3.heap.size := by omega
    have k3_1 : w.heap.size + 1 < w3.heap.size := by omega
    have k3_2 : w.heap.size + 1 + 1 < w3.heap.size := by omega
    have k3_3 : w.heap.size + 1 + 1 + 1 < w3.heap.size := by omega
    go_wp2_with (fail)
    refine wp_region_new (by kernel_rfl) (by kernel_rfl) ?_
    repeat (go_big_quiet_step (first | fail | (go_at_call 12; with_reducible exact calls_new (valid_v a b f ha hb hf _ h1 _)) | (go_at_call 41; with_reducible exact calls_new (has_v a b f x y ha hb _ h2 _)) | (go_at_call 45; with_reducible exact calls_new (new_same (codeOf_any _ _ _))) | (go_at_call 46; with_reducible exact calls_new (within_v _ _ _ _ h3 _)) | (go_at_call 46; with_reducible exact calls_new (within_v _ _ _ _ h4 _))))
    refine wpQuiet_nil ?_
    intro w4 hc4
    have hn4 := NewW.of hc4
    clear hc4
    have ho4 := hn4.objs
    have hz4 := hn4.le
    try simp at hz4
    have k4_0 : w.heap.size < w4.heap.size := by omega
    have k4_1 : w.heap.size + 1 < w4.heap.size := by omega
    have k4_2 : w.heap.size + 1 + 1 < w4.heap.size := by omega
    have k4_3 : w.heap.size + 1 + 1 + 1 < w4.heap.size := by omega
    go_wp2_with (fail)
    refine ret_cell_tmp agg27 rfl rfl (c := pic 144 0 0 fun _ => 0) (t := 27) (fr := (0, 0)) (by go_simp) size_pic rfl ⟨rfl, ?_⟩
    repeat' (first | exact New.refl _ | refine New.alloc ?_ _ | refine New.drew ?_ | refine New.drewN ?_ _ | refine New.setRow ?_ (by omega) _ | refine New.setCell ?_ (by first | omega | (simp; done) | (simp; omega)) _ | refine New.trans ?_ hn4 | refine New.trans ?_ hn3 | refine New.trans ?_ hn2 | refine New.trans ?_ hn1)
  · go_enter Tryd.func18, Tryd.ntmps18
    go_wp2_with (fail)
    refine (size_any a b f ha hb _).mono ?_
    rintro e5 w5 ⟨rfl, hn5⟩
    have ho5 := hn5.objs
    have hz5 := hn5.le
    try simp at hz5
    have k5_0 : w.heap.size < w5.heap.size := by omega
    have k5_1 : w.heap.size + 1 < w5.heap.size := by omega
    have k5_2 : w.heap.size + 1 + 1 < w5.heap.size := by omega
    have k5_3 : w.heap.size + 1 + 1 + 1 < w5.heap.size := by omega
    go_wp2_with (fail)
    refine wp_region_new (by kernel_rfl) (by kernel_rfl) ?_
    repeat (go_big_quiet_step (first | fail | (go_at_call 12; with_reducible exact calls_new (valid_v a b f ha hb hf _ h1 _)) | (go_at_call 41; with_reducible exact calls_new (has_v a b f x y ha hb _ h2 _)) | (go_at_call 45; with_reducible exact calls_new (new_same (codeOf_any _ _ _))) | (go_at_call 46; with_reducible exact calls_new (within_v _ _ _ _ h3 _)) | (go_at_call 46; with_reducible exact calls_new (within_v _ _ _ _ h4 _))))
    refine wpQuiet_nil ?_
    intro w6 hc6
    have hn6 := NewW.of hc6
    clear hc6
    have ho6 := hn6.objs
    have hz6 := hn6.le
    try simp at hz6
    have k6_0 : w.heap.size < w6.heap.size := by omega
    have k6_1 : w.heap.size + 1 < w6.heap.size := by omega
    have k6_2 : w.heap.size + 1 + 1 < w6.heap.size := by omega
    have k6_3 : w.heap.size + 1 + 1 + 1 < w6.heap.size := by omega
    go_wp2_with (fail)
    refine ret_cell_tmp agg27 rfl rfl (c := pic 144 0 0 fun _ => 0) (t := 27) (fr := (0, 0)) (by go_simp) size_pic rfl ⟨rfl, ?_⟩
    repeat' (first | exact New.refl _ | refine New.alloc ?_ _ | refine New.drew ?_ | refine New.drewN ?_ _ | refine New.setRow ?_ (by omega) _ | refine New.setCell ?_ (by first | omega | (simp; done) | (simp; omega)) _ | refine New.trans ?_ hn6 | refine New.trans ?_ hn5 | refine New.trans ?_ hn4 | refine New.trans ?_ hn3 | refine New.trans ?_ hn2 | refine New.trans ?_ hn1)
  · cases h2 : isCellB x y a b
    · go_enter Tryd.func18, Tryd.ntmps18
      go_wp2_with (fail)
      refine (size_any a b f ha hb _).mono ?_
      rintro e7 w7 ⟨rfl, hn7⟩
      have ho7 := hn7.objs
      have hz7 := hn7.le
      try simp at hz7
      have k7_0 : w.heap.size < w7.heap.size := by omega
      have k7_1 : w.heap.size + 1 < w7.heap.size := by omega
      have k7_2 : w.heap.size + 1 + 1 < w7.heap.size := by omega
      have k7_3 : w.heap.size + 1 + 1 + 1 < w7.heap.size := by omega
      go_wp2_with (fail)
      refine wp_region_new (by kernel_rfl) (by kernel_rfl) ?_
      repeat (go_big_quiet_step (first | fail | (go_at_call 12; with_reducible exact calls_new (valid_v a b f ha hb hf _ h1 _)) | (go_at_call 41; with_reducible exact calls_new (has_v a b f x y ha hb _ h2 _)) | (go_at_call 45; with_reducible exact calls_new (new_same (codeOf_any _ _ _))) | (go_at_call 46; with_reducible exact calls_new (within_v _ _ _ _ h3 _)) | (go_at_call 46; with_reducible exact calls_new (within_v _ _ _ _ h4 _))))
      refine wpQuiet_nil ?_
      intro w8 hc8
      have hn8 := NewW.of hc8
      clear hc8
      have ho8 := hn8.objs
      have hz8 := hn8.le
      try simp at hz8
      have k8_0 : w.heap.size < w8.heap.size := by omega
      have k8_1 : w.heap.size + 1 < w8.heap.size := by omega
      have k8_2 : w.heap.size + 1 + 1 < w8.heap.size := by omega
      have k8_3 : w.heap.size + 1 + 1 + 1 < w8.heap.size := by omega
      go_wp2_with (fail)
      refine ret_cell_tmp agg27 rfl rfl (c := pic 144 0 0 fun _ => 0) (t := 27) (fr := (0, 0)) (by go_simp) size_pic rfl ⟨rfl, ?_⟩
      repeat' (first | exact New.refl _ | refine New.alloc ?_ _ | refine New.drew ?_ | refine New.drewN ?_ _ | refine New.setRow ?_ (by omega) _ | refine New.setCell ?_ (by first | omega | (simp; done) | (simp; omega)) _ | refine New.trans ?_ hn8 | refine New.trans ?_ hn7 | refine New.trans ?_ hn6 | refine New.trans ?_ hn5 | refine New.trans ?_ hn4 | refine New.trans ?_ hn3 | refine New.trans ?_ hn2 | refine New.trans ?_ hn1)
    · have gc := isCellB_t h2
      cases h3 : inB c 1 (a - x)
      · go_enter Tryd.func18, Tryd.ntmps18
        go_wp2_with (fail)
        refine (size_any a b f ha hb _).mono ?_
        rintro e9 w9 ⟨rfl, hn9⟩
        have ho9 := hn9.objs
        have hz9 := hn9.le
        try simp at hz9
        have k9_0 : w.heap.size < w9.heap.size := by omega
        have k9_1 : w.heap.size + 1 < w9.heap.size := by omega
        have k9_2 : w.heap.size + 1 + 1 < w9.heap.size := by omega
        have k9_3 : w.heap.size + 1 + 1 + 1 < w9.heap.size := by omega
        go_wp2_with (fail)
        refine wp_region_new (by kernel_rfl) (by kernel_rfl) ?_
        repeat (go_big_quiet_step (first | fail | (go_at_call 12; with_reducible exact calls_new (valid_v a b f ha hb hf _ h1 _)) | (go_at_call 41; with_reducible exact calls_new (has_v a b f x y ha hb _ h2 _)) | (go_at_call 45; with_reducible exact calls_new (new_same (codeOf_any _ _ _))) | (go_at_call 46; with_reducible exact calls_new (within_v _ _ _ _ h3 _)) | (go_at_call 46; with_reducible exact calls_new (within_v _ _ _ _ h4 _))))
        refine wpQuiet_nil ?_
        intro w10 hc10
        have hn10 := NewW.of hc10
        clear hc10
        have ho10 := hn10.objs
        have hz10 := hn10.le
        try simp at hz10
        have k10_0 : w.heap.size < w10.heap.size := by omega
        have k10_1 : w.heap.size + 1 < w10.heap.size := by omega
        have k10_2 : w.heap.size + 1 + 1 < w10.heap.size := by omega
        have k10_3 : w.heap.size + 1 + 1 + 1 < w10.heap.size := by omega
        go_wp2_with (fail)
        refine ret_cell_tmp agg27 rfl rfl (c := pic 144 0 0 fun _ => 0) (t := 27) (fr := (0, 0)) (by go_simp) size_pic rfl ⟨rfl, ?_⟩
        repeat' (first | exact New.refl _ | refine New.alloc ?_ _ | refine New.drew ?_ | refine New.drewN ?_ _ | refine New.setRow ?_ (by omega) _ | refine New.setCell ?_ (by first | omega | (simp; done) | (simp; omega)) _ | refine New.trans ?_ hn10 | refine New.trans ?_ hn9 | refine New.trans ?_ hn8 | refine New.trans ?_ hn7 | refine New.trans ?_ hn6 | refine New.trans ?_ hn5 | refine New.trans ?_ hn4 | refine New.trans ?_ hn3 | refine New.trans ?_ hn2 | refine New.trans ?_ hn1)
      · cases h4 : inB d 1 (b - y)
        all_goals
          go_enter Tryd.func18, Tryd.ntmps18
          go_wp2_with (fail)
          refine (size_any a b f ha hb _).mono ?_
          rintro e11 w11 ⟨rfl, hn11⟩
          have ho11 := hn11.objs
          have hz11 := hn11.le
          try simp at hz11
          have k11_0 : w.heap.size < w11.heap.size := by omega
          have k11_1 : w.heap.size + 1 < w11.heap.size := by omega
          have k11_2 : w.heap.size + 1 + 1 < w11.heap.size := by omega
          have k11_3 : w.heap.size + 1 + 1 + 1 < w11.heap.size := by omega
          go_wp2_with (fail)
          refine wp_region_new (by kernel_rfl) (by kernel_rfl) ?_
          repeat (go_big_quiet_step (first | fail | (go_at_call 12; with_reducible exact calls_new (valid_v a b f ha hb hf _ h1 _)) | (go_at_call 41; with_reducible exact calls_new (has_v a b f x y ha hb _ h2 _)) | (go_at_call 45; with_reducible exact calls_new (new_same (codeOf_any _ _ _))) | (go_at_call 46; with_reducible exact calls_new (within_v _ _ _ _ h3 _)) | (go_at_call 46; with_reducible exact calls_new (within_v _ _ _ _ h4 _))))
          refine wpQuiet_nil ?_
          intro w12 hc12
          have hn12 := NewW.of hc12
          clear hc12
          have ho12 := hn12.objs
          have hz12 := hn12.le
          try simp at hz12
          have k12_0 : w.heap.size < w12.heap.size := by omega
          have k12_1 : w.heap.size + 1 < w12.heap.size := by omega
          have k12_2 : w.heap.size + 1 + 1 < w12.heap.size := by omega
          have k12_3 : w.heap.size + 1 + 1 + 1 < w12.heap.size := by omega
          go_wp2_with (fail)
          refine ret_cell_tmp agg27 rfl rfl (c := pic 144 0 0 fun _ => 0) (t := 27) (fr := (0, 0)) (by go_simp) size_pic rfl ⟨rfl, ?_⟩
          repeat' (first | exact New.refl _ | refine New.alloc ?_ _ | refine New.drew ?_ | refine New.drewN ?_ _ | refine New.setRow ?_ (by omega) _ | refine New.setCell ?_ (by first | omega | (simp; done) | (simp; omega)) _ | refine New.trans ?_ hn12 | refine New.trans ?_ hn11 | refine New.trans ?_ hn10 | refine New.trans ?_ hn9 | refine New.trans ?_ hn8 | refine New.trans ?_ hn7 | refine New.trans ?_ hn6 | refine New.trans ?_ hn5 | refine New.trans ?_ hn4 | refine New.trans ?_ hn3 | refine New.trans ?_ hn2 | refine New.trans ?_ hn1)
  have gd := okPic_dims h1
  have gc := isCellB_t h2
  have gw := inB_t.1 h3
  have gh := inB_t.1 h4
  go_enter Tryd.func18, Tryd.ntmps18
  go_wp2_with (fail)
  refine (size_any a b f ha hb _).mono ?_
  rintro e13 w13 ⟨rfl, hn13⟩
  have ho13 := hn13.objs
  have hz13 := hn13.le
  try simp at hz13
  have k13_0 : w.heap.size < w13.heap.size := by omega
  have k13_1 : w.heap.size + 1 < w13.heap.size := by omega
  have k13_2 : w.heap.size + 1 + 1 < w13.heap.size := by omega
  have k13_3 : w.heap.size + 1 + 1 + 1 < w13.heap.size := by omega
  go_wp2_with (fail)
  refine wp_region_new (by kernel_rfl) (by kernel_rfl) ?_
  repeat (go_big_quiet_step (first | fail | (go_at_call 12; with_reducible exact calls_new (valid_v a b f ha hb hf _ h1 _)) | (go_at_call 41; with_reducible exact calls_new (has_v a b f x y ha hb _ h2 _)) | (go_at_call 45; with_reducible exact calls_new (new_same (codeOf_any _ _ _))) | (go_at_call 46; with_reducible exact calls_new (within_v _ _ _ _ h3 _)) | (go_at_call 46; with_reducible exact calls_new (within_v _ _ _ _ h4 _))))
  refine wpQuiet_nil ?_
  intro w14 hc14
  have hn14 := NewW.of hc14
  clear hc14
  have ho14 := hn14.objs
  have hz14 := hn14.le
  try simp at hz14
  have k14_0 : w.heap.size < w14.heap.size := by omega
  have k14_1 : w.heap.size + 1 < w14.heap.size := by omega
  have k14_2 : w.heap.size + 1 + 1 < w14.heap.size := by omega
  have k14_3 : w.heap.size + 1 + 1 + 1 < w14.heap.size := by omega
  go_wp2_with (fail)
  refine (painted_any c d (by omega) (by omega) 48 _ (cutH f x y) _ (enters Tryd.func48 (by kernel_rfl) rfl) (fun W u v hW hu hv => ?_)).mono ?_
  · refine cut_fn w.heap.size (w.heap.size + 1) (w.heap.size + 1 + 1) 27 2 2 a b f _ _ (by omega) (by omega) u v (by omega) (by omega) W ?_ ?_ ?_ <;> (rw [hW.objs _ (by omega)]; go_simp)
  rintro e3 w3 ⟨rfl, hn3⟩
  have ho3 := hn3.objs
  have hz3 := hn3.le
  try simp at hz3
  have k3 : w.heap.size + 1 + 1 + 1 < w3.heap.size := by omega
  go_wp2_with (fail)
  refine ret_cell_tmp agg27 rfl rfl (c := pic 144 c d (paint c d (cutH f x y))) (t := 27) (fr := (0, 0)) (by go_simp) size_pic rfl ⟨rfl, ?_⟩
  refine New.setRow (New.trans ?_ hn3) (by omega) _
  repeat' (first | exact New.refl _ | refine New.alloc ?_ _ | refine New.drew ?_ | refine New.drewN ?_ _ | refine New.setRow ?_ (by omega) _ | refine New.setCell ?_ (by first | omega | (simp; done) | (simp; omega)) _ | refine New.trans ?_ hn14 | refine New.trans ?_ hn13 | refine New.trans ?_ hn12 | refine New.trans ?_ hn11 | refine New.trans ?_ hn10 | refine New.trans ?_ hn9 | refine New.trans ?_ hn8 | refine New.trans ?_ hn7 | refine New.trans ?_ hn6 | refine New.trans ?_ hn5 | refine New.trans ?_ hn4 | refine New.trans ?_ hn3 | refine New.trans ?_ hn2 | refine New.trans ?_ hn1)
end Go.Proofs.YtomfjicjejoakaaDoor
