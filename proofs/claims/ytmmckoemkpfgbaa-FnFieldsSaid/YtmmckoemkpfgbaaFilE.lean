/- A field that is filled: the reference and the program answer alike; no condition. -/
import Derived.Test.YtmmckoemkpfgbaaFldE
import Derived.Test.YtmmckoemkpfgbaaWithCol
set_option linter.unusedVariables false
namespace Go.Proofs.Ytmmckoemkpfgbaa
open Go.BigFrame
open Go.RowKit Go.Arr
def fillS (Q : List Nat) (c : Int) (f : Nat → Int) : Nat → Nat → Int := recS (fun q i => upd q i c) f (inF Q)
theorem fillT (Q : List Nat) (c : Int) (f : Nat → Int) : recT (fun q i => upd q i c) f (selG (inF Q) 144) (selN (inF Q) 144) = fillS Q c f 144 := rec_eq (Nat.le_refl _)
def fillA (a b : Int) (f : Nat → Int) (x y c : Int) : PicAns := if codeB (okPic a b f) (withQ a b x y c) = 0 then ⟨0, a, b, fillS (fQ a b f x y) c f 144⟩ else noPic (codeB (okPic a b f) (withQ a b x y c))
theorem fill_cases (a b : Int) (f : Nat → Int) (x y c : Int) :
    (okPic a b f = true ∧ isCellB x y a b = true ∧ inB c 0 15 = true ∧ fillA a b f x y c = ⟨0, a, b, fillS (fQ a b f x y) c f 144⟩ ∧ codeB (okPic a b f) (isCellB x y a b) = 0) ∨
    (isCellB x y a b = true ∧ inB c 0 15 = false ∧ fillA a b f x y c = noPic 2 ∧ codeB (okPic a b f) (isCellB x y a b) = 0 ∧ okPic a b f = true) ∨
    (fillA a b f x y c = noPic 1 ∧ codeB (okPic a b f) (isCellB x y a b) = 1 ∧ okPic a b f = false) ∨
    (fillA a b f x y c = noPic 2 ∧ codeB (okPic a b f) (isCellB x y a b) = 2 ∧ okPic a b f = true ∧ isCellB x y a b = false) := by
  unfold fillA withQ
  cases okPic a b f <;> cases isCellB x y a b <;> cases inB c 0 15 <;> simp [codeB]
set_option maxHeartbeats 2000000 in
set_option maxRecDepth 100000 in
theorem fill_spec (a b : Int) (f : Nat → Int) (x y c : Int) (ha : -128 ≤ a ∧ a ≤ 127) (hb : -128 ≤ b ∧ b ≤ 127) (hf : ∀ i, 0 ≤ f i ∧ f i ≤ 255) (w : World) :
    Calls Try.prog 15 #[.agg (pic 144 a b f), .int .i64 x, .int .i64 y, .int .i64 c] w fun e w' => e = .returned (.tuple #[.agg (pic 144 (fillA a b f x y c).w (fillA a b f x y c).h (fillA a b f x y c).f), .int .i64 (fillA a b f x y c).c]) ∧ New w w' := by
  rcases fill_cases a b f x y c with ⟨h1, h2, h3, hA, h5⟩ | ⟨h2, h3, hA, h5, h1⟩ | ⟨hA, h5, h1⟩ | ⟨hA, h5, h1, h2⟩
  · obtain ⟨hd, hx, hy, he, hcell⟩ := place_cell h1 h2
    have hi := inB_t.1 h3
    have hfq : Hid (fldQ a b f (x + 12 * y).toNat = fQ a b f x y) := rfl
    generalize (x + 12 * y).toNat = c0 at he hcell hfq
    clear h1 h2
    rw [hA]
    clear hA
    generalize fQ a b f x y = Q at hfq ⊢
    go_enter Try.func15, Try.ntmps15
    go_wp2_with (fail)
    generalize hw0 : (w.alloc (Obj.cells (pic 144 a b f) 27)).alloc (Obj.cells (pic 144 0 0 fun _ => 0) 27) = w0
    have b1 : obj w0 w.heap.size = some (.cells (pic 144 a b f) 27) := by subst hw0; go_simp
    have b2 : obj w0 (w.heap.size + 1) = some (.cells (pic 144 0 0 fun _ => 0) 27) := by subst hw0; go_simp
    have hn0 : New w w0 := by subst hw0; exact ((New.refl w).alloc _).alloc _
    clear hw0
    refine (l01Place_any _ 27 a b f x y ha hb hf _ b1).mono ?_
    rintro e w1 ⟨rfl, hw1⟩
    subst hw1
    rw [h5]
    go_wp2_with (go_at_call 37; refine (l01Colour_any _ _).mono ?_; rintro e w' ⟨rfl, hw'⟩; subst hw')
    refine (l01Field_any _ 27 a b f ⟨by omega, by omega⟩ ⟨by omega, by omega⟩ hf c0 hcell _ b1).mono ?_
    rintro e w2 ⟨rfl, hn2⟩
    rw [hfq.out]
    have c1 := (hn2.objs _ (obj_lt b1)).trans b1
    have c2 := (hn2.objs _ (obj_lt b2)).trans b2
    have hN2 := hn0.trans hn2
    clear b1 b2 hn0 hn2 hfq h3
    go_wp2_with (fail)
    generalize hw3 : w2.alloc (Obj.cells (brr 144 (inF Q)) 62) = w3
    have hn3 : New w2 w3 := by subst hw3; exact (New.refl _).alloc _
    have d1 := (hn3.objs _ (obj_lt c1)).trans c1
    have d2 := (hn3.objs _ (obj_lt c2)).trans c2
    have d3 : obj w3 w2.heap.size = some (.cells (brr 144 (inF Q)) 62) := by subst hw3; exact obj_alloc_at _ _ _ rfl
    have hN3 : New w w3 := hN2.trans hn3
    have hz : w.heap.size + 1 < w2.heap.size := obj_lt c2
    have hz3 := obj_lt d3
    clear hw3 c1 c2
    go_loopw [12] (fun i wr => ∃ k : Nat, k ≤ 144 ∧ i = .int .i64 k ∧ Hid (obj wr w.heap.size = some (.cells (pic 144 a b (fillS Q c f k)) 27)) ∧ Hid (∀ b, b ≠ w.heap.size → b < w3.heap.size → obj wr b = obj w3 b) ∧ New w wr ∧ w3.heap.size ≤ wr.heap.size) (fun i _ => 144 - (intOf i).toNat)
    case atStart => exact ⟨0, by omega, rfl, d1, fun _ _ _ => rfl, hN3, Nat.le_refl _⟩
    case round =>
      obtain ⟨k, hk, rfl, ho1, hot, hnw, hlw⟩ := hrel
      have ho := ho1.out
      have q1 := obj_lt ho
      by_cases hlt : k < 144
      · have p3 := (hot.out w2.heap.size (by omega) hz3).trans d3
        have q3 := obj_lt p3
        cases hc : inF Q k
        · have hq : Hid (fillS Q c f (k + 1) = fillS Q c f k) := recS_f hc
          go_wp2_with (fail)
          go_roundw
          case rel => exact ⟨k + 1, by omega, by go_num, by rw [hq.out]; exact ho1, hot, hnw, hlw⟩
          case measure => simp [intOf]; omega
        · have hq : Hid (fillS Q c f (k + 1) = upd (fillS Q c f k) k c) := recS_t hc
          go_wp2_with (fail)
          go_roundw
          case rel =>
            refine ⟨k + 1, by omega, by go_num, ?_, ?_, hnw.setCell (Nat.le_refl _) _, by rw [World.size_setCell]; exact hlw⟩
            · show _ = _
              rw [hq.out]
              exact obj_set_pic ho _ k _ rfl
            · intro b h1 h2
              rw [obj_setCell_other _ _ _ _ _ h1, hot.out b h1 h2]
          case measure => simp [intOf]; omega
      · obtain rfl : k = 144 := by omega
        have u2 := (hot.out (w.heap.size + 1) (by omega) (by omega)).trans d2
        go_wp2_with (fail)
        refine ret_cell_tmp agg27 rfl rfl (c := pic 144 a b (fillS Q c f 144)) (t := 27) (fr := (0, 0)) (by rw [obj_setRow_same, u2]; simp only [Option.map_some, reCells_cells]) size_pic rfl ⟨rfl, hnw.setRow (by omega) _⟩
  all_goals
    (try clear h1)
    (try clear h2)
    rw [hA]
    clear hA
    go_enter Try.func15, Try.ntmps15
    go_wp2_with (fail)
    refine (l01Place_any _ 27 a b f x y ha hb hf _ (by go_simp)).mono ?_
    rintro e w1 ⟨rfl, rfl⟩
    rw [h5]
    go_wp2_with (go_at_call 37; refine (l01Colour_any _ _).mono ?_; rintro e w' ⟨rfl, rfl⟩)
    refine ret_cell_tmp agg27 rfl rfl (c := pic 144 0 0 fun _ => 0) (t := 27) (fr := (0, 0)) (by go_simp) size_pic rfl ⟨rfl, ?_⟩
    repeat' (first | exact New.refl _ | refine New.alloc ?_ _ | refine New.drew ?_ | refine New.drewN ?_ _ | refine New.setRow ?_ (by omega) _ | refine New.setCell ?_ (by first | omega | (simp; done) | (simp; omega)) _)
set_option maxHeartbeats 2000000 in
set_option maxRecDepth 100000 in
theorem fill_impl (a b : Int) (f : Nat → Int) (x y c : Int) (ha : -128 ≤ a ∧ a ≤ 127) (hb : -128 ≤ b ∧ b ≤ 127) (hf : ∀ i, 0 ≤ f i ∧ f i ≤ 255) (w : World) :
    Calls Try.prog 14 #[.agg (pic 144 a b f), .int .i64 x, .int .i64 y, .int .i64 c] w fun e w' => e = .returned (.tuple #[.agg (pic 144 (fillA a b f x y c).w (fillA a b f x y c).h (fillA a b f x y c).f), .int .i64 (fillA a b f x y c).c]) ∧ New w w' := by
  rcases fill_cases a b f x y c with ⟨h1, h2, h3, hA, h5⟩ | ⟨h2, h3, hA, h5, h1⟩ | ⟨hA, h5, h1⟩ | ⟨hA, h5, h1, h2⟩
  · obtain ⟨hd, hx, hy, he, hcell⟩ := place_cell h1 h2
    have hi := inB_t.1 h3
    have hfq : Hid (fldQ a b f (x + 12 * y).toNat = fQ a b f x y) := rfl
    generalize (x + 12 * y).toNat = c0 at he hcell hfq
    have he' := hide he
    clear h5 he
    rw [hA]
    clear hA
    generalize fQ a b f x y = Q at hfq ⊢
    go_enter Try.func14, Try.ntmps14
    go_wp2_with (fail)
    refine wp_region_new (by kernel_rfl) (by kernel_rfl) ?_
    repeat (go_big_quiet_step (first | fail | (go_at_call 25; with_reducible exact calls_new (valid_v a b f ha hb hf _ h1 _)) | (go_at_call 32; with_reducible exact calls_new (has_v a b f x y ha hb _ h2 _)) | (go_at_call 31; with_reducible exact calls_new (new_same (codeOf_any _ _ _))) | (go_at_call 35; with_reducible exact calls_new (isColour_v _ _ h3 _))))
    refine wpQuiet_nil ?_
    intro w1 hc1
    have hn1 := NewW.of hc1
    clear hc1
    have ho1 := hn1.objs
    have hz1 := hn1.le
    try simp at hz1
    have c1 : obj w1 w.heap.size = some (.cells (pic 144 a b f) 27) := (hn1.objs _ (by simp; omega)).trans (by go_simp)
    have c2 : obj w1 (w.heap.size + 1) = some (.cells (pic 144 0 0 fun _ => 0) 27) := (hn1.objs _ (by simp)).trans (by go_simp)
    have hN1 : New w w1 := (((New.refl w).alloc _).alloc _).trans hn1
    clear hn1 ho1 h1 h2 h3
    have r1 := obj_lt c1
    have r2 := obj_lt c2
    go_wp2_with (fail)
    refine (field_any a b f ⟨by omega, by omega⟩ ⟨by omega, by omega⟩ hf c0 x y hx hy he'.out hcell _).mono ?_
    rintro e w3 ⟨v, rfl, hrow, hn3⟩
    rw [hfq.out] at hrow
    have hle := selN_le (p := inF Q) 144
    have hT := hide (fillT Q c f)
    have hsel := hide (selG_lt (p := inF Q) 144)
    have d1 := (hn3.objs _ r1).trans c1
    have d2 := (hn3.objs _ r2).trans c2
    have hN3 := hN1.trans hn3
    have hz3 := hn3.le
    obtain ⟨x1, y1, rfl, _⟩ := hrow.reads
    clear hfq c1 c2 hn3
    go_wp2_with (fail)
    generalize selN (inF Q) 144 = N at hrow hle hT hsel ⊢
    go_loopw [33] (fun i wr => ∃ j : Nat, j ≤ N ∧ i = .int .i64 j ∧ Hid (obj wr w.heap.size = some (.cells (pic 144 a b (recT (fun q i => upd q i c) f (selG (inF Q) 144) j)) 27)) ∧ Hid (∀ b, b ≠ w.heap.size → b < w3.heap.size → obj wr b = obj w3 b) ∧ Row wr w1.heap.size (.slice x1 N y1) N (fun j => (selG (inF Q) 144 j : Int)) ∧ New w wr ∧ w3.heap.size ≤ wr.heap.size) (fun i _ => N - (intOf i).toNat)
    case atStart => exact ⟨0, by omega, rfl, d1, fun _ _ _ => rfl, hrow, hN3, Nat.le_refl _⟩
    case round =>
      obtain ⟨j, hj, rfl, ho1, hot, hrw, hnw, hlw⟩ := hrel
      have ho := ho1.out
      have q1 := obj_lt ho
      by_cases hlt : j < N
      · obtain ⟨hi1, hi2⟩ := hsel.out j hlt
        have hq0 : Hid (recT (fun q i => upd q i c) f (selG (inF Q) 144) (j + 1) = upd (recT (fun q i => upd q i c) f (selG (inF Q) 144) j) (selG (inF Q) 144 j) c) := rfl
        have hbk := hrw.block
        obtain ⟨gl, offl, curl, tl, frl, rfl, ol, hel2⟩ := elInts hrw.sl (by omega)
        obtain ⟨ll, el⟩ := hel2 j hlt
        try dsimp only at el
        have hgl := hbk gl rfl
        generalize selG (inF Q) 144 j = k at hi1 hi2 hq0 el
        have q3 := obj_lt ol
        clear hel2
        go_wp2_with (fail)
        go_roundw
        case rel =>
          refine ⟨j + 1, by omega, by go_num, ?_, ?_, ?_, hnw.setCell (Nat.le_refl _) _, by rw [World.size_setCell]; exact hlw⟩
          · show _ = _
            rw [hq0.out]
            exact obj_set_pic ho _ k _ rfl
          · intro b h1 h2
            rw [obj_setCell_other _ _ _ _ _ h1, hot.out b h1 h2]
          · refine hrw.same fun b hb => ?_
            have := hbk b hb
            rw [obj_setCell_other _ _ _ _ _ (by omega)]
        case measure => simp [intOf]; omega
      · obtain rfl : j = N := by omega
        rw [hT.out] at ho
        have u2 := (hot.out (w.heap.size + 1) (by omega) (by omega)).trans d2
        go_wp2_with (fail)
        refine ret_cell_tmp agg27 rfl rfl (c := pic 144 a b (fillS Q c f 144)) (t := 27) (fr := (0, 0)) (by rw [obj_setRow_same, u2]; simp only [Option.map_some, reCells_cells]) size_pic rfl ⟨rfl, hnw.setRow (by omega) _⟩
  · clear h5
    rw [hA]
    clear hA
    go_enter Try.func14, Try.ntmps14
    go_wp2_with (fail)
    refine wp_region_new (by kernel_rfl) (by kernel_rfl) ?_
    repeat (go_big_quiet_step (first | fail | (go_at_call 25; with_reducible exact calls_new (valid_v a b f ha hb hf _ h1 _)) | (go_at_call 32; with_reducible exact calls_new (has_v a b f x y ha hb _ h2 _)) | (go_at_call 31; with_reducible exact calls_new (new_same (codeOf_any _ _ _))) | (go_at_call 35; with_reducible exact calls_new (isColour_v _ _ h3 _))))
    refine wpQuiet_nil ?_
    intro w2 hc2
    have hn2 := NewW.of hc2
    clear hc2
    have ho2 := hn2.objs
    have hz2 := hn2.le
    try simp at hz2
    have k2_0 : w.heap.size < w2.heap.size := by omega
    have k2_1 : w.heap.size + 1 < w2.heap.size := by omega
    go_wp2_with (fail)
    refine ret_cell_tmp agg27 rfl rfl (c := pic 144 0 0 fun _ => 0) (t := 27) (fr := (0, 0)) (by go_simp) size_pic rfl ⟨rfl, ?_⟩
    repeat' (first | exact New.refl _ | refine New.alloc ?_ _ | refine New.drew ?_ | refine New.drewN ?_ _ | refine New.setRow ?_ (by omega) _ | refine New.setCell ?_ (by first | omega | (simp; done) | (simp; omega)) _ | refine New.trans ?_ hn2 | refine New.trans ?_ hn1)
  · clear h5
    rw [hA]
    clear hA
    cases h2 : isCellB x y a b
    · go_enter Try.func14, Try.ntmps14
      go_wp2_with (fail)
      refine wp_region_new (by kernel_rfl) (by kernel_rfl) ?_
      repeat (go_big_quiet_step (first | fail | (go_at_call 25; with_reducible exact calls_new (valid_v a b f ha hb hf _ h1 _)) | (go_at_call 32; with_reducible exact calls_new (has_v a b f x y ha hb _ h2 _)) | (go_at_call 31; with_reducible exact calls_new (new_same (codeOf_any _ _ _))) | (go_at_call 35; with_reducible exact calls_new (isColour_v _ _ rfl _))))
      refine wpQuiet_nil ?_
      intro w3 hc3
      have hn3 := NewW.of hc3
      clear hc3
      have ho3 := hn3.objs
      have hz3 := hn3.le
      try simp at hz3
      have k3_0 : w.heap.size < w3.heap.size := by omega
      have k3_1 : w.heap.size + 1 < w3.heap.size := by omega
      go_wp2_with (fail)
      refine ret_cell_tmp agg27 rfl rfl (c := pic 144 0 0 fun _ => 0) (t := 27) (fr := (0, 0)) (by go_simp) size_pic rfl ⟨rfl, ?_⟩
      repeat' (first | exact New.refl _ | refine New.alloc ?_ _ | refine New.drew ?_ | refine New.drewN ?_ _ | refine New.setRow ?_ (by omega) _ | refine New.setCell ?_ (by first | omega | (simp; done) | (simp; omega)) _ | refine New.trans ?_ hn3 | refine New.trans ?_ hn2 | refine New.trans ?_ hn1)
    · go_enter Try.func14, Try.ntmps14
      go_wp2_with (fail)
      refine wp_region_new (by kernel_rfl) (by kernel_rfl) ?_
      repeat (go_big_quiet_step (first | fail | (go_at_call 25; with_reducible exact calls_new (valid_v a b f ha hb hf _ h1 _)) | (go_at_call 32; with_reducible exact calls_new (has_v a b f x y ha hb _ h2 _)) | (go_at_call 31; with_reducible exact calls_new (new_same (codeOf_any _ _ _))) | (go_at_call 35; with_reducible exact calls_new (isColour_v _ _ rfl _))))
      refine wpQuiet_nil ?_
      intro w4 hc4
      have hn4 := NewW.of hc4
      clear hc4
      have ho4 := hn4.objs
      have hz4 := hn4.le
      try simp at hz4
      have k4_0 : w.heap.size < w4.heap.size := by omega
      have k4_1 : w.heap.size + 1 < w4.heap.size := by omega
      go_wp2_with (fail)
      refine ret_cell_tmp agg27 rfl rfl (c := pic 144 0 0 fun _ => 0) (t := 27) (fr := (0, 0)) (by go_simp) size_pic rfl ⟨rfl, ?_⟩
      repeat' (first | exact New.refl _ | refine New.alloc ?_ _ | refine New.drew ?_ | refine New.drewN ?_ _ | refine New.setRow ?_ (by omega) _ | refine New.setCell ?_ (by first | omega | (simp; done) | (simp; omega)) _ | refine New.trans ?_ hn4 | refine New.trans ?_ hn3 | refine New.trans ?_ hn2 | refine New.trans ?_ hn1)
  · clear h5
    rw [hA]
    clear hA
    go_enter Try.func14, Try.ntmps14
    go_wp2_with (fail)
    refine wp_region_new (by kernel_rfl) (by kernel_rfl) ?_
    repeat (go_big_quiet_step (first | fail | (go_at_call 25; with_reducible exact calls_new (valid_v a b f ha hb hf _ h1 _)) | (go_at_call 32; with_reducible exact calls_new (has_v a b f x y ha hb _ h2 _)) | (go_at_call 31; with_reducible exact calls_new (new_same (codeOf_any _ _ _))) | (go_at_call 35; with_reducible exact calls_new (isColour_v _ _ rfl _))))
    refine wpQuiet_nil ?_
    intro w5 hc5
    have hn5 := NewW.of hc5
    clear hc5
    have ho5 := hn5.objs
    have hz5 := hn5.le
    try simp at hz5
    have k5_0 : w.heap.size < w5.heap.size := by omega
    have k5_1 : w.heap.size + 1 < w5.heap.size := by omega
    go_wp2_with (fail)
    refine ret_cell_tmp agg27 rfl rfl (c := pic 144 0 0 fun _ => 0) (t := 27) (fr := (0, 0)) (by go_simp) size_pic rfl ⟨rfl, ?_⟩
    repeat' (first | exact New.refl _ | refine New.alloc ?_ _ | refine New.drew ?_ | refine New.drewN ?_ _ | refine New.setRow ?_ (by omega) _ | refine New.setCell ?_ (by first | omega | (simp; done) | (simp; omega)) _ | refine New.trans ?_ hn5 | refine New.trans ?_ hn4 | refine New.trans ?_ hn3 | refine New.trans ?_ hn2 | refine New.trans ?_ hn1)
end Go.Proofs.Ytmmckoemkpfgbaa
