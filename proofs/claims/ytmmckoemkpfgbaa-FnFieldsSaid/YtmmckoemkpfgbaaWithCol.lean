/- A picture with another colour at a place; no condition. -/
import Derived.Test.YtmmckoemkpfgbaaPlace
set_option linter.unusedVariables false
namespace Go.Proofs.Ytmmckoemkpfgbaa
open Go.BigFrame
open Go.RowKit Go.Arr
@[go_sem] theorem codeB_tt : codeB true true = 0 := rfl
@[go_sem] theorem codeB_tf : codeB true false = 2 := rfl
@[go_sem] theorem codeB_f (q : Bool) : codeB false q = 1 := rfl
theorem has_v (a b : Int) (f : Nat → Int) (x y : Int) (ha : -128 ≤ a ∧ a ≤ 127) (hb : -128 ≤ b ∧ b ≤ 127) (v : Bool) (hv : isCellB x y a b = v) (w : World) :
    Calls Try.prog 32 #[.agg (pic 144 a b f), .int .i64 x, .int .i64 y] w fun e w' => e = .returned (.bool v) ∧ New w w' := hv ▸ has_any a b f x y ha hb w
theorem valid_v (a b : Int) (f : Nat → Int) (ha : -128 ≤ a ∧ a ≤ 127) (hb : -128 ≤ b ∧ b ≤ 127) (hf : ∀ i, 0 ≤ f i ∧ f i ≤ 255) (v : Bool) (hv : okPic a b f = v) (w : World) :
    Calls Try.prog 25 #[.agg (pic 144 a b f)] w fun e w' => e = .returned (.bool v) ∧ New w w' := hv ▸ validPicture_impl a b f ha hb hf w
theorem within_v (n lo hi : Int) (v : Bool) (hv : inB n lo hi = v) (w : World) : Calls Try.prog 51 #[.int .i64 n, .int .i64 lo, .int .i64 hi] w fun e w' => e = .returned (.bool v) ∧ New w w' := hv ▸ new_same (within_any n lo hi w)
theorem isColour_v (n : Int) (v : Bool) (hv : inB n 0 15 = v) (w : World) : Calls Try.prog 35 #[.int .i64 n] w fun e w' => e = .returned (.bool v) ∧ New w w' := hv ▸ new_same (isColour_any n w)
def withQ (a b x y c : Int) : Bool := isCellB x y a b && inB c 0 15
def withA (a b : Int) (f : Nat → Int) (x y c : Int) : PicAns := if codeB (okPic a b f) (withQ a b x y c) = 0 then ⟨0, a, b, upd f (x + 12 * y).toNat c⟩ else noPic (codeB (okPic a b f) (withQ a b x y c))
theorem with_cases (a b : Int) (f : Nat → Int) (x y c : Int) :
    (okPic a b f = true ∧ isCellB x y a b = true ∧ inB c 0 15 = true ∧ withA a b f x y c = ⟨0, a, b, upd f (x + 12 * y).toNat c⟩ ∧ codeB (okPic a b f) (isCellB x y a b) = 0) ∨
    (isCellB x y a b = true ∧ inB c 0 15 = false ∧ withA a b f x y c = noPic 2 ∧ codeB (okPic a b f) (isCellB x y a b) = 0 ∧ okPic a b f = true) ∨
    (withA a b f x y c = noPic 1 ∧ codeB (okPic a b f) (isCellB x y a b) = 1 ∧ okPic a b f = false) ∨
    (withA a b f x y c = noPic 2 ∧ codeB (okPic a b f) (isCellB x y a b) = 2 ∧ okPic a b f = true ∧ isCellB x y a b = false) := by
  unfold withA withQ
  cases okPic a b f <;> cases isCellB x y a b <;> cases inB c 0 15 <;> simp [codeB]
set_option maxHeartbeats 1000000 in
set_option maxRecDepth 100000 in
theorem with_impl (a b : Int) (f : Nat → Int) (x y c : Int) (ha : -128 ≤ a ∧ a ≤ 127) (hb : -128 ≤ b ∧ b ≤ 127) (hf : ∀ i, 0 ≤ f i ∧ f i ≤ 255) (w : World) :
    Calls Try.prog 19 #[.agg (pic 144 a b f), .int .i64 x, .int .i64 y, .int .i64 c] w fun e w' => e = .returned (.tuple #[.agg (pic 144 (withA a b f x y c).w (withA a b f x y c).h (withA a b f x y c).f), .int .i64 (withA a b f x y c).c]) ∧ New w w' := by
  rcases with_cases a b f x y c with ⟨h1, h2, h3, hA, h5⟩ | ⟨h2, h3, hA, h5, h1⟩ | ⟨hA, h5, h1⟩ | ⟨hA, h5, h1, h2⟩
  · have hd := okPic_dims h1
    have hc := isCellB_t h2
    have hi := inB_t.1 h3
    have q0 : 0 ≤ x + 12 * y := by omega
    have q1 : x + 12 * y < 144 := by omega
    have q2 : (x + 12 * y).toNat < 144 := by omega
    clear h5
    rw [hA]
    clear hA
    go_enter Try.func19, Try.ntmps19
    go_wp2_with (fail)
    refine wp_region_new (by kernel_rfl) (by kernel_rfl) ?_
    repeat (go_big_quiet_step (first | fail | (go_at_call 25; with_reducible exact calls_new (valid_v a b f ha hb hf _ h1 _)) | (go_at_call 32; with_reducible exact calls_new (has_v a b f x y ha hb _ h2 _)) | (go_at_call 31; with_reducible exact calls_new (new_same (codeOf_any _ _ _))) | (go_at_call 35; with_reducible exact calls_new (isColour_v _ _ h3 _))))
    refine wpQuiet_nil ?_
    intro w1 hc1
    have hn1 := NewW.of hc1
    clear hc1
    have ho1 := hn1.objs
    have hz1 := hn1.le
    try simp at hz1
    have k1_0 : w.heap.size < w1.heap.size := by omega
    have k1_1 : w.heap.size + 1 < w1.heap.size := by omega
    go_wp2_with (fail)
    refine ret_cell_tmp agg27 rfl rfl (c := pic 144 a b (upd f (x + 12 * y).toNat c)) (t := 27) (fr := (0, 0)) (by go_simp) size_pic rfl ⟨rfl, ?_⟩
    repeat' (first | exact New.refl _ | refine New.alloc ?_ _ | refine New.drew ?_ | refine New.drewN ?_ _ | refine New.setRow ?_ (by omega) _ | refine New.setCell ?_ (by first | omega | (simp; done) | (simp; omega)) _ | refine New.trans ?_ hn1)
  · clear h5
    rw [hA]
    clear hA
    go_enter Try.func19, Try.ntmps19
    go_wp2_with (fail)
    refine wp_region_new (by kernel_rfl) (by kernel_rfl) ?_
    repeat (go_big_quiet_step (first | fail | (go_at_call 25; with_reducible exact calls_new (valid_v a b f ha hb hf _ h1 _)) | (go_at_call 32; with_reducible exact calls_new (has_v a b f x y ha hb _ h2 _)) | (go_at_call 31; with_reducible exact calls_new (new_same (codeOf_any _ _ _))) | (go_at_call 35; with_reducible exact calls_new (isColour_v _ _ h3 _))))
    refine wpQuiet_nil ?_
    intro w2 hc2
    have hn2 := NewW.of hc2
    clear hc2
    have ho2 := hn2.objs
    have hz2 := hn2.le
    try simp at hz2
    have k2_0 : w.heap.size < w2.heap.size := by omega
    have k2_1 : w.heap.size + 1 < w2.heap.size := by omega
    go_wp2_with (fail)
    refine ret_cell_tmp agg27 rfl rfl (c := pic 144 0 0 fun _ => 0) (t := 27) (fr := (0, 0)) (by go_simp) size_pic rfl ⟨rfl, ?_⟩
    repeat' (first | exact New.refl _ | refine New.alloc ?_ _ | refine New.drew ?_ | refine New.drewN ?_ _ | refine New.setRow ?_ (by omega) _ | refine New.setCell ?_ (by first | omega | (simp; done) | (simp; omega)) _ | refine New.trans ?_ hn2 | refine New.trans ?_ hn1)
  · clear h5
    rw [hA]
    clear hA
    cases h2 : isCellB x y a b
    · go_enter Try.func19, Try.ntmps19
      go_wp2_with (fail)
      refine wp_region_new (by kernel_rfl) (by kernel_rfl) ?_
      repeat (go_big_quiet_step (first | fail | (go_at_call 25; with_reducible exact calls_new (valid_v a b f ha hb hf _ h1 _)) | (go_at_call 32; with_reducible exact calls_new (has_v a b f x y ha hb _ h2 _)) | (go_at_call 31; with_reducible exact calls_new (new_same (codeOf_any _ _ _))) | (go_at_call 35; with_reducible exact calls_new (isColour_v _ _ rfl _))))
      refine wpQuiet_nil ?_
      intro w3 hc3
      have hn3 := NewW.of hc3
      clear hc3
      have ho3 := hn3.objs
      have hz3 := hn3.le
      try simp at hz3
      have k3_0 : w.heap.size < w3.heap.size := by omega
      have k3_1 : w.heap.size + 1 < w3.heap.size := by omega
      go_wp2_with (fail)
      refine ret_cell_tmp agg27 rfl rfl (c := pic 144 0 0 fun _ => 0) (t := 27) (fr := (0, 0)) (by go_simp) size_pic rfl ⟨rfl, ?_⟩
      repeat' (first | exact New.refl _ | refine New.alloc ?_ _ | refine New.drew ?_ | refine New.drewN ?_ _ | refine New.setRow ?_ (by omega) _ | refine New.setCell ?_ (by first | omega | (simp; done) | (simp; omega)) _ | refine New.trans ?_ hn3 | refine New.trans ?_ hn2 | refine New.trans ?_ hn1)
    · go_enter Try.func19, Try.ntmps19
      go_wp2_with (fail)
      refine wp_region_new (by kernel_rfl) (by kernel_rfl) ?_
      repeat (go_big_quiet_step (first | fail | (go_at_call 25; with_reducible exact calls_new (valid_v a b f ha hb hf _ h1 _)) | (go_at_call 32; with_reducible exact calls_new (has_v a b f x y ha hb _ h2 _)) | (go_at_call 31; with_reducible exact calls_new (new_same (codeOf_any _ _ _))) | (go_at_call 35; with_reducible exact calls_new (isColour_v _ _ rfl _))))
      refine wpQuiet_nil ?_
      intro w4 hc4
      have hn4 := NewW.of hc4
      clear hc4
      have ho4 := hn4.objs
      have hz4 := hn4.le
      try simp at hz4
      have k4_0 : w.heap.size < w4.heap.size := by omega
      have k4_1 : w.heap.size + 1 < w4.heap.size := by omega
      go_wp2_with (fail)
      refine ret_cell_tmp agg27 rfl rfl (c := pic 144 0 0 fun _ => 0) (t := 27) (fr := (0, 0)) (by go_simp) size_pic rfl ⟨rfl, ?_⟩
      repeat' (first | exact New.refl _ | refine New.alloc ?_ _ | refine New.drew ?_ | refine New.drewN ?_ _ | refine New.setRow ?_ (by omega) _ | refine New.setCell ?_ (by first | omega | (simp; done) | (simp; omega)) _ | refine New.trans ?_ hn4 | refine New.trans ?_ hn3 | refine New.trans ?_ hn2 | refine New.trans ?_ hn1)
  · clear h5
    rw [hA]
    clear hA
    go_enter Try.func19, Try.ntmps19
    go_wp2_with (fail)
    refine wp_region_new (by kernel_rfl) (by kernel_rfl) ?_
    repeat (go_big_quiet_step (first | fail | (go_at_call 25; with_reducible exact calls_new (valid_v a b f ha hb hf _ h1 _)) | (go_at_call 32; with_reducible exact calls_new (has_v a b f x y ha hb _ h2 _)) | (go_at_call 31; with_reducible exact calls_new (new_same (codeOf_any _ _ _))) | (go_at_call 35; with_reducible exact calls_new (isColour_v _ _ h3 _))))
    refine wpQuiet_nil ?_
    intro w5 hc5
    have hn5 := NewW.of hc5
    clear hc5
    have ho5 := hn5.objs
    have hz5 := hn5.le
    try simp at hz5
    have k5_0 : w.heap.size < w5.heap.size := by omega
    have k5_1 : w.heap.size + 1 < w5.heap.size := by omega
    go_wp2_with (fail)
    refine ret_cell_tmp agg27 rfl rfl (c := pic 144 0 0 fun _ => 0) (t := 27) (fr := (0, 0)) (by go_simp) size_pic rfl ⟨rfl, ?_⟩
    repeat' (first | exact New.refl _ | refine New.alloc ?_ _ | refine New.drew ?_ | refine New.drewN ?_ _ | refine New.setRow ?_ (by omega) _ | refine New.setCell ?_ (by first | omega | (simp; done) | (simp; omega)) _ | refine New.trans ?_ hn5 | refine New.trans ?_ hn4 | refine New.trans ?_ hn3 | refine New.trans ?_ hn2 | refine New.trans ?_ hn1)
end Go.Proofs.Ytmmckoemkpfgbaa
