/- The program's mirrored, flipped and turned pictures; no condition. -/
import Derived.Test.YtomfjicjejoakaaDoorU3
import Derived.Test.YtomfjicjejoakaaDoorU1
import Derived.Test.YtomfjicjejoakaaDoorU2
import Derived.Lib.Bytealg
import Derived.Lib.BufferWrite
import Derived.Laws.Strings3
set_option linter.unusedVariables false
namespace Go.Proofs.YtomfjicjejoakaaDoor
open Go.BigFrame
open Go.RowKit Go.Arr
theorem enters {f : FuncId} {fn : Func} {c : Code} (hf : Tryd.prog.funcs[f]? = some fn) (hname : (fn.name == "runtime.NumGoroutine") = false) (hb : fn.body = some c) : ∀ (args : Array Value) (W : World), (callFunc f args).run Tryd.prog W = .ok (.enter f args) W := by
  intro args w
  have h1 : fn.name ≠ "runtime.NumGoroutine" := by simpa using hname
  simp [callFunc, hf, h1, hb, mark]
set_option maxHeartbeats 400000 in
set_option maxRecDepth 100000 in
theorem size_any (a b : Int) (f : Nat → Int) (ha : -128 ≤ a ∧ a ≤ 127) (hb : -128 ≤ b ∧ b ≤ 127) (w : World) :
    Calls Tryd.prog 44 #[.agg (pic 144 a b f)] w fun e w' => e = .returned (.tuple #[.int .i64 a, .int .i64 b]) ∧ New w w' := by
  go_enter Tryd.func44, Tryd.ntmps44
  go_wp2_with (fail)
  go_region
  go_wp2_with (fail)
  go_ret2
  refine ⟨rfl, ?_⟩
  repeat' (first | exact New.refl _ | refine New.alloc ?_ _ | refine New.drew ?_ | refine New.drewN ?_ _ | refine New.setRow ?_ (by omega) _ | refine New.setCell ?_ (by first | omega | (simp; done) | (simp; omega)) _)
set_option maxHeartbeats 400000 in
set_option maxRecDepth 100000 in
theorem at_any (a b : Int) (f : Nat → Int) (x y : Int) (hx : 0 ≤ x ∧ x < 144) (hy : 0 ≤ y ∧ y < 144) (hxy : x + 12 * y < 144) (w : World) :
    Calls Tryd.prog 33 #[.agg (pic 144 a b f), .int .i64 x, .int .i64 y] w fun e w' => e = .returned (.int .u8 (f (x + 12 * y).toNat)) ∧ New w w' := by
  have h0 : 0 ≤ x + 12 * y := by omega
  have h1 : (x + 12 * y).toNat < 144 := by omega
  go_enter Tryd.func33, Tryd.ntmps33
  go_wp2_with (fail)
  go_ret
  refine ⟨rfl, ?_⟩
  repeat' (first | exact New.refl _ | refine New.alloc ?_ _ | refine New.drew ?_ | refine New.drewN ?_ _ | refine New.setRow ?_ (by omega) _ | refine New.setCell ?_ (by first | omega | (simp; done) | (simp; omega)) _)
set_option maxHeartbeats 400000 in
set_option maxRecDepth 100000 in
theorem mirrored_fn (gp gw : Nat) (t1 t2 : TypeId) (a b : Int) (f : Nat → Int) (ha : 1 ≤ a ∧ a ≤ 12) (hb : 1 ≤ b ∧ b ≤ 12) (x y : Nat) (hx : (x : Int) < a) (hy : (y : Int) < b) (w : World) (hp : obj w gp = some (.cells (pic 144 a b f) t1)) (hw : obj w gw = some (.cells #[.int .i64 a] t2)) :
    Calls Tryd.prog 65 #[.int .i64 x, .int .i64 y, .pointer (some ⟨gp, 0, none⟩), .pointer (some ⟨gw, 0, none⟩)] w fun e w' => e = .returned (.int .u8 (mirH a f x y)) ∧ New w w' := by
  go_enter Tryd.func65, Tryd.ntmps65
  go_wp2_with (fail)
  refine (at_any a b f _ _ (by omega) (by omega) (by omega) _).mono ?_
  rintro e w1 ⟨rfl, hn1⟩
  go_wp2_with (fail)
  go_ret
  exact ⟨rfl, hn1⟩
set_option maxHeartbeats 400000 in
set_option maxRecDepth 100000 in
theorem flipped_fn (gp gw : Nat) (t1 t2 : TypeId) (a b : Int) (f : Nat → Int) (ha : 1 ≤ a ∧ a ≤ 12) (hb : 1 ≤ b ∧ b ≤ 12) (x y : Nat) (hx : (x : Int) < a) (hy : (y : Int) < b) (w : World) (hp : obj w gp = some (.cells (pic 144 a b f) t1)) (hw : obj w gw = some (.cells #[.int .i64 b] t2)) :
    Calls Tryd.prog 66 #[.int .i64 x, .int .i64 y, .pointer (some ⟨gp, 0, none⟩), .pointer (some ⟨gw, 0, none⟩)] w fun e w' => e = .returned (.int .u8 (flipH b f x y)) ∧ New w w' := by
  go_enter Tryd.func66, Tryd.ntmps66
  go_wp2_with (fail)
  refine (at_any a b f _ _ (by omega) (by omega) (by omega) _).mono ?_
  rintro e w1 ⟨rfl, hn1⟩
  go_wp2_with (fail)
  go_ret
  exact ⟨rfl, hn1⟩
set_option maxHeartbeats 400000 in
set_option maxRecDepth 100000 in
theorem turned_fn (gp gw : Nat) (t1 t2 : TypeId) (a b : Int) (f : Nat → Int) (ha : 1 ≤ a ∧ a ≤ 12) (hb : 1 ≤ b ∧ b ≤ 12) (x y : Nat) (hx : (x : Int) < b) (hy : (y : Int) < a) (w : World) (hp : obj w gp = some (.cells (pic 144 a b f) t1)) (hw : obj w gw = some (.cells #[.int .i64 b] t2)) :
    Calls Tryd.prog 68 #[.int .i64 x, .int .i64 y, .pointer (some ⟨gp, 0, none⟩), .pointer (some ⟨gw, 0, none⟩)] w fun e w' => e = .returned (.int .u8 (turnH b f x y)) ∧ New w w' := by
  go_enter Tryd.func68, Tryd.ntmps68
  go_wp2_with (fail)
  refine (at_any a b f _ _ (by omega) (by omega) (by omega) _).mono ?_
  rintro e w1 ⟨rfl, hn1⟩
  go_wp2_with (fail)
  go_ret
  exact ⟨rfl, hn1⟩
set_option maxHeartbeats 1000000 in
set_option maxRecDepth 100000 in
theorem mirrored_any (a b : Int) (f : Nat → Int) (ha : 1 ≤ a ∧ a ≤ 12) (hb : 1 ≤ b ∧ b ≤ 12) (w : World) :
    Calls Tryd.prog 36 #[.agg (pic 144 a b f)] w fun e w' => e = .returned (.agg (pic 144 a b (paint a b (mirH a f)))) ∧ New w w' := by
  go_enter Tryd.func36, Tryd.ntmps36
  go_wp2_with (fail)
  refine (size_any a b f (by omega) (by omega) _).mono ?_
  rintro e1 w1 ⟨rfl, hn1⟩
  have ho1 := hn1.objs
  have hz1 := hn1.le
  try simp at hz1
  have k1_0 : w.heap.size < w1.heap.size := by omega
  have k1_1 : w.heap.size + 1 < w1.heap.size := by omega
  go_wp2_with (fail)
  refine (painted_any a b (by omega) (by omega) 65 _ (mirH a f) _ (enters Tryd.func65 (by kernel_rfl) rfl) (fun W x y hW hx hy => ?_)).mono ?_
  · have k3 : w.heap.size < w1.heap.size + 1 := by omega
    refine mirrored_fn w.heap.size w1.heap.size 27 2 a b f ha hb x y hx hy W ?_ ?_
    · rw [hW.objs _ (by simp; omega)]; go_simp
    · rw [hW.objs _ (by simp)]; go_simp
  rintro e2 w2 ⟨rfl, hn2⟩
  have ho2 := hn2.objs
  have hz2 := hn2.le
  simp at hz2
  have k4 : w.heap.size + 1 < w1.heap.size + 1 := by omega
  have k5 : w.heap.size + 1 < w2.heap.size := by omega
  go_wp2_with (fail)
  refine ret_cell agg27 rfl rfl (c := pic 144 a b (paint a b (mirH a f))) (t := 27) (fr := (0, 0)) (by go_simp) size_pic rfl ⟨rfl, ?_⟩
  refine New.setRow (New.trans ?_ hn2) (by omega) _
  repeat' (first | exact New.refl _ | refine New.alloc ?_ _ | refine New.drew ?_ | refine New.drewN ?_ _ | refine New.setRow ?_ (by omega) _ | refine New.setCell ?_ (by first | omega | (simp; done) | (simp; omega)) _ | refine New.trans ?_ hn1)
set_option maxHeartbeats 1000000 in
set_option maxRecDepth 100000 in
theorem flipped_any (a b : Int) (f : Nat → Int) (ha : 1 ≤ a ∧ a ≤ 12) (hb : 1 ≤ b ∧ b ≤ 12) (w : World) :
    Calls Tryd.prog 39 #[.agg (pic 144 a b f)] w fun e w' => e = .returned (.agg (pic 144 a b (paint a b (flipH b f)))) ∧ New w w' := by
  go_enter Tryd.func39, Tryd.ntmps39
  go_wp2_with (fail)
  refine (size_any a b f (by omega) (by omega) _).mono ?_
  rintro e1 w1 ⟨rfl, hn1⟩
  have ho1 := hn1.objs
  have hz1 := hn1.le
  try simp at hz1
  have k1_0 : w.heap.size < w1.heap.size := by omega
  have k1_1 : w.heap.size + 1 < w1.heap.size := by omega
  go_wp2_with (fail)
  refine (painted_any a b (by omega) (by omega) 66 _ (flipH b f) _ (enters Tryd.func66 (by kernel_rfl) rfl) (fun W x y hW hx hy => ?_)).mono ?_
  · have k3 : w.heap.size < w1.heap.size + 1 := by omega
    refine flipped_fn w.heap.size w1.heap.size 27 2 a b f ha hb x y hx hy W ?_ ?_
    · rw [hW.objs _ (by simp; omega)]; go_simp
    · rw [hW.objs _ (by simp)]; go_simp
  rintro e2 w2 ⟨rfl, hn2⟩
  have ho2 := hn2.objs
  have hz2 := hn2.le
  simp at hz2
  have k4 : w.heap.size + 1 < w1.heap.size + 1 := by omega
  have k5 : w.heap.size + 1 < w2.heap.size := by omega
  go_wp2_with (fail)
  refine ret_cell agg27 rfl rfl (c := pic 144 a b (paint a b (flipH b f))) (t := 27) (fr := (0, 0)) (by go_simp) size_pic rfl ⟨rfl, ?_⟩
  refine New.setRow (New.trans ?_ hn2) (by omega) _
  repeat' (first | exact New.refl _ | refine New.alloc ?_ _ | refine New.drew ?_ | refine New.drewN ?_ _ | refine New.setRow ?_ (by omega) _ | refine New.setCell ?_ (by first | omega | (simp; done) | (simp; omega)) _ | refine New.trans ?_ hn1)
set_option maxHeartbeats 1000000 in
set_option maxRecDepth 100000 in
theorem turned_any (a b : Int) (f : Nat → Int) (ha : 1 ≤ a ∧ a ≤ 12) (hb : 1 ≤ b ∧ b ≤ 12) (w : World) :
    Calls Tryd.prog 42 #[.agg (pic 144 a b f)] w fun e w' => e = .returned (.agg (pic 144 b a (paint b a (turnH b f)))) ∧ New w w' := by
  go_enter Tryd.func42, Tryd.ntmps42
  go_wp2_with (fail)
  refine (size_any a b f (by omega) (by omega) _).mono ?_
  rintro e1 w1 ⟨rfl, hn1⟩
  have ho1 := hn1.objs
  have hz1 := hn1.le
  try simp at hz1
  have k1_0 : w.heap.size < w1.heap.size := by omega
  have k1_1 : w.heap.size + 1 < w1.heap.size := by omega
  go_wp2_with (fail)
  refine (painted_any b a (by omega) (by omega) 68 _ (turnH b f) _ (enters Tryd.func68 (by kernel_rfl) rfl) (fun W x y hW hx hy => ?_)).mono ?_
  · have k3 : w.heap.size < w1.heap.size + 1 := by omega
    refine turned_fn w.heap.size w1.heap.size 27 2 a b f ha hb x y hx hy W ?_ ?_
    · rw [hW.objs _ (by simp; omega)]; go_simp
    · rw [hW.objs _ (by simp)]; go_simp
  rintro e2 w2 ⟨rfl, hn2⟩
  have ho2 := hn2.objs
  have hz2 := hn2.le
  simp at hz2
  have k4 : w.heap.size + 1 < w1.heap.size + 1 := by omega
  have k5 : w.heap.size + 1 < w2.heap.size := by omega
  go_wp2_with (fail)
  refine ret_cell agg27 rfl rfl (c := pic 144 b a (paint b a (turnH b f))) (t := 27) (fr := (0, 0)) (by go_simp) size_pic rfl ⟨rfl, ?_⟩
  refine New.setRow (New.trans ?_ hn2) (by omega) _
  repeat' (first | exact New.refl _ | refine New.alloc ?_ _ | refine New.drew ?_ | refine New.drewN ?_ _ | refine New.setRow ?_ (by omega) _ | refine New.setCell ?_ (by first | omega | (simp; done) | (simp; omega)) _ | refine New.trans ?_ hn1)
set_option maxHeartbeats 1000000 in
set_option maxRecDepth 100000 in
theorem changed_no (a b : Int) (f : Nat → Int) (ha : -128 ≤ a ∧ a ≤ 127) (hb : -128 ≤ b ∧ b ≤ 127) (hf : ∀ i, 0 ≤ f i ∧ f i ≤ 255) (hok : okPic a b f = false) (F : FuncId) (w : World) :
    Calls Tryd.prog 35 #[.agg (pic 144 a b f), .func (.func F) #[] #[]] w fun e w' => e = .returned (.tuple #[.agg (pic 144 (noPic 1).w (noPic 1).h (noPic 1).f), .int .i64 (noPic 1).c]) ∧ New w w' := by
  go_enter Tryd.func35, Tryd.ntmps35
  go_wp2_with (fail)
  refine (validPicture_impl a b f ha hb hf _).mono ?_
  rintro e1 w1 ⟨rfl, hn1⟩
  have ho1 := hn1.objs
  have hz1 := hn1.le
  try simp at hz1
  have k1_0 : w.heap.size < w1.heap.size := by omega
  have k1_1 : w.heap.size + 1 < w1.heap.size := by omega
  go_wp2_with (fail)
  refine ret_cell_tmp agg27 rfl rfl (c := pic 144 0 0 fun _ => 0) (t := 27) (fr := (0, 0)) (by go_simp) size_pic rfl ⟨rfl, ?_⟩
  repeat' (first | exact New.refl _ | refine New.alloc ?_ _ | refine New.drew ?_ | refine New.drewN ?_ _ | refine New.setRow ?_ (by omega) _ | refine New.setCell ?_ (by first | omega | (simp; done) | (simp; omega)) _ | refine New.trans ?_ hn1)
set_option maxHeartbeats 1000000 in
set_option maxRecDepth 100000 in
theorem changed_yes (a b : Int) (f : Nat → Int) (ha : -128 ≤ a ∧ a ≤ 127) (hb : -128 ≤ b ∧ b ≤ 127) (hf : ∀ i, 0 ≤ f i ∧ f i ≤ 255) (hok : okPic a b f = true) (F : FuncId) (a' b' : Int) (f' : Nat → Int) (w : World)
    (hE : ∀ (args : Array Value) (W : World), (callFunc F args).run Tryd.prog W = .ok (.enter F args) W)
    (hF : ∀ W, Calls Tryd.prog F #[.agg (pic 144 a b f)] W fun e w' => e = .returned (.agg (pic 144 a' b' f')) ∧ New W w') :
    Calls Tryd.prog 35 #[.agg (pic 144 a b f), .func (.func F) #[] #[]] w fun e w' => e = .returned (.tuple #[.agg (pic 144 a' b' f'), .int .i64 0]) ∧ New w w' := by
  have HF := hide hF
  clear hF
  go_enter Tryd.func35, Tryd.ntmps35
  go_wp2_with (fail)
  refine (validPicture_impl a b f ha hb hf _).mono ?_
  rintro e1 w1 ⟨rfl, hn1⟩
  have ho1 := hn1.objs
  have hz1 := hn1.le
  try simp at hz1
  have k1_0 : w.heap.size < w1.heap.size := by omega
  have k1_1 : w.heap.size + 1 < w1.heap.size := by omega
  go_wp2_with (fail)
  refine (HF.out _).mono ?_
  rintro e2 w2 ⟨rfl, hn2⟩
  have ho2 := hn2.objs
  have hz2 := hn2.le
  try simp at hz2
  have k2_0 : w.heap.size < w2.heap.size := by omega
  have k2_1 : w.heap.size + 1 < w2.heap.size := by omega
  go_wp2_with (fail)
  refine ret_cell_tmp agg27 rfl rfl (c := pic 144 a' b' f') (t := 27) (fr := (0, 0)) (by go_simp) size_pic rfl ⟨rfl, ?_⟩
  repeat' (first | exact New.refl _ | refine New.alloc ?_ _ | refine New.drew ?_ | refine New.drewN ?_ _ | refine New.setRow ?_ (by omega) _ | refine New.setCell ?_ (by first | omega | (simp; done) | (simp; omega)) _ | refine New.trans ?_ hn2 | refine New.trans ?_ hn1)
set_option maxHeartbeats 1000000 in
set_option maxRecDepth 100000 in
theorem mirror_impl (a b : Int) (f : Nat → Int) (ha : -128 ≤ a ∧ a ≤ 127) (hb : -128 ≤ b ∧ b ≤ 127) (hf : ∀ i, 0 ≤ f i ∧ f i ≤ 255) (w : World) :
    Calls Tryd.prog 8 #[.agg (pic 144 a b f)] w fun e w' => e = .returned (.tuple #[.agg (pic 144 (mirA a b f).w (mirA a b f).h (mirA a b f).f), .int .i64 (mirA a b f).c]) ∧ New w w' := by
  cases hok : okPic a b f
  · have hA : mirA a b f = noPic 1 := by simp [mirA, hok]
    rw [hA]
    clear hA
    go_enter Tryd.func8, Tryd.ntmps8
    go_wp2_with (fail)
    refine (changed_no a b f ha hb hf hok _ _).mono ?_
    rintro e1 w1 ⟨rfl, hn1⟩
    have ho1 := hn1.objs
    have hz1 := hn1.le
    try simp at hz1
    have k1_0 : w.heap.size < w1.heap.size := by omega
    have k1_1 : w.heap.size + 1 < w1.heap.size := by omega
    go_wp2_with (fail)
    refine ret_cell_tmp agg27 rfl rfl (c := pic 144 (noPic 1).w (noPic 1).h (noPic 1).f) (t := 27) (fr := (0, 0)) (by go_simp) size_pic rfl ⟨rfl, ?_⟩
    repeat' (first | exact New.refl _ | refine New.alloc ?_ _ | refine New.drew ?_ | refine New.drewN ?_ _ | refine New.setRow ?_ (by omega) _ | refine New.setCell ?_ (by first | omega | (simp; done) | (simp; omega)) _ | refine New.trans ?_ hn1)
  · have hd := okPic_dims hok
    have hA : mirA a b f = ⟨0, a, b, paint a b (mirH a f)⟩ := by rw [mirA, if_pos hok]
    rw [hA]
    clear hA
    go_enter Tryd.func8, Tryd.ntmps8
    go_wp2_with (fail)
    refine (changed_yes a b f ha hb hf hok 36 _ _ _ _ (enters Tryd.func36 (by kernel_rfl) rfl) (fun W => mirrored_any a b f hd.1 hd.2 W)).mono ?_
    rintro e2 w2 ⟨rfl, hn2⟩
    have ho2 := hn2.objs
    have hz2 := hn2.le
    try simp at hz2
    have k2_0 : w.heap.size < w2.heap.size := by omega
    have k2_1 : w.heap.size + 1 < w2.heap.size := by omega
    go_wp2_with (fail)
    refine ret_cell_tmp agg27 rfl rfl (t := 27) (fr := (0, 0)) (by go_simp) size_pic rfl ⟨rfl, ?_⟩
    repeat' (first | exact New.refl _ | refine New.alloc ?_ _ | refine New.drew ?_ | refine New.drewN ?_ _ | refine New.setRow ?_ (by omega) _ | refine New.setCell ?_ (by first | omega | (simp; done) | (simp; omega)) _ | refine New.trans ?_ hn2 | refine New.trans ?_ hn1)
set_option maxHeartbeats 1000000 in
set_option maxRecDepth 100000 in
theorem flip_impl (a b : Int) (f : Nat → Int) (ha : -128 ≤ a ∧ a ≤ 127) (hb : -128 ≤ b ∧ b ≤ 127) (hf : ∀ i, 0 ≤ f i ∧ f i ≤ 255) (w : World) :
    Calls Tryd.prog 10 #[.agg (pic 144 a b f)] w fun e w' => e = .returned (.tuple #[.agg (pic 144 (flipA a b f).w (flipA a b f).h (flipA a b f).f), .int .i64 (flipA a b f).c]) ∧ New w w' := by
  cases hok : okPic a b f
  · have hA : flipA a b f = noPic 1 := by simp [flipA, hok]
    rw [hA]
    clear hA
    go_enter Tryd.func10, Tryd.ntmps10
    go_wp2_with (fail)
    refine (changed_no a b f ha hb hf hok _ _).mono ?_
    rintro e1 w1 ⟨rfl, hn1⟩
    have ho1 := hn1.objs
    have hz1 := hn1.le
    try simp at hz1
    have k1_0 : w.heap.size < w1.heap.size := by omega
    have k1_1 : w.heap.size + 1 < w1.heap.size := by omega
    go_wp2_with (fail)
    refine ret_cell_tmp agg27 rfl rfl (c := pic 144 (noPic 1).w (noPic 1).h (noPic 1).f) (t := 27) (fr := (0, 0)) (by go_simp) size_pic rfl ⟨rfl, ?_⟩
    repeat' (first | exact New.refl _ | refine New.alloc ?_ _ | refine New.drew ?_ | refine New.drewN ?_ _ | refine New.setRow ?_ (by omega) _ | refine New.setCell ?_ (by first | omega | (simp; done) | (simp; omega)) _ | refine New.trans ?_ hn1)
  · have hd := okPic_dims hok
    have hA : flipA a b f = ⟨0, a, b, paint a b (flipH b f)⟩ := by rw [flipA, if_pos hok]
    rw [hA]
    clear hA
    go_enter Tryd.func10, Tryd.ntmps10
    go_wp2_with (fail)
    refine (changed_yes a b f ha hb hf hok 39 _ _ _ _ (enters Tryd.func39 (by kernel_rfl) rfl) (fun W => flipped_any a b f hd.1 hd.2 W)).mono ?_
    rintro e2 w2 ⟨rfl, hn2⟩
    have ho2 := hn2.objs
    have hz2 := hn2.le
    try simp at hz2
    have k2_0 : w.heap.size < w2.heap.size := by omega
    have k2_1 : w.heap.size + 1 < w2.heap.size := by omega
    go_wp2_with (fail)
    refine ret_cell_tmp agg27 rfl rfl (t := 27) (fr := (0, 0)) (by go_simp) size_pic rfl ⟨rfl, ?_⟩
    repeat' (first | exact New.refl _ | refine New.alloc ?_ _ | refine New.drew ?_ | refine New.drewN ?_ _ | refine New.setRow ?_ (by omega) _ | refine New.setCell ?_ (by first | omega | (simp; done) | (simp; omega)) _ | refine New.trans ?_ hn2 | refine New.trans ?_ hn1)
set_option maxHeartbeats 1000000 in
set_option maxRecDepth 100000 in
theorem turn_impl (a b : Int) (f : Nat → Int) (ha : -128 ≤ a ∧ a ≤ 127) (hb : -128 ≤ b ∧ b ≤ 127) (hf : ∀ i, 0 ≤ f i ∧ f i ≤ 255) (w : World) :
    Calls Tryd.prog 14 #[.agg (pic 144 a b f)] w fun e w' => e = .returned (.tuple #[.agg (pic 144 (turnA a b f).w (turnA a b f).h (turnA a b f).f), .int .i64 (turnA a b f).c]) ∧ New w w' := by
  cases hok : okPic a b f
  · have hA : turnA a b f = noPic 1 := by simp [turnA, hok]
    rw [hA]
    clear hA
    go_enter Tryd.func14, Tryd.ntmps14
    go_wp2_with (fail)
    refine (changed_no a b f ha hb hf hok _ _).mono ?_
    rintro e1 w1 ⟨rfl, hn1⟩
    have ho1 := hn1.objs
    have hz1 := hn1.le
    try simp at hz1
    have k1_0 : w.heap.size < w1.heap.size := by omega
    have k1_1 : w.heap.size + 1 < w1.heap.size := by omega
    go_wp2_with (fail)
    refine ret_cell_tmp agg27 rfl rfl (c := pic 144 (noPic 1).w (noPic 1).h (noPic 1).f) (t := 27) (fr := (0, 0)) (by go_simp) size_pic rfl ⟨rfl, ?_⟩
    repeat' (first | exact New.refl _ | refine New.alloc ?_ _ | refine New.drew ?_ | refine New.drewN ?_ _ | refine New.setRow ?_ (by omega) _ | refine New.setCell ?_ (by first | omega | (simp; done) | (simp; omega)) _ | refine New.trans ?_ hn1)
  · have hd := okPic_dims hok
    have hA : turnA a b f = ⟨0, b, a, paint b a (turnH b f)⟩ := by rw [turnA, if_pos hok]
    rw [hA]
    clear hA
    go_enter Tryd.func14, Tryd.ntmps14
    go_wp2_with (fail)
    refine (changed_yes a b f ha hb hf hok 42 _ _ _ _ (enters Tryd.func42 (by kernel_rfl) rfl) (fun W => turned_any a b f hd.1 hd.2 W)).mono ?_
    rintro e2 w2 ⟨rfl, hn2⟩
    have ho2 := hn2.objs
    have hz2 := hn2.le
    try simp at hz2
    have k2_0 : w.heap.size < w2.heap.size := by omega
    have k2_1 : w.heap.size + 1 < w2.heap.size := by omega
    go_wp2_with (fail)
    refine ret_cell_tmp agg27 rfl rfl (t := 27) (fr := (0, 0)) (by go_simp) size_pic rfl ⟨rfl, ?_⟩
    repeat' (first | exact New.refl _ | refine New.alloc ?_ _ | refine New.drew ?_ | refine New.drewN ?_ _ | refine New.setRow ?_ (by omega) _ | refine New.setCell ?_ (by first | omega | (simp; done) | (simp; omega)) _ | refine New.trans ?_ hn2 | refine New.trans ?_ hn1)
end Go.Proofs.YtomfjicjejoakaaDoor
/- A place of a picture: what is read and written there; no condition. -/
set_option linter.unusedVariables false
namespace Go.Proofs.YtomfjicjejoakaaDoor
open Go.BigFrame
open Go.RowKit Go.Arr
theorem new_same {P : Program} {f : FuncId} {args : Array Value} {w : World} {v : Value} (h : Calls P f args w fun e w' => e = .returned v ∧ w = w') : Calls P f args w fun e w' => e = .returned v ∧ New w w' :=
  h.mono fun _ _ ⟨he, hw⟩ => ⟨he, by subst hw; exact New.refl _⟩
theorem isCellB_t {x y a b : Int} (h : isCellB x y a b = true) : (0 ≤ x ∧ x < a) ∧ (0 ≤ y ∧ y < b) := by
  unfold isCellB at h
  rw [Bool.and_eq_true] at h
  have h1 := inB_t.1 h.1
  have h2 := inB_t.1 h.2
  omega
set_option maxHeartbeats 400000 in
set_option maxRecDepth 100000 in
theorem l01Place_any (g : Nat) (t : TypeId) (a b : Int) (f : Nat → Int) (x y : Int) (ha : -128 ≤ a ∧ a ≤ 127) (hb : -128 ≤ b ∧ b ≤ 127) (hf : ∀ i, 0 ≤ f i ∧ f i ≤ 255) (w : World) (ho : obj w g = some (.cells (pic 144 a b f) t)) :
    Calls Tryd.prog 49 #[.pointer (some ⟨g, 0, none⟩), .int .i64 x, .int .i64 y] w fun e w' => e = .returned (.int .i64 (codeB (okPic a b f) (isCellB x y a b))) ∧ w = w' := by
  cases hok : okPic a b f
  · go_enter Tryd.func49, Tryd.ntmps49
    go_wp2_with (go_at_call 37; refine (l01Ok_any g t a b f ha hb hf _ ho).mono ?_; rintro e w' ⟨rfl, rfl⟩)
    go_ret
    exact ⟨rfl, rfl⟩
  cases h1 : inB x 0 (a - 1)
  · go_enter Tryd.func49, Tryd.ntmps49
    go_wp2_with (first | (go_at_call 37; refine (l01Ok_any g t a b f ha hb hf _ ho).mono ?_; rintro e w' ⟨rfl, rfl⟩) | (go_at_call 50; refine (l00In_any _ _ _ _).mono ?_; rintro e w' ⟨rfl, rfl⟩))
    go_ret
    exact ⟨by simp [codeB, isCellB, h1], rfl⟩
  cases h2 : inB y 0 (b - 1)
  all_goals
    go_enter Tryd.func49, Tryd.ntmps49
    go_wp2_with (first | (go_at_call 37; refine (l01Ok_any g t a b f ha hb hf _ ho).mono ?_; rintro e w' ⟨rfl, rfl⟩) | (go_at_call 50; refine (l00In_any _ _ _ _).mono ?_; rintro e w' ⟨rfl, rfl⟩))
    go_ret
    exact ⟨by simp [codeB, isCellB, h1, h2], rfl⟩
def colC (a b : Int) (f : Nat → Int) (x y : Int) : Int := if codeB (okPic a b f) (isCellB x y a b) = 0 then f (x + 12 * y).toNat else 0
theorem codeB_cases (p q : Bool) : (p = true ∧ q = true ∧ codeB p q = 0) ∨ (codeB p q = 1 ∧ p = false) ∨ (codeB p q = 2 ∧ p = true ∧ q = false) := by
  cases p <;> cases q <;> simp [codeB]
end Go.Proofs.YtomfjicjejoakaaDoor
/- A picture with another colour at a place; no condition. -/
set_option linter.unusedVariables false
namespace Go.Proofs.YtomfjicjejoakaaDoor
open Go.BigFrame
open Go.RowKit Go.Arr
@[go_sem] theorem codeB_tt : codeB true true = 0 := rfl
@[go_sem] theorem codeB_tf : codeB true false = 2 := rfl
@[go_sem] theorem codeB_f (q : Bool) : codeB false q = 1 := rfl
theorem has_v (a b : Int) (f : Nat → Int) (x y : Int) (ha : -128 ≤ a ∧ a ≤ 127) (hb : -128 ≤ b ∧ b ≤ 127) (v : Bool) (hv : isCellB x y a b = v) (w : World) :
    Calls Tryd.prog 41 #[.agg (pic 144 a b f), .int .i64 x, .int .i64 y] w fun e w' => e = .returned (.bool v) ∧ New w w' := hv ▸ has_any a b f x y ha hb w
theorem valid_v (a b : Int) (f : Nat → Int) (ha : -128 ≤ a ∧ a ≤ 127) (hb : -128 ≤ b ∧ b ≤ 127) (hf : ∀ i, 0 ≤ f i ∧ f i ≤ 255) (v : Bool) (hv : okPic a b f = v) (w : World) :
    Calls Tryd.prog 12 #[.agg (pic 144 a b f)] w fun e w' => e = .returned (.bool v) ∧ New w w' := hv ▸ validPicture_impl a b f ha hb hf w
theorem within_v (n lo hi : Int) (v : Bool) (hv : inB n lo hi = v) (w : World) : Calls Tryd.prog 46 #[.int .i64 n, .int .i64 lo, .int .i64 hi] w fun e w' => e = .returned (.bool v) ∧ New w w' := hv ▸ new_same (within_any n lo hi w)
theorem isColour_v (n : Int) (v : Bool) (hv : inB n 0 15 = v) (w : World) : Calls Tryd.prog 53 #[.int .i64 n] w fun e w' => e = .returned (.bool v) ∧ New w w' := hv ▸ new_same (isColour_any n w)
def withQ (a b x y c : Int) : Bool := isCellB x y a b && inB c 0 15
def withA (a b : Int) (f : Nat → Int) (x y c : Int) : PicAns := if codeB (okPic a b f) (withQ a b x y c) = 0 then ⟨0, a, b, upd f (x + 12 * y).toNat c⟩ else noPic (codeB (okPic a b f) (withQ a b x y c))
theorem with_cases (a b : Int) (f : Nat → Int) (x y c : Int) :
    (okPic a b f = true ∧ isCellB x y a b = true ∧ inB c 0 15 = true ∧ withA a b f x y c = ⟨0, a, b, upd f (x + 12 * y).toNat c⟩ ∧ codeB (okPic a b f) (isCellB x y a b) = 0) ∨
    (isCellB x y a b = true ∧ inB c 0 15 = false ∧ withA a b f x y c = noPic 2 ∧ codeB (okPic a b f) (isCellB x y a b) = 0 ∧ okPic a b f = true) ∨
    (withA a b f x y c = noPic 1 ∧ codeB (okPic a b f) (isCellB x y a b) = 1 ∧ okPic a b f = false) ∨
    (withA a b f x y c = noPic 2 ∧ codeB (okPic a b f) (isCellB x y a b) = 2 ∧ okPic a b f = true ∧ isCellB x y a b = false) := by
  unfold withA withQ
  cases okPic a b f <;> cases isCellB x y a b <;> cases inB c 0 15 <;> simp [codeB]
end Go.Proofs.YtomfjicjejoakaaDoor
/- The text of a picture: what the reference returns; no condition. -/
set_option linter.unusedVariables false
namespace Go.Proofs.YtomfjicjejoakaaDoor
open Go.BigFrame
open Go.RowKit Go.Arr
def letB (x : Int) : Int := if x = 0 then 46 else 96 + x
set_option maxRecDepth 100000 in
theorem let_get (x : Int) (h0 : 0 ≤ x) (h1 : x < 16) (w : World) : (Instr.index 9 (.string ⟨#[46, 97, 98, 99, 100, 101, 102, 103, 104, 105, 106, 107, 108, 109, 110, 111]⟩) (.int .u8 x)).run Tryd.prog w = .ok (.int .u8 (letB x)) w := by
  have : x = 0 ∨ x = 1 ∨ x = 2 ∨ x = 3 ∨ x = 4 ∨ x = 5 ∨ x = 6 ∨ x = 7 ∨ x = 8 ∨ x = 9 ∨ x = 10 ∨ x = 11 ∨ x = 12 ∨ x = 13 ∨ x = 14 ∨ x = 15 := by omega
  rcases this with h | h | h | h | h | h | h | h | h | h | h | h | h | h | h | h <;> (subst h; rfl)
def txtRow (f : Nat → Int) (y : Nat) : Nat → List Int
  | 0 => []
  | x + 1 => txtRow f y x ++ [letB (f (x + 12 * y))]
def txtR (f : Nat → Int) (a : Nat) : Nat → List Int
  | 0 => []
  | y + 1 => txtR f a y ++ txtRow f y a ++ [10]
theorem length_txtRow (f : Nat → Int) (y x : Nat) : (txtRow f y x).length = x := by
  induction x with
  | zero => rfl
  | succ x ih => simp [txtRow, ih]
theorem length_txtR (f : Nat → Int) (a y : Nat) : (txtR f a y).length = (a + 1) * y := by
  induction y with
  | zero => rfl
  | succ y ih => simp only [txtR, List.length_append, ih, length_txtRow, List.length_cons, List.length_nil, Nat.mul_succ]; omega
theorem bstr_app (l m : List Int) : bstr l ++ bstr m = bstr (l ++ m) := by
  unfold bstr
  rw [ByteArray.ext_iff]
  simp [bytesOf]
theorem slBytesT : SlTy Tryd.prog 22 5 (.int .u8 0) 1 1 := ⟨Tryd.underlying22, by kernel_rfl, rfl, by omega⟩
attribute [local go_sem high] let_get
theorem size_bstr (l : List Int) : (bstr l).size = l.length := by unfold bstr; simp [bytesOf, ByteArray.size]
def txtA (a b : Int) (f : Nat → Int) : ByteArray := if okPic a b f = true then bstr (txtR f a.toNat b.toNat) else ⟨#[]⟩
end Go.Proofs.YtomfjicjejoakaaDoor
/- Tones: what the small functions on them return; no condition. -/
set_option linter.unusedVariables false
namespace Go.Proofs.YtomfjicjejoakaaDoor
open Go.BigFrame
open Go.RowKit Go.Arr
def bright (a b c : Int) : Int := 3 * a + 6 * b + c
def far (a b c d e f : Int) : Int := 3 * (a - d) * (a - d) + 6 * (b - e) * (b - e) + (c - f) * (c - f)
theorem mul_self_nonneg' (x : Int) : 0 ≤ x * x := by
  rcases Int.le_total 0 x with h | h
  · exact Int.mul_nonneg h h
  · have := Int.mul_nonneg (show 0 ≤ -x by omega) (show 0 ≤ -x by omega)
    rwa [Int.neg_mul_neg] at this
theorem sq_le (x : Int) (h0 : -255 ≤ x) (h1 : x ≤ 255) : 0 ≤ x * x ∧ x * x ≤ 65025 := by
  refine ⟨mul_self_nonneg' x, ?_⟩
  rcases Int.le_total 0 x with h | h
  · have := Int.mul_le_mul h1 h1 h (by omega)
    omega
  · have := Int.mul_le_mul (show -x ≤ 255 by omega) (show -x ≤ 255 by omega) (by omega) (by omega)
    rw [Int.neg_mul_neg] at this
    omega
theorem sq3 (k x : Int) (hk : 0 ≤ k ∧ k ≤ 6) (h0 : -255 ≤ x) (h1 : x ≤ 255) : 0 ≤ k * x * x ∧ k * x * x ≤ 390150 := by
  have h := sq_le x h0 h1
  rw [Int.mul_assoc]
  refine ⟨Int.mul_nonneg hk.1 h.1, ?_⟩
  have := Int.mul_le_mul hk.2 h.2 h.1 (by omega)
  omega
end Go.Proofs.YtomfjicjejoakaaDoor
/- A tone read from its text: the reference and the program answer alike; no condition. -/
set_option linter.unusedVariables false
namespace Go.Proofs.YtomfjicjejoakaaDoor
open Go.BigFrame
open Go.RowKit Go.Arr
theorem slBytes2 : SlTy Tryd.prog 22 5 (.int .u8 0) 1 1 := ⟨Tryd.underlying22, by kernel_rfl, rfl, by omega⟩
/-- the number of a hexadecimal digit, or -1 -/
def hexv (x : Int) : Int := if 48 ≤ x ∧ x ≤ 57 then x - 48 else if 97 ≤ x ∧ x ≤ 102 then x - 87 else -1
theorem hexv_b (x : Int) : -1 ≤ hexv x ∧ hexv x ≤ 15 := by
  unfold hexv
  split
  · omega
  · split <;> omega
def bAt (s : ByteArray) (i : Nat) : Int := ((s.data.getD i 0).toNat : Int)
theorem bAt_b (s : ByteArray) (i : Nat) : 0 ≤ bAt s i ∧ bAt s i ≤ 255 := by
  unfold bAt
  have := (s.data.getD i 0).toNat_lt
  omega
theorem bAt_get (s : ByteArray) (i : Nat) (h : i < s.size) : ((s[i].toNat : Nat) : Int) = bAt s i := by
  unfold bAt
  have hkd : i < s.data.size := h
  rw [Array.getD_eq_getD_getElem?, Array.getElem?_eq_getElem hkd]
  rfl
def digs : ByteArray := ⟨#[48, 49, 50, 51, 52, 53, 54, 55, 56, 57, 97, 98, 99, 100, 101, 102]⟩
set_option maxRecDepth 100000 in
theorem hexv_fin : ∀ n : Fin 256, Lib.indexByte digs.data.toList (((n.val : Nat) : Int).toNat.toUInt8) = hexv ((n.val : Nat) : Int) := by decide +kernel
set_option maxRecDepth 100000 in
theorem hexv_idx (x : Int) (h0 : 0 ≤ x) (h1 : x ≤ 255) : Lib.indexByte digs.data.toList x.toNat.toUInt8 = hexv x := by
  obtain ⟨n, rfl⟩ := Int.eq_ofNat_of_zero_le h0
  exact hexv_fin ⟨n, by omega⟩
set_option maxHeartbeats 400000 in
set_option maxRecDepth 100000 in
theorem litIndexByte_any (s : ByteArray) (c : Int) (w : World) : Calls Tryd.prog 63 #[.string s, .int .u8 c] w fun e w' => e = .returned (.int .i64 (Lib.indexByte s.data.toList c.toNat.toUInt8)) ∧ w = w' := by
  go_enter Tryd.func63, Tryd.ntmps63
  go_wp2_with (fail)
  rw [run_callFunc_extern Tryd.func73 (by kernel_rfl) (by kernel_rfl) (by kernel_rfl) (e := Extern.BytealgIndexByte.indexByte) (by kernel_rfl), Lib.run_indexByteString]
  simp only [Result.andThen]
  rw [Oper.upon_value]
  go_wp2_with (fail)
  go_ret
  exact ⟨rfl, rfl⟩
set_option maxHeartbeats 400000 in
set_option maxRecDepth 100000 in
theorem digIndex_any (x : Int) (h0 : 0 ≤ x ∧ x ≤ 255) (w : World) : Calls Tryd.prog 31 #[.string ⟨#[48, 49, 50, 51, 52, 53, 54, 55, 56, 57, 97, 98, 99, 100, 101, 102]⟩, .int .u8 x] w fun e w' => e = .returned (.int .i64 (hexv x)) ∧ New w w' := by
  have hx := hexv_idx x h0.1 h0.2
  go_enter Tryd.func31, Tryd.ntmps31
  go_wp2_with (fail)
  refine (litIndexByte_any _ _ _).mono ?_
  rintro e w1 ⟨rfl, rfl⟩
  rw [show Lib.indexByte (ByteArray.data ⟨#[48, 49, 50, 51, 52, 53, 54, 55, 56, 57, 97, 98, 99, 100, 101, 102]⟩).toList x.toNat.toUInt8 = hexv x from hx]
  go_wp2_with (fail)
  go_ret
  exact ⟨rfl, New.refl w⟩
/-- the pairs of digits of a text -/
def pairV (s : ByteArray) (k : Nat) : Int := 16 * hexv (bAt s (2 * k)) + hexv (bAt s (2 * k + 1))
def pairOk (s : ByteArray) (k : Nat) : Bool := decide (0 ≤ hexv (bAt s (2 * k))) && decide (0 ≤ hexv (bAt s (2 * k + 1)))
def pairL (s : ByteArray) : Nat → List Int
  | 0 => []
  | k + 1 => pairL s k ++ [pairV s k]
theorem length_pairL (s : ByteArray) (k : Nat) : (pairL s k).length = k := by
  induction k with
  | zero => rfl
  | succ k ih => simp [pairL, ih]
def hexOk (s : ByteArray) : Bool := (List.range (s.size / 2)).all (pairOk s)
def fhS (s : ByteArray) : ByteArray := if hexOk s = true then bstr (pairL s (s.size / 2)) else ⟨#[]⟩
def fhB (s : ByteArray) : Bool := hexOk s && decide (s.size % 2 = 0)
theorem fhS_f {s : ByteArray} (h : hexOk s = false) : fhS s = ⟨#[]⟩ := if_neg (by simp [h])
theorem fhS_t {s : ByteArray} (h : hexOk s = true) : fhS s = bstr (pairL s (s.size / 2)) := if_pos h
theorem fhB_f {s : ByteArray} (h : hexOk s = false) : fhB s = false := by unfold fhB; rw [h]; rfl
theorem fhB_t {s : ByteArray} (h : hexOk s = true) : fhB s = decide (s.size % 2 = 0) := by unfold fhB; rw [h]; rfl
theorem upto_h {p : Nat → Bool} {k : Nat} (h : ∀ j, j < k → p j = true) (hk : p k = true) : ∀ j, j < k + 1 → p j = true := by
  intro j hj
  rcases Nat.lt_succ_iff_lt_or_eq.1 hj with h1 | rfl
  · exact h j h1
  · exact hk
def foundB (s : ByteArray) : Bool := decide (1 ≤ s.size) && (bAt s 0 == 35)
def restS (s : ByteArray) : ByteArray := if foundB s = true then s.extract 1 s.size else s
theorem ext_one (s : ByteArray) (h : 1 ≤ s.size) : ((s.extract 0 1).toList == ([35] : List UInt8)) = (bAt s 0 == 35) := by
  rw [Lib.extract_toList]
  obtain ⟨l⟩ := s
  obtain ⟨l⟩ := l
  match l, h with
  | x :: l, _ =>
    have hb : ∀ y : UInt8, (y == 35) = (((y.toNat : Nat) : Int) == 35) := by
      intro y
      by_cases e : y = 35
      · subst e; rfl
      · have e2 : ¬ ((y.toNat : Nat) : Int) = 35 := fun e3 => e (UInt8.toNat_inj.1 (by show y.toNat = 35; omega))
        rw [show (y == 35) = false from beq_eq_false_iff_ne.2 e, show (((y.toNat : Nat) : Int) == 35) = false from beq_eq_false_iff_ne.2 e2]
    rw [show bAt ⟨⟨x :: l⟩⟩ 0 = ((x.toNat : Nat) : Int) from rfl]
    simpa using hb x
theorem restS_t {s : ByteArray} (h : foundB s = true) : restS s = s.extract 1 s.size := if_pos h
theorem restS_f {s : ByteArray} (h : foundB s = false) : restS s = s := if_neg (by simp [h])
theorem foundB_len {s : ByteArray} (h : foundB s = true) : 1 ≤ s.size := by
  unfold foundB at h
  rw [Bool.and_eq_true] at h
  exact of_decide_eq_true h.1
def dg (s : ByteArray) (i : Nat) : Int := hexv (bAt s i)
def toneV (s : ByteArray) (k : Nat) : Int := 16 * dg s (2 * k + 1) + dg s (2 * k + 2)
def okAt (s : ByteArray) (i : Nat) : Bool := decide (0 ≤ dg s i)
def okText (s : ByteArray) : Bool := decide (s.size = 7) && ((bAt s 0 == 35) && (okAt s 1 && (okAt s 2 && (okAt s 3 && (okAt s 4 && (okAt s 5 && okAt s 6))))))
def readV (s : ByteArray) : Nat → Int := if okText s = true then toneV s else fun _ => 0
theorem readV_t {s : ByteArray} (h : okText s = true) : readV s = toneV s := if_pos h
theorem readV_f {s : ByteArray} (h : okText s = false) : readV s = fun _ => 0 := if_neg (by simp [h])
theorem dg_b (s : ByteArray) (i : Nat) : -1 ≤ hexv (bAt s i) ∧ hexv (bAt s i) ≤ 15 := hexv_b _
end Go.Proofs.YtomfjicjejoakaaDoor
