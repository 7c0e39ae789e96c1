/- The program's mirrored, flipped and turned pictures; no condition. -/
import Derived.Test.YtbhajdcohhblfaaSpecB
set_option linter.unusedVariables false
namespace Go.Proofs.Ytbhajdcohhblfaa
open Go.BigFrame
open Go.RowKit Go.Arr
theorem enters {f : FuncId} {fn : Func} {c : Code} (hf : Try.prog.funcs[f]? = some fn) (hname : (fn.name == "runtime.NumGoroutine") = false) (hb : fn.body = some c) : ∀ (args : Array Value) (W : World), (callFunc f args).run Try.prog W = .ok (.enter f args) W := by
  intro args w
  have h1 : fn.name ≠ "runtime.NumGoroutine" := by simpa using hname
  simp [callFunc, hf, h1, hb, mark]
set_option maxHeartbeats 400000 in
set_option maxRecDepth 100000 in
theorem size_any (a b : Int) (f : Nat → Int) (ha : -128 ≤ a ∧ a ≤ 127) (hb : -128 ≤ b ∧ b ≤ 127) (w : World) :
    Calls Try.prog 63 #[.agg (pic 144 a b f)] w fun e w' => e = .returned (.tuple #[.int .i64 a, .int .i64 b]) ∧ New w w' := by
  go_enter Try.func63, Try.ntmps63
  go_wp2_with (fail)
  go_region
  go_wp2_with (fail)
  go_ret2
  refine ⟨rfl, ?_⟩
  repeat' (first | exact New.refl _ | refine New.alloc ?_ _ | refine New.drew ?_ | refine New.drewN ?_ _ | refine New.setRow ?_ (by omega) _ | refine New.setCell ?_ (by first | omega | (simp; done) | (simp; omega)) _)
set_option maxHeartbeats 400000 in
set_option maxRecDepth 100000 in
theorem at_any (a b : Int) (f : Nat → Int) (x y : Int) (hx : 0 ≤ x ∧ x < 144) (hy : 0 ≤ y ∧ y < 144) (hxy : x + 12 * y < 144) (w : World) :
    Calls Try.prog 56 #[.agg (pic 144 a b f), .int .i64 x, .int .i64 y] w fun e w' => e = .returned (.int .u8 (f (x + 12 * y).toNat)) ∧ New w w' := by
  have h0 : 0 ≤ x + 12 * y := by omega
  have h1 : (x + 12 * y).toNat < 144 := by omega
  go_enter Try.func56, Try.ntmps56
  go_wp2_with (fail)
  go_ret
  refine ⟨rfl, ?_⟩
  repeat' (first | exact New.refl _ | refine New.alloc ?_ _ | refine New.drew ?_ | refine New.drewN ?_ _ | refine New.setRow ?_ (by omega) _ | refine New.setCell ?_ (by first | omega | (simp; done) | (simp; omega)) _)
set_option maxHeartbeats 400000 in
set_option maxRecDepth 100000 in
theorem mirrored_fn (gp gw : Nat) (t1 t2 : TypeId) (a b : Int) (f : Nat → Int) (ha : 1 ≤ a ∧ a ≤ 12) (hb : 1 ≤ b ∧ b ≤ 12) (x y : Nat) (hx : (x : Int) < a) (hy : (y : Int) < b) (w : World) (hp : obj w gp = some (.cells (pic 144 a b f) t1)) (hw : obj w gw = some (.cells #[.int .i64 a] t2)) :
    Calls Try.prog 71 #[.int .i64 x, .int .i64 y, .pointer (some ⟨gp, 0, none⟩), .pointer (some ⟨gw, 0, none⟩)] w fun e w' => e = .returned (.int .u8 (mirH a f x y)) ∧ New w w' := by
  go_enter Try.func71, Try.ntmps71
  go_wp2_with (fail)
  refine (at_any a b f _ _ (by omega) (by omega) (by omega) _).mono ?_
  rintro e w1 ⟨rfl, hn1⟩
  go_wp2_with (fail)
  go_ret
  exact ⟨rfl, hn1⟩
set_option maxHeartbeats 400000 in
set_option maxRecDepth 100000 in
theorem flipped_fn (gp gw : Nat) (t1 t2 : TypeId) (a b : Int) (f : Nat → Int) (ha : 1 ≤ a ∧ a ≤ 12) (hb : 1 ≤ b ∧ b ≤ 12) (x y : Nat) (hx : (x : Int) < a) (hy : (y : Int) < b) (w : World) (hp : obj w gp = some (.cells (pic 144 a b f) t1)) (hw : obj w gw = some (.cells #[.int .i64 b] t2)) :
    Calls Try.prog 72 #[.int .i64 x, .int .i64 y, .pointer (some ⟨gp, 0, none⟩), .pointer (some ⟨gw, 0, none⟩)] w fun e w' => e = .returned (.int .u8 (flipH b f x y)) ∧ New w w' := by
  go_enter Try.func72, Try.ntmps72
  go_wp2_with (fail)
  refine (at_any a b f _ _ (by omega) (by omega) (by omega) _).mono ?_
  rintro e w1 ⟨rfl, hn1⟩
  go_wp2_with (fail)
  go_ret
  exact ⟨rfl, hn1⟩
set_option maxHeartbeats 400000 in
set_option maxRecDepth 100000 in
theorem turned_fn (gp gw : Nat) (t1 t2 : TypeId) (a b : Int) (f : Nat → Int) (ha : 1 ≤ a ∧ a ≤ 12) (hb : 1 ≤ b ∧ b ≤ 12) (x y : Nat) (hx : (x : Int) < b) (hy : (y : Int) < a) (w : World) (hp : obj w gp = some (.cells (pic 144 a b f) t1)) (hw : obj w gw = some (.cells #[.int .i64 b] t2)) :
    Calls Try.prog 73 #[.int .i64 x, .int .i64 y, .pointer (some ⟨gp, 0, none⟩), .pointer (some ⟨gw, 0, none⟩)] w fun e w' => e = .returned (.int .u8 (turnH b f x y)) ∧ New w w' := by
  go_enter Try.func73, Try.ntmps73
  go_wp2_with (fail)
  refine (at_any a b f _ _ (by omega) (by omega) (by omega) _).mono ?_
  rintro e w1 ⟨rfl, hn1⟩
  go_wp2_with (fail)
  go_ret
  exact ⟨rfl, hn1⟩
set_option maxHeartbeats 1000000 in
set_option maxRecDepth 100000 in
theorem mirrored_any (a b : Int) (f : Nat → Int) (ha : 1 ≤ a ∧ a ≤ 12) (hb : 1 ≤ b ∧ b ≤ 12) (w : World) :
    Calls Try.prog 48 #[.agg (pic 144 a b f)] w fun e w' => e = .returned (.agg (pic 144 a b (paint a b (mirH a f)))) ∧ New w w' := by
  go_enter Try.func48, Try.ntmps48
  go_wp2_with (fail)
  refine (size_any a b f (by omega) (by omega) _).mono ?_
  rintro e1 w1 ⟨rfl, hn1⟩
  have ho1 := hn1.objs
  have hz1 := hn1.le
  try simp at hz1
  have k1_0 : w.heap.size < w1.heap.size := by omega
  have k1_1 : w.heap.size + 1 < w1.heap.size := by omega
  go_wp2_with (fail)
  refine (painted_any a b (by omega) (by omega) 71 _ (mirH a f) _ (enters Try.func71 (by kernel_rfl) rfl) (fun W x y hW hx hy => ?_)).mono ?_
  · have k3 : w.heap.size < w1.heap.size + 1 := by omega
    refine mirrored_fn w.heap.size w1.heap.size 27 2 a b f ha hb x y hx hy W ?_ ?_
    · rw [hW.objs _ (by simp; omega)]; go_simp
    · rw [hW.objs _ (by simp)]; go_simp
  rintro e2 w2 ⟨rfl, hn2⟩
  have ho2 := hn2.objs
  have hz2 := hn2.le
  simp at hz2
  have k4 : w.heap.size + 1 < w1.heap.size + 1 := by omega
  have k5 : w.heap.size + 1 < w2.heap.size := by omega
  go_wp2_with (fail)
  refine ret_cell agg27 rfl rfl (c := pic 144 a b (paint a b (mirH a f))) (t := 27) (fr := (0, 0)) (by go_simp) size_pic rfl ⟨rfl, ?_⟩
  refine New.setRow (New.trans ?_ hn2) (by omega) _
  repeat' (first | exact New.refl _ | refine New.alloc ?_ _ | refine New.drew ?_ | refine New.drewN ?_ _ | refine New.setRow ?_ (by omega) _ | refine New.setCell ?_ (by first | omega | (simp; done) | (simp; omega)) _ | refine New.trans ?_ hn1)
set_option maxHeartbeats 1000000 in
set_option maxRecDepth 100000 in
theorem flipped_any (a b : Int) (f : Nat → Int) (ha : 1 ≤ a ∧ a ≤ 12) (hb : 1 ≤ b ∧ b ≤ 12) (w : World) :
    Calls Try.prog 51 #[.agg (pic 144 a b f)] w fun e w' => e = .returned (.agg (pic 144 a b (paint a b (flipH b f)))) ∧ New w w' := by
  go_enter Try.func51, Try.ntmps51
  go_wp2_with (fail)
  refine (size_any a b f (by omega) (by omega) _).mono ?_
  rintro e1 w1 ⟨rfl, hn1⟩
  have ho1 := hn1.objs
  have hz1 := hn1.le
  try simp at hz1
  have k1_0 : w.heap.size < w1.heap.size := by omega
  have k1_1 : w.heap.size + 1 < w1.heap.size := by omega
  go_wp2_with (fail)
  refine (painted_any a b (by omega) (by omega) 72 _ (flipH b f) _ (enters Try.func72 (by kernel_rfl) rfl) (fun W x y hW hx hy => ?_)).mono ?_
  · have k3 : w.heap.size < w1.heap.size + 1 := by omega
    refine flipped_fn w.heap.size w1.heap.size 27 2 a b f ha hb x y hx hy W ?_ ?_
    · rw [hW.objs _ (by simp; omega)]; go_simp
    · rw [hW.objs _ (by simp)]; go_simp
  rintro e2 w2 ⟨rfl, hn2⟩
  have ho2 := hn2.objs
  have hz2 := hn2.le
  simp at hz2
  have k4 : w.heap.size + 1 < w1.heap.size + 1 := by omega
  have k5 : w.heap.size + 1 < w2.heap.size := by omega
  go_wp2_with (fail)
  refine ret_cell agg27 rfl rfl (c := pic 144 a b (paint a b (flipH b f))) (t := 27) (fr := (0, 0)) (by go_simp) size_pic rfl ⟨rfl, ?_⟩
  refine New.setRow (New.trans ?_ hn2) (by omega) _
  repeat' (first | exact New.refl _ | refine New.alloc ?_ _ | refine New.drew ?_ | refine New.drewN ?_ _ | refine New.setRow ?_ (by omega) _ | refine New.setCell ?_ (by first | omega | (simp; done) | (simp; omega)) _ | refine New.trans ?_ hn1)
set_option maxHeartbeats 1000000 in
set_option maxRecDepth 100000 in
theorem turned_any (a b : Int) (f : Nat → Int) (ha : 1 ≤ a ∧ a ≤ 12) (hb : 1 ≤ b ∧ b ≤ 12) (w : World) :
    Calls Try.prog 53 #[.agg (pic 144 a b f)] w fun e w' => e = .returned (.agg (pic 144 b a (paint b a (turnH b f)))) ∧ New w w' := by
  go_enter Try.func53, Try.ntmps53
  go_wp2_with (fail)
  refine (size_any a b f (by omega) (by omega) _).mono ?_
  rintro e1 w1 ⟨rfl, hn1⟩
  have ho1 := hn1.objs
  have hz1 := hn1.le
  try simp at hz1
  have k1_0 : w.heap.size < w1.heap.size := by omega
  have k1_1 : w.heap.size + 1 < w1.heap.size := by omega
  go_wp2_with (fail)
  refine (painted_any b a (by omega) (by omega) 73 _ (turnH b f) _ (enters Try.func73 (by kernel_rfl) rfl) (fun W x y hW hx hy => ?_)).mono ?_
  · have k3 : w.heap.size < w1.heap.size + 1 := by omega
    refine turned_fn w.heap.size w1.heap.size 27 2 a b f ha hb x y hx hy W ?_ ?_
    · rw [hW.objs _ (by simp; omega)]; go_simp
    · rw [hW.objs _ (by simp)]; go_simp
  rintro e2 w2 ⟨rfl, hn2⟩
  have ho2 := hn2.objs
  have hz2 := hn2.le
  simp at hz2
  have k4 : w.heap.size + 1 < w1.heap.size + 1 := by omega
  have k5 : w.heap.size + 1 < w2.heap.size := by omega
  go_wp2_with (fail)
  refine ret_cell agg27 rfl rfl (c := pic 144 b a (paint b a (turnH b f))) (t := 27) (fr := (0, 0)) (by go_simp) size_pic rfl ⟨rfl, ?_⟩
  refine New.setRow (New.trans ?_ hn2) (by omega) _
  repeat' (first | exact New.refl _ | refine New.alloc ?_ _ | refine New.drew ?_ | refine New.drewN ?_ _ | refine New.setRow ?_ (by omega) _ | refine New.setCell ?_ (by first | omega | (simp; done) | (simp; omega)) _ | refine New.trans ?_ hn1)
set_option maxHeartbeats 1000000 in
set_option maxRecDepth 100000 in
theorem changed_no (a b : Int) (f : Nat → Int) (ha : -128 ≤ a ∧ a ≤ 127) (hb : -128 ≤ b ∧ b ≤ 127) (hf : ∀ i, 0 ≤ f i ∧ f i ≤ 255) (hok : okPic a b f = false) (F : FuncId) (w : World) :
    Calls Try.prog 47 #[.agg (pic 144 a b f), .func (.func F) #[] #[]] w fun e w' => e = .returned (.tuple #[.agg (pic 144 (noPic 1).w (noPic 1).h (noPic 1).f), .int .i64 (noPic 1).c]) ∧ New w w' := by
  go_enter Try.func47, Try.ntmps47
  go_wp2_with (fail)
  refine (validPicture_impl a b f ha hb hf _).mono ?_
  rintro e1 w1 ⟨rfl, hn1⟩
  have ho1 := hn1.objs
  have hz1 := hn1.le
  try simp at hz1
  have k1_0 : w.heap.size < w1.heap.size := by omega
  have k1_1 : w.heap.size + 1 < w1.heap.size := by omega
  go_wp2_with (fail)
  refine ret_cell_tmp agg27 rfl rfl (c := pic 144 0 0 fun _ => 0) (t := 27) (fr := (0, 0)) (by go_simp) size_pic rfl ⟨rfl, ?_⟩
  repeat' (first | exact New.refl _ | refine New.alloc ?_ _ | refine New.drew ?_ | refine New.drewN ?_ _ | refine New.setRow ?_ (by omega) _ | refine New.setCell ?_ (by first | omega | (simp; done) | (simp; omega)) _ | refine New.trans ?_ hn1)
set_option maxHeartbeats 1000000 in
set_option maxRecDepth 100000 in
theorem changed_yes (a b : Int) (f : Nat → Int) (ha : -128 ≤ a ∧ a ≤ 127) (hb : -128 ≤ b ∧ b ≤ 127) (hf : ∀ i, 0 ≤ f i ∧ f i ≤ 255) (hok : okPic a b f = true) (F : FuncId) (a' b' : Int) (f' : Nat → Int) (w : World)
    (hE : ∀ (args : Array Value) (W : World), (callFunc F args).run Try.prog W = .ok (.enter F args) W)
    (hF : ∀ W, Calls Try.prog F #[.agg (pic 144 a b f)] W fun e w' => e = .returned (.agg (pic 144 a' b' f')) ∧ New W w') :
    Calls Try.prog 47 #[.agg (pic 144 a b f), .func (.func F) #[] #[]] w fun e w' => e = .returned (.tuple #[.agg (pic 144 a' b' f'), .int .i64 0]) ∧ New w w' := by
  have HF := hide hF
  clear hF
  go_enter Try.func47, Try.ntmps47
  go_wp2_with (fail)
  refine (validPicture_impl a b f ha hb hf _).mono ?_
  rintro e1 w1 ⟨rfl, hn1⟩
  have ho1 := hn1.objs
  have hz1 := hn1.le
  try simp at hz1
  have k1_0 : w.heap.size < w1.heap.size := by omega
  have k1_1 : w.heap.size + 1 < w1.heap.size := by omega
  go_wp2_with (fail)
  refine (HF.out _).mono ?_
  rintro e2 w2 ⟨rfl, hn2⟩
  have ho2 := hn2.objs
  have hz2 := hn2.le
  try simp at hz2
  have k2_0 : w.heap.size < w2.heap.size := by omega
  have k2_1 : w.heap.size + 1 < w2.heap.size := by omega
  go_wp2_with (fail)
  refine ret_cell_tmp agg27 rfl rfl (c := pic 144 a' b' f') (t := 27) (fr := (0, 0)) (by go_simp) size_pic rfl ⟨rfl, ?_⟩
  repeat' (first | exact New.refl _ | refine New.alloc ?_ _ | refine New.drew ?_ | refine New.drewN ?_ _ | refine New.setRow ?_ (by omega) _ | refine New.setCell ?_ (by first | omega | (simp; done) | (simp; omega)) _ | refine New.trans ?_ hn2 | refine New.trans ?_ hn1)
set_option maxHeartbeats 1000000 in
set_option maxRecDepth 100000 in
theorem mirror_impl (a b : Int) (f : Nat → Int) (ha : -128 ≤ a ∧ a ≤ 127) (hb : -128 ≤ b ∧ b ≤ 127) (hf : ∀ i, 0 ≤ f i ∧ f i ≤ 255) (w : World) :
    Calls Try.prog 19 #[.agg (pic 144 a b f)] w fun e w' => e = .returned (.tuple #[.agg (pic 144 (mirA a b f).w (mirA a b f).h (mirA a b f).f), .int .i64 (mirA a b f).c]) ∧ New w w' := by
  cases hok : okPic a b f
  · have hA : mirA a b f = noPic 1 := by simp [mirA, hok]
    rw [hA]
    clear hA
    go_enter Try.func19, Try.ntmps19
    go_wp2_with (fail)
    refine (changed_no a b f ha hb hf hok _ _).mono ?_
    rintro e1 w1 ⟨rfl, hn1⟩
    have ho1 := hn1.objs
    have hz1 := hn1.le
    try simp at hz1
    have k1_0 : w.heap.size < w1.heap.size := by omega
    have k1_1 : w.heap.size + 1 < w1.heap.size := by omega
    go_wp2_with (fail)
    refine ret_cell_tmp agg27 rfl rfl (c := pic 144 (noPic 1).w (noPic 1).h (noPic 1).f) (t := 27) (fr := (0, 0)) (by go_simp) size_pic rfl ⟨rfl, ?_⟩
    repeat' (first | exact New.refl _ | refine New.alloc ?_ _ | refine New.drew ?_ | refine New.drewN ?_ _ | refine New.setRow ?_ (by omega) _ | refine New.setCell ?_ (by first | omega | (simp; done) | (simp; omega)) _ | refine New.trans ?_ hn1)
  · have hd := okPic_dims hok
    have hA : mirA a b f = ⟨0, a, b, paint a b (mirH a f)⟩ := by rw [mirA, if_pos hok]
    rw [hA]
    clear hA
    go_enter Try.func19, Try.ntmps19
    go_wp2_with (fail)
    refine (changed_yes a b f ha hb hf hok 48 _ _ _ _ (enters Try.func48 (by kernel_rfl) rfl) (fun W => mirrored_any a b f hd.1 hd.2 W)).mono ?_
    rintro e2 w2 ⟨rfl, hn2⟩
    have ho2 := hn2.objs
    have hz2 := hn2.le
    try simp at hz2
    have k2_0 : w.heap.size < w2.heap.size := by omega
    have k2_1 : w.heap.size + 1 < w2.heap.size := by omega
    go_wp2_with (fail)
    refine ret_cell_tmp agg27 rfl rfl (t := 27) (fr := (0, 0)) (by go_simp) size_pic rfl ⟨rfl, ?_⟩
    repeat' (first | exact New.refl _ | refine New.alloc ?_ _ | refine New.drew ?_ | refine New.drewN ?_ _ | refine New.setRow ?_ (by omega) _ | refine New.setCell ?_ (by first | omega | (simp; done) | (simp; omega)) _ | refine New.trans ?_ hn2 | refine New.trans ?_ hn1)
set_option maxHeartbeats 1000000 in
set_option maxRecDepth 100000 in
theorem flip_impl (a b : Int) (f : Nat → Int) (ha : -128 ≤ a ∧ a ≤ 127) (hb : -128 ≤ b ∧ b ≤ 127) (hf : ∀ i, 0 ≤ f i ∧ f i ≤ 255) (w : World) :
    Calls Try.prog 22 #[.agg (pic 144 a b f)] w fun e w' => e = .returned (.tuple #[.agg (pic 144 (flipA a b f).w (flipA a b f).h (flipA a b f).f), .int .i64 (flipA a b f).c]) ∧ New w w' := by
  cases hok : okPic a b f
  · have hA : flipA a b f = noPic 1 := by simp [flipA, hok]
    rw [hA]
    clear hA
    go_enter Try.func22, Try.ntmps22
    go_wp2_with (fail)
    refine (changed_no a b f ha hb hf hok _ _).mono ?_
    rintro e1 w1 ⟨rfl, hn1⟩
    have ho1 := hn1.objs
    have hz1 := hn1.le
    try simp at hz1
    have k1_0 : w.heap.size < w1.heap.size := by omega
    have k1_1 : w.heap.size + 1 < w1.heap.size := by omega
    go_wp2_with (fail)
    refine ret_cell_tmp agg27 rfl rfl (c := pic 144 (noPic 1).w (noPic 1).h (noPic 1).f) (t := 27) (fr := (0, 0)) (by go_simp) size_pic rfl ⟨rfl, ?_⟩
    repeat' (first | exact New.refl _ | refine New.alloc ?_ _ | refine New.drew ?_ | refine New.drewN ?_ _ | refine New.setRow ?_ (by omega) _ | refine New.setCell ?_ (by first | omega | (simp; done) | (simp; omega)) _ | refine New.trans ?_ hn1)
  · have hd := okPic_dims hok
    have hA : flipA a b f = ⟨0, a, b, paint a b (flipH b f)⟩ := by rw [flipA, if_pos hok]
    rw [hA]
    clear hA
    go_enter Try.func22, Try.ntmps22
    go_wp2_with (fail)
    refine (changed_yes a b f ha hb hf hok 51 _ _ _ _ (enters Try.func51 (by kernel_rfl) rfl) (fun W => flipped_any a b f hd.1 hd.2 W)).mono ?_
    rintro e2 w2 ⟨rfl, hn2⟩
    have ho2 := hn2.objs
    have hz2 := hn2.le
    try simp at hz2
    have k2_0 : w.heap.size < w2.heap.size := by omega
    have k2_1 : w.heap.size + 1 < w2.heap.size := by omega
    go_wp2_with (fail)
    refine ret_cell_tmp agg27 rfl rfl (t := 27) (fr := (0, 0)) (by go_simp) size_pic rfl ⟨rfl, ?_⟩
    repeat' (first | exact New.refl _ | refine New.alloc ?_ _ | refine New.drew ?_ | refine New.drewN ?_ _ | refine New.setRow ?_ (by omega) _ | refine New.setCell ?_ (by first | omega | (simp; done) | (simp; omega)) _ | refine New.trans ?_ hn2 | refine New.trans ?_ hn1)
set_option maxHeartbeats 1000000 in
set_option maxRecDepth 100000 in
theorem turn_impl (a b : Int) (f : Nat → Int) (ha : -128 ≤ a ∧ a ≤ 127) (hb : -128 ≤ b ∧ b ≤ 127) (hf : ∀ i, 0 ≤ f i ∧ f i ≤ 255) (w : World) :
    Calls Try.prog 24 #[.agg (pic 144 a b f)] w fun e w' => e = .returned (.tuple #[.agg (pic 144 (turnA a b f).w (turnA a b f).h (turnA a b f).f), .int .i64 (turnA a b f).c]) ∧ New w w' := by
  cases hok : okPic a b f
  · have hA : turnA a b f = noPic 1 := by simp [turnA, hok]
    rw [hA]
    clear hA
    go_enter Try.func24, Try.ntmps24
    go_wp2_with (fail)
    refine (changed_no a b f ha hb hf hok _ _).mono ?_
    rintro e1 w1 ⟨rfl, hn1⟩
    have ho1 := hn1.objs
    have hz1 := hn1.le
    try simp at hz1
    have k1_0 : w.heap.size < w1.heap.size := by omega
    have k1_1 : w.heap.size + 1 < w1.heap.size := by omega
    go_wp2_with (fail)
    refine ret_cell_tmp agg27 rfl rfl (c := pic 144 (noPic 1).w (noPic 1).h (noPic 1).f) (t := 27) (fr := (0, 0)) (by go_simp) size_pic rfl ⟨rfl, ?_⟩
    repeat' (first | exact New.refl _ | refine New.alloc ?_ _ | refine New.drew ?_ | refine New.drewN ?_ _ | refine New.setRow ?_ (by omega) _ | refine New.setCell ?_ (by first | omega | (simp; done) | (simp; omega)) _ | refine New.trans ?_ hn1)
  · have hd := okPic_dims hok
    have hA : turnA a b f = ⟨0, b, a, paint b a (turnH b f)⟩ := by rw [turnA, if_pos hok]
    rw [hA]
    clear hA
    go_enter Try.func24, Try.ntmps24
    go_wp2_with (fail)
    refine (changed_yes a b f ha hb hf hok 53 _ _ _ _ (enters Try.func53 (by kernel_rfl) rfl) (fun W => turned_any a b f hd.1 hd.2 W)).mono ?_
    rintro e2 w2 ⟨rfl, hn2⟩
    have ho2 := hn2.objs
    have hz2 := hn2.le
    try simp at hz2
    have k2_0 : w.heap.size < w2.heap.size := by omega
    have k2_1 : w.heap.size + 1 < w2.heap.size := by omega
    go_wp2_with (fail)
    refine ret_cell_tmp agg27 rfl rfl (t := 27) (fr := (0, 0)) (by go_simp) size_pic rfl ⟨rfl, ?_⟩
    repeat' (first | exact New.refl _ | refine New.alloc ?_ _ | refine New.drew ?_ | refine New.drewN ?_ _ | refine New.setRow ?_ (by omega) _ | refine New.setCell ?_ (by first | omega | (simp; done) | (simp; omega)) _ | refine New.trans ?_ hn2 | refine New.trans ?_ hn1)
end Go.Proofs.Ytbhajdcohhblfaa
