/- The program's mirrored, flipped and turned pictures; no condition. -/
import Derived.Test.YtfopllkienogfaaSpecB
set_option linter.unusedVariables false
namespace Go.Proofs.Ytfopllkienogfaa
open Go.BigFrame
open Go.RowKit Go.Arr
theorem enters {f : FuncId} {fn : Func} {c : Code} (hf : Try.prog.funcs[f]? = some fn) (hname : (fn.name == "runtime.NumGoroutine") = false) (hb : fn.body = some c) : ∀ (args : Array Value) (W : World), (callFunc f args).run Try.prog W = .ok (.enter f args) W := by
  intro args w
  have h1 : fn.name ≠ "runtime.NumGoroutine" := by simpa using hname
  simp [callFunc, hf, h1, hb, mark]
set_option maxHeartbeats 400000 in
set_option maxRecDepth 100000 in
theorem size_any (a b : Int) (f : Nat → Int) (ha : -128 ≤ a ∧ a ≤ 127) (hb : -128 ≤ b ∧ b ≤ 127) (w : World) :
    Calls Try.prog 64 #[.agg (pic 144 a b f)] w fun e w' => e = .returned (.tuple #[.int .i64 a, .int .i64 b]) ∧ New w w' := by
  go_enter Try.func64, Try.ntmps64
  go_wp2_with (fail)
  go_region
  go_wp2_with (fail)
  go_ret2
  refine ⟨rfl, ?_⟩
  repeat' (first | exact New.refl _ | refine New.alloc ?_ _ | refine New.drew ?_ | refine New.drewN ?_ _ | refine New.setRow ?_ (by omega) _ | refine New.setCell ?_ (by first | omega | (simp; done) | (simp; omega)) _)
set_option maxHeartbeats 400000 in
set_option maxRecDepth 100000 in
theorem at_any (a b : Int) (f : Nat → Int) (x y : Int) (hx : 0 ≤ x ∧ x < 144) (hy : 0 ≤ y ∧ y < 144) (hxy : x + 12 * y < 144) (w : World) :
    Calls Try.prog 58 #[.agg (pic 144 a b f), .int .i64 x, .int .i64 y] w fun e w' => e = .returned (.int .u8 (f (x + 12 * y).toNat)) ∧ New w w' := by
  have h0 : 0 ≤ x + 12 * y := by omega
  have h1 : (x + 12 * y).toNat < 144 := by omega
  go_enter Try.func58, Try.ntmps58
  go_wp2_with (fail)
  go_ret
  refine ⟨rfl, ?_⟩
  repeat' (first | exact New.refl _ | refine New.alloc ?_ _ | refine New.drew ?_ | refine New.drewN ?_ _ | refine New.setRow ?_ (by omega) _ | refine New.setCell ?_ (by first | omega | (simp; done) | (simp; omega)) _)
set_option maxHeartbeats 400000 in
set_option maxRecDepth 100000 in
theorem mirrored_fn (gp gw : Nat) (t1 t2 : TypeId) (a b : Int) (f : Nat → Int) (ha : 1 ≤ a ∧ a ≤ 12) (hb : 1 ≤ b ∧ b ≤ 12) (x y : Nat) (hx : (x : Int) < a) (hy : (y : Int) < b) (w : World) (hp : obj w gp = some (.cells (pic 144 a b f) t1)) (hw : obj w gw = some (.cells #[.int .i64 a] t2)) :
    Calls Try.prog 65 #[.int .i64 x, .int .i64 y, .pointer (some ⟨gp, 0, none⟩), .pointer (some ⟨gw, 0, none⟩)] w fun e w' => e = .returned (.int .u8 (mirH a f x y)) ∧ New w w' := by
  go_enter Try.func65, Try.ntmps65
  go_wp2_with (fail)
  refine (at_any a b f _ _ (by omega) (by omega) (by omega) _).mono ?_
  rintro e w1 ⟨rfl, hn1⟩
  go_wp2_with (fail)
  go_ret
  exact ⟨rfl, hn1⟩
set_option maxHeartbeats 400000 in
set_option maxRecDepth 100000 in
theorem flipped_fn (gp gw : Nat) (t1 t2 : TypeId) (a b : Int) (f : Nat → Int) (ha : 1 ≤ a ∧ a ≤ 12) (hb : 1 ≤ b ∧ b ≤ 12) (x y : Nat) (hx : (x : Int) < a) (hy : (y : Int) < b) (w : World) (hp : obj w gp = some (.cells (pic 144 a b f) t1)) (hw : obj w gw = some (.cells #[.int .i64 b] t2)) :
    Calls Try.prog 66 #[.int .i64 x, .int .i64 y, .pointer (some ⟨gp, 0, none⟩), .pointer (some ⟨gw, 0, none⟩)] w fun e w' => e = .returned (.int .u8 (flipH b f x y)) ∧ New w w' := by
  go_enter Try.func66, Try.ntmps66
  go_wp2_with (fail)
  refine (at_any a b f _ _ (by omega) (by omega) (by omega) _).mono ?_
  rintro e w1 ⟨rfl, hn1⟩
  go_wp2_with (fail)
  go_ret
  exact ⟨rfl, hn1⟩
set_option maxHeartbeats 400000 in
set_option maxRecDepth 100000 in
theorem turned_fn (gp gw : Nat) (t1 t2 : TypeId) (a b : Int) (f : Nat → Int) (ha : 1 ≤ a ∧ a ≤ 12) (hb : 1 ≤ b ∧ b ≤ 12) (x y : Nat) (hx : (x : Int) < b) (hy : (y : Int) < a) (w : World) (hp : obj w gp = some (.cells (pic 144 a b f) t1)) (hw : obj w gw = some (.cells #[.int .i64 b] t2)) :
    Calls Try.prog 67 #[.int .i64 x, .int .i64 y, .pointer (some ⟨gp, 0, none⟩), .pointer (some ⟨gw, 0, none⟩)] w fun e w' => e = .returned (.int .u8 (turnH b f x y)) ∧ New w w' := by
  go_enter Try.func67, Try.ntmps67
  go_wp2_with (fail)
  refine (at_any a b f _ _ (by omega) (by omega) (by omega) _).mono ?_
  rintro e w1 ⟨rfl, hn1⟩
  go_wp2_with (fail)
  go_ret
  exact ⟨rfl, hn1⟩
set_option maxHeartbeats 1000000 in
set_option maxRecDepth 100000 in
theorem mirrored_any (a b : Int) (f : Nat → Int) (ha : 1 ≤ a ∧ a ≤ 12) (hb : 1 ≤ b ∧ b ≤ 12) (w : World) :
    Calls Try.prog 37 #[.agg (pic 144 a b f)] w fun e w' => e = .returned (.agg (pic 144 a b (paint a b (mirH a f)))) ∧ New w w' := by
  go_enter Try.func37, Try.ntmps37
  go_wp2_with (fail)
  refine (size_any a b f (by omega) (by omega) _).mono ?_
  rintro e1 w1 ⟨rfl, hn1⟩
  have ho1 := hn1.objs
  have hz1 := hn1.le
  try simp at hz1
  have k1_0 : w.heap.size < w1.heap.size := by omega
  have k1_1 : w.heap.size + 1 < w1.heap.size := by omega
  go_wp2_with (fail)
  refine (painted_any a b (by omega) (by omega) 65 _ (mirH a f) _ (enters Try.func65 (by kernel_rfl) rfl) (fun W x y hW hx hy => ?_)).mono ?_
  · have k3 : w.heap.size < w1.heap.size + 1 := by omega
    refine mirrored_fn w.heap.size w1.heap.size 28 2 a b f ha hb x y hx hy W ?_ ?_
    · rw [hW.objs _ (by simp; omega)]; go_simp
    · rw [hW.objs _ (by simp)]; go_simp
  rintro e2 w2 ⟨rfl, hn2⟩
  have ho2 := hn2.objs
  have hz2 := hn2.le
  simp at hz2
  have k4 : w.heap.size + 1 < w1.heap.size + 1 := by omega
  have k5 : w.heap.size + 1 < w2.heap.size := by omega
  go_wp2_with (fail)
  refine ret_cell agg28 rfl rfl (c := pic 144 a b (paint a b (mirH a f))) (t := 28) (fr := (0, 0)) (by go_simp) size_pic rfl ⟨rfl, ?_⟩
  refine New.setRow (New.trans ?_ hn2) (by omega) _
  repeat' (first | exact New.refl _ | refine New.alloc ?_ _ | refine New.drew ?_ | refine New.drewN ?_ _ | refine New.setRow ?_ (by omega) _ | refine New.setCell ?_ (by first | omega | (simp; done) | (simp; omega)) _ | refine New.trans ?_ hn1)
set_option maxHeartbeats 1000000 in
set_option maxRecDepth 100000 in
theorem flipped_any (a b : Int) (f : Nat → Int) (ha : 1 ≤ a ∧ a ≤ 12) (hb : 1 ≤ b ∧ b ≤ 12) (w : World) :
    Calls Try.prog 38 #[.agg (pic 144 a b f)] w fun e w' => e = .returned (.agg (pic 144 a b (paint a b (flipH b f)))) ∧ New w w' := by
  go_enter Try.func38, Try.ntmps38
  go_wp2_with (fail)
  refine (size_any a b f (by omega) (by omega) _).mono ?_
  rintro e1 w1 ⟨rfl, hn1⟩
  have ho1 := hn1.objs
  have hz1 := hn1.le
  try simp at hz1
  have k1_0 : w.heap.size < w1.heap.size := by omega
  have k1_1 : w.heap.size + 1 < w1.heap.size := by omega
  go_wp2_with (fail)
  refine (painted_any a b (by omega) (by omega) 66 _ (flipH b f) _ (enters Try.func66 (by kernel_rfl) rfl) (fun W x y hW hx hy => ?_)).mono ?_
  · have k3 : w.heap.size < w1.heap.size + 1 := by omega
    refine flipped_fn w.heap.size w1.heap.size 28 2 a b f ha hb x y hx hy W ?_ ?_
    · rw [hW.objs _ (by simp; omega)]; go_simp
    · rw [hW.objs _ (by simp)]; go_simp
  rintro e2 w2 ⟨rfl, hn2⟩
  have ho2 := hn2.objs
  have hz2 := hn2.le
  simp at hz2
  have k4 : w.heap.size + 1 < w1.heap.size + 1 := by omega
  have k5 : w.heap.size + 1 < w2.heap.size := by omega
  go_wp2_with (fail)
  refine ret_cell agg28 rfl rfl (c := pic 144 a b (paint a b (flipH b f))) (t := 28) (fr := (0, 0)) (by go_simp) size_pic rfl ⟨rfl, ?_⟩
  refine New.setRow (New.trans ?_ hn2) (by omega) _
  repeat' (first | exact New.refl _ | refine New.alloc ?_ _ | refine New.drew ?_ | refine New.drewN ?_ _ | refine New.setRow ?_ (by omega) _ | refine New.setCell ?_ (by first | omega | (simp; done) | (simp; omega)) _ | refine New.trans ?_ hn1)
set_option maxHeartbeats 1000000 in
set_option maxRecDepth 100000 in
theorem turned_any (a b : Int) (f : Nat → Int) (ha : 1 ≤ a ∧ a ≤ 12) (hb : 1 ≤ b ∧ b ≤ 12) (w : World) :
    Calls Try.prog 39 #[.agg (pic 144 a b f)] w fun e w' => e = .returned (.agg (pic 144 b a (paint b a (turnH b f)))) ∧ New w w' := by
  go_enter Try.func39, Try.ntmps39
  go_wp2_with (fail)
  refine (size_any a b f (by omega) (by omega) _).mono ?_
  rintro e1 w1 ⟨rfl, hn1⟩
  have ho1 := hn1.objs
  have hz1 := hn1.le
  try simp at hz1
  have k1_0 : w.heap.size < w1.heap.size := by omega
  have k1_1 : w.heap.size + 1 < w1.heap.size := by omega
  go_wp2_with (fail)
  refine (painted_any b a (by omega) (by omega) 67 _ (turnH b f) _ (enters Try.func67 (by kernel_rfl) rfl) (fun W x y hW hx hy => ?_)).mono ?_
  · have k3 : w.heap.size < w1.heap.size + 1 := by omega
    refine turned_fn w.heap.size w1.heap.size 28 2 a b f ha hb x y hx hy W ?_ ?_
    · rw [hW.objs _ (by simp; omega)]; go_simp
    · rw [hW.objs _ (by simp)]; go_simp
  rintro e2 w2 ⟨rfl, hn2⟩
  have ho2 := hn2.objs
  have hz2 := hn2.le
  simp at hz2
  have k4 : w.heap.size + 1 < w1.heap.size + 1 := by omega
  have k5 : w.heap.size + 1 < w2.heap.size := by omega
  go_wp2_with (fail)
  refine ret_cell agg28 rfl rfl (c := pic 144 b a (paint b a (turnH b f))) (t := 28) (fr := (0, 0)) (by go_simp) size_pic rfl ⟨rfl, ?_⟩
  refine New.setRow (New.trans ?_ hn2) (by omega) _
  repeat' (first | exact New.refl _ | refine New.alloc ?_ _ | refine New.drew ?_ | refine New.drewN ?_ _ | refine New.setRow ?_ (by omega) _ | refine New.setCell ?_ (by first | omega | (simp; done) | (simp; omega)) _ | refine New.trans ?_ hn1)
end Go.Proofs.Ytfopllkienogfaa
