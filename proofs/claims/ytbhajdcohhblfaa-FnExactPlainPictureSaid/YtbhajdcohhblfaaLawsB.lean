/- The laws on a place of a picture, on plain pictures and on parts, walked; no condition. -/
import Derived.Test.YtbhajdcohhblfaaImplB
import Derived.Test.YtbhajdcohhblfaaEqP
set_option linter.unusedVariables false
namespace Go.Proofs.Ytbhajdcohhblfaa
open Go.BigFrame
open Go.RowKit Go.Arr
set_option maxHeartbeats 1000000 in
set_option maxRecDepth 100000 in
theorem with_law (a b : Int) (f : Nat → Int) (ha : -128 ≤ a ∧ a ≤ 127) (hb : -128 ≤ b ∧ b ≤ 127) (hf : ∀ i, 0 ≤ f i ∧ f i ≤ 255) (x : Int) (hx : -9223372036854775808 ≤ x ∧ x ≤ 9223372036854775807) (y : Int) (hy : -9223372036854775808 ≤ y ∧ y ≤ 9223372036854775807) (c : Int) (hc : -9223372036854775808 ≤ c ∧ c ≤ 9223372036854775807) (w : World) :
    Calls Try.prog 8 #[.agg (pic 144 a b f), .int .i64 x, .int .i64 y, .int .i64 c] w fun e w' => e = .returned (.bool true) ∧ New w w' := by
  go_enter Try.func8, Try.ntmps8
  go_wp2_with (fail)
  refine (toPicture_any a b f _).mono ?_
  rintro e1 w1 ⟨rfl, hn1⟩
  have ho1 := hn1.objs
  have hz1 := hn1.le
  try simp at hz1
  have k1_0 : w.heap.size < w1.heap.size := by omega
  go_wp2_with (fail)
  refine (with_spec a b f x y c ha hb hf _).mono ?_
  rintro e2 w2 ⟨rfl, hn2⟩
  have ho2 := hn2.objs
  have hz2 := hn2.le
  try simp at hz2
  have k2_0 : w.heap.size < w2.heap.size := by omega
  go_wp2_with (fail)
  refine (toPicture_any a b f _).mono ?_
  rintro e3 w3 ⟨rfl, hn3⟩
  have ho3 := hn3.objs
  have hz3 := hn3.le
  try simp at hz3
  have k3_0 : w.heap.size < w3.heap.size := by omega
  have k3_1 : w2.heap.size < w3.heap.size := by omega
  go_wp2_with (fail)
  refine (with_impl a b f x y c ha hb hf _).mono ?_
  rintro e4 w4 ⟨rfl, hn4⟩
  have ho4 := hn4.objs
  have hz4 := hn4.le
  try simp at hz4
  have k4_0 : w.heap.size < w4.heap.size := by omega
  have k4_1 : w2.heap.size < w4.heap.size := by omega
  go_wp2_with (fail)
  refine (eqPicture_refl _ _ _ _).mono ?_
  rintro e5 w5 ⟨rfl, hn5⟩
  have ho5 := hn5.objs
  have hz5 := hn5.le
  try simp at hz5
  have k5_0 : w.heap.size < w5.heap.size := by omega
  go_wp2_with (fail)
  go_ret
  refine ⟨rfl, ?_⟩
  repeat' (first | exact New.refl _ | refine New.alloc ?_ _ | refine New.drew ?_ | refine New.drewN ?_ _ | refine New.setRow ?_ (by omega) _ | refine New.setCell ?_ (by first | omega | (simp; done) | (simp; omega)) _ | refine New.trans ?_ hn5 | refine New.trans ?_ hn4 | refine New.trans ?_ hn3 | refine New.trans ?_ hn2 | refine New.trans ?_ hn1)
set_option maxHeartbeats 1000000 in
set_option maxRecDepth 100000 in
theorem cut_law (a b : Int) (f : Nat → Int) (ha : -128 ≤ a ∧ a ≤ 127) (hb : -128 ≤ b ∧ b ≤ 127) (hf : ∀ i, 0 ≤ f i ∧ f i ≤ 255) (x : Int) (hx : -9223372036854775808 ≤ x ∧ x ≤ 9223372036854775807) (y : Int) (hy : -9223372036854775808 ≤ y ∧ y ≤ 9223372036854775807) (c : Int) (hc : -9223372036854775808 ≤ c ∧ c ≤ 9223372036854775807) (d : Int) (hd : -9223372036854775808 ≤ d ∧ d ≤ 9223372036854775807) (w : World) :
    Calls Try.prog 10 #[.agg (pic 144 a b f), .int .i64 x, .int .i64 y, .int .i64 c, .int .i64 d] w fun e w' => e = .returned (.bool true) ∧ New w w' := by
  go_enter Try.func10, Try.ntmps10
  go_wp2_with (fail)
  refine (toPicture_any a b f _).mono ?_
  rintro e1 w1 ⟨rfl, hn1⟩
  have ho1 := hn1.objs
  have hz1 := hn1.le
  try simp at hz1
  have k1_0 : w.heap.size < w1.heap.size := by omega
  go_wp2_with (fail)
  refine (cut_spec a b f x y c d ha hb hf _).mono ?_
  rintro e2 w2 ⟨rfl, hn2⟩
  have ho2 := hn2.objs
  have hz2 := hn2.le
  try simp at hz2
  have k2_0 : w.heap.size < w2.heap.size := by omega
  go_wp2_with (fail)
  refine (toPicture_any a b f _).mono ?_
  rintro e3 w3 ⟨rfl, hn3⟩
  have ho3 := hn3.objs
  have hz3 := hn3.le
  try simp at hz3
  have k3_0 : w.heap.size < w3.heap.size := by omega
  have k3_1 : w2.heap.size < w3.heap.size := by omega
  go_wp2_with (fail)
  refine (cut_impl a b f x y c d ha hb hf _).mono ?_
  rintro e4 w4 ⟨rfl, hn4⟩
  have ho4 := hn4.objs
  have hz4 := hn4.le
  try simp at hz4
  have k4_0 : w.heap.size < w4.heap.size := by omega
  have k4_1 : w2.heap.size < w4.heap.size := by omega
  go_wp2_with (fail)
  refine (eqPicture_refl _ _ _ _).mono ?_
  rintro e5 w5 ⟨rfl, hn5⟩
  have ho5 := hn5.objs
  have hz5 := hn5.le
  try simp at hz5
  have k5_0 : w.heap.size < w5.heap.size := by omega
  go_wp2_with (fail)
  go_ret
  refine ⟨rfl, ?_⟩
  repeat' (first | exact New.refl _ | refine New.alloc ?_ _ | refine New.drew ?_ | refine New.drewN ?_ _ | refine New.setRow ?_ (by omega) _ | refine New.setCell ?_ (by first | omega | (simp; done) | (simp; omega)) _ | refine New.trans ?_ hn5 | refine New.trans ?_ hn4 | refine New.trans ?_ hn3 | refine New.trans ?_ hn2 | refine New.trans ?_ hn1)
set_option maxHeartbeats 1000000 in
set_option maxRecDepth 100000 in
theorem plain_law (a : Int) (ha : -9223372036854775808 ≤ a ∧ a ≤ 9223372036854775807) (b : Int) (hb : -9223372036854775808 ≤ b ∧ b ≤ 9223372036854775807) (c : Int) (hc : -9223372036854775808 ≤ c ∧ c ≤ 9223372036854775807) (w : World) :
    Calls Try.prog 9 #[.int .i64 a, .int .i64 b, .int .i64 c] w fun e w' => e = .returned (.bool true) ∧ New w w' := by
  go_enter Try.func9, Try.ntmps9
  go_wp2_with (fail)
  refine (plain_spec a b c _).mono ?_
  rintro e1 w1 ⟨rfl, hn1⟩
  have ho1 := hn1.objs
  have hz1 := hn1.le
  try simp at hz1
  go_wp2_with (fail)
  refine (plain_impl a b c _).mono ?_
  rintro e2 w2 ⟨rfl, hn2⟩
  have ho2 := hn2.objs
  have hz2 := hn2.le
  try simp at hz2
  have k2_0 : w1.heap.size < w2.heap.size := by omega
  go_wp2_with (fail)
  refine (eqPicture_refl _ _ _ _).mono ?_
  rintro e3 w3 ⟨rfl, hn3⟩
  have ho3 := hn3.objs
  have hz3 := hn3.le
  try simp at hz3
  go_wp2_with (fail)
  go_ret
  refine ⟨rfl, ?_⟩
  repeat' (first | exact New.refl _ | refine New.alloc ?_ _ | refine New.drew ?_ | refine New.drewN ?_ _ | refine New.setRow ?_ (by omega) _ | refine New.setCell ?_ (by first | omega | (simp; done) | (simp; omega)) _ | refine New.trans ?_ hn3 | refine New.trans ?_ hn2 | refine New.trans ?_ hn1)
set_option maxHeartbeats 1000000 in
set_option maxRecDepth 100000 in
theorem colour_law (a b : Int) (f : Nat → Int) (ha : -128 ≤ a ∧ a ≤ 127) (hb : -128 ≤ b ∧ b ≤ 127) (hf : ∀ i, 0 ≤ f i ∧ f i ≤ 255) (x : Int) (hx : -9223372036854775808 ≤ x ∧ x ≤ 9223372036854775807) (y : Int) (hy : -9223372036854775808 ≤ y ∧ y ≤ 9223372036854775807) (w : World) :
    Calls Try.prog 7 #[.agg (pic 144 a b f), .int .i64 x, .int .i64 y] w fun e w' => e = .returned (.bool true) ∧ New w w' := by
  go_enter Try.func7, Try.ntmps7
  go_wp2_with (fail)
  refine (toPicture_any a b f _).mono ?_
  rintro e1 w1 ⟨rfl, hn1⟩
  have ho1 := hn1.objs
  have hz1 := hn1.le
  try simp at hz1
  have k1_0 : w.heap.size < w1.heap.size := by omega
  go_wp2_with (fail)
  refine (colourAt_spec a b f x y ha hb hf _).mono ?_
  rintro e2 w2 ⟨rfl, hn2⟩
  have ho2 := hn2.objs
  have hz2 := hn2.le
  try simp at hz2
  have k2_0 : w.heap.size < w2.heap.size := by omega
  go_wp2_with (fail)
  refine (toPicture_any a b f _).mono ?_
  rintro e3 w3 ⟨rfl, hn3⟩
  have ho3 := hn3.objs
  have hz3 := hn3.le
  try simp at hz3
  have k3_0 : w.heap.size < w3.heap.size := by omega
  go_wp2_with (fail)
  refine (colourAt_impl a b f x y ha hb hf _).mono ?_
  rintro e4 w4 ⟨rfl, hn4⟩
  have ho4 := hn4.objs
  have hz4 := hn4.le
  try simp at hz4
  have k4_0 : w.heap.size < w4.heap.size := by omega
  go_wp2_with (fail)
  go_ret
  refine ⟨rfl, ?_⟩
  repeat' (first | exact New.refl _ | refine New.alloc ?_ _ | refine New.drew ?_ | refine New.drewN ?_ _ | refine New.setRow ?_ (by omega) _ | refine New.setCell ?_ (by first | omega | (simp; done) | (simp; omega)) _ | refine New.trans ?_ hn4 | refine New.trans ?_ hn3 | refine New.trans ?_ hn2 | refine New.trans ?_ hn1)
end Go.Proofs.Ytbhajdcohhblfaa
