/- The laws on recoloured and bordered pictures, walked; no condition. -/
import Derived.Test.YtbhajdcohhblfaaImplC
import Derived.Test.YtbhajdcohhblfaaEqP
set_option linter.unusedVariables false
namespace Go.Proofs.Ytbhajdcohhblfaa
open Go.BigFrame
open Go.RowKit Go.Arr
set_option maxHeartbeats 1000000 in
set_option maxRecDepth 100000 in
theorem rec_law (a b : Int) (f : Nat → Int) (ha : -128 ≤ a ∧ a ≤ 127) (hb : -128 ≤ b ∧ b ≤ 127) (hf : ∀ i, 0 ≤ f i ∧ f i ≤ 255) (p : Int) (hp : -9223372036854775808 ≤ p ∧ p ≤ 9223372036854775807) (q : Int) (hq : -9223372036854775808 ≤ q ∧ q ≤ 9223372036854775807) (w : World) :
    Calls Try.prog 12 #[.agg (pic 144 a b f), .int .i64 p, .int .i64 q] w fun e w' => e = .returned (.bool true) ∧ New w w' := by
  go_enter Try.func12, Try.ntmps12
  go_wp2_with (fail)
  refine (toPicture_any a b f _).mono ?_
  rintro e1 w1 ⟨rfl, hn1⟩
  have ho1 := hn1.objs
  have hz1 := hn1.le
  try simp at hz1
  have k1_0 : w.heap.size < w1.heap.size := by omega
  go_wp2_with (fail)
  refine (rec_spec a b f p q ha hb hf _).mono ?_
  rintro e2 w2 ⟨rfl, hn2⟩
  have ho2 := hn2.objs
  have hz2 := hn2.le
  try simp at hz2
  have k2_0 : w.heap.size < w2.heap.size := by omega
  go_wp2_with (fail)
  refine (toPicture_any a b f _).mono ?_
  rintro e3 w3 ⟨rfl, hn3⟩
  have ho3 := hn3.objs
  have hz3 := hn3.le
  try simp at hz3
  have k3_0 : w.heap.size < w3.heap.size := by omega
  have k3_1 : w2.heap.size < w3.heap.size := by omega
  go_wp2_with (fail)
  refine (rec_impl a b f p q ha hb hf _).mono ?_
  rintro e4 w4 ⟨rfl, hn4⟩
  have ho4 := hn4.objs
  have hz4 := hn4.le
  try simp at hz4
  have k4_0 : w.heap.size < w4.heap.size := by omega
  have k4_1 : w2.heap.size < w4.heap.size := by omega
  go_wp2_with (fail)
  refine (eqPicture_refl _ _ _ _).mono ?_
  rintro e5 w5 ⟨rfl, hn5⟩
  have ho5 := hn5.objs
  have hz5 := hn5.le
  try simp at hz5
  have k5_0 : w.heap.size < w5.heap.size := by omega
  go_wp2_with (fail)
  go_ret
  refine ⟨rfl, ?_⟩
  repeat' (first | exact New.refl _ | refine New.alloc ?_ _ | refine New.drew ?_ | refine New.drewN ?_ _ | refine New.setRow ?_ (by omega) _ | refine New.setCell ?_ (by first | omega | (simp; done) | (simp; omega)) _ | refine New.trans ?_ hn5 | refine New.trans ?_ hn4 | refine New.trans ?_ hn3 | refine New.trans ?_ hn2 | refine New.trans ?_ hn1)
set_option maxHeartbeats 1000000 in
set_option maxRecDepth 100000 in
theorem bor_law (a b : Int) (f : Nat → Int) (ha : -128 ≤ a ∧ a ≤ 127) (hb : -128 ≤ b ∧ b ≤ 127) (hf : ∀ i, 0 ≤ f i ∧ f i ≤ 255) (c : Int) (hc : -9223372036854775808 ≤ c ∧ c ≤ 9223372036854775807) (w : World) :
    Calls Try.prog 13 #[.agg (pic 144 a b f), .int .i64 c] w fun e w' => e = .returned (.bool true) ∧ New w w' := by
  go_enter Try.func13, Try.ntmps13
  go_wp2_with (fail)
  refine (toPicture_any a b f _).mono ?_
  rintro e1 w1 ⟨rfl, hn1⟩
  have ho1 := hn1.objs
  have hz1 := hn1.le
  try simp at hz1
  have k1_0 : w.heap.size < w1.heap.size := by omega
  go_wp2_with (fail)
  refine (bor_spec a b f c ha hb hf _).mono ?_
  rintro e2 w2 ⟨rfl, hn2⟩
  have ho2 := hn2.objs
  have hz2 := hn2.le
  try simp at hz2
  have k2_0 : w.heap.size < w2.heap.size := by omega
  go_wp2_with (fail)
  refine (toPicture_any a b f _).mono ?_
  rintro e3 w3 ⟨rfl, hn3⟩
  have ho3 := hn3.objs
  have hz3 := hn3.le
  try simp at hz3
  have k3_0 : w.heap.size < w3.heap.size := by omega
  have k3_1 : w2.heap.size < w3.heap.size := by omega
  go_wp2_with (fail)
  refine (bor_impl a b f c ha hb hf _).mono ?_
  rintro e4 w4 ⟨rfl, hn4⟩
  have ho4 := hn4.objs
  have hz4 := hn4.le
  try simp at hz4
  have k4_0 : w.heap.size < w4.heap.size := by omega
  have k4_1 : w2.heap.size < w4.heap.size := by omega
  go_wp2_with (fail)
  refine (eqPicture_refl _ _ _ _).mono ?_
  rintro e5 w5 ⟨rfl, hn5⟩
  have ho5 := hn5.objs
  have hz5 := hn5.le
  try simp at hz5
  have k5_0 : w.heap.size < w5.heap.size := by omega
  go_wp2_with (fail)
  go_ret
  refine ⟨rfl, ?_⟩
  repeat' (first | exact New.refl _ | refine New.alloc ?_ _ | refine New.drew ?_ | refine New.drewN ?_ _ | refine New.setRow ?_ (by omega) _ | refine New.setCell ?_ (by first | omega | (simp; done) | (simp; omega)) _ | refine New.trans ?_ hn5 | refine New.trans ?_ hn4 | refine New.trans ?_ hn3 | refine New.trans ?_ hn2 | refine New.trans ?_ hn1)
end Go.Proofs.Ytbhajdcohhblfaa
