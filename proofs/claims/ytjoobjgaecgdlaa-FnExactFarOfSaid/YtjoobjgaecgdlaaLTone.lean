/- The laws on brightness and distance, walked; no condition. -/
import Derived.Test.YtjoobjgaecgdlaaTone
namespace Go.Proofs.Ytjoobjgaecgdlaa
open Go.BigFrame
open Go.RowKit Go.Arr
set_option maxHeartbeats 400000 in
theorem bright_spec (a b c : Int) (ha : 0 ≤ a ∧ a ≤ 255) (hb : 0 ≤ b ∧ b ≤ 255) (hc : 0 ≤ c ∧ c ≤ 255) (w : World) :
    Calls Try.prog 9 #[.agg #[.int .u8 a, .int .u8 b, .int .u8 c]] w fun e w' => e = .returned (.int .i64 (bright a b c)) ∧ New w w' := by
  go_enter Try.func9, Try.ntmps9
  go_wp2_with (fail)
  refine (bright_spec0 _ _ _ ha hb hc _).mono ?_
  rintro e1 w1 ⟨rfl, hn1⟩
  have ho1 := hn1.objs
  have hz1 := hn1.le
  try simp at hz1
  go_wp2_with (fail)
  go_ret
  exact ⟨rfl, ((New.refl w).alloc _).trans hn1⟩
set_option maxHeartbeats 400000 in
theorem far_spec (a b c : Int) (ha : 0 ≤ a ∧ a ≤ 255) (hb : 0 ≤ b ∧ b ≤ 255) (hc : 0 ≤ c ∧ c ≤ 255) (d e f : Int) (hd : 0 ≤ d ∧ d ≤ 255) (he : 0 ≤ e ∧ e ≤ 255) (hf : 0 ≤ f ∧ f ≤ 255) (w : World) :
    Calls Try.prog 17 #[.agg #[.int .u8 a, .int .u8 b, .int .u8 c], .agg #[.int .u8 d, .int .u8 e, .int .u8 f]] w fun e' w' => e' = .returned (.int .i64 (far a b c d e f)) ∧ New w w' := by
  go_enter Try.func17, Try.ntmps17
  go_wp2_with (fail)
  refine (far_spec0 _ _ _ ha hb hc _ _ _ hd he hf _).mono ?_
  rintro e1 w1 ⟨rfl, hn1⟩
  have ho1 := hn1.objs
  have hz1 := hn1.le
  try simp at hz1
  go_wp2_with (fail)
  go_ret
  refine ⟨rfl, ?_⟩
  repeat' (first | exact New.refl _ | refine New.alloc ?_ _ | refine New.drew ?_ | refine New.drewN ?_ _ | refine New.setRow ?_ (by omega) _ | refine New.setCell ?_ (by first | omega | (simp; omega)) _ | refine New.trans ?_ hn1)
set_option maxHeartbeats 400000 in
theorem bright_law (a b c : Int) (ha : 0 ≤ a ∧ a ≤ 255) (hb : 0 ≤ b ∧ b ≤ 255) (hc : 0 ≤ c ∧ c ≤ 255) (w : World) :
    Calls Try.prog 4 #[.agg #[.int .u8 a, .int .u8 b, .int .u8 c]] w fun e w' => e = .returned (.bool true) ∧ New w w' := by
  go_enter Try.func4, Try.ntmps4
  go_wp2_with (fail)
  refine (toTone_any _ _ _ _).mono ?_
  rintro e1 w1 ⟨rfl, hn1⟩
  have ho1 := hn1.objs
  have hz1 := hn1.le
  try simp at hz1
  have k1_0 : w.heap.size < w1.heap.size := by omega
  go_wp2_with (fail)
  refine (bright_spec _ _ _ ha hb hc _).mono ?_
  rintro e2 w2 ⟨rfl, hn2⟩
  have ho2 := hn2.objs
  have hz2 := hn2.le
  try simp at hz2
  have k2_0 : w.heap.size < w2.heap.size := by omega
  go_wp2_with (fail)
  refine (toTone_any _ _ _ _).mono ?_
  rintro e3 w3 ⟨rfl, hn3⟩
  have ho3 := hn3.objs
  have hz3 := hn3.le
  try simp at hz3
  have k3_0 : w.heap.size < w3.heap.size := by omega
  go_wp2_with (fail)
  refine (bright_impl _ _ _ ha hb hc _).mono ?_
  rintro e4 w4 ⟨rfl, hn4⟩
  have ho4 := hn4.objs
  have hz4 := hn4.le
  try simp at hz4
  have k4_0 : w.heap.size < w4.heap.size := by omega
  go_wp2_with (fail)
  go_ret
  refine ⟨rfl, ?_⟩
  repeat' (first | exact New.refl _ | refine New.alloc ?_ _ | refine New.drew ?_ | refine New.drewN ?_ _ | refine New.setRow ?_ (by omega) _ | refine New.setCell ?_ (by first | omega | (simp; omega)) _ | refine New.trans ?_ hn4 | refine New.trans ?_ hn3 | refine New.trans ?_ hn2 | refine New.trans ?_ hn1)
set_option maxHeartbeats 400000 in
theorem far_law (a b c : Int) (ha : 0 ≤ a ∧ a ≤ 255) (hb : 0 ≤ b ∧ b ≤ 255) (hc : 0 ≤ c ∧ c ≤ 255) (d e f : Int) (hd : 0 ≤ d ∧ d ≤ 255) (he : 0 ≤ e ∧ e ≤ 255) (hf : 0 ≤ f ∧ f ≤ 255) (w : World) :
    Calls Try.prog 7 #[.agg #[.int .u8 a, .int .u8 b, .int .u8 c], .agg #[.int .u8 d, .int .u8 e, .int .u8 f]] w fun e' w' => e' = .returned (.bool true) ∧ New w w' := by
  go_enter Try.func7, Try.ntmps7
  go_wp2_with (fail)
  refine wp_region_new (by kernel_rfl) (by kernel_rfl) ?_
  repeat (go_big_quiet_step (first | fail | (go_at_call 10; exact calls_new (toTone_any _ _ _ _)) | (go_at_call 17; exact calls_new (far_spec _ _ _ ha hb hc _ _ _ hd he hf _))))
  refine wpQuiet_nil ?_
  intro w1 hc1
  have hn1 := NewW.of hc1
  clear hc1
  have ho1 := hn1.objs
  have hz1 := hn1.le
  try simp at hz1
  have k1_0 : w.heap.size < w1.heap.size := by omega
  have k1_1 : w.heap.size + 1 < w1.heap.size := by omega
  go_wp2_with (fail)
  refine wp_region_new (by kernel_rfl) (by kernel_rfl) ?_
  repeat (go_big_quiet_step (first | fail | (go_at_call 10; exact calls_new (toTone_any _ _ _ _)) | (go_at_call 18; exact calls_new (far_impl _ _ _ ha hb hc _ _ _ hd he hf _))))
  refine wpQuiet_nil ?_
  intro w2 hc2
  have hn2 := NewW.of hc2
  clear hc2
  have ho2 := hn2.objs
  have hz2 := hn2.le
  try simp at hz2
  have k2_0 : w.heap.size < w2.heap.size := by omega
  have k2_1 : w.heap.size + 1 < w2.heap.size := by omega
  go_wp2_with (fail)
  go_ret
  refine ⟨rfl, ?_⟩
  repeat' (first | exact New.refl _ | refine New.alloc ?_ _ | refine New.drew ?_ | refine New.drewN ?_ _ | refine New.setRow ?_ (by omega) _ | refine New.setCell ?_ (by first | omega | (simp; omega)) _ | refine New.trans ?_ hn2 | refine New.trans ?_ hn1)
end Go.Proofs.Ytjoobjgaecgdlaa
