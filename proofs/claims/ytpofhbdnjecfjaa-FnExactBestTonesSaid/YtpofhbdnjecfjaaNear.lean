/- The nearest tone of a palette: the reference and the program answer alike; no condition. -/
import Derived.Test.YtpofhbdnjecfjaaVpal
import Derived.Test.YtpofhbdnjecfjaaTone
set_option linter.unusedVariables false
namespace Go.Proofs.Ytpofhbdnjecfjaa
open Go.BigFrame
open Go.RowKit Go.Arr
def farE (f : Nat → Int) (x y z : Int) (k : Nat) : Int := far (f (k * 3)) (f (k * 3 + 1)) (f (k * 3 + 2)) x y z
def nearK (f : Nat → Int) (x y z : Int) : Nat → Nat × Int
  | 0 => (0, farE f x y z 0)
  | k + 1 => if farE f x y z k < (nearK f x y z k).2 then (k, farE f x y z k) else nearK f x y z k
theorem nearK_le (f : Nat → Int) (x y z : Int) (k : Nat) : (nearK f x y z k).1 ≤ k := by
  induction k with
  | zero => simp [nearK]
  | succ k ih => unfold nearK; split <;> (try dsimp only) <;> omega
theorem nearK_one (f : Nat → Int) (x y z : Int) : nearK f x y z 1 = (0, farE f x y z 0) := by
  simp [nearK]
theorem nearK_t {f : Nat → Int} {x y z : Int} {k at_ : Nat} {le : Int} (h : nearK f x y z k = (at_, le)) (hl : farE f x y z k < le) : nearK f x y z (k + 1) = (k, farE f x y z k) := by
  unfold nearK; rw [h]; exact if_pos hl
theorem nearK_f {f : Nat → Int} {x y z : Int} {k at_ : Nat} {le : Int} (h : nearK f x y z k = (at_, le)) (hl : ¬ farE f x y z k < le) : nearK f x y z (k + 1) = (at_, le) := by
  unfold nearK; rw [h]; exact if_neg hl
set_option maxHeartbeats 2000000 in
set_option maxRecDepth 100000 in
theorem l02Nearest_any (a : Option Addr) (n c : Nat) (f : Nat → Int) (x y z : Int) (hx : 0 ≤ x ∧ x ≤ 255) (hy : 0 ≤ y ∧ y ≤ 255) (hz : 0 ≤ z ∧ z ≤ 255) (hf : ∀ i, 0 ≤ f i ∧ f i ≤ 255) (hn : n ≤ 1048576) (hp : 0 < n) (W : World) (hs : Sl W (.slice a n c) n 3 .u8 f) :
    Calls Try.prog 22 #[.slice a n c, .agg #[.int .u8 x, .int .u8 y, .int .u8 z]] W fun e w' => e = .returned (.tuple #[.int .i64 ((nearK f x y z n).1 + 1), .int .i64 (nearK f x y z n).2]) ∧ New W w' := by
  obtain ⟨g, off, cur, t, fr, rfl, o1, hel⟩ := elsPal hs hp
  have e0 := (hel 0 hp).1
  have l0 := (hel 0 hp).2
  simp only [Nat.zero_mul, Nat.add_zero, Nat.zero_add] at e0 l0
  have q1 := obj_lt o1
  have q2 : ∀ o : Obj, g < (W.alloc o).heap.size := fun o => by simp; omega
  have q3 : ∀ o : Obj, W.heap.size < (W.alloc o).heap.size := fun o => by simp
  have hel' := hide hel
  clear hel
  go_enter Try.func22, Try.ntmps22
  go_wp2_with (fail)
  refine wp_region_new (by kernel_rfl) (by kernel_rfl) ?_
  repeat (go_big_quiet_step (first | fail | (go_at_call 44; with_reducible exact calls_new (far_spec0 _ _ _ (hf _) (hf _) (hf _) _ _ _ hx hy hz _))))
  refine wpQuiet_nil ?_
  intro w1 hc1
  have hn1 := NewW.of hc1
  clear hc1
  have ho1 := hn1.objs
  have hz1 := hn1.le
  try simp at hz1
  go_wp2_with (fail)
  have hn1' := ((New.refl W).alloc _).trans hn1
  have hbx : obj w1 W.heap.size = some (.cells #[.int .u8 x, .int .u8 y, .int .u8 z] 34) := (hn1.objs _ (by simp)).trans (by go_simp)
  have hzz : W.heap.size < w1.heap.size := by omega
  clear e0 l0 q2 q3 hn1 ho1
  go_loopw [8, 6, 7] (fun i p q wr => ∃ (k at_ : Nat) (le : Int), 1 ≤ k ∧ k ≤ n ∧ i = .int .i64 k ∧ p = .int .i64 at_ ∧ q = .int .i64 le ∧ at_ ≤ k ∧ Hid (nearK f x y z k = (at_, le)) ∧ Hid (obj wr W.heap.size = some (.cells #[.int .u8 x, .int .u8 y, .int .u8 z] 34)) ∧ W.heap.size < wr.heap.size ∧ New W wr) (fun i _ _ _ => n - (intOf i).toNat)
  case atStart => exact ⟨1, 0, _, by omega, by omega, rfl, rfl, rfl, by omega, nearK_one f x y z, hbx, hzz, hn1'⟩
  case round =>
    obtain ⟨k, at_, le, h1k, hk, rfl, rfl, rfl, hak, hne, hb1, hlw, hnw⟩ := hrel
    have hb := hb1.out
    by_cases hlt : k < n
    · have p1 := (hnw.objs _ q1).trans o1
      have ex := (hel'.out k hlt).1
      have el := (hel'.out k hlt).2
      have q4 := obj_lt p1
      clear hbx hzz hn1'
      by_cases hl : farE f x y z k < le
      · have hne' := hide (nearK_t hne.out hl)
        have hl' : far (f (k * 3)) (f (k * 3 + 1)) (f (k * 3 + 2)) x y z < le := hl
        clear hl
        go_wp2_with (fail)
        refine wp_region_new (by kernel_rfl) (by kernel_rfl) ?_
        repeat (go_big_quiet_step (first | fail | (go_at_call 44; with_reducible exact calls_new (far_spec0 _ _ _ (hf _) (hf _) (hf _) _ _ _ hx hy hz _))))
        refine wpQuiet_nil ?_
        intro w2 hc2
        have hn2 := NewW.of hc2
        clear hc2
        have ho2 := hn2.objs
        have hz2 := hn2.le
        try simp at hz2
        go_wp2_with (fail)
        go_roundw
        case rel => exact ⟨k + 1, k, _, by omega, by omega, by go_num, rfl, rfl, by omega, hne', (ho2 _ hlw).trans hb, by omega, hnw.trans hn2⟩
        case measure => simp [intOf]; omega
      · have hne' := hide (nearK_f hne.out hl)
        have hl' : ¬ far (f (k * 3)) (f (k * 3 + 1)) (f (k * 3 + 2)) x y z < le := hl
        clear hl
        go_wp2_with (fail)
        refine wp_region_new (by kernel_rfl) (by kernel_rfl) ?_
        repeat (go_big_quiet_step (first | fail | (go_at_call 44; with_reducible exact calls_new (far_spec0 _ _ _ (hf _) (hf _) (hf _) _ _ _ hx hy hz _))))
        refine wpQuiet_nil ?_
        intro w3 hc3
        have hn3 := NewW.of hc3
        clear hc3
        have ho3 := hn3.objs
        have hz3 := hn3.le
        try simp at hz3
        go_wp2_with (fail)
        go_roundw
        case rel => exact ⟨k + 1, at_, le, by omega, by omega, by go_num, rfl, rfl, by omega, hne', (ho3 _ hlw).trans hb, by omega, hnw.trans hn3⟩
        case measure => simp [intOf]; omega
    · obtain rfl : k = n := by omega
      go_wp2_with (fail)
      go_ret2
      exact ⟨by rw [hne.out]; rfl, hnw⟩
set_option maxHeartbeats 2000000 in
set_option maxRecDepth 100000 in
theorem nearest_any (a : Option Addr) (n c : Nat) (f : Nat → Int) (x y z : Int) (hx : 0 ≤ x ∧ x ≤ 255) (hy : 0 ≤ y ∧ y ≤ 255) (hz : 0 ≤ z ∧ z ≤ 255) (hf : ∀ i, 0 ≤ f i ∧ f i ≤ 255) (hn : n ≤ 1048576) (hp : 0 < n) (W : World) (hs : Sl W (.slice a n c) n 3 .u8 f) :
    Calls Try.prog 30 #[.slice a n c, .agg #[.int .u8 x, .int .u8 y, .int .u8 z]] W fun e w' => e = .returned (.tuple #[.int .i64 (nearK f x y z n).1, .int .i64 (nearK f x y z n).2]) ∧ New W w' := by
  obtain ⟨g, off, cur, t, fr, rfl, o1, hel⟩ := elsPal hs hp
  have e0 := (hel 0 hp).1
  have l0 := (hel 0 hp).2
  simp only [Nat.zero_mul, Nat.add_zero, Nat.zero_add] at e0 l0
  have q1 := obj_lt o1
  have q2 : ∀ o : Obj, g < (W.alloc o).heap.size := fun o => by simp; omega
  have q3 : ∀ o : Obj, W.heap.size < (W.alloc o).heap.size := fun o => by simp
  have hel' := hide hel
  clear hel
  go_enter Try.func30, Try.ntmps30
  go_wp2_with (fail)
  refine wp_region_new (by kernel_rfl) (by kernel_rfl) ?_
  repeat (go_big_quiet_step (first | fail | (go_at_call 47; with_reducible exact calls_new (far_impl _ _ _ (hf _) (hf _) (hf _) _ _ _ hx hy hz _))))
  refine wpQuiet_nil ?_
  intro w1 hc1
  have hn1 := NewW.of hc1
  clear hc1
  have ho1 := hn1.objs
  have hz1 := hn1.le
  try simp at hz1
  go_wp2_with (fail)
  have hn1' := ((New.refl W).alloc _).trans hn1
  have hbx : obj w1 W.heap.size = some (.cells #[.int .u8 x, .int .u8 y, .int .u8 z] 34) := (hn1.objs _ (by simp)).trans (by go_simp)
  have hzz : W.heap.size < w1.heap.size := by omega
  clear e0 l0 q2 q3 hn1 ho1
  go_loopw [18, 6, 7] (fun i p q wr => ∃ (k at_ : Nat) (le : Int), k ≤ n ∧ i = .int .i64 k ∧ p = .int .i64 at_ ∧ q = .int .i64 le ∧ at_ ≤ k ∧ Hid (nearK f x y z k = (at_, le)) ∧ Hid (obj wr W.heap.size = some (.cells #[.int .u8 x, .int .u8 y, .int .u8 z] 34)) ∧ W.heap.size < wr.heap.size ∧ New W wr) (fun i _ _ _ => n - (intOf i).toNat)
  case atStart => exact ⟨0, 0, _, by omega, rfl, rfl, rfl, by omega, rfl, hbx, hzz, hn1'⟩
  case round =>
    obtain ⟨k, at_, le, hk, rfl, rfl, rfl, hak, hne, hb1, hlw, hnw⟩ := hrel
    have hb := hb1.out
    by_cases hlt : k < n
    · have p1 := (hnw.objs _ q1).trans o1
      have ex := (hel'.out k hlt).1
      have el := (hel'.out k hlt).2
      have q4 := obj_lt p1
      clear hbx hzz hn1'
      by_cases hl : farE f x y z k < le
      · have hne' := hide (nearK_t hne.out hl)
        have hl' : far (f (k * 3)) (f (k * 3 + 1)) (f (k * 3 + 2)) x y z < le := hl
        clear hl
        go_wp2_with (fail)
        refine (far_impl _ _ _ (hf _) (hf _) (hf _) _ _ _ hx hy hz _).mono ?_
        rintro e2 w2 ⟨rfl, hn2⟩
        have ho2 := hn2.objs
        have hz2 := hn2.le
        try simp at hz2
        have hb2 := (hn2.objs _ (by simp; omega)).trans ((obj_alloc_past _ _ _ hlw).trans hb)
        have hn3 := (hnw.alloc _).trans hn2
        clear hn2 ho2
        go_wp2_with (fail)
        go_roundw
        case rel => exact ⟨k + 1, k, _, by omega, by go_num, rfl, rfl, by omega, hne', hb2, by omega, hn3⟩
        case measure => simp [intOf]; omega
      · have hne' := hide (nearK_f hne.out hl)
        have hl' : ¬ far (f (k * 3)) (f (k * 3 + 1)) (f (k * 3 + 2)) x y z < le := hl
        clear hl
        go_wp2_with (fail)
        refine (far_impl _ _ _ (hf _) (hf _) (hf _) _ _ _ hx hy hz _).mono ?_
        rintro e3 w3 ⟨rfl, hn3⟩
        have ho3 := hn3.objs
        have hz3 := hn3.le
        try simp at hz3
        have hb2 := (hn3.objs _ (by simp; omega)).trans ((obj_alloc_past _ _ _ hlw).trans hb)
        have hn4 := (hnw.alloc _).trans hn3
        clear hn3 ho3
        go_wp2_with (fail)
        go_roundw
        case rel => exact ⟨k + 1, at_, le, by omega, by go_num, rfl, rfl, by omega, hne', hb2, by omega, hn4⟩
        case measure => simp [intOf]; omega
    · obtain rfl : k = n := by omega
      go_wp2_with (fail)
      go_ret2
      exact ⟨by rw [hne.out]; rfl, hnw⟩
theorem okPal_pos {n : Nat} {f : Nat → Int} (h : okPal n f = true) : 0 < n ∧ n ≤ 15 := by
  unfold okPal at h
  rw [Bool.and_eq_true] at h
  have := inB_t.1 h.2
  omega
def nearV (n : Nat) (f : Nat → Int) (x y z : Int) : Int × Int × Int := if okPal n f = true then ((nearK f x y z n).1 + 1, (nearK f x y z n).2, 0) else (0, 0, 1)
end Go.Proofs.Ytpofhbdnjecfjaa
