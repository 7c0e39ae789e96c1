/- Palettes: copied, held against each other, looked up; no condition. -/
import Derived.Test.YtnaecghpahbojaaDoorTy
import Derived.Test.YtnaecghpahbojaaDoorSli
import Derived.Test.YtnaecghpahbojaaDoorSmall
import Derived.Test.YtnaecghpahbojaaDoorTone
set_option linter.unusedVariables false
namespace Go.Proofs.YtnaecghpahbojaaDoor
open Go.BigFrame
open Go.RowKit Go.Arr
theorem elPal {W : World} {a : Option Addr} {n c j : Nat} {f : Nat → Int} (h : Sl W (.slice a n c) n 3 .u8 f) (hj : j < n) : ∃ g off cur t fr, a = some ⟨g, off, none⟩ ∧ obj W g = some (.cells cur t fr) ∧ cur.extract (off + j * 3) (off + j * 3 + 3) = #[.int .u8 (f (j * 3)), .int .u8 (f (j * 3 + 1)), .int .u8 (f (j * 3 + 2))] ∧ off + j * 3 + 3 ≤ cur.size := by
  obtain ⟨g, off, cur, t, fr, rfl, ho, hc⟩ := h.at (by omega)
  refine ⟨g, off, cur, t, fr, rfl, ho, ext3 (hc (j * 3) (by omega)) (hc (j * 3 + 1) (by omega)) (hc (j * 3 + 2) (by omega)) rfl, ?_⟩
  have h2 := hc (j * 3 + 2) (by omega)
  obtain ⟨l, _⟩ := Array.getElem?_eq_some_iff.1 h2
  omega
def Pal (W : World) (g n : Nat) (f : Nat → Int) : Prop := obj W g = some (.cells (arr (n * 3) .u8 f) 45)
theorem Pal.new {W W' : World} {g n : Nat} {f : Nat → Int} (h : Pal W g n f) (hn : New W W') : Pal W' g n f := (hn.objs _ (obj_lt h)).trans h
theorem Pal.sl {W : World} {g n c : Nat} {f : Nat → Int} (h : Pal W g n f) : Sl W (.slice (some ⟨g, 0, none⟩) n c) n 3 .u8 f := Sl.arr h rfl
set_option maxHeartbeats 1000000 in
set_option maxRecDepth 100000 in
theorem eqTone_any (x0 x1 x2 y0 y1 y2 : Int) (w : World) :
    Calls Tryd.prog 24 #[.agg #[.int .u8 x0, .int .u8 x1, .int .u8 x2], .agg #[.int .u8 y0, .int .u8 y1, .int .u8 y2]] w fun r w' => r = .returned (.bool (eq3 x0 x1 x2 y0 y1 y2)) ∧ New w w' := by
  unfold eq3
  cases h0 : (x0 != y0)
  rotate_left
  · have e0 : Hid ((x0 == y0) = false) := by show _ = _; simpa using h0
    go_enter Tryd.func24, Tryd.ntmps24
    go_wp2_with (fail)
    refine wp_loop_rounds 4 ?_
    rw [rounds_succ]; go_wp2_with (fail); go_quiet (fail); go_wp2_with (fail)
    go_ret
    refine ⟨ret_b (by rw [e0.out]; rfl), ?_⟩
    repeat' (first | exact New.refl _ | refine New.alloc ?_ _ | refine New.drew ?_ | refine New.drewN ?_ _ | refine New.setRow ?_ (by omega) _ | refine New.setCell ?_ (by first | omega | (simp; done) | (simp; omega)) _)
  have e0 : Hid ((x0 == y0) = true) := by show _ = _; simpa using h0
  cases h1 : (x1 != y1)
  rotate_left
  · have e1 : Hid ((x1 == y1) = false) := by show _ = _; simpa using h1
    go_enter Tryd.func24, Tryd.ntmps24
    go_wp2_with (fail)
    refine wp_loop_rounds 4 ?_
    rw [rounds_succ]; go_wp2_with (fail); go_quiet (fail); go_wp2_with (fail)
    rw [rounds_succ]; go_wp2_with (fail); go_quiet (fail); go_wp2_with (fail)
    go_ret
    refine ⟨ret_b (by rw [e0.out, e1.out]; rfl), ?_⟩
    repeat' (first | exact New.refl _ | refine New.alloc ?_ _ | refine New.drew ?_ | refine New.drewN ?_ _ | refine New.setRow ?_ (by omega) _ | refine New.setCell ?_ (by first | omega | (simp; done) | (simp; omega)) _)
  have e1 : Hid ((x1 == y1) = true) := by show _ = _; simpa using h1
  cases h2 : (x2 != y2)
  rotate_left
  · have e2 : Hid ((x2 == y2) = false) := by show _ = _; simpa using h2
    go_enter Tryd.func24, Tryd.ntmps24
    go_wp2_with (fail)
    refine wp_loop_rounds 4 ?_
    rw [rounds_succ]; go_wp2_with (fail); go_quiet (fail); go_wp2_with (fail)
    rw [rounds_succ]; go_wp2_with (fail); go_quiet (fail); go_wp2_with (fail)
    rw [rounds_succ]; go_wp2_with (fail); go_quiet (fail); go_wp2_with (fail)
    go_ret
    refine ⟨ret_b (by rw [e0.out, e1.out, e2.out]; rfl), ?_⟩
    repeat' (first | exact New.refl _ | refine New.alloc ?_ _ | refine New.drew ?_ | refine New.drewN ?_ _ | refine New.setRow ?_ (by omega) _ | refine New.setCell ?_ (by first | omega | (simp; done) | (simp; omega)) _)
  have e2 : Hid ((x2 == y2) = true) := by show _ = _; simpa using h2
  go_enter Tryd.func24, Tryd.ntmps24
  go_wp2_with (fail)
  refine wp_loop_rounds 4 ?_
  rw [rounds_succ]; go_wp2_with (fail); go_quiet (fail); go_wp2_with (fail)
  rw [rounds_succ]; go_wp2_with (fail); go_quiet (fail); go_wp2_with (fail)
  rw [rounds_succ]; go_wp2_with (fail); go_quiet (fail); go_wp2_with (fail)
  rw [rounds_succ]; go_wp2_with (fail)
  go_ret
  refine ⟨ret_b (by rw [e0.out, e1.out, e2.out]; rfl), ?_⟩
  repeat' (first | exact New.refl _ | refine New.alloc ?_ _ | refine New.drew ?_ | refine New.drewN ?_ _ | refine New.setRow ?_ (by omega) _ | refine New.setCell ?_ (by first | omega | (simp; done) | (simp; omega)) _)
set_option maxHeartbeats 1000000 in
set_option maxRecDepth 100000 in
theorem eqPalette_refl (a1 a2 : Option Addr) (n c1 c2 : Nat) (f : Nat → Int) (hn : n ≤ 1048576) (W : World) (h1 : Sl W (.slice a1 n c1) n 3 .u8 f) (h2 : Sl W (.slice a2 n c2) n 3 .u8 f) :
    Calls Tryd.prog 10 #[.slice a1 n c1, .slice a2 n c2] W fun e w' => e = .returned (.bool true) ∧ New W w' := by
  go_enter Tryd.func10, Tryd.ntmps10
  go_wp2_with (fail)
  go_loopw [5] (fun i wr => ∃ k : Nat, k ≤ n ∧ i = .int .i64 k ∧ New W wr) (fun i _ => n - (intOf i).toNat)
  case atStart => exact ⟨0, by omega, rfl, New.refl W⟩
  case round =>
    obtain ⟨k, hk, rfl, hnw⟩ := hrel
    by_cases hlt : k < n
    · obtain ⟨g1, off1, cur1, t1, fr1, rfl, o1, x1, l1⟩ := elPal h1 hlt
      obtain ⟨g2, off2, cur2, t2, fr2, rfl, o2, x2, l2⟩ := elPal h2 hlt
      have p1 := (hnw.objs _ (obj_lt o1)).trans o1
      have p2 := (hnw.objs _ (obj_lt o2)).trans o2
      have hr : eq3 (f (k * 3)) (f (k * 3 + 1)) (f (k * 3 + 2)) (f (k * 3)) (f (k * 3 + 1)) (f (k * 3 + 2)) = true := by simp [eq3]
      have q1 := obj_lt p1
      have q2 := obj_lt p2
      clear o1 o2 h1 h2
      go_wp2_with (fail)
      go_wp2_with (fail)
      refine wp_region_new (by kernel_rfl) (by kernel_rfl) ?_
      repeat (go_big_quiet_step (first | fail | (go_at_call 24; with_reducible exact calls_new (eqTone_any _ _ _ _ _ _ _))))
      refine wpQuiet_nil ?_
      intro w1 hc1
      have hn1 := NewW.of hc1
      clear hc1
      have ho1 := hn1.objs
      have hz1 := hn1.le
      try simp at hz1
      go_wp2_with (fail)
      go_roundw
      case rel => exact ⟨k + 1, by omega, by go_num, hnw.trans hn1⟩
      case measure => simp [intOf]; omega
    · obtain rfl : k = n := by omega
      go_wp2_with (fail)
      go_ret
      exact ⟨rfl, hnw⟩
/-- element i of the one is element j of the other -/
def alikePal (f g : Nat → Int) (i j : Nat) : Bool := eq3 (f (i * 3)) (f (i * 3 + 1)) (f (i * 3 + 2)) (g (j * 3)) (g (j * 3 + 1)) (g (j * 3 + 2))
def samePal (n m : Nat) (f g : Nat → Int) : Bool := n == m && (List.range n).all fun i => alikePal f g i i
theorem samePal_t {n : Nat} {f g : Nat → Int} (h : ∀ j, j < n → alikePal f g j j = true) : samePal n n f g = true := by
  unfold samePal
  rw [Bool.and_eq_true]
  exact ⟨by simp, List.all_eq_true.2 fun i hi => h i (by simpa using hi)⟩
theorem samePal_f {n i : Nat} {f g : Nat → Int} (hi : i < n) (h : alikePal f g i i = false) : samePal n n f g = false := by
  unfold samePal
  rw [Bool.and_eq_false_iff]
  exact Or.inr (List.all_eq_false.2 ⟨i, by simpa using hi, by simp [h]⟩)
end Go.Proofs.YtnaecghpahbojaaDoor
