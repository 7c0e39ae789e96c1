/- Palettes: copied, held against each other, looked up; no condition. -/
import Derived.Test.YtpofhbdnjecfjaaTy
import Derived.Test.YtpofhbdnjecfjaaSli
import Derived.Test.YtpofhbdnjecfjaaSmall
import Derived.Test.YtpofhbdnjecfjaaTone
set_option linter.unusedVariables false
namespace Go.Proofs.Ytpofhbdnjecfjaa
open Go.BigFrame
open Go.RowKit Go.Arr
theorem elPal {W : World} {a : Option Addr} {n c j : Nat} {f : Nat → Int} (h : Sl W (.slice a n c) n 3 .u8 f) (hj : j < n) : ∃ g off cur t fr, a = some ⟨g, off, none⟩ ∧ obj W g = some (.cells cur t fr) ∧ cur.extract (off + j * 3) (off + j * 3 + 3) = #[.int .u8 (f (j * 3)), .int .u8 (f (j * 3 + 1)), .int .u8 (f (j * 3 + 2))] ∧ off + j * 3 + 3 ≤ cur.size := by
  obtain ⟨g, off, cur, t, fr, rfl, ho, hc⟩ := h.at (by omega)
  refine ⟨g, off, cur, t, fr, rfl, ho, ext3 (hc (j * 3) (by omega)) (hc (j * 3 + 1) (by omega)) (hc (j * 3 + 2) (by omega)) rfl, ?_⟩
  have h2 := hc (j * 3 + 2) (by omega)
  obtain ⟨l, _⟩ := Array.getElem?_eq_some_iff.1 h2
  omega
set_option maxHeartbeats 400000 in
theorem szPalette_any (a : Option Addr) (n c : Nat) (left : Int) (hn : n ≤ maxLen) (hl : 0 ≤ left ∧ left ≤ 1048576) (w : World) :
    Calls Try.prog 5 #[.slice a n c, .int .i64 left] w fun e w' => e = .returned (.int .i64 (if left < n then -1 else left - n)) ∧ w = w' := by
  have hm : n ≤ 9223372036854775807 := by unfold maxLen at hn; omega
  clear hn
  by_cases h : left < n
  · rw [if_pos h]
    go_enter Try.func5, Try.ntmps5
    go_wp2_with (fail)
    go_ret
    exact ⟨rfl, rfl⟩
  · rw [if_neg h]
    go_enter Try.func5, Try.ntmps5
    go_wp2_with (fail)
    go_ret
    exact ⟨rfl, rfl⟩
/-- a row of the call's own -/
def Pal (W : World) (g n : Nat) (f : Nat → Int) : Prop := obj W g = some (.cells (arr (n * 3) .u8 f) 34)
theorem Pal.new {W W' : World} {g n : Nat} {f : Nat → Int} (h : Pal W g n f) (hn : New W W') : Pal W' g n f := (hn.objs _ (obj_lt h)).trans h
theorem Pal.sl {W : World} {g n c : Nat} {f : Nat → Int} (h : Pal W g n f) : Sl W (.slice (some ⟨g, 0, none⟩) n c) n 3 .u8 f := Sl.arr h rfl
set_option maxHeartbeats 1000000 in
set_option maxRecDepth 100000 in
theorem toPalette_any (v : Value) (n : Nat) (f : Nat → Int) (hn : n ≤ 1048576) (w : World) (hs : Sl w v n 3 .u8 f) :
    Calls Try.prog 8 #[v] w fun e w' => ∃ g, e = .returned (.slice (some ⟨g, 0, none⟩) n n) ∧ Pal w' g n f ∧ w.heap.size ≤ g ∧ New w w' := by
  obtain ⟨a, c, rfl, hs0⟩ := hs
  have hs : Sl w (.slice a n c) n 3 .u8 f := ⟨a, c, rfl, hs0⟩
  clear hs0
  go_enter Try.func8, Try.ntmps8
  go_wp2_with (fail)
  go_loopw [4] (fun i wr => ∃ k : Nat, k ≤ n ∧ i = .int .i64 k ∧ Hid (obj wr w.heap.size = some (.cells (arr (n * 3) .u8 fun j => if j < k * 3 then f j else 0) 34)) ∧ New w wr ∧ w.heap.size < wr.heap.size) (fun i _ => n - (intOf i).toNat)
  case atStart => exact ⟨0, by omega, rfl, by show _ = _; go_simp, (New.refl w).alloc _, by simp⟩
  case round =>
    obtain ⟨k, hk, rfl, ho1, hnw, hlw⟩ := hrel
    have ho := ho1.out
    by_cases hlt : k < n
    · obtain ⟨g, off, cur, t, fr, rfl, o1, hx, l1⟩ := elPal hs hlt
      have p1 := (hnw.objs _ (obj_lt o1)).trans o1
      have l2 : k * 3 + 3 ≤ n * 3 := by omega
      clear o1 hs ho1
      go_wp2_with (fail)
      refine (toTone_any _ _ _ _).mono ?_
      rintro e1 w1 ⟨rfl, hn1⟩
      have q1 : obj w1 w.heap.size = _ := (hn1.objs _ hlw).trans ho
      go_wp2_with (fail)
      go_roundw
      case rel =>
        refine ⟨k + 1, by omega, by go_num, ?_, (hnw.trans hn1).setRow (Nat.le_refl _) _, by rw [size_setRow]; have := hn1.le; omega⟩
        show _ = _
        rw [obj_setRow_same, q1]
        simp only [Option.map_some, reCells_cells]
        rw [seg_arr3 (G := fun j => if j < (k + 1) * 3 then f j else 0)]
        · omega
        · rw [if_pos (by omega)]
        · rw [if_pos (by omega)]
        · rw [if_pos (by omega)]
        · intro i hi h
          by_cases h1 : i < k * 3
          · rw [if_pos h1, if_pos (by omega)]
          · rw [if_neg h1, if_neg (by omega)]
      case measure => simp [intOf]; omega
    · obtain rfl : k = n := by omega
      go_wp2_with (fail)
      go_ret
      refine ⟨_, rfl, ?_, Nat.le_refl _, hnw⟩
      unfold Pal
      rw [ho]
      congr 2
      exact arr_congr fun i hi => if_pos hi
set_option maxHeartbeats 1000000 in
set_option maxRecDepth 100000 in
theorem eqTone_any (x0 x1 x2 y0 y1 y2 : Int) (w : World) :
    Calls Try.prog 34 #[.agg #[.int .u8 x0, .int .u8 x1, .int .u8 x2], .agg #[.int .u8 y0, .int .u8 y1, .int .u8 y2]] w fun r w' => r = .returned (.bool (eq3 x0 x1 x2 y0 y1 y2)) ∧ New w w' := by
  unfold eq3
  cases h0 : (x0 != y0)
  rotate_left
  · have e0 : Hid ((x0 == y0) = false) := by show _ = _; simpa using h0
    go_enter Try.func34, Try.ntmps34
    go_wp2_with (fail)
    refine wp_loop_rounds 4 ?_
    rw [rounds_succ]; go_wp2_with (fail); go_quiet (fail); go_wp2_with (fail)
    go_ret
    refine ⟨ret_b (by rw [e0.out]; rfl), ?_⟩
    repeat' (first | exact New.refl _ | refine New.alloc ?_ _ | refine New.drew ?_ | refine New.drewN ?_ _ | refine New.setRow ?_ (by omega) _ | refine New.setCell ?_ (by first | omega | (simp; done) | (simp; omega)) _)
  have e0 : Hid ((x0 == y0) = true) := by show _ = _; simpa using h0
  cases h1 : (x1 != y1)
  rotate_left
  · have e1 : Hid ((x1 == y1) = false) := by show _ = _; simpa using h1
    go_enter Try.func34, Try.ntmps34
    go_wp2_with (fail)
    refine wp_loop_rounds 4 ?_
    rw [rounds_succ]; go_wp2_with (fail); go_quiet (fail); go_wp2_with (fail)
    rw [rounds_succ]; go_wp2_with (fail); go_quiet (fail); go_wp2_with (fail)
    go_ret
    refine ⟨ret_b (by rw [e0.out, e1.out]; rfl), ?_⟩
    repeat' (first | exact New.refl _ | refine New.alloc ?_ _ | refine New.drew ?_ | refine New.drewN ?_ _ | refine New.setRow ?_ (by omega) _ | refine New.setCell ?_ (by first | omega | (simp; done) | (simp; omega)) _)
  have e1 : Hid ((x1 == y1) = true) := by show _ = _; simpa using h1
  cases h2 : (x2 != y2)
  rotate_left
  · have e2 : Hid ((x2 == y2) = false) := by show _ = _; simpa using h2
    go_enter Try.func34, Try.ntmps34
    go_wp2_with (fail)
    refine wp_loop_rounds 4 ?_
    rw [rounds_succ]; go_wp2_with (fail); go_quiet (fail); go_wp2_with (fail)
    rw [rounds_succ]; go_wp2_with (fail); go_quiet (fail); go_wp2_with (fail)
    rw [rounds_succ]; go_wp2_with (fail); go_quiet (fail); go_wp2_with (fail)
    go_ret
    refine ⟨ret_b (by rw [e0.out, e1.out, e2.out]; rfl), ?_⟩
    repeat' (first | exact New.refl _ | refine New.alloc ?_ _ | refine New.drew ?_ | refine New.drewN ?_ _ | refine New.setRow ?_ (by omega) _ | refine New.setCell ?_ (by first | omega | (simp; done) | (simp; omega)) _)
  have e2 : Hid ((x2 == y2) = true) := by show _ = _; simpa using h2
  go_enter Try.func34, Try.ntmps34
  go_wp2_with (fail)
  refine wp_loop_rounds 4 ?_
  rw [rounds_succ]; go_wp2_with (fail); go_quiet (fail); go_wp2_with (fail)
  rw [rounds_succ]; go_wp2_with (fail); go_quiet (fail); go_wp2_with (fail)
  rw [rounds_succ]; go_wp2_with (fail); go_quiet (fail); go_wp2_with (fail)
  rw [rounds_succ]; go_wp2_with (fail)
  go_ret
  refine ⟨ret_b (by rw [e0.out, e1.out, e2.out]; rfl), ?_⟩
  repeat' (first | exact New.refl _ | refine New.alloc ?_ _ | refine New.drew ?_ | refine New.drewN ?_ _ | refine New.setRow ?_ (by omega) _ | refine New.setCell ?_ (by first | omega | (simp; done) | (simp; omega)) _)
set_option maxHeartbeats 1000000 in
set_option maxRecDepth 100000 in
theorem eqPalette_refl (a1 a2 : Option Addr) (n c1 c2 : Nat) (f : Nat → Int) (hn : n ≤ 1048576) (W : World) (h1 : Sl W (.slice a1 n c1) n 3 .u8 f) (h2 : Sl W (.slice a2 n c2) n 3 .u8 f) :
    Calls Try.prog 11 #[.slice a1 n c1, .slice a2 n c2] W fun e w' => e = .returned (.bool true) ∧ New W w' := by
  go_enter Try.func11, Try.ntmps11
  go_wp2_with (fail)
  go_loopw [5] (fun i wr => ∃ k : Nat, k ≤ n ∧ i = .int .i64 k ∧ New W wr) (fun i _ => n - (intOf i).toNat)
  case atStart => exact ⟨0, by omega, rfl, New.refl W⟩
  case round =>
    obtain ⟨k, hk, rfl, hnw⟩ := hrel
    by_cases hlt : k < n
    · obtain ⟨g1, off1, cur1, t1, fr1, rfl, o1, x1, l1⟩ := elPal h1 hlt
      obtain ⟨g2, off2, cur2, t2, fr2, rfl, o2, x2, l2⟩ := elPal h2 hlt
      have p1 := (hnw.objs _ (obj_lt o1)).trans o1
      have p2 := (hnw.objs _ (obj_lt o2)).trans o2
      have hr : eq3 (f (k * 3)) (f (k * 3 + 1)) (f (k * 3 + 2)) (f (k * 3)) (f (k * 3 + 1)) (f (k * 3 + 2)) = true := by simp [eq3]
      have q1 := obj_lt p1
      have q2 := obj_lt p2
      clear o1 o2 h1 h2
      go_wp2_with (fail)
      go_wp2_with (fail)
      refine wp_region_new (by kernel_rfl) (by kernel_rfl) ?_
      repeat (go_big_quiet_step (first | fail | (go_at_call 34; with_reducible exact calls_new (eqTone_any _ _ _ _ _ _ _))))
      refine wpQuiet_nil ?_
      intro w1 hc1
      have hn1 := NewW.of hc1
      clear hc1
      have ho1 := hn1.objs
      have hz1 := hn1.le
      try simp at hz1
      go_wp2_with (fail)
      go_roundw
      case rel => exact ⟨k + 1, by omega, by go_num, hnw.trans hn1⟩
      case measure => simp [intOf]; omega
    · obtain rfl : k = n := by omega
      go_wp2_with (fail)
      go_ret
      exact ⟨rfl, hnw⟩
/-- element i of the one is element j of the other -/
def alikePal (f g : Nat → Int) (i j : Nat) : Bool := eq3 (f (i * 3)) (f (i * 3 + 1)) (f (i * 3 + 2)) (g (j * 3)) (g (j * 3 + 1)) (g (j * 3 + 2))
def samePal (n m : Nat) (f g : Nat → Int) : Bool := n == m && (List.range n).all fun i => alikePal f g i i
theorem samePal_t {n : Nat} {f g : Nat → Int} (h : ∀ j, j < n → alikePal f g j j = true) : samePal n n f g = true := by
  unfold samePal
  rw [Bool.and_eq_true]
  exact ⟨by simp, List.all_eq_true.2 fun i hi => h i (by simpa using hi)⟩
theorem samePal_f {n i : Nat} {f g : Nat → Int} (hi : i < n) (h : alikePal f g i i = false) : samePal n n f g = false := by
  unfold samePal
  rw [Bool.and_eq_false_iff]
  exact Or.inr (List.all_eq_false.2 ⟨i, by simpa using hi, by simp [h]⟩)
end Go.Proofs.Ytpofhbdnjecfjaa
