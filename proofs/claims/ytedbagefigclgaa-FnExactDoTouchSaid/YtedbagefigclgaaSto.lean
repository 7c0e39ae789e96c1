/- Stones: copied, held against each other, looked up; no condition. -/
import Derived.Test.YtedbagefigclgaaTy
import Derived.Test.YtedbagefigclgaaSli
import Derived.Test.YtedbagefigclgaaSmall
set_option linter.unusedVariables false
namespace Go.Proofs.Ytedbagefigclgaa
open Go.BigFrame
open Go.RowKit Go.Arr
theorem elSto {W : World} {a : Option Addr} {n c j : Nat} {f : Nat → Int} (h : Sl W (.slice a n c) n 2 .i16 f) (hj : j < n) : ∃ g off cur t fr, a = some ⟨g, off, none⟩ ∧ obj W g = some (.cells cur t fr) ∧ cur.extract (off + j * 2) (off + j * 2 + 2) = #[.int .i16 (f (j * 2)), .int .i16 (f (j * 2 + 1))] ∧ off + j * 2 + 2 ≤ cur.size := by
  obtain ⟨g, off, cur, t, fr, rfl, ho, hc⟩ := h.at (by omega)
  refine ⟨g, off, cur, t, fr, rfl, ho, ext2 (hc (j * 2) (by omega)) (hc (j * 2 + 1) (by omega)) rfl, ?_⟩
  have h2 := hc (j * 2 + 1) (by omega)
  obtain ⟨l, _⟩ := Array.getElem?_eq_some_iff.1 h2
  omega
set_option maxHeartbeats 400000 in
theorem szStone_any (a : Option Addr) (n c : Nat) (left : Int) (hn : n ≤ maxLen) (hl : 0 ≤ left ∧ left ≤ 1048576) (w : World) :
    Calls Try.prog 26 #[.slice a n c, .int .i64 left] w fun e w' => e = .returned (.int .i64 (if left < n then -1 else left - n)) ∧ w = w' := by
  have hm : n ≤ 9223372036854775807 := by unfold maxLen at hn; omega
  clear hn
  by_cases h : left < n
  · rw [if_pos h]
    go_enter Try.func26, Try.ntmps26
    go_wp2_with (fail)
    go_ret
    exact ⟨rfl, rfl⟩
  · rw [if_neg h]
    go_enter Try.func26, Try.ntmps26
    go_wp2_with (fail)
    go_ret
    exact ⟨rfl, rfl⟩
/-- a row of the call's own -/
def Sto (W : World) (g n : Nat) (f : Nat → Int) : Prop := obj W g = some (.cells (arr (n * 2) .i16 f) 84)
theorem Sto.new {W W' : World} {g n : Nat} {f : Nat → Int} (h : Sto W g n f) (hn : New W W') : Sto W' g n f := (hn.objs _ (obj_lt h)).trans h
theorem Sto.sl {W : World} {g n c : Nat} {f : Nat → Int} (h : Sto W g n f) : Sl W (.slice (some ⟨g, 0, none⟩) n c) n 2 .i16 f := Sl.arr h rfl
set_option maxHeartbeats 400000 in
theorem toCorner_any (a b : Int) (w : World) :
    Calls Try.prog 59 #[.agg #[.int .i16 a, .int .i16 b]] w fun e w' => e = .returned (.agg #[.int .i16 a, .int .i16 b]) ∧ New w w' := by
  go_enter Try.func59, Try.ntmps59
  go_wp2_with (fail)
  refine ret_cell agg84 rfl rfl (c := #[.int .i16 a, .int .i16 b]) (t := 84) (fr := (0, 0)) (by go_simp) rfl rfl ⟨rfl, ?_⟩
  repeat' (first | exact New.refl _ | refine New.alloc ?_ _ | refine New.drew ?_ | refine New.drewN ?_ _ | refine New.setRow ?_ (by omega) _ | refine New.setCell ?_ (by first | omega | (simp; done) | (simp; omega)) _)
set_option maxHeartbeats 1000000 in
set_option maxRecDepth 100000 in
theorem toStone_any (v : Value) (n : Nat) (f : Nat → Int) (hn : n ≤ 1048576) (w : World) (hs : Sl w v n 2 .i16 f) :
    Calls Try.prog 28 #[v] w fun e w' => ∃ g, e = .returned (.slice (some ⟨g, 0, none⟩) n n) ∧ Sto w' g n f ∧ w.heap.size ≤ g ∧ New w w' := by
  obtain ⟨a, c, rfl, hs0⟩ := hs
  have hs : Sl w (.slice a n c) n 2 .i16 f := ⟨a, c, rfl, hs0⟩
  clear hs0
  go_enter Try.func28, Try.ntmps28
  go_wp2_with (fail)
  go_loopw [4] (fun i wr => ∃ k : Nat, k ≤ n ∧ i = .int .i64 k ∧ Hid (obj wr w.heap.size = some (.cells (arr (n * 2) .i16 fun j => if j < k * 2 then f j else 0) 84)) ∧ New w wr ∧ w.heap.size < wr.heap.size) (fun i _ => n - (intOf i).toNat)
  case atStart => exact ⟨0, by omega, rfl, by show _ = _; go_simp, (New.refl w).alloc _, by simp⟩
  case round =>
    obtain ⟨k, hk, rfl, ho1, hnw, hlw⟩ := hrel
    have ho := ho1.out
    by_cases hlt : k < n
    · obtain ⟨g, off, cur, t, fr, rfl, o1, hx, l1⟩ := elSto hs hlt
      have p1 := (hnw.objs _ (obj_lt o1)).trans o1
      have l2 : k * 2 + 2 ≤ n * 2 := by omega
      clear o1 hs ho1
      go_wp2_with (fail)
      refine (toCorner_any _ _ _).mono ?_
      rintro e1 w1 ⟨rfl, hn1⟩
      have q1 : obj w1 w.heap.size = _ := (hn1.objs _ hlw).trans ho
      go_wp2_with (fail)
      go_roundw
      case rel =>
        refine ⟨k + 1, by omega, by go_num, ?_, (hnw.trans hn1).setRow (Nat.le_refl _) _, by rw [size_setRow]; have := hn1.le; omega⟩
        show _ = _
        rw [obj_setRow_same, q1]
        simp only [Option.map_some, reCells_cells]
        rw [seg_arr2 (G := fun j => if j < (k + 1) * 2 then f j else 0)]
        · omega
        · rw [if_pos (by omega)]
        · rw [if_pos (by omega)]
        · intro i hi h
          by_cases h1 : i < k * 2
          · rw [if_pos h1, if_pos (by omega)]
          · rw [if_neg h1, if_neg (by omega)]
      case measure => simp [intOf]; omega
    · obtain rfl : k = n := by omega
      go_wp2_with (fail)
      go_ret
      refine ⟨_, rfl, ?_, Nat.le_refl _, hnw⟩
      unfold Sto
      rw [ho]
      congr 2
      exact arr_congr fun i hi => if_pos hi
set_option maxHeartbeats 1000000 in
set_option maxRecDepth 100000 in
theorem eqCorner_any (x0 x1 y0 y1 : Int) (w : World) :
    Calls Try.prog 61 #[.agg #[.int .i16 x0, .int .i16 x1], .agg #[.int .i16 y0, .int .i16 y1]] w fun r w' => r = .returned (.bool (eq2 x0 x1 y0 y1)) ∧ New w w' := by
  unfold eq2
  cases h0 : (x0 != y0)
  rotate_left
  · have e0 : Hid ((x0 == y0) = false) := by show _ = _; simpa using h0
    go_enter Try.func61, Try.ntmps61
    go_wp2_with (fail)
    all_goals (try go_quiet (fail))
    all_goals (try go_wp2_with (fail))
    go_ret
    refine ⟨ret_b (by rw [e0.out]; rfl), ?_⟩
    repeat' (first | exact New.refl _ | refine New.alloc ?_ _ | refine New.drew ?_ | refine New.drewN ?_ _ | refine New.setRow ?_ (by omega) _ | refine New.setCell ?_ (by first | omega | (simp; done) | (simp; omega)) _)
  have e0 : Hid ((x0 == y0) = true) := by show _ = _; simpa using h0
  cases h1 : (x1 != y1)
  rotate_left
  · have e1 : Hid ((x1 == y1) = false) := by show _ = _; simpa using h1
    go_enter Try.func61, Try.ntmps61
    go_wp2_with (fail)
    all_goals (try (go_quiet (fail); go_wp2_with (fail)))
    all_goals (try (go_quiet (fail); go_wp2_with (fail)))
    go_ret
    refine ⟨ret_b (by rw [e0.out, e1.out]; rfl), ?_⟩
    repeat' (first | exact New.refl _ | refine New.alloc ?_ _ | refine New.drew ?_ | refine New.drewN ?_ _ | refine New.setRow ?_ (by omega) _ | refine New.setCell ?_ (by first | omega | (simp; done) | (simp; omega)) _)
  have e1 : Hid ((x1 == y1) = true) := by show _ = _; simpa using h1
  go_enter Try.func61, Try.ntmps61
  go_wp2_with (fail)
  all_goals (try (go_quiet (fail); go_wp2_with (fail)))
  all_goals (try (go_quiet (fail); go_wp2_with (fail)))
  go_ret
  refine ⟨ret_b (by rw [e0.out, e1.out]; rfl), ?_⟩
  repeat' (first | exact New.refl _ | refine New.alloc ?_ _ | refine New.drew ?_ | refine New.drewN ?_ _ | refine New.setRow ?_ (by omega) _ | refine New.setCell ?_ (by first | omega | (simp; done) | (simp; omega)) _)
set_option maxHeartbeats 1000000 in
set_option maxRecDepth 100000 in
theorem eqStone_refl (a1 a2 : Option Addr) (n c1 c2 : Nat) (f : Nat → Int) (hn : n ≤ 1048576) (W : World) (h1 : Sl W (.slice a1 n c1) n 2 .i16 f) (h2 : Sl W (.slice a2 n c2) n 2 .i16 f) :
    Calls Try.prog 30 #[.slice a1 n c1, .slice a2 n c2] W fun e w' => e = .returned (.bool true) ∧ New W w' := by
  go_enter Try.func30, Try.ntmps30
  go_wp2_with (fail)
  go_loopw [5] (fun i wr => ∃ k : Nat, k ≤ n ∧ i = .int .i64 k ∧ New W wr) (fun i _ => n - (intOf i).toNat)
  case atStart => exact ⟨0, by omega, rfl, New.refl W⟩
  case round =>
    obtain ⟨k, hk, rfl, hnw⟩ := hrel
    by_cases hlt : k < n
    · obtain ⟨g1, off1, cur1, t1, fr1, rfl, o1, x1, l1⟩ := elSto h1 hlt
      obtain ⟨g2, off2, cur2, t2, fr2, rfl, o2, x2, l2⟩ := elSto h2 hlt
      have p1 := (hnw.objs _ (obj_lt o1)).trans o1
      have p2 := (hnw.objs _ (obj_lt o2)).trans o2
      have hr : eq2 (f (k * 2)) (f (k * 2 + 1)) (f (k * 2)) (f (k * 2 + 1)) = true := by simp [eq2]
      have q1 := obj_lt p1
      have q2 := obj_lt p2
      clear o1 o2 h1 h2
      go_wp2_with (fail)
      go_wp2_with (fail)
      refine wp_region_new (by kernel_rfl) (by kernel_rfl) ?_
      repeat (go_big_quiet_step (first | fail | (go_at_call 61; with_reducible exact calls_new (eqCorner_any _ _ _ _ _))))
      refine wpQuiet_nil ?_
      intro w1 hc1
      have hn1 := NewW.of hc1
      clear hc1
      have ho1 := hn1.objs
      have hz1 := hn1.le
      try simp at hz1
      go_wp2_with (fail)
      go_roundw
      case rel => exact ⟨k + 1, by omega, by go_num, hnw.trans hn1⟩
      case measure => simp [intOf]; omega
    · obtain rfl : k = n := by omega
      go_wp2_with (fail)
      go_ret
      exact ⟨rfl, hnw⟩
/-- element i of the one is element j of the other -/
def alikeSto (f g : Nat → Int) (i j : Nat) : Bool := eq2 (f (i * 2)) (f (i * 2 + 1)) (g (j * 2)) (g (j * 2 + 1))
def sameSto (n m : Nat) (f g : Nat → Int) : Bool := n == m && (List.range n).all fun i => alikeSto f g i i
theorem sameSto_t {n : Nat} {f g : Nat → Int} (h : ∀ j, j < n → alikeSto f g j j = true) : sameSto n n f g = true := by
  unfold sameSto
  rw [Bool.and_eq_true]
  exact ⟨by simp, List.all_eq_true.2 fun i hi => h i (by simpa using hi)⟩
theorem sameSto_f {n i : Nat} {f g : Nat → Int} (hi : i < n) (h : alikeSto f g i i = false) : sameSto n n f g = false := by
  unfold sameSto
  rw [Bool.and_eq_false_iff]
  exact Or.inr (List.all_eq_false.2 ⟨i, by simpa using hi, by simp [h]⟩)
set_option maxHeartbeats 1000000 in
set_option maxRecDepth 100000 in
theorem sameSto_ref (a1 a2 : Option Addr) (n m c1 c2 : Nat) (f g : Nat → Int) (hn : n ≤ 1048576) (hm : m ≤ 1048576) (W : World) (h1 : Sl W (.slice a1 n c1) n 2 .i16 f) (h2 : Sl W (.slice a2 m c2) m 2 .i16 g) :
    Calls Try.prog 58 #[.slice a1 n c1, .slice a2 m c2] W fun e w' => e = .returned (.bool (sameSto n m f g)) ∧ New W w' := by
  by_cases hne : n = m
  rotate_left
  · have hb : ((n : Int) != (m : Int)) = true := by simp; omega
    have hs : sameSto n m f g = false := by unfold sameSto; rw [Bool.and_eq_false_iff]; exact Or.inl (by simpa using hne)
    go_enter Try.func58, Try.ntmps58
    go_wp2_with (fail)
    go_ret
    exact ⟨ret_b hs.symm, New.refl W⟩
  subst hne
  have hb : ((n : Int) != (n : Int)) = false := by simp
  go_enter Try.func58, Try.ntmps58
  go_wp2_with (fail)
  go_loopw [5] (fun i wr => ∃ k : Nat, k ≤ n ∧ i = .int .i64 k ∧ Hid (∀ j, j < k → alikeSto f g j j = true) ∧ New W wr) (fun i _ => n - (intOf i).toNat)
  case atStart => exact ⟨0, by omega, rfl, fun j hj => absurd hj (by omega), New.refl W⟩
  case round =>
    obtain ⟨k, hk, rfl, hal, hnw⟩ := hrel
    by_cases hlt : k < n
    · obtain ⟨g1, off1, cur1, t1, fr1, rfl, o1, x1, l1⟩ := elSto h1 hlt
      obtain ⟨g2, off2, cur2, t2, fr2, rfl, o2, x2, l2⟩ := elSto h2 hlt
      have p1 := (hnw.objs _ (obj_lt o1)).trans o1
      have p2 := (hnw.objs _ (obj_lt o2)).trans o2
      clear o1 o2 h1 h2
      cases hr : eq2 (f (k * 2)) (f (k * 2 + 1)) (g (k * 2)) (g (k * 2 + 1))
      · have hf : Hid (sameSto n n f g = false) := sameSto_f hlt hr
        go_wp2_with (fail)
        go_quiet (fail)
        go_wp2_with (fail)
        go_ret
        exact ⟨ret_b hf.out.symm, hnw.drewN _⟩
      · have ht : Hid (∀ j, j < k + 1 → alikeSto f g j j = true) := by
          intro j hj
          by_cases e : j = k
          · subst e; exact hr
          · exact hal.out j (by omega)
        go_wp2_with (fail)
        go_quiet (fail)
        go_wp2_with (fail)
        go_roundw
        case rel => exact ⟨k + 1, by omega, by go_num, ht, hnw.drewN _⟩
        case measure => simp [intOf]; omega
    · obtain rfl : k = n := by omega
      go_wp2_with (fail)
      go_ret
      exact ⟨ret_b (sameSto_t hal.out).symm, hnw⟩
set_option maxHeartbeats 1000000 in
set_option maxRecDepth 100000 in
theorem sameSto_lib (a1 a2 : Option Addr) (n m c1 c2 : Nat) (f g : Nat → Int) (hn : n ≤ 1048576) (hm : m ≤ 1048576) (W : World) (h1 : Sl W (.slice a1 n c1) n 2 .i16 f) (h2 : Sl W (.slice a2 m c2) m 2 .i16 g) :
    Calls Try.prog 60 #[.slice a1 n c1, .slice a2 m c2] W fun e w' => e = .returned (.bool (sameSto n m f g)) ∧ New W w' := by
  by_cases hne : n = m
  rotate_left
  · have hb : ((n : Int) != (m : Int)) = true := by simp; omega
    have hs : sameSto n m f g = false := by unfold sameSto; rw [Bool.and_eq_false_iff]; exact Or.inl (by simpa using hne)
    go_enter Try.func60, Try.ntmps60
    go_wp2_with (fail)
    go_ret
    exact ⟨ret_b hs.symm, New.refl W⟩
  subst hne
  have hb : ((n : Int) != (n : Int)) = false := by simp
  go_enter Try.func60, Try.ntmps60
  go_wp2_with (fail)
  go_loopw [13] (fun i wr => ∃ k : Nat, k ≤ n ∧ i = .int .i64 k ∧ Hid (∀ j, j < k → alikeSto f g j j = true) ∧ New W wr) (fun i _ => n - (intOf i).toNat)
  case atStart => exact ⟨0, by omega, rfl, fun j hj => absurd hj (by omega), New.refl W⟩
  case round =>
    obtain ⟨k, hk, rfl, hal, hnw⟩ := hrel
    by_cases hlt : k < n
    · obtain ⟨g1, off1, cur1, t1, fr1, rfl, o1, x1, l1⟩ := elSto h1 hlt
      obtain ⟨g2, off2, cur2, t2, fr2, rfl, o2, x2, l2⟩ := elSto h2 hlt
      have p1 := (hnw.objs _ (obj_lt o1)).trans o1
      have p2 := (hnw.objs _ (obj_lt o2)).trans o2
      clear o1 o2 h1 h2
      cases hr : eq2 (f (k * 2)) (f (k * 2 + 1)) (g (k * 2)) (g (k * 2 + 1))
      · have hf : Hid (sameSto n n f g = false) := sameSto_f hlt hr
        go_wp2_with (fail)
        go_quiet (fail)
        go_wp2_with (fail)
        go_ret
        exact ⟨ret_b hf.out.symm, hnw.drewN _⟩
      · have ht : Hid (∀ j, j < k + 1 → alikeSto f g j j = true) := by
          intro j hj
          by_cases e : j = k
          · subst e; exact hr
          · exact hal.out j (by omega)
        go_wp2_with (fail)
        go_quiet (fail)
        go_wp2_with (fail)
        go_roundw
        case rel => exact ⟨k + 1, by omega, by go_num, ht, hnw.drewN _⟩
        case measure => simp [intOf]; omega
    · obtain rfl : k = n := by omega
      go_wp2_with (fail)
      go_ret
      exact ⟨ret_b (sameSto_t hal.out).symm, hnw⟩
set_option maxHeartbeats 400000 in
theorem sameSto_spec (a1 a2 : Option Addr) (n m c1 c2 : Nat) (f g : Nat → Int) (hn : n ≤ 1048576) (hm : m ≤ 1048576) (W : World) (h1 : Sl W (.slice a1 n c1) n 2 .i16 f) (h2 : Sl W (.slice a2 m c2) m 2 .i16 g) :
    Calls Try.prog 27 #[.slice a1 n c1, .slice a2 m c2] W fun e w' => e = .returned (.bool (sameSto n m f g)) ∧ New W w' := by
  go_enter Try.func27, Try.ntmps27
  go_wp2_with (fail)
  refine (sameSto_ref a1 a2 n m c1 c2 f g hn hm _ h1 h2).mono ?_
  rintro e w1 ⟨rfl, hn1⟩
  go_wp2_with (fail)
  go_ret
  exact ⟨rfl, hn1⟩
set_option maxHeartbeats 400000 in
theorem sameSto_impl (a1 a2 : Option Addr) (n m c1 c2 : Nat) (f g : Nat → Int) (hn : n ≤ 1048576) (hm : m ≤ 1048576) (W : World) (h1 : Sl W (.slice a1 n c1) n 2 .i16 f) (h2 : Sl W (.slice a2 m c2) m 2 .i16 g) :
    Calls Try.prog 29 #[.slice a1 n c1, .slice a2 m c2] W fun e w' => e = .returned (.bool (sameSto n m f g)) ∧ New W w' := by
  go_enter Try.func29, Try.ntmps29
  go_wp2_with (fail)
  refine (sameSto_lib a1 a2 n m c1 c2 f g hn hm _ h1 h2).mono ?_
  rintro e w1 ⟨rfl, hn1⟩
  go_wp2_with (fail)
  go_ret
  exact ⟨rfl, hn1⟩
end Go.Proofs.Ytedbagefigclgaa
