/- The great law on fields: the small functions of the laws; no condition. -/
import Derived.Test.YtmmckoemkpfgbaaRRow
import Derived.Test.YtmmckoemkpfgbaaValid
import Derived.Test.YtmmckoemkpfgbaaSrc
import Derived.Test.YtmmckoemkpfgbaaDrawP
set_option linter.unusedVariables false
namespace Go.Proofs.Ytmmckoemkpfgbaa
open Go.BigFrame
open Go.RowKit Go.Arr
set_option maxHeartbeats 400000 in
theorem a2Long_any (x y : Option Addr) (n c m d : Nat) (w : World) : Calls Try.prog 4 #[.slice x n c, .slice y m d] w fun e w' => e = .returned (.bool (decide (3000 < n) || decide (3000 < m))) ∧ w = w' := by
  by_cases h : (3000 : Int) < n
  · have hd : Hid ((decide (3000 < n) || decide (3000 < m)) = true) := by show _ = _; rw [decide_eq_true (show 3000 < n by omega)]; rfl
    go_enter Try.func4, Try.ntmps4
    go_wp2_with (fail)
    go_ret
    exact ⟨by rw [hd.out]; rfl, rfl⟩
  · have hd : Hid ((decide (3000 < n) || decide (3000 < m)) = decide ((3000 : Int) < m)) := by
      show _ = _
      rw [decide_eq_false (show ¬ 3000 < n by omega), Bool.false_or, decide_eq_decide]
      omega
    go_enter Try.func4, Try.ntmps4
    go_wp2_with (fail)
    go_ret
    exact ⟨by rw [hd.out]; rfl, rfl⟩
/-- a number from some bytes -/
def atV (f : Nat → Int) (n i : Nat) (m : Int) : Int := if n ≤ i ∨ m < 1 then 0 else f i % m
theorem atV_b {f : Nat → Int} {n i : Nat} {m : Int} (hm : 1 ≤ m) : 0 ≤ atV f n i m ∧ atV f n i m < m := by
  unfold atV
  split
  · omega
  · exact ⟨Int.emod_nonneg _ (by omega), Int.emod_lt_of_pos _ (by omega)⟩
set_option maxHeartbeats 400000 in
theorem a2At_any (ad : Option Addr) (n c : Nat) (f : Nat → Int) (hf : ∀ i, 0 ≤ f i ∧ f i ≤ 255) (i : Nat) (m : Int) (hi : i ≤ 1000) (hm : 1 ≤ m ∧ m ≤ 1000) (hn : n ≤ 3000) (w : World) (hs : Sl w (.slice ad n c) n 1 .u8 f) :
    Calls Try.prog 13 #[.slice ad n c, .int .i64 (i : Nat), .int .i64 m] w fun e w' => e = .returned (.int .i64 (atV f n i m)) ∧ w = w' := by
  by_cases h : n ≤ i
  · have hv : Hid (atV f n i m = 0) := if_pos (Or.inl h)
    have h2 : (n : Int) ≤ i := by omega
    go_enter Try.func13, Try.ntmps13
    go_wp2_with (fail)
    go_ret
    exact ⟨by rw [hv.out]; rfl, rfl⟩
  · have hfi := hf i
    have hv : Hid (atV f n i m = f i % m) := if_neg (by omega)
    obtain ⟨g, off, cur, t, fr, rfl, o1, hel⟩ := elBytes hs (by omega)
    obtain ⟨l1, e1⟩ := hel i (by omega)
    have h2 : ¬ (n : Int) ≤ i := by omega
    have hwr : IntKind.i64.wrap (f i) = f i := by simp [IntKind.wrap, IntKind.bits, IntKind.signed]; omega
    have hmm : Int.tmod (f i) m = f i % m := Int.tmod_eq_emod_of_nonneg hfi.1
    have hb1 : 0 ≤ f i % m := Int.emod_nonneg _ (by omega)
    have hb2 : f i % m < m := Int.emod_lt_of_pos _ (by omega)
    clear hel hs
    go_enter Try.func13, Try.ntmps13
    go_wp2_with (fail)
    go_ret
    exact ⟨by rw [hv.out]; rfl, rfl⟩
set_option maxHeartbeats 400000 in
theorem a2Is_any (a b : Int) (f : Nat → Int) (i : Int) (ha : -128 ≤ a ∧ a ≤ 127) (hb : -128 ≤ b ∧ b ≤ 127) (w : World) :
    Calls Try.prog 9 #[.agg (pic 144 a b f), .int .i64 i] w fun e w' => e = .returned (.bool (cellB i a b)) ∧ New w w' := by
  go_enter Try.func9, Try.ntmps9
  go_wp2_with (fail)
  refine (l01Is_any _ 27 a b f i ha hb _ (obj_alloc_at _ _ _ rfl)).mono ?_
  rintro e w1 ⟨rfl, rfl⟩
  go_wp2_with (fail)
  go_ret
  exact ⟨rfl, (New.refl _).alloc _⟩
set_option maxHeartbeats 1000000 in
set_option maxRecDepth 100000 in
theorem l00Same_refl (a1 a2 : Option Addr) (n c1 c2 : Nat) (f : Nat → Int) (hn : n ≤ 1000) (W : World) (h1 : Reads W a1 n f) (h2 : Reads W a2 n f) :
    Calls Try.prog 29 #[.slice a1 n c1, .slice a2 n c2] W fun e w' => e = .returned (.bool true) ∧ New W w' := by
  go_enter Try.func29, Try.ntmps29
  go_wp2_with (fail)
  go_loopw [5] (fun i wr => ∃ k : Nat, k ≤ n ∧ i = .int .i64 k ∧ New W wr) (fun i _ => n - (intOf i).toNat)
  case atStart => exact ⟨0, by omega, rfl, New.refl W⟩
  case round =>
    obtain ⟨k, hk, rfl, hnw⟩ := hrel
    by_cases hlt : k < n
    · obtain ⟨g1, cur1, rfl, o1, e1⟩ := h1 k hlt
      obtain ⟨g2, cur2, rfl, o2, e2⟩ := h2 k hlt
      have p1 := (hnw.objs _ (obj_lt o1)).trans o1
      have p2 := (hnw.objs _ (obj_lt o2)).trans o2
      obtain ⟨l1, e1⟩ := Array.getElem?_eq_some_iff.1 e1
      obtain ⟨l2, e2⟩ := Array.getElem?_eq_some_iff.1 e2
      clear o1 o2
      have hne : (f k != f k) = false := by simp
      go_wp2_with (fail)
      go_quiet (fail)
      go_wp2_with (fail)
      go_roundw
      case rel => exact ⟨k + 1, by omega, by go_num, hnw.drewN _⟩
      case measure => simp [intOf]; omega
    · obtain rfl : k = n := by omega
      go_wp2_with (fail)
      go_ret
      exact ⟨rfl, hnw⟩
set_option maxHeartbeats 400000 in
theorem a2Same_refl (a1 a2 : Option Addr) (n c1 c2 : Nat) (f : Nat → Int) (hn : n ≤ 1000) (W : World) (h1 : Reads W a1 n f) (h2 : Reads W a2 n f) :
    Calls Try.prog 11 #[.slice a1 n c1, .slice a2 n c2] W fun e w' => e = .returned (.bool true) ∧ New W w' := by
  go_enter Try.func11, Try.ntmps11
  go_wp2_with (fail)
  refine (l00Same_refl a1 a2 n c1 c2 f hn _ h1 h2).mono ?_
  rintro e w1 ⟨rfl, hn1⟩
  go_wp2_with (fail)
  go_ret
  exact ⟨rfl, hn1⟩
set_option maxHeartbeats 1000000 in
set_option maxRecDepth 100000 in
theorem a2SameFields_refl (a1 a2 : Option Addr) (n c1 c2 b1 b2 : Nat) (vs us : Nat → Value) (m : Nat → Nat) (F : Nat → Nat → Int) (hn : n ≤ 1000) (hm : ∀ i, m i ≤ 1000) (W : World) (h1 : RR W b1 (.slice a1 n c1) n vs m F) (h2 : RR W b2 (.slice a2 n c2) n us m F) :
    Calls Try.prog 8 #[.slice a1 n c1, .slice a2 n c2] W fun e w' => e = .returned (.bool true) ∧ New W w' := by
  have hm := hide hm
  go_enter Try.func8, Try.ntmps8
  go_wp2_with (fail)
  go_loopw [5] (fun i wr => ∃ k : Nat, k ≤ n ∧ i = .int .i64 k ∧ New W wr) (fun i _ => n - (intOf i).toNat)
  case atStart => exact ⟨0, by omega, rfl, New.refl W⟩
  case round =>
    obtain ⟨k, hk, rfl, hnw⟩ := hrel
    by_cases hlt : k < n
    · have hmk := hm.out k
      obtain ⟨g1, cur1, rfl, o1, l1, e1⟩ := h1.slot hlt
      obtain ⟨g2, cur2, rfl, o2, l2, e2⟩ := h2.slot hlt
      have r1 := (h1.row hlt).new hnw
      have r2 := (h2.row hlt).new hnw
      obtain ⟨x1, y1, z1, s1⟩ := r1.reads
      obtain ⟨x2, y2, z2, s2⟩ := r2.reads
      rw [z1] at e1
      rw [z2] at e2
      have p1 := (hnw.objs _ (obj_lt o1)).trans o1
      have p2 := (hnw.objs _ (obj_lt o2)).trans o2
      have q1 := obj_lt p1
      have q2 := obj_lt p2
      have t1 : NewSl wr x1 (m k) (F k) := s1
      have t2 : NewSl wr x2 (m k) (F k) := s2
      clear o1 o2 h1 h2 r1 r2 z1 z2 s1 s2
      go_wp2_with (fail)
      go_wp2_with (fail)
      refine wp_region_new (by kernel_rfl) (by kernel_rfl) ?_
      repeat (go_big_quiet_step (first | fail | (go_at_call 29; with_reducible exact calls_new (l00Same_refl _ _ _ _ _ _ (by omega) _ (t1.at (NewW.is _)) (t2.at (NewW.is _))))))
      refine wpQuiet_nil ?_
      intro w1 hc1
      have hn1 := NewW.of hc1
      clear hc1
      have ho1 := hn1.objs
      have hz1 := hn1.le
      try simp at hz1
      go_wp2_with (fail)
      go_roundw
      case rel => exact ⟨k + 1, by omega, by go_num, hnw.trans hn1⟩
      case measure => simp [intOf]; omega
    · obtain rfl : k = n := by omega
      go_wp2_with (fail)
      go_ret
      exact ⟨rfl, hnw⟩
end Go.Proofs.Ytmmckoemkpfgbaa
