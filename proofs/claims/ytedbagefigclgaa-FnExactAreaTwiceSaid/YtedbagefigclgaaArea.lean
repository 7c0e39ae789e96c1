/- Twice the area of a stone: the reference and the program answer alike; no condition. -/
import Derived.Test.YtedbagefigclgaaVst
set_option linter.unusedVariables false
namespace Go.Proofs.Ytedbagefigclgaa
open Go.BigFrame
open Go.RowKit Go.Arr
theorem cellsSto {W : World} {a : Option Addr} {n c : Nat} {f : Nat → Int} (h : Sl W (.slice a n c) n 2 .i16 f) (hn : 0 < n) : ∃ g off cur t fr, a = some ⟨g, off, none⟩ ∧ obj W g = some (.cells cur t fr) ∧ ∀ j, j < n → cur.extract (off + j * 2) (off + j * 2 + 2) = #[.int .i16 (f (j * 2)), .int .i16 (f (j * 2 + 1))] ∧ off + j * 2 + 2 ≤ cur.size ∧ cur[off + j * 2]? = some (.int .i16 (f (j * 2))) ∧ cur[off + j * 2 + 1]? = some (.int .i16 (f (j * 2 + 1))) := by
  obtain ⟨g, off, cur, t, fr, rfl, ho, hc⟩ := h.at hn
  refine ⟨g, off, cur, t, fr, rfl, ho, fun j hj => ⟨ext2 (hc (j * 2) (by omega)) (hc (j * 2 + 1) (by omega)) rfl, ?_, hc (j * 2) (by omega), hc (j * 2 + 1) (by omega)⟩⟩
  obtain ⟨l, _⟩ := Array.getElem?_eq_some_iff.1 (hc (j * 2 + 1) (by omega))
  omega
def areaT (f : Nat → Int) (i k : Nat) : Int := f (i * 2) * f (k * 2 + 1) - f (k * 2) * f (i * 2 + 1)
def areaK (n : Nat) (f : Nat → Int) : Nat → Int
  | 0 => 0
  | i + 1 => areaK n f i + areaT f i ((i + 1) % n)
def areaV (n : Nat) (f : Nat → Int) : Int × Int := if okSto n f = true then (areaK n f n, 0) else (0, 1)
theorem prod16 (x y : Int) (hx : b16 x) (hy : b16 y) : -1073741824 ≤ x * y ∧ x * y ≤ 1073741824 := by
  unfold b16 at *
  have := mul_bound x y 32768 32768 (by omega) (by omega) (by omega) (by omega)
  omega
theorem okSto_len {n : Nat} {f : Nat → Int} (h : okSto n f = true) : 3 ≤ n ∧ n ≤ 8 := by
  unfold okSto at h
  rw [Bool.and_eq_true] at h
  have := inB_t.1 h.1
  omega
set_option maxHeartbeats 2000000 in
set_option maxRecDepth 100000 in
theorem l03Area_any (a : Option Addr) (n c : Nat) (f : Nat → Int) (hb : ∀ i, b16 (f i)) (hp : 0 < n) (hn : n ≤ 8) (W : World) (hs : Sl W (.slice a n c) n 2 .i16 f) :
    Calls Try.prog 76 #[.slice a n c] W fun e w' => e = .returned (.int .i64 (areaK n f n)) ∧ New W w' := by
  obtain ⟨g, off, cur, t, fr, rfl, o1, hel⟩ := cellsSto hs hp
  have q1 := obj_lt o1
  have hel' := hide hel
  clear hel hs
  go_enter Try.func76, Try.ntmps76
  go_wp2_with (fail)
  go_loopw [4, 3] (fun x s wr => ∃ (i : Nat) (z : Int), i ≤ n ∧ x = .int .i64 i ∧ s = .int .i64 z ∧ Hid (z = areaK n f i) ∧ -2147483648 * i ≤ z ∧ z ≤ 2147483648 * i ∧ New W wr) (fun x _ _ => n - (intOf x).toNat)
  case atStart => exact ⟨0, 0, by omega, rfl, rfl, rfl, by omega, by omega, New.refl W⟩
  case round =>
    obtain ⟨i, z, hi, rfl, rfl, hz, hz1, hz2, hnw⟩ := hrel
    by_cases hlt : i < n
    · have p1 := (hnw.objs _ q1).trans o1
      obtain ⟨x1, l1, c1, d1⟩ := hel'.out i hlt
      have hkn : (i + 1) % n < n := Nat.mod_lt _ (by omega)
      have hz' : Hid (∀ y : Int, y = z + areaT f i ((i + 1) % n) → y = areaK n f (i + 1)) := by
        show ∀ y : Int, _
        intro y hy
        rw [hy, hz.out]
        rfl
      generalize hke : (i + 1) % n = k at hkn hz'
      obtain ⟨x2, l2, c2, d2⟩ := hel'.out k hkn
      have m1 := prod16 _ _ (hb (i * 2)) (hb (k * 2 + 1))
      have m2 := prod16 _ _ (hb (k * 2)) (hb (i * 2 + 1))
      have e1 := hb (i * 2)
      have e2 := hb (i * 2 + 1)
      have e3 := hb (k * 2)
      have e4 := hb (k * 2 + 1)
      unfold b16 at e1 e2 e3 e4
      have r1 := obj_lt p1
      obtain ⟨lc1, c1⟩ := Array.getElem?_eq_some_iff.1 c1
      obtain ⟨ld1, d1⟩ := Array.getElem?_eq_some_iff.1 d1
      clear c2 d2
      go_wp2_with (fail)
      refine (l03Next_any _ n c i (by omega) hlt _).mono ?_
      rintro e w' ⟨rfl, rfl⟩
      rw [hke]
      clear hke
      go_wp2_with (fail)
      go_quiet (fail)
      go_wp2_with (fail)
      go_roundw
      case rel => exact ⟨i + 1, _, by omega, by go_num, rfl, hz'.out _ (by unfold areaT; omega), by omega, by omega, (hnw.alloc _).drewN _⟩
      case measure => simp [intOf]; omega
    · obtain rfl : i = n := by omega
      go_wp2_with (fail)
      go_ret
      exact ⟨by rw [hz.out]; rfl, hnw⟩
set_option maxHeartbeats 2000000 in
set_option maxRecDepth 100000 in
theorem area_any (a : Option Addr) (n c : Nat) (f : Nat → Int) (hb : ∀ i, b16 (f i)) (hp : 0 < n) (hn : n ≤ 8) (W : World) (hs : Sl W (.slice a n c) n 2 .i16 f) :
    Calls Try.prog 77 #[.slice a n c] W fun e w' => e = .returned (.int .i64 (areaK n f n)) ∧ New W w' := by
  obtain ⟨g, off, cur, t, fr, rfl, o1, hel⟩ := cellsSto hs hp
  have q1 := obj_lt o1
  have hel' := hide hel
  clear hel hs
  go_enter Try.func77, Try.ntmps77
  go_wp2_with (fail)
  go_loopw [9, 3] (fun x s wr => ∃ (i : Nat) (z : Int), i ≤ n ∧ x = .int .i64 i ∧ s = .int .i64 z ∧ Hid (z = areaK n f i) ∧ -2147483648 * i ≤ z ∧ z ≤ 2147483648 * i ∧ New W wr) (fun x _ _ => n - (intOf x).toNat)
  case atStart => exact ⟨0, 0, by omega, rfl, rfl, rfl, by omega, by omega, New.refl W⟩
  case round =>
    obtain ⟨i, z, hi, rfl, rfl, hz, hz1, hz2, hnw⟩ := hrel
    by_cases hlt : i < n
    · have p1 := (hnw.objs _ q1).trans o1
      obtain ⟨x1, l1, c1, d1⟩ := hel'.out i hlt
      have hkn : (i + 1) % n < n := Nat.mod_lt _ (by omega)
      have hmod : ((i : Int) + 1) % (n : Int) = (((i + 1) % n : Nat) : Int) := by rw [Int.natCast_emod]; simp
      have hn0 : (n : Int) ≠ 0 := by omega
      have hz' : Hid (∀ y : Int, y = z + areaT f i ((i + 1) % n) → y = areaK n f (i + 1)) := by
        show ∀ y : Int, _
        intro y hy
        rw [hy, hz.out]
        rfl
      generalize hke : (i + 1) % n = k at hkn hz' hmod
      obtain ⟨x2, l2, c2, d2⟩ := hel'.out k hkn
      have m1 := prod16 _ _ (hb (i * 2)) (hb (k * 2 + 1))
      have m2 := prod16 _ _ (hb (k * 2)) (hb (i * 2 + 1))
      have e1 := hb (i * 2)
      have e2 := hb (i * 2 + 1)
      have e3 := hb (k * 2)
      have e4 := hb (k * 2 + 1)
      unfold b16 at e1 e2 e3 e4
      have r1 := obj_lt p1
      clear c1 d1 c2 d2 hke
      go_wp2_with (fail)
      go_roundw
      case rel => exact ⟨i + 1, _, by omega, by go_num, rfl, hz'.out _ (by unfold areaT; omega), by omega, by omega, (hnw.alloc _).alloc _⟩
      case measure => simp [intOf]; omega
    · obtain rfl : i = n := by omega
      go_wp2_with (fail)
      go_ret
      exact ⟨by rw [hz.out]; rfl, hnw⟩
set_option maxHeartbeats 400000 in
theorem areaTwice_spec (a : Option Addr) (n c : Nat) (f : Nat → Int) (hb : ∀ i, b16 (f i)) (hn : n ≤ 1048576) (W : World) (hs : Sl W (.slice a n c) n 2 .i16 f) :
    Calls Try.prog 44 #[.slice a n c] W fun e w' => e = .returned (.tuple #[.int .i64 (areaV n f).1, .int .i64 (areaV n f).2]) ∧ New W w' := by
  unfold areaV
  cases hok : okSto n f
  · rw [if_neg (by simp)]
    go_enter Try.func44, Try.ntmps44
    go_wp2_with (fail)
    refine (l03Ok_any _ n _ f hb hn _ hs).mono ?_
    rintro e1 w1 ⟨rfl, hn1⟩
    have ho1 := hn1.objs
    have hz1 := hn1.le
    try simp at hz1
    go_wp2_with (fail)
    go_ret2
    exact ⟨rfl, hn1⟩
  · rw [if_pos rfl]
    have hl := okSto_len hok
    go_enter Try.func44, Try.ntmps44
    go_wp2_with (fail)
    refine (l03Ok_any _ n _ f hb hn _ hs).mono ?_
    rintro e2 w2 ⟨rfl, hn2⟩
    have ho2 := hn2.objs
    have hz2 := hn2.le
    try simp at hz2
    have hs2 := hs.new hn2
    go_wp2_with (fail)
    refine (l03Area_any _ n _ f hb (by omega) (by omega) _ hs2).mono ?_
    rintro e3 w3 ⟨rfl, hn3⟩
    have ho3 := hn3.objs
    have hz3 := hn3.le
    try simp at hz3
    go_wp2_with (fail)
    go_ret2
    exact ⟨rfl, hn2.trans hn3⟩
set_option maxHeartbeats 400000 in
theorem areaTwice_impl (a : Option Addr) (n c : Nat) (f : Nat → Int) (hb : ∀ i, b16 (f i)) (hn : n ≤ 1048576) (W : World) (hs : Sl W (.slice a n c) n 2 .i16 f) :
    Calls Try.prog 45 #[.slice a n c] W fun e w' => e = .returned (.tuple #[.int .i64 (areaV n f).1, .int .i64 (areaV n f).2]) ∧ New W w' := by
  unfold areaV
  cases hok : okSto n f
  · rw [if_neg (by simp)]
    go_enter Try.func45, Try.ntmps45
    go_wp2_with (fail)
    refine (validSto_impl _ n _ f hb hn _ hs).mono ?_
    rintro e1 w1 ⟨rfl, hn1⟩
    have ho1 := hn1.objs
    have hz1 := hn1.le
    try simp at hz1
    go_wp2_with (fail)
    go_ret2
    exact ⟨rfl, hn1⟩
  · rw [if_pos rfl]
    have hl := okSto_len hok
    go_enter Try.func45, Try.ntmps45
    go_wp2_with (fail)
    refine (validSto_impl _ n _ f hb hn _ hs).mono ?_
    rintro e2 w2 ⟨rfl, hn2⟩
    have ho2 := hn2.objs
    have hz2 := hn2.le
    try simp at hz2
    have hs2 := hs.new hn2
    go_wp2_with (fail)
    refine (area_any _ n _ f hb (by omega) (by omega) _ hs2).mono ?_
    rintro e3 w3 ⟨rfl, hn3⟩
    have ho3 := hn3.objs
    have hz3 := hn3.le
    try simp at hz3
    go_wp2_with (fail)
    go_ret2
    exact ⟨rfl, hn2.trans hn3⟩
end Go.Proofs.Ytedbagefigclgaa
