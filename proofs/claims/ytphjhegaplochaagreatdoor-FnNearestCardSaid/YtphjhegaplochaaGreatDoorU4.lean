/- Palettes: copied, held against each other, looked up; no condition. -/
import Derived.Test.YtphjhegaplochaaGreatDoorU2
import Derived.Test.YtphjhegaplochaaGreatDoorU3
set_option linter.unusedVariables false
namespace Go.Proofs.YtphjhegaplochaaGreatDoor
open Go.BigFrame
open Go.RowKit Go.Arr
theorem elPal {W : World} {a : Option Addr} {n c j : Nat} {f : Nat → Int} (h : Sl W (.slice a n c) n 3 .u8 f) (hj : j < n) : ∃ g off cur t fr, a = some ⟨g, off, none⟩ ∧ obj W g = some (.cells cur t fr) ∧ cur.extract (off + j * 3) (off + j * 3 + 3) = #[.int .u8 (f (j * 3)), .int .u8 (f (j * 3 + 1)), .int .u8 (f (j * 3 + 2))] ∧ off + j * 3 + 3 ≤ cur.size := by
  obtain ⟨g, off, cur, t, fr, rfl, ho, hc⟩ := h.at (by omega)
  refine ⟨g, off, cur, t, fr, rfl, ho, ext3 (hc (j * 3) (by omega)) (hc (j * 3 + 1) (by omega)) (hc (j * 3 + 2) (by omega)) rfl, ?_⟩
  have h2 := hc (j * 3 + 2) (by omega)
  obtain ⟨l, _⟩ := Array.getElem?_eq_some_iff.1 h2
  omega
def Pal (W : World) (g n : Nat) (f : Nat → Int) : Prop := obj W g = some (.cells (arr (n * 3) .u8 f) 26)
theorem Pal.new {W W' : World} {g n : Nat} {f : Nat → Int} (h : Pal W g n f) (hn : New W W') : Pal W' g n f := (hn.objs _ (obj_lt h)).trans h
theorem Pal.sl {W : World} {g n c : Nat} {f : Nat → Int} (h : Pal W g n f) : Sl W (.slice (some ⟨g, 0, none⟩) n c) n 3 .u8 f := Sl.arr h rfl
def alikePal (f g : Nat → Int) (i j : Nat) : Bool := eq3 (f (i * 3)) (f (i * 3 + 1)) (f (i * 3 + 2)) (g (j * 3)) (g (j * 3 + 1)) (g (j * 3 + 2))
def samePal (n m : Nat) (f g : Nat → Int) : Bool := n == m && (List.range n).all fun i => alikePal f g i i
theorem samePal_t {n : Nat} {f g : Nat → Int} (h : ∀ j, j < n → alikePal f g j j = true) : samePal n n f g = true := by
  unfold samePal
  rw [Bool.and_eq_true]
  exact ⟨by simp, List.all_eq_true.2 fun i hi => h i (by simpa using hi)⟩
theorem samePal_f {n i : Nat} {f g : Nat → Int} (hi : i < n) (h : alikePal f g i i = false) : samePal n n f g = false := by
  unfold samePal
  rw [Bool.and_eq_false_iff]
  exact Or.inr (List.all_eq_false.2 ⟨i, by simpa using hi, by simp [h]⟩)
set_option maxHeartbeats 1000000 in
set_option maxRecDepth 100000 in
theorem samePal_ref (a1 a2 : Option Addr) (n m c1 c2 : Nat) (f g : Nat → Int) (hn : n ≤ 1048576) (hm : m ≤ 1048576) (W : World) (h1 : Sl W (.slice a1 n c1) n 3 .u8 f) (h2 : Sl W (.slice a2 m c2) m 3 .u8 g) :
    Calls Tryz.prog 59 #[.slice a1 n c1, .slice a2 m c2] W fun e w' => e = .returned (.bool (samePal n m f g)) ∧ New W w' := by
  by_cases hne : n = m
  rotate_left
  · have hb : ((n : Int) != (m : Int)) = true := by simp; omega
    have hs : samePal n m f g = false := by unfold samePal; rw [Bool.and_eq_false_iff]; exact Or.inl (by simpa using hne)
    go_enter Tryz.func59, Tryz.ntmps59
    go_wp2_with (fail)
    go_ret
    exact ⟨ret_b hs.symm, New.refl W⟩
  subst hne
  have hb : ((n : Int) != (n : Int)) = false := by simp
  go_enter Tryz.func59, Tryz.ntmps59
  go_wp2_with (fail)
  go_loopw [5] (fun i wr => ∃ k : Nat, k ≤ n ∧ i = .int .i64 k ∧ Hid (∀ j, j < k → alikePal f g j j = true) ∧ New W wr) (fun i _ => n - (intOf i).toNat)
  case atStart => exact ⟨0, by omega, rfl, fun j hj => absurd hj (by omega), New.refl W⟩
  case round =>
    obtain ⟨k, hk, rfl, hal, hnw⟩ := hrel
    by_cases hlt : k < n
    · obtain ⟨g1, off1, cur1, t1, fr1, rfl, o1, x1, l1⟩ := elPal h1 hlt
      obtain ⟨g2, off2, cur2, t2, fr2, rfl, o2, x2, l2⟩ := elPal h2 hlt
      have p1 := (hnw.objs _ (obj_lt o1)).trans o1
      have p2 := (hnw.objs _ (obj_lt o2)).trans o2
      clear o1 o2 h1 h2
      cases hr : eq3 (f (k * 3)) (f (k * 3 + 1)) (f (k * 3 + 2)) (g (k * 3)) (g (k * 3 + 1)) (g (k * 3 + 2))
      · have hf : Hid (samePal n n f g = false) := samePal_f hlt hr
        go_wp2_with (fail)
        go_quiet (fail)
        go_wp2_with (fail)
        go_ret
        exact ⟨ret_b hf.out.symm, hnw.drewN _⟩
      · have ht : Hid (∀ j, j < k + 1 → alikePal f g j j = true) := by
          intro j hj
          by_cases e : j = k
          · subst e; exact hr
          · exact hal.out j (by omega)
        go_wp2_with (fail)
        go_quiet (fail)
        go_wp2_with (fail)
        go_roundw
        case rel => exact ⟨k + 1, by omega, by go_num, ht, hnw.drewN _⟩
        case measure => simp [intOf]; omega
    · obtain rfl : k = n := by omega
      go_wp2_with (fail)
      go_ret
      exact ⟨ret_b (samePal_t hal.out).symm, hnw⟩
set_option maxHeartbeats 1000000 in
set_option maxRecDepth 100000 in
theorem samePal_lib (a1 a2 : Option Addr) (n m c1 c2 : Nat) (f g : Nat → Int) (hn : n ≤ 1048576) (hm : m ≤ 1048576) (W : World) (h1 : Sl W (.slice a1 n c1) n 3 .u8 f) (h2 : Sl W (.slice a2 m c2) m 3 .u8 g) :
    Calls Tryz.prog 58 #[.slice a1 n c1, .slice a2 m c2] W fun e w' => e = .returned (.bool (samePal n m f g)) ∧ New W w' := by
  by_cases hne : n = m
  rotate_left
  · have hb : ((n : Int) != (m : Int)) = true := by simp; omega
    have hs : samePal n m f g = false := by unfold samePal; rw [Bool.and_eq_false_iff]; exact Or.inl (by simpa using hne)
    go_enter Tryz.func58, Tryz.ntmps58
    go_wp2_with (fail)
    go_ret
    exact ⟨ret_b hs.symm, New.refl W⟩
  subst hne
  have hb : ((n : Int) != (n : Int)) = false := by simp
  go_enter Tryz.func58, Tryz.ntmps58
  go_wp2_with (fail)
  go_loopw [13] (fun i wr => ∃ k : Nat, k ≤ n ∧ i = .int .i64 k ∧ Hid (∀ j, j < k → alikePal f g j j = true) ∧ New W wr) (fun i _ => n - (intOf i).toNat)
  case atStart => exact ⟨0, by omega, rfl, fun j hj => absurd hj (by omega), New.refl W⟩
  case round =>
    obtain ⟨k, hk, rfl, hal, hnw⟩ := hrel
    by_cases hlt : k < n
    · obtain ⟨g1, off1, cur1, t1, fr1, rfl, o1, x1, l1⟩ := elPal h1 hlt
      obtain ⟨g2, off2, cur2, t2, fr2, rfl, o2, x2, l2⟩ := elPal h2 hlt
      have p1 := (hnw.objs _ (obj_lt o1)).trans o1
      have p2 := (hnw.objs _ (obj_lt o2)).trans o2
      clear o1 o2 h1 h2
      cases hr : eq3 (f (k * 3)) (f (k * 3 + 1)) (f (k * 3 + 2)) (g (k * 3)) (g (k * 3 + 1)) (g (k * 3 + 2))
      · have hf : Hid (samePal n n f g = false) := samePal_f hlt hr
        go_wp2_with (fail)
        go_quiet (fail)
        go_wp2_with (fail)
        go_ret
        exact ⟨ret_b hf.out.symm, hnw.drewN _⟩
      · have ht : Hid (∀ j, j < k + 1 → alikePal f g j j = true) := by
          intro j hj
          by_cases e : j = k
          · subst e; exact hr
          · exact hal.out j (by omega)
        go_wp2_with (fail)
        go_quiet (fail)
        go_wp2_with (fail)
        go_roundw
        case rel => exact ⟨k + 1, by omega, by go_num, ht, hnw.drewN _⟩
        case measure => simp [intOf]; omega
    · obtain rfl : k = n := by omega
      go_wp2_with (fail)
      go_ret
      exact ⟨ret_b (samePal_t hal.out).symm, hnw⟩
set_option maxHeartbeats 400000 in
theorem samePal_spec (a1 a2 : Option Addr) (n m c1 c2 : Nat) (f g : Nat → Int) (hn : n ≤ 1048576) (hm : m ≤ 1048576) (W : World) (h1 : Sl W (.slice a1 n c1) n 3 .u8 f) (h2 : Sl W (.slice a2 m c2) m 3 .u8 g) :
    Calls Tryz.prog 16 #[.slice a1 n c1, .slice a2 m c2] W fun e w' => e = .returned (.bool (samePal n m f g)) ∧ New W w' := by
  go_enter Tryz.func16, Tryz.ntmps16
  go_wp2_with (fail)
  refine (samePal_ref a1 a2 n m c1 c2 f g hn hm _ h1 h2).mono ?_
  rintro e w1 ⟨rfl, hn1⟩
  go_wp2_with (fail)
  go_ret
  exact ⟨rfl, hn1⟩
set_option maxHeartbeats 400000 in
theorem samePal_impl (a1 a2 : Option Addr) (n m c1 c2 : Nat) (f g : Nat → Int) (hn : n ≤ 1048576) (hm : m ≤ 1048576) (W : World) (h1 : Sl W (.slice a1 n c1) n 3 .u8 f) (h2 : Sl W (.slice a2 m c2) m 3 .u8 g) :
    Calls Tryz.prog 15 #[.slice a1 n c1, .slice a2 m c2] W fun e w' => e = .returned (.bool (samePal n m f g)) ∧ New W w' := by
  go_enter Tryz.func15, Tryz.ntmps15
  go_wp2_with (fail)
  refine (samePal_lib a1 a2 n m c1 c2 f g hn hm _ h1 h2).mono ?_
  rintro e w1 ⟨rfl, hn1⟩
  go_wp2_with (fail)
  go_ret
  exact ⟨rfl, hn1⟩
end Go.Proofs.YtphjhegaplochaaGreatDoor
/- Which palettes are valid: the reference and the program answer alike; no condition. -/
set_option linter.unusedVariables false
namespace Go.Proofs.YtphjhegaplochaaGreatDoor
open Go.BigFrame
open Go.RowKit Go.Arr
theorem elsPal {W : World} {a : Option Addr} {n c : Nat} {f : Nat → Int} (h : Sl W (.slice a n c) n 3 .u8 f) (hn : 0 < n) : ∃ g off cur t fr, a = some ⟨g, off, none⟩ ∧ obj W g = some (.cells cur t fr) ∧ ∀ j, j < n → cur.extract (off + j * 3) (off + j * 3 + 3) = #[.int .u8 (f (j * 3)), .int .u8 (f (j * 3 + 1)), .int .u8 (f (j * 3 + 2))] ∧ off + j * 3 + 3 ≤ cur.size := by
  obtain ⟨g, off, cur, t, fr, rfl, ho, hc⟩ := h.at hn
  refine ⟨g, off, cur, t, fr, rfl, ho, fun j hj => ⟨ext3 (hc (j * 3) (by omega)) (hc (j * 3 + 1) (by omega)) (hc (j * 3 + 2) (by omega)) rfl, ?_⟩⟩
  obtain ⟨l, _⟩ := Array.getElem?_eq_some_iff.1 (hc (j * 3 + 2) (by omega))
  omega
theorem slPal_take {W : World} {a : Option Addr} {n k c c' : Nat} {f : Nat → Int} (h : Sl W (.slice a n c) n 3 .u8 f) (hk : k ≤ n) : Sl W (.slice a k c') k 3 .u8 f :=
  ⟨a, c', rfl, fun hp => by
    obtain ⟨g, off, cur, t, fr, rfl, ho, hc⟩ := h.at (by omega)
    exact ⟨g, off, cur, t, fr, rfl, ho, fun i hi => hc i (by omega)⟩⟩
/-- element k is unlike all before it -/
def firstAt (f : Nat → Int) (k : Nat) : Bool := (List.range k).all fun j => !alikePal f f k j
def okPal (n : Nat) (f : Nat → Int) : Bool := (List.range n).all (firstAt f) && inB n 1 15
theorem firstAt_t {f : Nat → Int} {k : Nat} (h : ∀ j, j < k → alikePal f f k j = false) : firstAt f k = true := by
  unfold firstAt
  rw [List.all_eq_true]
  intro j hj
  simp [h j (by simpa using hj)]
theorem firstAt_f {f : Nat → Int} {k j : Nat} (hj : j < k) (h : alikePal f f k j = true) : firstAt f k = false := by
  unfold firstAt
  rw [List.all_eq_false]
  exact ⟨j, by simpa using hj, by simp [h]⟩
theorem okPal_t {n : Nat} {f : Nat → Int} (h : ∀ j, j < n → firstAt f j = true) : okPal n f = inB n 1 15 := by
  unfold okPal
  rw [List.all_eq_true.2 fun i hi => h i (by simpa using hi), Bool.true_and]
theorem okPal_f {n i : Nat} {f : Nat → Int} (hi : i < n) (h : firstAt f i = false) : okPal n f = false := by
  unfold okPal
  rw [List.all_eq_false.2 ⟨i, by simpa using hi, by simp [h]⟩, Bool.false_and]
theorem all_succ {p : Nat → Bool} {k : Nat} (h : ∀ j, j < k → p j = true) (hk : p k = true) : ∀ j, j < k + 1 → p j = true := by
  intro j hj
  rcases Nat.lt_succ_iff_lt_or_eq.1 hj with h1 | rfl
  · exact h j h1
  · exact hk
theorem all_succ_f {p : Nat → Bool} {k : Nat} (h : ∀ j, j < k → p j = false) (hk : p k = false) : ∀ j, j < k + 1 → p j = false := by
  intro j hj
  rcases Nat.lt_succ_iff_lt_or_eq.1 hj with h1 | rfl
  · exact h j h1
  · exact hk
set_option maxHeartbeats 2000000 in
set_option maxRecDepth 100000 in
theorem l02Palette_any (a : Option Addr) (n c : Nat) (f : Nat → Int) (hn : n ≤ 1048576) (W : World) (hs : Sl W (.slice a n c) n 3 .u8 f) :
    Calls Tryz.prog 83 #[.slice a n c] W fun e w' => e = .returned (.bool (okPal n f)) ∧ New W w' := by
  go_enter Tryz.func83, Tryz.ntmps83
  go_wp2_with (fail)
  go_loopw [3] (fun i wr => ∃ k : Nat, k ≤ n ∧ i = .int .i64 k ∧ Hid (∀ j, j < k → firstAt f j = true) ∧ New W wr) (fun i _ => n - (intOf i).toNat)
  case atStart => exact ⟨0, by omega, rfl, fun j hj => absurd hj (by omega), New.refl W⟩
  case round =>
    obtain ⟨k, hk, rfl, hal, hnw⟩ := hrel
    by_cases hlt : k < n
    · obtain ⟨g, off, cur, t, fr, rfl, o1, hx⟩ := elsPal hs (by omega)
      have p1 := (hnw.objs _ (obj_lt o1)).trans o1
      have x1 := (hx k hlt).1
      have l1 := (hx k hlt).2
      have hx' := hide hx
      clear o1 hx
      go_wp2_with (fail)
      go_loopw [4] (fun q wq => ∃ j : Nat, j ≤ k ∧ q = .int .i64 j ∧ Hid (∀ i, i < j → alikePal f f k i = false) ∧ New wr wq) (fun q _ => k - (intOf q).toNat)
      case atStart => exact ⟨0, by omega, rfl, fun j hj => absurd hj (by omega), New.refl wr⟩
      case round =>
        obtain ⟨j, hj, rfl, hun, hnq⟩ := hrel
        by_cases hjk : j < k
        · have x2 := (hx'.out j (by omega)).1
          have l2 := (hx'.out j (by omega)).2
          have p2 := (hnq.objs _ (obj_lt p1)).trans p1
          clear p1
          cases he : eq3 (f (k * 3)) (f (k * 3 + 1)) (f (k * 3 + 2)) (f (j * 3)) (f (j * 3 + 1)) (f (j * 3 + 2))
          · have hun' := hide (all_succ_f (p := alikePal f f k) hun.out he)
            go_wp2_with (fail)
            go_quiet (fail)
            go_wp2_with (fail)
            go_roundw
            case rel => exact ⟨j + 1, by omega, by go_num, hun', hnq.drewN _⟩
            case measure => simp [intOf]; omega
          · have hf : Hid (okPal n f = false) := okPal_f hlt (firstAt_f hjk he)
            go_wp2_with (fail)
            go_quiet (fail)
            go_wp2_with (fail)
            go_ret
            exact ⟨ret_b hf.out.symm, (hnw.trans hnq).drewN _⟩
        · obtain rfl : j = k := by omega
          have hal' := hide (all_succ (p := firstAt f) hal.out (firstAt_t hun.out))
          clear hal
          go_wp2_with (fail)
          go_roundw
          case rel => exact ⟨j + 1, by omega, by go_num, hal', hnw.trans hnq⟩
          case measure => simp [intOf]; omega
    · obtain rfl : k = n := by omega
      go_wp2_with (fail)
      refine (l00In_any _ _ _ _).mono ?_
      rintro e w' ⟨rfl, rfl⟩
      go_wp2_with (fail)
      go_ret
      exact ⟨ret_b (okPal_t hal.out).symm, hnw⟩
set_option maxHeartbeats 400000 in
theorem validPal_spec (a : Option Addr) (n c : Nat) (f : Nat → Int) (hn : n ≤ 1048576) (W : World) (hs : Sl W (.slice a n c) n 3 .u8 f) :
    Calls Tryz.prog 75 #[.slice a n c] W fun e w' => e = .returned (.bool (okPal n f)) ∧ New W w' := by
  by_cases h : n ≤ 15
  · go_enter Tryz.func75, Tryz.ntmps75
    go_wp2_with (fail)
    refine (l02Palette_any a n c f hn _ hs).mono ?_
    rintro e w1 ⟨rfl, hn1⟩
    go_wp2_with (fail)
    go_ret
    exact ⟨rfl, hn1⟩
  · have hf : Hid (okPal n f = false) := by
      show _ = _
      unfold okPal
      rw [show inB n 1 15 = false from inB_f.2 (by omega), Bool.and_false]
    go_enter Tryz.func75, Tryz.ntmps75
    go_wp2_with (fail)
    go_ret
    exact ⟨ret_b hf.out.symm, New.refl _⟩
/-- where a tone first stands -/
def idxOk (n : Nat) (f : Nat → Int) (x0 x1 x2 r : Int) : Prop :=
  (r = -1 ∧ ∀ j, j < n → eq3 x0 x1 x2 (f (j * 3)) (f (j * 3 + 1)) (f (j * 3 + 2)) = false) ∨ ∃ i : Nat, i < n ∧ r = i ∧ eq3 x0 x1 x2 (f (i * 3)) (f (i * 3 + 1)) (f (i * 3 + 2)) = true ∧ ∀ j, j < i → eq3 x0 x1 x2 (f (j * 3)) (f (j * 3 + 1)) (f (j * 3 + 2)) = false
def hasPal (n : Nat) (f : Nat → Int) (x0 x1 x2 : Int) : Bool := (List.range n).any fun j => eq3 x0 x1 x2 (f (j * 3)) (f (j * 3 + 1)) (f (j * 3 + 2))
set_option maxHeartbeats 2000000 in
set_option maxRecDepth 100000 in
theorem indexPal_any (a : Option Addr) (n c : Nat) (f : Nat → Int) (x0 x1 x2 : Int) (hn : n ≤ 1048576) (W : World) (hs : Sl W (.slice a n c) n 3 .u8 f) :
    Calls Tryz.prog 74 #[.slice a n c, .agg #[.int .u8 x0, .int .u8 x1, .int .u8 x2]] W fun e w' => ∃ r : Int, e = .returned (.int .i64 r) ∧ idxOk n f x0 x1 x2 r ∧ New W w' := by
  go_enter Tryz.func74, Tryz.ntmps74
  go_wp2_with (fail)
  go_loopw [8] (fun i wr => ∃ k : Nat, k ≤ n ∧ i = .int .i64 k ∧ Hid (∀ j, j < k → eq3 x0 x1 x2 (f (j * 3)) (f (j * 3 + 1)) (f (j * 3 + 2)) = false) ∧ Hid (obj wr W.heap.size = some (.cells #[.int .u8 x0, .int .u8 x1, .int .u8 x2] 26)) ∧ New W wr) (fun i _ => n - (intOf i).toNat)
  case atStart => exact ⟨0, by omega, rfl, fun j hj => absurd hj (by omega), by show _ = _; go_simp, (New.refl W).alloc _⟩
  case round =>
    obtain ⟨k, hk, rfl, hun, hb1, hnw⟩ := hrel
    have hb := hb1.out
    by_cases hlt : k < n
    · obtain ⟨g, off, cur, t, fr, rfl, o1, hx⟩ := elsPal hs (by omega)
      have p1 := (hnw.objs _ (obj_lt o1)).trans o1
      have hx1 := (hx k hlt).1
      have l1 := (hx k hlt).2
      clear o1 hx
      cases he : eq3 x0 x1 x2 (f (k * 3)) (f (k * 3 + 1)) (f (k * 3 + 2))
      · have hun' := hide (all_succ_f (p := fun j => eq3 x0 x1 x2 (f (j * 3)) (f (j * 3 + 1)) (f (j * 3 + 2))) hun.out he)
        go_wp2_with (fail)
        go_quiet (fail)
        go_wp2_with (fail)
        go_roundw
        case rel => exact ⟨k + 1, by omega, by go_num, hun', hb, hnw.drewN _⟩
        case measure => simp [intOf]; omega
      · go_wp2_with (fail)
        go_quiet (fail)
        go_wp2_with (fail)
        go_ret
        exact ⟨_, rfl, Or.inr ⟨k, hlt, rfl, he, hun.out⟩, hnw.drewN _⟩
    · obtain rfl : k = n := by omega
      go_wp2_with (fail)
      go_ret
      exact ⟨_, rfl, Or.inl ⟨rfl, hun.out⟩, hnw⟩
set_option maxHeartbeats 400000 in
theorem containsPal_any (a : Option Addr) (n c : Nat) (f : Nat → Int) (x0 x1 x2 : Int) (hn : n ≤ 1048576) (W : World) (hs : Sl W (.slice a n c) n 3 .u8 f) :
    Calls Tryz.prog 60 #[.slice a n c, .agg #[.int .u8 x0, .int .u8 x1, .int .u8 x2]] W fun e w' => e = .returned (.bool (hasPal n f x0 x1 x2)) ∧ New W w' := by
  go_enter Tryz.func60, Tryz.ntmps60
  go_wp2_with (fail)
  refine (indexPal_any a n c f x0 x1 x2 hn _ (hs.new ((New.refl W).alloc _))).mono ?_
  rintro e w1 ⟨r, rfl, hr, hn1⟩
  have hn2 := ((New.refl W).alloc _).trans hn1
  rcases hr with ⟨rfl, hall⟩ | ⟨i, hi, rfl, hit, _⟩
  · have hf : hasPal n f x0 x1 x2 = false := by
      unfold hasPal
      rw [List.any_eq_false]
      intro j hj
      simp [hall j (by simpa using hj)]
    go_wp2_with (fail)
    go_ret
    exact ⟨ret_b hf.symm, hn2⟩
  · have hf : hasPal n f x0 x1 x2 = true := by
      unfold hasPal
      rw [List.any_eq_true]
      exact ⟨i, by simpa using hi, hit⟩
    go_wp2_with (fail)
    go_ret
    exact ⟨ret_b hf.symm, hn2⟩
theorem has_firstAt (f : Nat → Int) (k : Nat) : hasPal k f (f (k * 3)) (f (k * 3 + 1)) (f (k * 3 + 2)) = !firstAt f k := by
  unfold hasPal firstAt alikePal
  rw [List.not_all_eq_any_not]
  simp
set_option maxHeartbeats 2000000 in
set_option maxRecDepth 100000 in
theorem validPal_impl (a : Option Addr) (n c : Nat) (f : Nat → Int) (hn : n ≤ 1048576) (hc : n ≤ c) (W : World) (hs : Sl W (.slice a n c) n 3 .u8 f) :
    Calls Tryz.prog 17 #[.slice a n c] W fun e w' => e = .returned (.bool (okPal n f)) ∧ New W w' := by
  go_enter Tryz.func17, Tryz.ntmps17
  go_wp2_with (fail)
  go_loopw [7] (fun i wr => ∃ k : Nat, k ≤ n ∧ i = .int .i64 k ∧ Hid (∀ j, j < k → firstAt f j = true) ∧ New W wr) (fun i _ => n - (intOf i).toNat)
  case atStart => exact ⟨0, by omega, rfl, fun j hj => absurd hj (by omega), New.refl W⟩
  case round =>
    obtain ⟨k, hk, rfl, hal, hnw⟩ := hrel
    by_cases hlt : k < n
    · obtain ⟨g, off, cur, t, fr, rfl, o1, hx⟩ := elsPal hs (by omega)
      have p1 := (hnw.objs _ (obj_lt o1)).trans o1
      have x1 := (hx k hlt).1
      have l1 := (hx k hlt).2
      have q1 := obj_lt p1
      clear o1 hx
      have hkc : k ≤ c := by omega
      have q2 : ∀ o : Obj, wr.heap.size < (wr.alloc o).heap.size := fun o => by simp
      cases hfa : firstAt f k
      · have hb : hasPal k f (f (k * 3)) (f (k * 3 + 1)) (f (k * 3 + 2)) = true := by rw [has_firstAt, hfa]; rfl
        have hf : Hid (okPal n f = false) := okPal_f hlt hfa
        go_wp2_with (fail)
        refine wp_region_new (by kernel_rfl) (by kernel_rfl) ?_
        repeat (go_big_quiet_step (first | fail | (go_at_call 60; with_reducible exact calls_new (containsPal_any _ k c f _ _ _ (by omega) _ (slPal_take (hs.new ((hnw.alloc _).trans (NewW.is _))) hk)))))
        refine wpQuiet_nil ?_
        intro w1 hc1
        have hn1 := NewW.of hc1
        clear hc1
        have ho1 := hn1.objs
        have hz1 := hn1.le
        try simp at hz1
        rw [hb]
        go_wp2_with (fail)
        go_ret
        exact ⟨ret_b hf.out.symm, (hnw.alloc _).trans hn1⟩
      · have hb : hasPal k f (f (k * 3)) (f (k * 3 + 1)) (f (k * 3 + 2)) = false := by rw [has_firstAt, hfa]; rfl
        have hal' := hide (all_succ (p := firstAt f) hal.out hfa)
        go_wp2_with (fail)
        refine wp_region_new (by kernel_rfl) (by kernel_rfl) ?_
        repeat (go_big_quiet_step (first | fail | (go_at_call 60; with_reducible exact calls_new (containsPal_any _ k c f _ _ _ (by omega) _ (slPal_take (hs.new ((hnw.alloc _).trans (NewW.is _))) hk)))))
        refine wpQuiet_nil ?_
        intro w2 hc2
        have hn2 := NewW.of hc2
        clear hc2
        have ho2 := hn2.objs
        have hz2 := hn2.le
        try simp at hz2
        rw [hb]
        go_wp2_with (fail)
        go_roundw
        case rel => exact ⟨k + 1, by omega, by go_num, hal', (hnw.alloc _).trans hn2⟩
        case measure => simp [intOf]; omega
    · obtain rfl : k = n := by omega
      go_wp2_with (fail)
      refine (within_any _ _ _ _).mono ?_
      rintro e w' ⟨rfl, rfl⟩
      go_wp2_with (fail)
      go_ret
      exact ⟨ret_b (okPal_t hal.out).symm, hnw⟩
end Go.Proofs.YtphjhegaplochaaGreatDoor
/- The nearest tone of a palette: the reference and the program answer alike; no condition. -/
set_option linter.unusedVariables false
namespace Go.Proofs.YtphjhegaplochaaGreatDoor
open Go.BigFrame
open Go.RowKit Go.Arr
def farE (f : Nat → Int) (x y z : Int) (k : Nat) : Int := far (f (k * 3)) (f (k * 3 + 1)) (f (k * 3 + 2)) x y z
def nearK (f : Nat → Int) (x y z : Int) : Nat → Nat × Int
  | 0 => (0, farE f x y z 0)
  | k + 1 => if farE f x y z k < (nearK f x y z k).2 then (k, farE f x y z k) else nearK f x y z k
theorem nearK_le (f : Nat → Int) (x y z : Int) (k : Nat) : (nearK f x y z k).1 ≤ k := by
  induction k with
  | zero => simp [nearK]
  | succ k ih => unfold nearK; split <;> (try dsimp only) <;> omega
theorem nearK_one (f : Nat → Int) (x y z : Int) : nearK f x y z 1 = (0, farE f x y z 0) := by
  simp [nearK]
theorem nearK_t {f : Nat → Int} {x y z : Int} {k at_ : Nat} {le : Int} (h : nearK f x y z k = (at_, le)) (hl : farE f x y z k < le) : nearK f x y z (k + 1) = (k, farE f x y z k) := by
  unfold nearK; rw [h]; exact if_pos hl
theorem nearK_f {f : Nat → Int} {x y z : Int} {k at_ : Nat} {le : Int} (h : nearK f x y z k = (at_, le)) (hl : ¬ farE f x y z k < le) : nearK f x y z (k + 1) = (at_, le) := by
  unfold nearK; rw [h]; exact if_neg hl
set_option maxHeartbeats 2000000 in
set_option maxRecDepth 100000 in
theorem l02Nearest_any (a : Option Addr) (n c : Nat) (f : Nat → Int) (x y z : Int) (hx : 0 ≤ x ∧ x ≤ 255) (hy : 0 ≤ y ∧ y ≤ 255) (hz : 0 ≤ z ∧ z ≤ 255) (hf : ∀ i, 0 ≤ f i ∧ f i ≤ 255) (hn : n ≤ 1048576) (hp : 0 < n) (W : World) (hs : Sl W (.slice a n c) n 3 .u8 f) :
    Calls Tryz.prog 55 #[.slice a n c, .agg #[.int .u8 x, .int .u8 y, .int .u8 z]] W fun e w' => e = .returned (.tuple #[.int .i64 ((nearK f x y z n).1 + 1), .int .i64 (nearK f x y z n).2]) ∧ New W w' := by
  obtain ⟨g, off, cur, t, fr, rfl, o1, hel⟩ := elsPal hs hp
  have e0 := (hel 0 hp).1
  have l0 := (hel 0 hp).2
  simp only [Nat.zero_mul, Nat.add_zero, Nat.zero_add] at e0 l0
  have q1 := obj_lt o1
  have q2 : ∀ o : Obj, g < (W.alloc o).heap.size := fun o => by simp; omega
  have q3 : ∀ o : Obj, W.heap.size < (W.alloc o).heap.size := fun o => by simp
  have hel' := hide hel
  clear hel
  go_enter Tryz.func55, Tryz.ntmps55
  go_wp2_with (fail)
  refine wp_region_new (by kernel_rfl) (by kernel_rfl) ?_
  repeat (go_big_quiet_step (first | fail | (go_at_call 49; with_reducible exact calls_new (far_spec0 _ _ _ (hf _) (hf _) (hf _) _ _ _ hx hy hz _))))
  refine wpQuiet_nil ?_
  intro w1 hc1
  have hn1 := NewW.of hc1
  clear hc1
  have ho1 := hn1.objs
  have hz1 := hn1.le
  try simp at hz1
  go_wp2_with (fail)
  have hn1' := ((New.refl W).alloc _).trans hn1
  have hbx : obj w1 W.heap.size = some (.cells #[.int .u8 x, .int .u8 y, .int .u8 z] 26) := (hn1.objs _ (by simp)).trans (by go_simp)
  have hzz : W.heap.size < w1.heap.size := by omega
  clear e0 l0 q2 q3 hn1 ho1
  go_loopw [8, 6, 7] (fun i p q wr => ∃ (k at_ : Nat) (le : Int), 1 ≤ k ∧ k ≤ n ∧ i = .int .i64 k ∧ p = .int .i64 at_ ∧ q = .int .i64 le ∧ at_ ≤ k ∧ Hid (nearK f x y z k = (at_, le)) ∧ Hid (obj wr W.heap.size = some (.cells #[.int .u8 x, .int .u8 y, .int .u8 z] 26)) ∧ W.heap.size < wr.heap.size ∧ New W wr) (fun i _ _ _ => n - (intOf i).toNat)
  case atStart => exact ⟨1, 0, _, by omega, by omega, rfl, rfl, rfl, by omega, nearK_one f x y z, hbx, hzz, hn1'⟩
  case round =>
    obtain ⟨k, at_, le, h1k, hk, rfl, rfl, rfl, hak, hne, hb1, hlw, hnw⟩ := hrel
    have hb := hb1.out
    by_cases hlt : k < n
    · have p1 := (hnw.objs _ q1).trans o1
      have ex := (hel'.out k hlt).1
      have el := (hel'.out k hlt).2
      have q4 := obj_lt p1
      clear hbx hzz hn1'
      by_cases hl : farE f x y z k < le
      · have hne' := hide (nearK_t hne.out hl)
        have hl' : far (f (k * 3)) (f (k * 3 + 1)) (f (k * 3 + 2)) x y z < le := hl
        clear hl
        go_wp2_with (fail)
        refine wp_region_new (by kernel_rfl) (by kernel_rfl) ?_
        repeat (go_big_quiet_step (first | fail | (go_at_call 49; with_reducible exact calls_new (far_spec0 _ _ _ (hf _) (hf _) (hf _) _ _ _ hx hy hz _))))
        refine wpQuiet_nil ?_
        intro w2 hc2
        have hn2 := NewW.of hc2
        clear hc2
        have ho2 := hn2.objs
        have hz2 := hn2.le
        try simp at hz2
        go_wp2_with (fail)
        go_roundw
        case rel => exact ⟨k + 1, k, _, by omega, by omega, by go_num, rfl, rfl, by omega, hne', (ho2 _ hlw).trans hb, by omega, hnw.trans hn2⟩
        case measure => simp [intOf]; omega
      · have hne' := hide (nearK_f hne.out hl)
        have hl' : ¬ far (f (k * 3)) (f (k * 3 + 1)) (f (k * 3 + 2)) x y z < le := hl
        clear hl
        go_wp2_with (fail)
        refine wp_region_new (by kernel_rfl) (by kernel_rfl) ?_
        repeat (go_big_quiet_step (first | fail | (go_at_call 49; with_reducible exact calls_new (far_spec0 _ _ _ (hf _) (hf _) (hf _) _ _ _ hx hy hz _))))
        refine wpQuiet_nil ?_
        intro w3 hc3
        have hn3 := NewW.of hc3
        clear hc3
        have ho3 := hn3.objs
        have hz3 := hn3.le
        try simp at hz3
        go_wp2_with (fail)
        go_roundw
        case rel => exact ⟨k + 1, at_, le, by omega, by omega, by go_num, rfl, rfl, by omega, hne', (ho3 _ hlw).trans hb, by omega, hnw.trans hn3⟩
        case measure => simp [intOf]; omega
    · obtain rfl : k = n := by omega
      go_wp2_with (fail)
      go_ret2
      exact ⟨by rw [hne.out]; rfl, hnw⟩
set_option maxHeartbeats 2000000 in
set_option maxRecDepth 100000 in
theorem nearest_any (a : Option Addr) (n c : Nat) (f : Nat → Int) (x y z : Int) (hx : 0 ≤ x ∧ x ≤ 255) (hy : 0 ≤ y ∧ y ≤ 255) (hz : 0 ≤ z ∧ z ≤ 255) (hf : ∀ i, 0 ≤ f i ∧ f i ≤ 255) (hn : n ≤ 1048576) (hp : 0 < n) (W : World) (hs : Sl W (.slice a n c) n 3 .u8 f) :
    Calls Tryz.prog 43 #[.slice a n c, .agg #[.int .u8 x, .int .u8 y, .int .u8 z]] W fun e w' => e = .returned (.tuple #[.int .i64 (nearK f x y z n).1, .int .i64 (nearK f x y z n).2]) ∧ New W w' := by
  obtain ⟨g, off, cur, t, fr, rfl, o1, hel⟩ := elsPal hs hp
  have e0 := (hel 0 hp).1
  have l0 := (hel 0 hp).2
  simp only [Nat.zero_mul, Nat.add_zero, Nat.zero_add] at e0 l0
  have q1 := obj_lt o1
  have q2 : ∀ o : Obj, g < (W.alloc o).heap.size := fun o => by simp; omega
  have q3 : ∀ o : Obj, W.heap.size < (W.alloc o).heap.size := fun o => by simp
  have hel' := hide hel
  clear hel
  go_enter Tryz.func43, Tryz.ntmps43
  go_wp2_with (fail)
  refine wp_region_new (by kernel_rfl) (by kernel_rfl) ?_
  repeat (go_big_quiet_step (first | fail | (go_at_call 22; with_reducible exact calls_new (far_impl _ _ _ (hf _) (hf _) (hf _) _ _ _ hx hy hz _))))
  refine wpQuiet_nil ?_
  intro w1 hc1
  have hn1 := NewW.of hc1
  clear hc1
  have ho1 := hn1.objs
  have hz1 := hn1.le
  try simp at hz1
  go_wp2_with (fail)
  have hn1' := ((New.refl W).alloc _).trans hn1
  have hbx : obj w1 W.heap.size = some (.cells #[.int .u8 x, .int .u8 y, .int .u8 z] 26) := (hn1.objs _ (by simp)).trans (by go_simp)
  have hzz : W.heap.size < w1.heap.size := by omega
  clear e0 l0 q2 q3 hn1 ho1
  go_loopw [18, 6, 7] (fun i p q wr => ∃ (k at_ : Nat) (le : Int), k ≤ n ∧ i = .int .i64 k ∧ p = .int .i64 at_ ∧ q = .int .i64 le ∧ at_ ≤ k ∧ Hid (nearK f x y z k = (at_, le)) ∧ Hid (obj wr W.heap.size = some (.cells #[.int .u8 x, .int .u8 y, .int .u8 z] 26)) ∧ W.heap.size < wr.heap.size ∧ New W wr) (fun i _ _ _ => n - (intOf i).toNat)
  case atStart => exact ⟨0, 0, _, by omega, rfl, rfl, rfl, by omega, rfl, hbx, hzz, hn1'⟩
  case round =>
    obtain ⟨k, at_, le, hk, rfl, rfl, rfl, hak, hne, hb1, hlw, hnw⟩ := hrel
    have hb := hb1.out
    by_cases hlt : k < n
    · have p1 := (hnw.objs _ q1).trans o1
      have ex := (hel'.out k hlt).1
      have el := (hel'.out k hlt).2
      have q4 := obj_lt p1
      clear hbx hzz hn1'
      by_cases hl : farE f x y z k < le
      · have hne' := hide (nearK_t hne.out hl)
        have hl' : far (f (k * 3)) (f (k * 3 + 1)) (f (k * 3 + 2)) x y z < le := hl
        clear hl
        go_wp2_with (fail)
        refine (far_impl _ _ _ (hf _) (hf _) (hf _) _ _ _ hx hy hz _).mono ?_
        rintro e2 w2 ⟨rfl, hn2⟩
        have ho2 := hn2.objs
        have hz2 := hn2.le
        try simp at hz2
        have hb2 := (hn2.objs _ (by simp; omega)).trans ((obj_alloc_past _ _ _ hlw).trans hb)
        have hn3 := (hnw.alloc _).trans hn2
        clear hn2 ho2
        go_wp2_with (fail)
        go_roundw
        case rel => exact ⟨k + 1, k, _, by omega, by go_num, rfl, rfl, by omega, hne', hb2, by omega, hn3⟩
        case measure => simp [intOf]; omega
      · have hne' := hide (nearK_f hne.out hl)
        have hl' : ¬ far (f (k * 3)) (f (k * 3 + 1)) (f (k * 3 + 2)) x y z < le := hl
        clear hl
        go_wp2_with (fail)
        refine (far_impl _ _ _ (hf _) (hf _) (hf _) _ _ _ hx hy hz _).mono ?_
        rintro e3 w3 ⟨rfl, hn3⟩
        have ho3 := hn3.objs
        have hz3 := hn3.le
        try simp at hz3
        have hb2 := (hn3.objs _ (by simp; omega)).trans ((obj_alloc_past _ _ _ hlw).trans hb)
        have hn4 := (hnw.alloc _).trans hn3
        clear hn3 ho3
        go_wp2_with (fail)
        go_roundw
        case rel => exact ⟨k + 1, at_, le, by omega, by go_num, rfl, rfl, by omega, hne', hb2, by omega, hn4⟩
        case measure => simp [intOf]; omega
    · obtain rfl : k = n := by omega
      go_wp2_with (fail)
      go_ret2
      exact ⟨by rw [hne.out]; rfl, hnw⟩
theorem okPal_pos {n : Nat} {f : Nat → Int} (h : okPal n f = true) : 0 < n ∧ n ≤ 15 := by
  unfold okPal at h
  rw [Bool.and_eq_true] at h
  have := inB_t.1 h.2
  omega
def nearV (n : Nat) (f : Nat → Int) (x y z : Int) : Int × Int × Int := if okPal n f = true then ((nearK f x y z n).1 + 1, (nearK f x y z n).2, 0) else (0, 0, 1)
set_option maxHeartbeats 1000000 in
theorem near_impl (a : Option Addr) (n c : Nat) (f : Nat → Int) (x y z : Int) (hx : 0 ≤ x ∧ x ≤ 255) (hy : 0 ≤ y ∧ y ≤ 255) (hz : 0 ≤ z ∧ z ≤ 255) (hf : ∀ i, 0 ≤ f i ∧ f i ≤ 255) (hn : n ≤ 1048576) (hc : n ≤ c) (W : World) (hs : Sl W (.slice a n c) n 3 .u8 f) :
    Calls Tryz.prog 21 #[.slice a n c, .agg #[.int .u8 x, .int .u8 y, .int .u8 z]] W fun e w' => e = .returned (.tuple #[.int .i64 (nearV n f x y z).1, .int .i64 (nearV n f x y z).2.1, .int .i64 (nearV n f x y z).2.2]) ∧ New W w' := by
  unfold nearV
  have hs1 := hs.new ((New.refl W).alloc (.cells #[.int .u8 x, .int .u8 y, .int .u8 z] 26))
  cases hok : okPal n f
  · rw [if_neg (by simp)]
    go_enter Tryz.func21, Tryz.ntmps21
    go_wp2_with (fail)
    refine (validPal_impl _ n _ f hn hc _ hs1).mono ?_
    rintro e1 w1 ⟨rfl, hn1⟩
    have ho1 := hn1.objs
    have hz1 := hn1.le
    try simp at hz1
    go_wp2_with (fail)
    go_ret3
    exact ⟨rfl, ((New.refl W).alloc _).trans hn1⟩
  · rw [if_pos rfl]
    have hp := (okPal_pos hok).1
    have hle := nearK_le f x y z n
    go_enter Tryz.func21, Tryz.ntmps21
    go_wp2_with (fail)
    refine (validPal_impl _ n _ f hn hc _ hs1).mono ?_
    rintro e2 w2 ⟨rfl, hn2⟩
    have ho2 := hn2.objs
    have hz2 := hn2.le
    try simp at hz2
    have hs2 := hs1.new hn2
    go_wp2_with (fail)
    refine (nearest_any _ n _ f x y z hx hy hz hf hn hp _ hs2).mono ?_
    rintro e3 w3 ⟨rfl, hn3⟩
    have ho3 := hn3.objs
    have hz3 := hn3.le
    try simp at hz3
    go_wp2_with (fail)
    go_ret3
    exact ⟨rfl, (((New.refl W).alloc _).trans hn2).trans hn3⟩
end Go.Proofs.YtphjhegaplochaaGreatDoor
