/- Which stones are valid: the reference and the program answer alike; no condition. -/
import Derived.Test.YtedbagefigclgaaSto
import Derived.Test.YtedbagefigclgaaSmall
set_option linter.unusedVariables false
namespace Go.Proofs.Ytedbagefigclgaa
open Go.BigFrame
open Go.RowKit Go.Arr
theorem elsSto {W : World} {a : Option Addr} {n c : Nat} {f : Nat → Int} (h : Sl W (.slice a n c) n 2 .i16 f) (hn : 0 < n) : ∃ g off cur t fr, a = some ⟨g, off, none⟩ ∧ obj W g = some (.cells cur t fr) ∧ ∀ j, j < n → cur.extract (off + j * 2) (off + j * 2 + 2) = #[.int .i16 (f (j * 2)), .int .i16 (f (j * 2 + 1))] ∧ off + j * 2 + 2 ≤ cur.size := by
  obtain ⟨g, off, cur, t, fr, rfl, ho, hc⟩ := h.at hn
  refine ⟨g, off, cur, t, fr, rfl, ho, fun j hj => ⟨ext2 (hc (j * 2) (by omega)) (hc (j * 2 + 1) (by omega)) rfl, ?_⟩⟩
  obtain ⟨l, _⟩ := Array.getElem?_eq_some_iff.1 (hc (j * 2 + 1) (by omega))
  omega
def sideZ (ax ay bx by_ cx cy : Int) : Int := (bx - ax) * (cy - ay) - (by_ - ay) * (cx - ax)
def b16 (x : Int) : Prop := -32768 ≤ x ∧ x ≤ 32767
theorem mul_bound (x y K L : Int) (hK : 0 ≤ K) (hL : 0 ≤ L) (hx : -K ≤ x ∧ x ≤ K) (hy : -L ≤ y ∧ y ≤ L) : -(K * L) ≤ x * y ∧ x * y ≤ K * L := by
  have h1 : x * y ≤ K * L := by
    rcases Int.le_total 0 x with h | h
    · rcases Int.le_total 0 y with h2 | h2
      · exact Int.mul_le_mul hx.2 hy.2 h2 hK
      · have := Int.mul_nonneg h (show 0 ≤ -y by omega)
        rw [Int.mul_neg] at this
        have := Int.mul_nonneg hK hL
        omega
    · rcases Int.le_total 0 y with h2 | h2
      · have := Int.mul_nonneg (show 0 ≤ -x by omega) h2
        rw [Int.neg_mul] at this
        have := Int.mul_nonneg hK hL
        omega
      · have := Int.mul_le_mul (show -x ≤ K by omega) (show -y ≤ L by omega) (by omega) hK
        rwa [Int.neg_mul_neg] at this
  have h2 : (-x) * y ≤ K * L := by
    rcases Int.le_total 0 (-x) with h | h
    · rcases Int.le_total 0 y with h2 | h2
      · exact Int.mul_le_mul (by omega) hy.2 h2 hK
      · have := Int.mul_nonneg h (show 0 ≤ -y by omega)
        rw [Int.mul_neg] at this
        have := Int.mul_nonneg hK hL
        omega
    · rcases Int.le_total 0 y with h2 | h2
      · have := Int.mul_nonneg (show 0 ≤ - -x by omega) h2
        rw [Int.neg_mul] at this
        have := Int.mul_nonneg hK hL
        omega
      · have := Int.mul_le_mul (show x ≤ K by omega) (show -y ≤ L by omega) (by omega) hK
        rw [Int.mul_neg] at this
        rwa [Int.neg_mul]
  rw [Int.neg_mul] at h2
  omega
theorem side_bound (a b c d : Int) (ha : b16 a) (hb : b16 b) (hc : b16 c) (hd : b16 d) : -4294836225 ≤ (a - b) * (c - d) ∧ (a - b) * (c - d) ≤ 4294836225 := by
  unfold b16 at *
  have := mul_bound (a - b) (c - d) 65535 65535 (by omega) (by omega) (by omega) (by omega)
  omega
set_option maxHeartbeats 1000000 in
set_option maxRecDepth 100000 in
theorem l03Side_any (ax ay bx by_ cx cy : Int) (h1 : b16 ax) (h2 : b16 ay) (h3 : b16 bx) (h4 : b16 by_) (h5 : b16 cx) (h6 : b16 cy) (w : World) :
    Calls Try.prog 104 #[.agg #[.int .i16 ax, .int .i16 ay], .agg #[.int .i16 bx, .int .i16 by_], .agg #[.int .i16 cx, .int .i16 cy]] w fun e w' => e = .returned (.int .i64 (sideZ ax ay bx by_ cx cy)) ∧ New w w' := by
  have s1 := side_bound bx ax cy ay h3 h1 h6 h2
  have s2 := side_bound by_ ay cx ax h4 h2 h5 h1
  unfold b16 at *
  go_enter Try.func104, Try.ntmps104
  go_wp2_with (fail)
  go_ret
  exact ⟨rfl, (((New.refl w).alloc _).alloc _).alloc _⟩
set_option maxHeartbeats 1000000 in
set_option maxRecDepth 100000 in
theorem side_any (ax ay bx by_ cx cy : Int) (h1 : b16 ax) (h2 : b16 ay) (h3 : b16 bx) (h4 : b16 by_) (h5 : b16 cx) (h6 : b16 cy) (w : World) :
    Calls Try.prog 97 #[.agg #[.int .i16 ax, .int .i16 ay], .agg #[.int .i16 bx, .int .i16 by_], .agg #[.int .i16 cx, .int .i16 cy]] w fun e w' => e = .returned (.int .i64 (sideZ ax ay bx by_ cx cy)) ∧ New w w' := by
  have s1 := side_bound bx ax cy ay h3 h1 h6 h2
  have s2 := side_bound by_ ay cx ax h4 h2 h5 h1
  unfold b16 at *
  go_enter Try.func97, Try.ntmps97
  go_wp2_with (fail)
  go_ret
  exact ⟨rfl, (((New.refl w).alloc _).alloc _).alloc _⟩
def placedZ (x y : Int) : Bool := inB x (-1000) 1000 && inB y (-1000) 1000
set_option maxHeartbeats 400000 in
theorem l03Place_any (n : Int) (w : World) : Calls Try.prog 110 #[.int .i64 n] w fun e w' => e = .returned (.bool (inB n (-1000) 1000)) ∧ w = w' := by
  go_enter Try.func110, Try.ntmps110
  go_wp2_with (go_at_call 88; refine (l00In_any _ _ _ _).mono ?_; rintro e w' ⟨rfl, rfl⟩)
  go_ret
  exact ⟨rfl, rfl⟩
set_option maxHeartbeats 400000 in
theorem l03Corner_any (x y : Int) (hx : b16 x) (hy : b16 y) (w : World) : Calls Try.prog 95 #[.agg #[.int .i16 x, .int .i16 y]] w fun e w' => e = .returned (.bool (placedZ x y)) ∧ New w w' := by
  unfold placedZ b16 at *
  cases h : inB x (-1000) 1000
  all_goals
    go_enter Try.func95, Try.ntmps95
    go_wp2_with (go_at_call 110; refine (l03Place_any _ _).mono ?_; rintro e w' ⟨rfl, rfl⟩)
    go_ret
    exact ⟨ret_b (by simp), (New.refl w).alloc _⟩
set_option maxHeartbeats 400000 in
theorem isPlaced_any (x y : Int) (hx : b16 x) (hy : b16 y) (w : World) : Calls Try.prog 100 #[.agg #[.int .i16 x, .int .i16 y]] w fun e w' => e = .returned (.bool (placedZ x y)) ∧ New w w' := by
  unfold placedZ b16 at *
  cases h : inB x (-1000) 1000
  all_goals
    go_enter Try.func100, Try.ntmps100
    go_wp2_with (go_at_call 64; refine (within_any _ _ _ _).mono ?_; rintro e w' ⟨rfl, rfl⟩)
    go_ret
    exact ⟨ret_b (by simp), (New.refl w).alloc _⟩
set_option maxHeartbeats 400000 in
theorem l03Next_any (a : Option Addr) (n c i : Nat) (hn : n ≤ 1048576) (hi : i < n) (w : World) : Calls Try.prog 103 #[.slice a n c, .int .i64 i] w fun e w' => e = .returned (.int .i64 ((i + 1) % n : Nat)) ∧ w = w' := by
  have hp : (n : Int) ≠ 0 := by omega
  go_enter Try.func103, Try.ntmps103
  go_wp2_with (fail)
  go_ret
  exact ⟨by simp, rfl⟩
def sideAt (f : Nat → Int) (i k j : Nat) : Int := sideZ (f (i * 2)) (f (i * 2 + 1)) (f (k * 2)) (f (k * 2 + 1)) (f (j * 2)) (f (j * 2 + 1))
def convAt (n : Nat) (f : Nat → Int) (i j : Nat) : Bool := decide (j = i) || (decide (j = (i + 1) % n) || decide (0 < sideAt f i ((i + 1) % n) j))
def convRow (n : Nat) (f : Nat → Int) (i : Nat) : Bool := (List.range n).all (convAt n f i)
def convex (n : Nat) (f : Nat → Int) : Bool := (List.range n).all (convRow n f)
theorem all_t {n : Nat} {p : Nat → Bool} (h : ∀ j, j < n → p j = true) : (List.range n).all p = true := List.all_eq_true.2 fun i hi => h i (by simpa using hi)
theorem all_f {n i : Nat} {p : Nat → Bool} (hi : i < n) (h : p i = false) : (List.range n).all p = false := List.all_eq_false.2 ⟨i, by simpa using hi, by simp [h]⟩
theorem upto_t {p : Nat → Bool} {k : Nat} (h : ∀ j, j < k → p j = true) (hk : p k = true) : ∀ j, j < k + 1 → p j = true := by
  intro j hj
  rcases Nat.lt_succ_iff_lt_or_eq.1 hj with h1 | rfl
  · exact h j h1
  · exact hk
theorem bneN_f {i j : Nat} (h : j = i) : ((j : Int) != (i : Int)) = false := by subst h; simp
theorem bneN_t {i j : Nat} (h : ¬ j = i) : ((j : Int) != (i : Int)) = true := by simp; omega
set_option maxHeartbeats 2000000 in
set_option maxRecDepth 100000 in
theorem l03Convex_any (a : Option Addr) (n c : Nat) (f : Nat → Int) (hb : ∀ i, b16 (f i)) (h3 : 3 ≤ n) (hn : n ≤ 1048576) (W : World) (hs : Sl W (.slice a n c) n 2 .i16 f) :
    Calls Try.prog 96 #[.slice a n c] W fun e w' => e = .returned (.bool (convex n f)) ∧ New W w' := by
  obtain ⟨g, off, cur, t, fr, rfl, o1, hel⟩ := elsSto hs (by omega)
  have q1 := obj_lt o1
  have hel' := hide hel
  clear hel hs
  go_enter Try.func96, Try.ntmps96
  go_wp2_with (fail)
  go_loopw [3] (fun x wr => ∃ i : Nat, i ≤ n ∧ x = .int .i64 i ∧ Hid (∀ j, j < i → convRow n f j = true) ∧ New W wr) (fun x _ => n - (intOf x).toNat)
  case atStart => exact ⟨0, by omega, rfl, fun j hj => absurd hj (by omega), New.refl W⟩
  case round =>
    obtain ⟨i, hi, rfl, hal, hnw⟩ := hrel
    by_cases hlt : i < n
    · have p1 := (hnw.objs _ q1).trans o1
      have x1 := (hel'.out i hlt).1
      have l1 := (hel'.out i hlt).2
      have hkn : (i + 1) % n < n := Nat.mod_lt _ (by omega)
      generalize hke : (i + 1) % n = k at hkn
      have x2 := (hel'.out k hkn).1
      have l2 := (hel'.out k hkn).2
      have r1 := obj_lt p1
      go_wp2_with (fail)
      refine (l03Next_any _ n c i hn hlt _).mono ?_
      rintro e w' ⟨rfl, rfl⟩
      rw [hke]
      go_wp2_with (fail)
      go_loopw [5] (fun x wq => ∃ j : Nat, j ≤ n ∧ x = .int .i64 j ∧ Hid (∀ q, q < j → convAt n f i q = true) ∧ New wr wq) (fun x _ => n - (intOf x).toNat)
      case atStart => exact ⟨0, by omega, rfl, fun j hj => absurd hj (by omega), New.refl wr⟩
      case round =>
        obtain ⟨j, hj, rfl, hun, hnq⟩ := hrel
        by_cases hjn : j < n
        · have p2 := (hnq.objs _ r1).trans p1
          have r2 := obj_lt p2
          have x3 := (hel'.out j hjn).1
          have l3 := (hel'.out j hjn).2
          clear p1
          by_cases e1 : j = i
          · have m1 := bneN_f e1
            have hc : Hid (convAt n f i j = true) := by show _ = _; simp [convAt, e1]
            clear e1
            go_wp2_with (fail)
            refine wp_region_new (by kernel_rfl) (by kernel_rfl) ?_
            repeat (go_big_quiet_step (first | fail | (go_at_call 104; with_reducible exact calls_new (l03Side_any _ _ _ _ _ _ (hb _) (hb _) (hb _) (hb _) (hb _) (hb _) _))))
            refine wpQuiet_nil ?_
            intro w1 hc1
            have hn1 := NewW.of hc1
            clear hc1
            have ho1 := hn1.objs
            have hz1 := hn1.le
            try simp at hz1
            go_wp2_with (fail)
            go_roundw
            case rel => exact ⟨j + 1, by omega, by go_num, upto_t hun.out hc.out, hnq.trans hn1⟩
            case measure => simp [intOf]; omega
          · have m1 := bneN_t e1
            by_cases e2 : j = k
            · have m2 := bneN_f e2
              have hc : Hid (convAt n f i j = true) := by show _ = _; simp [convAt, hke, e2]
              clear e1 e2
              go_wp2_with (fail)
              refine wp_region_new (by kernel_rfl) (by kernel_rfl) ?_
              repeat (go_big_quiet_step (first | fail | (go_at_call 104; with_reducible exact calls_new (l03Side_any _ _ _ _ _ _ (hb _) (hb _) (hb _) (hb _) (hb _) (hb _) _))))
              refine wpQuiet_nil ?_
              intro w2 hc2
              have hn2 := NewW.of hc2
              clear hc2
              have ho2 := hn2.objs
              have hz2 := hn2.le
              try simp at hz2
              go_wp2_with (fail)
              go_roundw
              case rel => exact ⟨j + 1, by omega, by go_num, upto_t hun.out hc.out, hnq.trans hn2⟩
              case measure => simp [intOf]; omega
            · have m2 := bneN_t e2
              by_cases e3 : 0 < sideAt f i k j
              · have hc : Hid (convAt n f i j = true) := by show _ = _; simp [convAt, hke, e3]
                have e4 : ¬ sideZ (f (i * 2)) (f (i * 2 + 1)) (f (k * 2)) (f (k * 2 + 1)) (f (j * 2)) (f (j * 2 + 1)) ≤ 0 := by unfold sideAt at e3; omega
                clear e1 e2 e3
                go_wp2_with (fail)
                refine wp_region_new (by kernel_rfl) (by kernel_rfl) ?_
                repeat (go_big_quiet_step (first | fail | (go_at_call 104; with_reducible exact calls_new (l03Side_any _ _ _ _ _ _ (hb _) (hb _) (hb _) (hb _) (hb _) (hb _) _))))
                refine wpQuiet_nil ?_
                intro w3 hc3
                have hn3 := NewW.of hc3
                clear hc3
                have ho3 := hn3.objs
                have hz3 := hn3.le
                try simp at hz3
                go_wp2_with (fail)
                go_roundw
                case rel => exact ⟨j + 1, by omega, by go_num, upto_t hun.out hc.out, hnq.trans hn3⟩
                case measure => simp [intOf]; omega
              · have hc : Hid (convAt n f i j = false) := by show _ = _; simp [convAt, hke, e1, e2, e3]
                have hf : Hid (convex n f = false) := all_f hlt (all_f hjn hc.out)
                have e4 : sideZ (f (i * 2)) (f (i * 2 + 1)) (f (k * 2)) (f (k * 2 + 1)) (f (j * 2)) (f (j * 2 + 1)) ≤ 0 := by unfold sideAt at e3; omega
                clear e1 e2 e3
                go_wp2_with (fail)
                refine wp_region_new (by kernel_rfl) (by kernel_rfl) ?_
                repeat (go_big_quiet_step (first | fail | (go_at_call 104; with_reducible exact calls_new (l03Side_any _ _ _ _ _ _ (hb _) (hb _) (hb _) (hb _) (hb _) (hb _) _))))
                refine wpQuiet_nil ?_
                intro w4 hc4
                have hn4 := NewW.of hc4
                clear hc4
                have ho4 := hn4.objs
                have hz4 := hn4.le
                try simp at hz4
                go_wp2_with (fail)
                go_ret
                exact ⟨ret_b hf.out.symm, (hnw.trans hnq).trans hn4⟩
        · obtain rfl : j = n := by omega
          have hrow : Hid (convRow j f i = true) := all_t hun.out
          go_wp2_with (fail)
          go_roundw
          case rel => exact ⟨i + 1, by omega, by go_num, upto_t hal.out hrow.out, hnw.trans hnq⟩
          case measure => simp [intOf]; omega
    · obtain rfl : i = n := by omega
      go_wp2_with (fail)
      go_ret
      exact ⟨ret_b (all_t hal.out).symm, hnw⟩
def placedAt (f : Nat → Int) (i : Nat) : Bool := placedZ (f (i * 2)) (f (i * 2 + 1))
def allPl (n : Nat) (f : Nat → Int) : Bool := (List.range n).all (placedAt f)
def okSto (n : Nat) (f : Nat → Int) : Bool := inB n 3 8 && (allPl n f && convex n f)
theorem allPl_t {n : Nat} {f : Nat → Int} (h : ∀ j, j < n → placedAt f j = true) : allPl n f = true := all_t h
theorem allPl_f {n i : Nat} {f : Nat → Int} (hi : i < n) (h : placedAt f i = false) : allPl n f = false := all_f hi h
set_option maxHeartbeats 1000000 in
set_option maxRecDepth 100000 in
theorem l03Ok_any (a : Option Addr) (n c : Nat) (f : Nat → Int) (hb : ∀ i, b16 (f i)) (hn : n ≤ 1048576) (W : World) (hs : Sl W (.slice a n c) n 2 .i16 f) :
    Calls Try.prog 72 #[.slice a n c] W fun e w' => e = .returned (.bool (okSto n f)) ∧ New W w' := by
  cases h38 : inB n 3 8
  · have hf : Hid (okSto n f = false) := by show _ = _; unfold okSto; rw [h38, Bool.false_and]
    go_enter Try.func72, Try.ntmps72
    go_wp2_with (go_at_call 88; refine (l00In_any _ _ _ _).mono ?_; rintro e w' ⟨rfl, rfl⟩)
    go_ret
    exact ⟨ret_b hf.out.symm, New.refl W⟩
  have h3 := inB_t.1 h38
  have hok : Hid (okSto n f = (allPl n f && convex n f)) := by show _ = _; unfold okSto; rw [h38, Bool.true_and]
  obtain ⟨g, off, cur, t, fr, rfl, o1, hel⟩ := elsSto hs (by omega)
  have q1 := obj_lt o1
  have hel' := hide hel
  have hs' := hide hs
  clear hel hs
  go_enter Try.func72, Try.ntmps72
  go_wp2_with (go_at_call 88; refine (l00In_any _ _ _ _).mono ?_; rintro e w' ⟨rfl, rfl⟩)
  clear h38
  go_loopw [3] (fun x wr => ∃ i : Nat, i ≤ n ∧ x = .int .i64 i ∧ Hid (∀ j, j < i → placedAt f j = true) ∧ New W wr) (fun x _ => n - (intOf x).toNat)
  case atStart => exact ⟨0, by omega, rfl, fun j hj => absurd hj (by omega), New.refl W⟩
  case round =>
    obtain ⟨i, hi, rfl, hal, hnw⟩ := hrel
    by_cases hlt : i < n
    · have p1 := (hnw.objs _ q1).trans o1
      have x1 := (hel'.out i hlt).1
      have l1 := (hel'.out i hlt).2
      cases hp : placedZ (f (i * 2)) (f (i * 2 + 1))
      · have hf : Hid (okSto n f = false) := by show _ = _; rw [hok.out, allPl_f hlt hp, Bool.false_and]
        go_wp2_with (fail)
        refine (l03Corner_any _ _ (hb _) (hb _) _).mono ?_
        rintro e1 w1 ⟨rfl, hn1⟩
        have ho1 := hn1.objs
        have hz1 := hn1.le
        try simp at hz1
        go_wp2_with (fail)
        go_ret
        exact ⟨ret_b hf.out.symm, hnw.trans hn1⟩
      · have hc : Hid (placedAt f i = true) := hp
        go_wp2_with (fail)
        refine (l03Corner_any _ _ (hb _) (hb _) _).mono ?_
        rintro e2 w2 ⟨rfl, hn2⟩
        have ho2 := hn2.objs
        have hz2 := hn2.le
        try simp at hz2
        go_wp2_with (fail)
        go_roundw
        case rel => exact ⟨i + 1, by omega, by go_num, upto_t hal.out hc.out, hnw.trans hn2⟩
        case measure => simp [intOf]; omega
    · obtain rfl : i = n := by omega
      go_wp2_with (fail)
      refine (l03Convex_any _ i c f hb (by omega) hn _ (hs'.out.new hnw)).mono ?_
      rintro e w1 ⟨rfl, hn1⟩
      go_wp2_with (fail)
      go_ret
      exact ⟨ret_b (by rw [hok.out, allPl_t hal.out, Bool.true_and]), hnw.trans hn1⟩
set_option maxHeartbeats 400000 in
theorem notPlaced_any (x y : Int) (hx : b16 x) (hy : b16 y) (w : World) : Calls Try.prog 99 #[.agg #[.int .i16 x, .int .i16 y]] w fun e w' => e = .returned (.bool (!placedZ x y)) ∧ New w w' := by
  go_enter Try.func99, Try.ntmps99
  go_wp2_with (fail)
  refine (isPlaced_any _ _ hx hy _).mono ?_
  rintro e1 w1 ⟨rfl, hn1⟩
  have ho1 := hn1.objs
  have hz1 := hn1.le
  try simp at hz1
  go_wp2_with (fail)
  go_ret
  exact ⟨rfl, ((New.refl w).alloc _).trans hn1⟩
set_option maxHeartbeats 1000000 in
set_option maxRecDepth 100000 in
theorem idxPlaced_any (a : Option Addr) (n c : Nat) (f : Nat → Int) (hb : ∀ i, b16 (f i)) (hn : n ≤ 1048576) (W : World) (hs : Sl W (.slice a n c) n 2 .i16 f) :
    Calls Try.prog 111 #[.slice a n c, .func (.func 99) #[] #[]] W fun e w' => ∃ r : Int, e = .returned (.int .i64 r) ∧ -1 ≤ r ∧ (0 ≤ r ↔ allPl n f = false) ∧ New W w' := by
  go_enter Try.func111, Try.ntmps111
  go_wp2_with (fail)
  go_loopw [8] (fun x wr => ∃ i : Nat, i ≤ n ∧ x = .int .i64 i ∧ Hid (∀ j, j < i → placedAt f j = true) ∧ New W wr) (fun x _ => n - (intOf x).toNat)
  case atStart => exact ⟨0, by omega, rfl, fun j hj => absurd hj (by omega), New.refl W⟩
  case round =>
    obtain ⟨i, hi, rfl, hal, hnw⟩ := hrel
    by_cases hlt : i < n
    · obtain ⟨g, off, cur, t, fr, rfl, o1, hel⟩ := elsSto hs (by omega)
      have p1 := (hnw.objs _ (obj_lt o1)).trans o1
      have x1 := (hel i hlt).1
      have l1 := (hel i hlt).2
      clear hel hs o1
      cases hp : placedZ (f (i * 2)) (f (i * 2 + 1))
      · have hf := allPl_f hlt hp
        go_wp2_with (go_at_call 99; refine (notPlaced_any _ _ (hb _) (hb _) _).mono ?_; rintro e w1 ⟨rfl, hn1⟩; rw [hp])
        go_ret
        exact ⟨_, rfl, by omega, ⟨fun _ => hf, fun _ => by omega⟩, hnw.trans (by assumption)⟩
      · have hc : Hid (placedAt f i = true) := hp
        go_wp2_with (go_at_call 99; refine (notPlaced_any _ _ (hb _) (hb _) _).mono ?_; rintro e w1 ⟨rfl, hn1⟩; rw [hp])
        go_roundw
        case rel => exact ⟨i + 1, by omega, by go_num, upto_t hal.out hc.out, hnw.trans (by assumption)⟩
        case measure => simp [intOf]; omega
    · obtain rfl : i = n := by omega
      go_wp2_with (fail)
      go_ret
      exact ⟨_, rfl, by omega, ⟨fun h => absurd h (by omega), fun h => by rw [allPl_t hal.out] at h; cases h⟩, hnw⟩
set_option maxHeartbeats 400000 in
theorem anyUnplaced_any (a : Option Addr) (n c : Nat) (f : Nat → Int) (hb : ∀ i, b16 (f i)) (hn : n ≤ 1048576) (W : World) (hs : Sl W (.slice a n c) n 2 .i16 f) :
    Calls Try.prog 98 #[.slice a n c, .func (.func 99) #[] #[]] W fun e w' => e = .returned (.bool (!allPl n f)) ∧ New W w' := by
  go_enter Try.func98, Try.ntmps98
  go_wp2_with (fail)
  refine (idxPlaced_any a n c f hb hn _ hs).mono ?_
  rintro e w1 ⟨r, rfl, hr, hiff, hn1⟩
  go_wp2_with (fail)
  go_ret
  exact ⟨rfl, hn1⟩
theorem convex_f {n i j : Nat} {f : Nat → Int} (hi : i < n) (hj : j < n) (h : convAt n f i j = false) : okSto n f = false := by
  unfold okSto convex
  rw [all_f hi (show convRow n f i = false from all_f hj h), Bool.and_false, Bool.and_false]
theorem convex_t {n : Nat} {f : Nat → Int} (h : ∀ j, j < n → convRow n f j = true) : convex n f = true := all_t h
set_option maxHeartbeats 4000000 in
set_option maxRecDepth 100000 in
theorem isConvex_any (a : Option Addr) (n c : Nat) (f : Nat → Int) (hb : ∀ i, b16 (f i)) (hn : n ≤ 8) (W : World) (hs : Sl W (.slice a n c) n 2 .i16 f) :
    Calls Try.prog 73 #[.slice a n c] W fun e w' => e = .returned (.bool (okSto n f)) ∧ New W w' := by
  go_enter Try.func73, Try.ntmps73
  go_wp2_with (fail)
  go_loopw [13] (fun x wr => ∃ i : Nat, i ≤ n ∧ x = .int .i64 i ∧ Hid (∀ j, j < i → convRow n f j = true) ∧ New W wr) (fun x _ => n - (intOf x).toNat)
  case atStart => exact ⟨0, by omega, rfl, fun j hj => absurd hj (by omega), New.refl W⟩
  case round =>
    obtain ⟨i, hi, rfl, hal, hnw⟩ := hrel
    by_cases hlt : i < n
    · obtain ⟨g, off, cur, t, fr, rfl, o1, hel⟩ := elsSto hs (by omega)
      have p1 := (hnw.objs _ (obj_lt o1)).trans o1
      have x1 := (hel i hlt).1
      have l1 := (hel i hlt).2
      have hkn : (i + 1) % n < n := Nat.mod_lt _ (by omega)
      have hmod : ((i : Int) + 1) % (n : Int) = (((i + 1) % n : Nat) : Int) := by rw [Int.natCast_emod]; simp
      generalize hke : (i + 1) % n = k at hkn hmod
      have x2 := (hel k hkn).1
      have l2 := (hel k hkn).2
      have r1 := obj_lt p1
      have hel' := hide hel
      have hn0 : (n : Int) ≠ 0 := by omega
      have hke' := hide hke
      have hs' := hide hs
      clear hel hs o1 hke
      go_wp2_with (fail)
      generalize hwb : ((wr.alloc (Obj.cells #[.int .i16 (f (i * 2)), .int .i16 (f (i * 2 + 1))] 84)).alloc (Obj.cells #[.int .i16 (f (k * 2)), .int .i16 (f (k * 2 + 1))] 84)) = wb
      have b1 : obj wb wr.heap.size = some (.cells #[.int .i16 (f (i * 2)), .int .i16 (f (i * 2 + 1))] 84) := by subst hwb; go_simp
      have b2 : obj wb (wr.heap.size + 1) = some (.cells #[.int .i16 (f (k * 2)), .int .i16 (f (k * 2 + 1))] 84) := by subst hwb; go_simp
      have hnb : New wr wb := by subst hwb; exact ((New.refl _).alloc _).alloc _
      have pb : obj wb g = some (.cells cur t fr) := (hnb.objs _ r1).trans p1
      have nb := hnw.trans hnb
      clear hwb x1 l1 x2 l2 p1 r1 hnb
      simp only [hmod]
      go_loopw [27] (fun x wq => ∃ j : Nat, j ≤ n ∧ x = .int .i64 j ∧ Hid (∀ q, q < j → convAt n f i q = true) ∧ New wb wq) (fun x _ => n - (intOf x).toNat)
      case atStart => exact ⟨0, by omega, rfl, fun j hj => absurd hj (by omega), New.refl wb⟩
      case round =>
        obtain ⟨j, hj, rfl, hun, hnq⟩ := hrel
        have z1 := obj_lt b1
        have z2 := obj_lt b2
        have z3 := hnq.le
        by_cases hjn : j < n
        · have p2 := (hnq.objs _ (obj_lt pb)).trans pb
          have c1 := (hnq.objs _ z1).trans b1
          have c2 := (hnq.objs _ z2).trans b2
          have r2 := obj_lt p2
          have r3 := obj_lt c1
          have r4 := obj_lt c2
          have x3 := (hel'.out j hjn).1
          have l3 := (hel'.out j hjn).2
          have hke := hke'.out
          clear b1 b2 pb
          by_cases e1 : j = i
          · have m1 := bneN_f e1
            have hc : Hid (convAt n f i j = true) := by show _ = _; simp [convAt, e1]
            clear e1 hke
            go_wp2_with (fail)
            go_roundw
            case rel => exact ⟨j + 1, by omega, by go_num, upto_t hun.out hc.out, hnq.alloc _⟩
            case measure => simp [intOf]; omega
          · have m1 := bneN_t e1
            by_cases e2 : j = k
            · have m2 := bneN_f e2
              have hc : Hid (convAt n f i j = true) := by show _ = _; simp [convAt, hke, e2]
              clear e1 e2 hke
              go_wp2_with (fail)
              go_roundw
              case rel => exact ⟨j + 1, by omega, by go_num, upto_t hun.out hc.out, hnq.alloc _⟩
              case measure => simp [intOf]; omega
            · have m2 := bneN_t e2
              by_cases e3 : 0 < sideAt f i k j
              · have hc : Hid (convAt n f i j = true) := by show _ = _; simp [convAt, hke, e3]
                have e4 : ¬ sideZ (f (i * 2)) (f (i * 2 + 1)) (f (k * 2)) (f (k * 2 + 1)) (f (j * 2)) (f (j * 2 + 1)) ≤ 0 := by unfold sideAt at e3; omega
                clear e1 e2 e3 hke
                go_wp2_with (fail)
                refine (side_any _ _ _ _ _ _ (hb _) (hb _) (hb _) (hb _) (hb _) (hb _) _).mono ?_
                rintro e1 w1 ⟨rfl, hn1⟩
                have ho1 := hn1.objs
                have hz1 := hn1.le
                try simp at hz1
                go_wp2_with (fail)
                go_roundw
                case rel => exact ⟨j + 1, by omega, by go_num, upto_t hun.out hc.out, (hnq.alloc _).trans hn1⟩
                case measure => simp [intOf]; omega
              · have hc : Hid (convAt n f i j = false) := by show _ = _; simp [convAt, hke, e1, e2, e3]
                have hf : Hid (okSto n f = false) := convex_f hlt hjn hc.out
                have e4 : sideZ (f (i * 2)) (f (i * 2 + 1)) (f (k * 2)) (f (k * 2 + 1)) (f (j * 2)) (f (j * 2 + 1)) ≤ 0 := by unfold sideAt at e3; omega
                clear e1 e2 e3 hke
                go_wp2_with (fail)
                refine (side_any _ _ _ _ _ _ (hb _) (hb _) (hb _) (hb _) (hb _) (hb _) _).mono ?_
                rintro e2 w2 ⟨rfl, hn2⟩
                have ho2 := hn2.objs
                have hz2 := hn2.le
                try simp at hz2
                go_wp2_with (fail)
                go_ret
                exact ⟨ret_b hf.out.symm, (nb.trans (hnq.alloc _)).trans hn2⟩
        · obtain rfl : j = n := by omega
          have hrow : Hid (convRow j f i = true) := all_t hun.out
          go_wp2_with (fail)
          go_roundw
          case rel => exact ⟨i + 1, by omega, by go_num, upto_t hal.out hrow.out, nb.trans hnq⟩
          case measure => simp [intOf]; omega
    · obtain rfl : i = n := by omega
      have hcv := hide (convex_t hal.out)
      clear hal
      by_cases h3 : 3 ≤ i
      · have hok : Hid (okSto i f = allPl i f) := by
          show _ = _
          unfold okSto
          rw [hcv.out, Bool.and_true, show inB i 3 8 = true from inB_t.2 (by omega), Bool.true_and]
        go_wp2_with (fail)
        refine (anyUnplaced_any _ i c f hb (by omega) _ (hs.new hnw)).mono ?_
        rintro e w1 ⟨rfl, hn1⟩
        go_wp2_with (fail)
        go_ret
        exact ⟨ret_b (by rw [hok.out]), hnw.trans hn1⟩
      · have hf : Hid (okSto i f = false) := by
          show _ = _
          unfold okSto
          rw [show inB i 3 8 = false from inB_f.2 (by omega), Bool.false_and]
        go_wp2_with (fail)
        go_ret
        exact ⟨ret_b hf.out.symm, hnw⟩
set_option maxHeartbeats 400000 in
theorem validSto_spec (a : Option Addr) (n c : Nat) (f : Nat → Int) (hb : ∀ i, b16 (f i)) (hn : n ≤ 1048576) (W : World) (hs : Sl W (.slice a n c) n 2 .i16 f) :
    Calls Try.prog 39 #[.slice a n c] W fun e w' => e = .returned (.bool (okSto n f)) ∧ New W w' := by
  go_enter Try.func39, Try.ntmps39
  go_wp2_with (fail)
  refine (l03Ok_any _ n _ f hb hn _ hs).mono ?_
  rintro e1 w1 ⟨rfl, hn1⟩
  have ho1 := hn1.objs
  have hz1 := hn1.le
  try simp at hz1
  go_wp2_with (fail)
  go_ret
  exact ⟨rfl, hn1⟩
set_option maxHeartbeats 400000 in
theorem validSto_impl (a : Option Addr) (n c : Nat) (f : Nat → Int) (hb : ∀ i, b16 (f i)) (hn : n ≤ 1048576) (W : World) (hs : Sl W (.slice a n c) n 2 .i16 f) :
    Calls Try.prog 40 #[.slice a n c] W fun e w' => e = .returned (.bool (okSto n f)) ∧ New W w' := by
  by_cases h : n ≤ 8
  · go_enter Try.func40, Try.ntmps40
    go_wp2_with (fail)
    refine (isConvex_any _ n _ f hb h _ hs).mono ?_
    rintro e1 w1 ⟨rfl, hn1⟩
    have ho1 := hn1.objs
    have hz1 := hn1.le
    try simp at hz1
    go_wp2_with (fail)
    go_ret
    exact ⟨rfl, hn1⟩
  · have hf : Hid (okSto n f = false) := by
      show _ = _
      unfold okSto
      rw [show inB n 3 8 = false from inB_f.2 (by omega), Bool.false_and]
    go_enter Try.func40, Try.ntmps40
    go_wp2_with (fail)
    go_ret
    exact ⟨ret_b hf.out.symm, New.refl _⟩
end Go.Proofs.Ytedbagefigclgaa
