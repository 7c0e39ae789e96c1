/- Which stones overlap, which touch: the reference and the program answer alike; no condition. -/
import Derived.Test.YtedbagefigclgaaVst
set_option linter.unusedVariables false
namespace Go.Proofs.Ytedbagefigclgaa
open Go.BigFrame
open Go.RowKit Go.Arr
def sideAB (f g : Nat → Int) (i k j : Nat) : Int := sideZ (f (i * 2)) (f (i * 2 + 1)) (f (k * 2)) (f (k * 2 + 1)) (g (j * 2)) (g (j * 2 + 1))
/-- a corner lies outside of an edge's line, or on it where that is enough -/
def outAt (line : Bool) (f g : Nat → Int) (i k j : Nat) : Bool := decide (sideAB f g i k j < 0) || (decide (sideAB f g i k j = 0) && line)
def outRow (line : Bool) (m : Nat) (f g : Nat → Int) (i k : Nat) : Bool := (List.range m).all (outAt line f g i k)
def apart (line : Bool) (n m : Nat) (f g : Nat → Int) : Bool := (List.range n).any fun i => outRow line m f g i ((i + 1) % n)
theorem any_t {n i : Nat} {p : Nat → Bool} (hi : i < n) (h : p i = true) : (List.range n).any p = true := List.any_eq_true.2 ⟨i, by simpa using hi, h⟩
theorem any_f {n : Nat} {p : Nat → Bool} (h : ∀ j, j < n → p j = false) : (List.range n).any p = false := List.any_eq_false.2 fun i hi => by simp [h i (by simpa using hi)]
theorem uptof_t {p : Nat → Bool} {k : Nat} (h : ∀ j, j < k → p j = false) (hk : p k = false) : ∀ j, j < k + 1 → p j = false := by
  intro j hj
  rcases Nat.lt_succ_iff_lt_or_eq.1 hj with h1 | rfl
  · exact h j h1
  · exact hk
/-- whether all corners so far lie outside -/
def outTo (line : Bool) (f g : Nat → Int) (i k : Nat) : Nat → Bool
  | 0 => true
  | j + 1 => if outAt line f g i k j = true then outTo line f g i k j else false
theorem outTo_row (line : Bool) (f g : Nat → Int) (i k m : Nat) : outTo line f g i k m = outRow line m f g i k := by
  unfold outRow
  induction m with
  | zero => rfl
  | succ m ih =>
    unfold outTo
    rw [List.range_succ, List.all_append, ← ih]
    cases h : outAt line f g i k m <;> simp [h]
theorem l03Next_k (a : Option Addr) (n c i k : Nat) (hn : n ≤ 1048576) (hi : i < n) (hk : (i + 1) % n = k) (w : World) : Calls Try.prog 103 #[.slice a n c, .int .i64 i] w fun e w' => e = .returned (.int .i64 (k : Nat)) ∧ New w w' :=
  (l03Next_any a n c i hn hi w).mono fun _ _ ⟨he, hw⟩ => ⟨by rw [he, hk], by rw [← hw]; exact New.refl _⟩
set_option maxHeartbeats 4000000 in
set_option maxRecDepth 100000 in
theorem l03Apart_any (line : Bool) (a1 a2 : Option Addr) (n m c1 c2 : Nat) (f g : Nat → Int) (hf : ∀ i, b16 (f i)) (hg : ∀ i, b16 (g i)) (hp : 0 < n) (hq : 0 < m) (hn : n ≤ 8) (hm : m ≤ 8) (W : World) (h1 : Sl W (.slice a1 n c1) n 2 .i16 f) (h2 : Sl W (.slice a2 m c2) m 2 .i16 g) :
    Calls Try.prog 80 #[.slice a1 n c1, .slice a2 m c2, .bool line] W fun e w' => e = .returned (.bool (apart line n m f g)) ∧ New W w' := by
  obtain ⟨g1, off1, cur1, t1, fr1, rfl, o1, hel1⟩ := elsSto h1 hp
  obtain ⟨g2, off2, cur2, t2, fr2, rfl, o2, hel2⟩ := elsSto h2 hq
  have q1 := obj_lt o1
  have q2 := obj_lt o2
  have hE1 := hide hel1
  have hE2 := hide hel2
  clear hel1 hel2 h1 h2
  go_enter Try.func80, Try.ntmps80
  go_wp2_with (fail)
  go_loopw [7] (fun x wr => ∃ i : Nat, i ≤ n ∧ x = .int .i64 i ∧ Hid (∀ j, j < i → outRow line m f g j ((j + 1) % n) = false) ∧ New W wr) (fun x _ => n - (intOf x).toNat)
  case atStart => exact ⟨0, by omega, rfl, fun j hj => absurd hj (by omega), New.refl W⟩
  case round =>
    obtain ⟨i, hi, rfl, hal, hnw⟩ := hrel
    by_cases hlt : i < n
    · have p1 := (hnw.objs _ q1).trans o1
      have p2 := (hnw.objs _ q2).trans o2
      obtain ⟨x1, l1⟩ := hE1.out i hlt
      have hkn : (i + 1) % n < n := Nat.mod_lt _ (by omega)
      generalize hke : (i + 1) % n = k at hkn
      obtain ⟨x2, l2⟩ := hE1.out k hkn
      have r1 := obj_lt p1
      have r2 := obj_lt p2
      have hke' := hide hke
      clear hke
      go_wp2_with (fail)
      go_loopw [9, 8] (fun x b wq => ∃ j : Nat, j ≤ m ∧ x = .int .i64 j ∧ b = .bool (outTo line f g i k j) ∧ New wr wq) (fun x _ _ => m - (intOf x).toNat)
      case atStart => exact ⟨0, by omega, rfl, rfl, New.refl wr⟩
      case round =>
        obtain ⟨j, hj, rfl, rfl, hnq⟩ := hrel
        by_cases hjm : j < m
        · have s1 := (hnq.objs _ r1).trans p1
          have s2 := (hnq.objs _ r2).trans p2
          have s3 := obj_lt s1
          have s4 := obj_lt s2
          obtain ⟨x3, l3⟩ := hE2.out j hjm
          have ho : outTo line f g i k (j + 1) = if outAt line f g i k j = true then outTo line f g i k j else false := rfl
          have ho' := hide ho
          have hS : sideAB f g i k j = sideZ (f (i * 2)) (f (i * 2 + 1)) (f (k * 2)) (f (k * 2 + 1)) (g (j * 2)) (g (j * 2 + 1)) := rfl
          have hke := hke'.out
          clear p1 p2 ho
          by_cases e1 : 0 < sideAB f g i k j
          · have hc : Hid (outTo line f g i k (j + 1) = false) := by show _ = _; rw [ho'.out, if_neg (by simp [outAt]; omega)]
            rw [hS] at e1
            clear hS ho' hke
            go_wp2_with (fail)
            refine wp_region_new (by kernel_rfl) (by kernel_rfl) ?_
            repeat (go_big_quiet_step (first | fail | (go_at_call 104; with_reducible exact calls_new (l03Side_any _ _ _ _ _ _ (hf _) (hf _) (hf _) (hf _) (hg _) (hg _) _)) | (go_at_call 103; with_reducible exact calls_new (l03Next_k _ n _ i k (by omega) hlt hke'.out _))))
            refine wpQuiet_nil ?_
            intro w1 hc1
            have hn1 := NewW.of hc1
            clear hc1
            have ho1 := hn1.objs
            have hz1 := hn1.le
            try simp at hz1
            go_wp2_with (fail)
            go_roundw
            case rel => exact ⟨j + 1, by omega, by go_num, by rw [hc.out], hnq.trans hn1⟩
            case measure => simp [intOf]; omega
          by_cases e2 : sideAB f g i k j = 0
          · cases line
            · have hc : Hid (outTo false f g i k (j + 1) = false) := by show _ = _; rw [ho'.out, if_neg (by simp [outAt]; omega)]
              rw [hS] at e1 e2
              clear hS ho' hke e1
              go_wp2_with (fail)
              refine wp_region_new (by kernel_rfl) (by kernel_rfl) ?_
              repeat (go_big_quiet_step (first | fail | (go_at_call 104; with_reducible exact calls_new (l03Side_any _ _ _ _ _ _ (hf _) (hf _) (hf _) (hf _) (hg _) (hg _) _)) | (go_at_call 103; with_reducible exact calls_new (l03Next_k _ n _ i k (by omega) hlt hke'.out _))))
              refine wpQuiet_nil ?_
              intro w2 hc2
              have hn2 := NewW.of hc2
              clear hc2
              have ho2 := hn2.objs
              have hz2 := hn2.le
              try simp at hz2
              go_wp2_with (fail)
              go_roundw
              case rel => exact ⟨j + 1, by omega, by go_num, by rw [hc.out], hnq.trans hn2⟩
              case measure => simp [intOf]; omega
            · have hc : Hid (outTo true f g i k (j + 1) = outTo true f g i k j) := by show _ = _; rw [ho'.out, if_pos (by simp [outAt, e2])]
              rw [hS] at e1 e2
              clear hS ho' hke e1
              go_wp2_with (fail)
              refine wp_region_new (by kernel_rfl) (by kernel_rfl) ?_
              repeat (go_big_quiet_step (first | fail | (go_at_call 104; with_reducible exact calls_new (l03Side_any _ _ _ _ _ _ (hf _) (hf _) (hf _) (hf _) (hg _) (hg _) _)) | (go_at_call 103; with_reducible exact calls_new (l03Next_k _ n _ i k (by omega) hlt hke'.out _))))
              refine wpQuiet_nil ?_
              intro w3 hc3
              have hn3 := NewW.of hc3
              clear hc3
              have ho3 := hn3.objs
              have hz3 := hn3.le
              try simp at hz3
              go_wp2_with (fail)
              go_roundw
              case rel => exact ⟨j + 1, by omega, by go_num, by rw [hc.out], hnq.trans hn3⟩
              case measure => simp [intOf]; omega
          have e3 : sideAB f g i k j < 0 := by omega
          have hc : Hid (outTo line f g i k (j + 1) = outTo line f g i k j) := by show _ = _; rw [ho'.out, if_pos (by simp [outAt, e3])]
          rw [hS] at e1 e2 e3
          have e4 : (sideZ (f (i * 2)) (f (i * 2 + 1)) (f (k * 2)) (f (k * 2 + 1)) (g (j * 2)) (g (j * 2 + 1)) == 0) = false := by simpa using e2
          clear hS ho' hke e2
          go_wp2_with (fail)
          refine wp_region_new (by kernel_rfl) (by kernel_rfl) ?_
          repeat (go_big_quiet_step (first | fail | (go_at_call 104; with_reducible exact calls_new (l03Side_any _ _ _ _ _ _ (hf _) (hf _) (hf _) (hf _) (hg _) (hg _) _)) | (go_at_call 103; with_reducible exact calls_new (l03Next_k _ n _ i k (by omega) hlt hke'.out _))))
          refine wpQuiet_nil ?_
          intro w4 hc4
          have hn4 := NewW.of hc4
          clear hc4
          have ho4 := hn4.objs
          have hz4 := hn4.le
          try simp at hz4
          go_wp2_with (fail)
          go_roundw
          case rel => exact ⟨j + 1, by omega, by go_num, by rw [hc.out], hnq.trans hn4⟩
          case measure => simp [intOf]; omega
        · obtain rfl : j = m := by omega
          have hrow := outTo_row line f g i k j
          rw [hrow]
          cases hr : outRow line j f g i k
          · have hc : Hid (outRow line j f g i ((i + 1) % n) = false) := by show _ = _; rw [hke'.out, hr]
            clear hrow
            go_wp2_with (fail)
            go_roundw
            case rel => exact ⟨i + 1, by omega, by go_num, uptof_t (p := fun q => outRow line j f g q ((q + 1) % n)) hal.out hc.out, hnw.trans hnq⟩
            case measure => simp [intOf]; omega
          · have hc : Hid (apart line n j f g = true) := any_t (p := fun q => outRow line j f g q ((q + 1) % n)) hlt (by show outRow line j f g i ((i + 1) % n) = true; rw [hke'.out, hr])
            clear hrow
            go_wp2_with (fail)
            go_ret
            exact ⟨ret_b hc.out.symm, hnw.trans hnq⟩
    · obtain rfl : i = n := by omega
      have hc : Hid (apart line i m f g = false) := any_f (p := fun q => outRow line m f g q ((q + 1) % i)) hal.out
      go_wp2_with (fail)
      go_ret
      exact ⟨ret_b hc.out.symm, hnw⟩
def inZ (strictly : Bool) (S : Int) : Bool := decide (0 < S) || (strictly && decide (S = 0))
theorem inZ_out (strictly : Bool) (f g : Nat → Int) (i k j : Nat) : inZ strictly (sideAB f g i k j) = !outAt (!strictly) f g i k j := by
  unfold inZ outAt
  generalize sideAB f g i k j = S
  rcases Int.lt_trichotomy S 0 with h | h | h
  · rw [decide_eq_false (show ¬ 0 < S by omega), decide_eq_false (show ¬ S = 0 by omega), decide_eq_true h]; cases strictly <;> rfl
  · rw [decide_eq_false (show ¬ 0 < S by omega), decide_eq_true h, decide_eq_false (show ¬ S < 0 by omega)]; cases strictly <;> rfl
  · rw [decide_eq_true (show 0 < S by omega), decide_eq_false (show ¬ S = 0 by omega), decide_eq_false (show ¬ S < 0 by omega)]; cases strictly <;> rfl
set_option maxHeartbeats 1000000 in
set_option maxRecDepth 100000 in
theorem partsLit_any (strictly : Bool) (ax ay bx by_ cx cy : Int) (h1 : b16 ax) (h2 : b16 ay) (h3 : b16 bx) (h4 : b16 by_) (h5 : b16 cx) (h6 : b16 cy) (bP bQ bS : Nat) (w : World)
    (o1 : obj w bP = some (.cells #[.int .i16 ax, .int .i16 ay] 84)) (o2 : obj w bQ = some (.cells #[.int .i16 bx, .int .i16 by_] 84)) (o3 : obj w bS = some (.cells #[.bool strictly] 4)) :
    Calls Try.prog 106 #[.agg #[.int .i16 cx, .int .i16 cy], .pointer (some ⟨bP, 0, none⟩), .pointer (some ⟨bQ, 0, none⟩), .pointer (some ⟨bS, 0, none⟩)] w fun e w' => e = .returned (.bool (inZ strictly (sideZ ax ay bx by_ cx cy))) ∧ New w w' := by
  have q1 := obj_lt o1
  have q2 := obj_lt o2
  have q3 := obj_lt o3
  by_cases e1 : 0 < sideZ ax ay bx by_ cx cy
  · have hr : Hid (inZ strictly (sideZ ax ay bx by_ cx cy) = true) := by show _ = _; simp [inZ, e1]
    go_enter Try.func106, Try.ntmps106
    go_wp2_with (fail)
    refine (side_any _ _ _ _ _ _ h1 h2 h3 h4 h5 h6 _).mono ?_
    rintro e1 w1 ⟨rfl, hn1⟩
    have ho1 := hn1.objs
    have hz1 := hn1.le
    try simp at hz1
    go_wp2_with (fail)
    go_ret
    exact ⟨ret_b hr.out.symm, ((New.refl w).alloc _).trans hn1⟩
  cases strictly
  · have hr : Hid (inZ false (sideZ ax ay bx by_ cx cy) = decide (0 < sideZ ax ay bx by_ cx cy)) := by show _ = _; simp [inZ]
    go_enter Try.func106, Try.ntmps106
    go_wp2_with (fail)
    refine (side_any _ _ _ _ _ _ h1 h2 h3 h4 h5 h6 _).mono ?_
    rintro e2 w2 ⟨rfl, hn2⟩
    have ho2 := hn2.objs
    have hz2 := hn2.le
    try simp at hz2
    have u3 := (ho2 bS (by simp; omega)).trans ((obj_alloc_past _ _ _ q3).trans o3)
    go_wp2_with (fail)
    go_ret
    exact ⟨ret_b hr.out.symm, ((New.refl w).alloc _).trans hn2⟩
  · have hr : Hid (inZ true (sideZ ax ay bx by_ cx cy) = (decide (0 < sideZ ax ay bx by_ cx cy) || sideZ ax ay bx by_ cx cy == 0)) := by
      show _ = _
      unfold inZ
      rw [Bool.true_and]
      rfl
    go_enter Try.func106, Try.ntmps106
    go_wp2_with (fail)
    refine (side_any _ _ _ _ _ _ h1 h2 h3 h4 h5 h6 _).mono ?_
    rintro e3 w3 ⟨rfl, hn3⟩
    have ho3 := hn3.objs
    have hz3 := hn3.le
    try simp at hz3
    have u1 := (ho3 bP (by simp; omega)).trans ((obj_alloc_past _ _ _ q1).trans o1)
    have u2 := (ho3 bQ (by simp; omega)).trans ((obj_alloc_past _ _ _ q2).trans o2)
    have u3 := (ho3 bS (by simp; omega)).trans ((obj_alloc_past _ _ _ q3).trans o3)
    have u4 := (ho3 w.heap.size (by simp)).trans (obj_alloc_at _ _ _ rfl)
    have hN := ((New.refl w).alloc _).trans hn3
    clear ho3
    go_wp2_with (fail)
    refine (side_any _ _ _ _ _ _ h1 h2 h3 h4 h5 h6 _).mono ?_
    rintro e4 w4 ⟨rfl, hn4⟩
    have ho4 := hn4.objs
    have hz4 := hn4.le
    try simp at hz4
    go_wp2_with (fail)
    go_ret
    exact ⟨ret_b hr.out.symm, hN.trans hn4⟩
set_option maxHeartbeats 1000000 in
set_option maxRecDepth 100000 in
theorem idxOut_any (strictly : Bool) (a : Option Addr) (m c : Nat) (f g : Nat → Int) (i k : Nat) (hf : ∀ i, b16 (f i)) (hg : ∀ i, b16 (g i)) (hm : m ≤ 8) (bP bQ bS : Nat) (W : World) (hs : Sl W (.slice a m c) m 2 .i16 g)
    (o1 : obj W bP = some (.cells #[.int .i16 (f (i * 2)), .int .i16 (f (i * 2 + 1))] 84)) (o2 : obj W bQ = some (.cells #[.int .i16 (f (k * 2)), .int .i16 (f (k * 2 + 1))] 84)) (o3 : obj W bS = some (.cells #[.bool strictly] 4)) :
    Calls Try.prog 112 #[.slice a m c, .func (.func 106) #[] #[.pointer (some ⟨bP, 0, none⟩), .pointer (some ⟨bQ, 0, none⟩), .pointer (some ⟨bS, 0, none⟩)]] W fun e w' => ∃ r : Int, e = .returned (.int .i64 r) ∧ -1 ≤ r ∧ (0 ≤ r ↔ outRow (!strictly) m f g i k = false) ∧ New W w' := by
  have q1 := obj_lt o1
  have q2 := obj_lt o2
  have q3 := obj_lt o3
  go_enter Try.func112, Try.ntmps112
  go_wp2_with (fail)
  go_loopw [8] (fun x wr => ∃ j : Nat, j ≤ m ∧ x = .int .i64 j ∧ Hid (∀ q, q < j → outAt (!strictly) f g i k q = true) ∧ New W wr) (fun x _ => m - (intOf x).toNat)
  case atStart => exact ⟨0, by omega, rfl, fun j hj => absurd hj (by omega), New.refl W⟩
  case round =>
    obtain ⟨j, hj, rfl, hal, hnw⟩ := hrel
    by_cases hlt : j < m
    · obtain ⟨g1, off, cur, t, fr, rfl, og, hel⟩ := elsSto hs (by omega)
      have p1 := (hnw.objs _ (obj_lt og)).trans og
      obtain ⟨x1, l1⟩ := hel j hlt
      have u1 := (hnw.objs _ q1).trans o1
      have u2 := (hnw.objs _ q2).trans o2
      have u3 := (hnw.objs _ q3).trans o3
      have hz := hide (inZ_out strictly f g i k j)
      clear hel hs og o1 o2 o3
      cases ho : outAt (!strictly) f g i k j
      · have hp : inZ strictly (sideZ (f (i * 2)) (f (i * 2 + 1)) (f (k * 2)) (f (k * 2 + 1)) (g (j * 2)) (g (j * 2 + 1))) = true := by have := hz.out; rw [ho] at this; exact this
        have hf' : outRow (!strictly) m f g i k = false := all_f (p := outAt (!strictly) f g i k) hlt ho
        clear ho
        go_wp2_with (go_at_call 106; refine (partsLit_any strictly _ _ _ _ _ _ (hf _) (hf _) (hf _) (hf _) (hg _) (hg _) bP bQ bS _ u1 u2 u3).mono ?_; rintro e w1 ⟨rfl, hn1⟩; rw [hp])
        go_ret
        exact ⟨_, rfl, by omega, ⟨fun _ => hf', fun _ => by omega⟩, hnw.trans (by assumption)⟩
      · have hp : inZ strictly (sideZ (f (i * 2)) (f (i * 2 + 1)) (f (k * 2)) (f (k * 2 + 1)) (g (j * 2)) (g (j * 2 + 1))) = false := by have := hz.out; rw [ho] at this; exact this
        have hc : Hid (outAt (!strictly) f g i k j = true) := ho
        clear ho
        go_wp2_with (go_at_call 106; refine (partsLit_any strictly _ _ _ _ _ _ (hf _) (hf _) (hf _) (hf _) (hg _) (hg _) bP bQ bS _ u1 u2 u3).mono ?_; rintro e w1 ⟨rfl, hn1⟩; rw [hp])
        go_roundw
        case rel => exact ⟨j + 1, by omega, by go_num, upto_t hal.out hc.out, hnw.trans (by assumption)⟩
        case measure => simp [intOf]; omega
    · obtain rfl : j = m := by omega
      have hr : outRow (!strictly) j f g i k = true := all_t hal.out
      go_wp2_with (fail)
      go_ret
      exact ⟨_, rfl, by omega, ⟨fun h => absurd h (by omega), fun h => by rw [hr] at h; cases h⟩, hnw⟩
set_option maxHeartbeats 400000 in
theorem anyIn_any (strictly : Bool) (a : Option Addr) (m c : Nat) (f g : Nat → Int) (i k : Nat) (hf : ∀ i, b16 (f i)) (hg : ∀ i, b16 (g i)) (hm : m ≤ 8) (bP bQ bS : Nat) (W : World) (hs : Sl W (.slice a m c) m 2 .i16 g)
    (o1 : obj W bP = some (.cells #[.int .i16 (f (i * 2)), .int .i16 (f (i * 2 + 1))] 84)) (o2 : obj W bQ = some (.cells #[.int .i16 (f (k * 2)), .int .i16 (f (k * 2 + 1))] 84)) (o3 : obj W bS = some (.cells #[.bool strictly] 4)) :
    Calls Try.prog 105 #[.slice a m c, .func (.func 106) #[] #[.pointer (some ⟨bP, 0, none⟩), .pointer (some ⟨bQ, 0, none⟩), .pointer (some ⟨bS, 0, none⟩)]] W fun e w' => e = .returned (.bool (!outRow (!strictly) m f g i k)) ∧ New W w' := by
  go_enter Try.func105, Try.ntmps105
  go_wp2_with (fail)
  refine (idxOut_any strictly a m c f g i k hf hg hm bP bQ bS _ hs o1 o2 o3).mono ?_
  rintro e w1 ⟨r, rfl, hr, hiff, hn1⟩
  go_wp2_with (fail)
  go_ret
  exact ⟨rfl, hn1⟩
set_option maxHeartbeats 4000000 in
set_option maxRecDepth 100000 in
theorem parts_any (strictly : Bool) (a1 a2 : Option Addr) (n m c1 c2 : Nat) (f g : Nat → Int) (hf : ∀ i, b16 (f i)) (hg : ∀ i, b16 (g i)) (hp : 0 < n) (hn : n ≤ 8) (hm : m ≤ 8) (W : World) (h1 : Sl W (.slice a1 n c1) n 2 .i16 f) (h2 : Sl W (.slice a2 m c2) m 2 .i16 g) :
    Calls Try.prog 81 #[.slice a1 n c1, .slice a2 m c2, .bool strictly] W fun e w' => e = .returned (.bool (apart (!strictly) n m f g)) ∧ New W w' := by
  obtain ⟨g1, off1, cur1, t1, fr1, rfl, o1, hel1⟩ := elsSto h1 hp
  have q1 := obj_lt o1
  have hE1 := hide hel1
  have h2' := hide h2
  clear hel1 h1 h2
  go_enter Try.func81, Try.ntmps81
  go_wp2_with (fail)
  go_loopw [12] (fun x wr => ∃ i : Nat, i ≤ n ∧ x = .int .i64 i ∧ Hid (∀ j, j < i → outRow (!strictly) m f g j ((j + 1) % n) = false) ∧ Hid (obj wr W.heap.size = some (.cells #[.bool strictly] 4)) ∧ New W wr) (fun x _ => n - (intOf x).toNat)
  case atStart => exact ⟨0, by omega, rfl, fun j hj => absurd hj (by omega), by show _ = _; go_simp, (New.refl W).alloc _⟩
  case round =>
    obtain ⟨i, hi, rfl, hal, hS1, hnw⟩ := hrel
    have hS := hS1.out
    by_cases hlt : i < n
    · have p1 := (hnw.objs _ q1).trans o1
      obtain ⟨x1, l1⟩ := hE1.out i hlt
      have hkn : (i + 1) % n < n := Nat.mod_lt _ (by omega)
      have hmod : ((i : Int) + 1) % (n : Int) = (((i + 1) % n : Nat) : Int) := by rw [Int.natCast_emod]; simp
      have hn0 : (n : Int) ≠ 0 := by omega
      generalize hke : (i + 1) % n = k at hkn hmod
      obtain ⟨x2, l2⟩ := hE1.out k hkn
      have r1 := obj_lt p1
      have rS := obj_lt hS
      have hke' := hide hke
      clear hke hS1
      go_wp2_with (fail)
      have hnb : New wr ((wr.alloc (Obj.cells #[.int .i16 (f (i * 2)), .int .i16 (f (i * 2 + 1))] 84)).alloc (Obj.cells #[.int .i16 (f (k * 2)), .int .i16 (f (k * 2 + 1))] 84)) := ((New.refl _).alloc _).alloc _
      refine (anyIn_any strictly a2 m c2 f g i k hf hg hm wr.heap.size (wr.heap.size + 1) W.heap.size _ (h2'.out.new (hnw.trans hnb)) (by go_simp) (by go_simp) ((hnb.objs _ rS).trans hS)).mono ?_
      rintro e w1 ⟨rfl, hn1⟩
      have hN := (hnw.trans hnb).trans hn1
      have hSS := (hn1.objs _ (Nat.lt_of_lt_of_le rS hnb.le)).trans ((hnb.objs _ rS).trans hS)
      clear hnb
      cases hr : outRow (!strictly) m f g i k
      · have hc : Hid (outRow (!strictly) m f g i ((i + 1) % n) = false) := by show _ = _; rw [hke'.out, hr]
        go_wp2_with (fail)
        go_roundw
        case rel => exact ⟨i + 1, by omega, by go_num, uptof_t (p := fun q => outRow (!strictly) m f g q ((q + 1) % n)) hal.out hc.out, hSS, hN⟩
        case measure => simp [intOf]; omega
      · have hc : Hid (apart (!strictly) n m f g = true) := any_t (p := fun q => outRow (!strictly) m f g q ((q + 1) % n)) hlt (by show outRow (!strictly) m f g i ((i + 1) % n) = true; rw [hke'.out, hr])
        go_wp2_with (fail)
        go_ret
        exact ⟨ret_b hc.out.symm, hN⟩
    · obtain rfl : i = n := by omega
      have hc : Hid (apart (!strictly) i m f g = false) := any_f (p := fun q => outRow (!strictly) m f g q ((q + 1) % i)) hal.out
      go_wp2_with (fail)
      go_ret
      exact ⟨ret_b hc.out.symm, hnw⟩
def overB (n m : Nat) (f g : Nat → Int) : Bool := !apart true n m f g && !apart true m n g f
def touchB (n m : Nat) (f g : Nat → Int) : Bool := !overB n m f g && (!apart false n m f g && !apart false m n g f)
set_option maxHeartbeats 1000000 in
theorem over_spec (a1 a2 : Option Addr) (n m c1 c2 : Nat) (f g : Nat → Int) (hf : ∀ i, b16 (f i)) (hg : ∀ i, b16 (g i)) (hp : 0 < n) (hq : 0 < m) (hn : n ≤ 8) (hm : m ≤ 8) (W : World) (h1 : Sl W (.slice a1 n c1) n 2 .i16 f) (h2 : Sl W (.slice a2 m c2) m 2 .i16 g) :
    Calls Try.prog 78 #[.slice a1 n c1, .slice a2 m c2] W fun e w' => e = .returned (.bool (overB n m f g)) ∧ New W w' := by
  unfold overB
  cases ha : apart true n m f g
  · go_enter Try.func78, Try.ntmps78
    go_wp2_with (fail)
    refine (l03Apart_any true _ _ n m _ _ f g hf hg hp hq hn hm _ h1 h2).mono ?_
    rintro e1 w1 ⟨rfl, hn1⟩
    have ho1 := hn1.objs
    have hz1 := hn1.le
    try simp at hz1
    rw [ha]
    go_wp2_with (fail)
    refine (l03Apart_any true _ _ m n _ _ g f hg hf hq hp hm hn _ (h2.new hn1) (h1.new hn1)).mono ?_
    rintro e2 w2 ⟨rfl, hn2⟩
    have ho2 := hn2.objs
    have hz2 := hn2.le
    try simp at hz2
    go_wp2_with (fail)
    go_ret
    exact ⟨rfl, hn1.trans hn2⟩
  · go_enter Try.func78, Try.ntmps78
    go_wp2_with (fail)
    refine (l03Apart_any true _ _ n m _ _ f g hf hg hp hq hn hm _ h1 h2).mono ?_
    rintro e3 w3 ⟨rfl, hn3⟩
    have ho3 := hn3.objs
    have hz3 := hn3.le
    try simp at hz3
    rw [ha]
    go_wp2_with (fail)
    go_ret
    exact ⟨rfl, hn3⟩
set_option maxHeartbeats 1000000 in
theorem over_impl (a1 a2 : Option Addr) (n m c1 c2 : Nat) (f g : Nat → Int) (hf : ∀ i, b16 (f i)) (hg : ∀ i, b16 (g i)) (hp : 0 < n) (hq : 0 < m) (hn : n ≤ 8) (hm : m ≤ 8) (W : World) (h1 : Sl W (.slice a1 n c1) n 2 .i16 f) (h2 : Sl W (.slice a2 m c2) m 2 .i16 g) :
    Calls Try.prog 79 #[.slice a1 n c1, .slice a2 m c2] W fun e w' => e = .returned (.bool (overB n m f g)) ∧ New W w' := by
  unfold overB
  cases ha : apart true n m f g
  · go_enter Try.func79, Try.ntmps79
    go_wp2_with (fail)
    refine (parts_any false _ _ n m _ _ f g hf hg hp hn hm _ h1 h2).mono ?_
    rintro e1 w1 ⟨rfl, hn1⟩
    have ho1 := hn1.objs
    have hz1 := hn1.le
    try simp at hz1
    rw [show apart (!false) n m f g = false from ha]
    go_wp2_with (fail)
    refine (parts_any false _ _ m n _ _ g f hg hf hq hm hn _ (h2.new hn1) (h1.new hn1)).mono ?_
    rintro e2 w2 ⟨rfl, hn2⟩
    have ho2 := hn2.objs
    have hz2 := hn2.le
    try simp at hz2
    go_wp2_with (fail)
    go_ret
    exact ⟨rfl, hn1.trans hn2⟩
  · go_enter Try.func79, Try.ntmps79
    go_wp2_with (fail)
    refine (parts_any false _ _ n m _ _ f g hf hg hp hn hm _ h1 h2).mono ?_
    rintro e3 w3 ⟨rfl, hn3⟩
    have ho3 := hn3.objs
    have hz3 := hn3.le
    try simp at hz3
    rw [show apart (!false) n m f g = true from ha]
    go_wp2_with (fail)
    go_ret
    exact ⟨rfl, hn3⟩
theorem okSto_len {n : Nat} {f : Nat → Int} (h : okSto n f = true) : 3 ≤ n ∧ n ≤ 8 := by
  unfold okSto at h
  rw [Bool.and_eq_true] at h
  have := inB_t.1 h.1
  omega
def twoV (ok1 ok2 r : Bool) : Bool × Int := if ok1 = true ∧ ok2 = true then (r, 0) else (false, 1)
theorem twoV_1 {b r : Bool} : twoV false b r = (false, 1) := rfl
theorem twoV_2 {b r : Bool} : twoV b false r = (false, 1) := by cases b <;> rfl
theorem twoV_3 {r : Bool} : twoV true true r = (r, 0) := rfl
set_option maxHeartbeats 1000000 in
theorem doOverlap_spec (a1 a2 : Option Addr) (n m c1 c2 : Nat) (f g : Nat → Int) (hf : ∀ i, b16 (f i)) (hg : ∀ i, b16 (g i)) (hn : n ≤ 1048576) (hm : m ≤ 1048576) (W : World) (h1 : Sl W (.slice a1 n c1) n 2 .i16 f) (h2 : Sl W (.slice a2 m c2) m 2 .i16 g) :
    Calls Try.prog 46 #[.slice a1 n c1, .slice a2 m c2] W fun e w' => e = .returned (.tuple #[.bool (twoV (okSto n f) (okSto m g) (overB n m f g)).1, .int .i64 (twoV (okSto n f) (okSto m g) (overB n m f g)).2]) ∧ New W w' := by
  cases k1 : okSto n f
  · rw [twoV_1]
    go_enter Try.func46, Try.ntmps46
    go_wp2_with (fail)
    refine (l03Ok_any _ n _ f hf hn _ h1).mono ?_
    rintro e1 w1 ⟨rfl, hn1⟩
    have ho1 := hn1.objs
    have hz1 := hn1.le
    try simp at hz1
    rw [k1]
    go_wp2_with (fail)
    go_ret2
    exact ⟨rfl, hn1⟩
  have hl1 := okSto_len k1
  cases k2 : okSto m g
  · rw [twoV_2]
    go_enter Try.func46, Try.ntmps46
    go_wp2_with (fail)
    refine (l03Ok_any _ n _ f hf hn _ h1).mono ?_
    rintro e2 w2 ⟨rfl, hn2⟩
    have ho2 := hn2.objs
    have hz2 := hn2.le
    try simp at hz2
    rw [k1]
    go_wp2_with (fail)
    refine (l03Ok_any _ m _ g hg hm _ (h2.new hn2)).mono ?_
    rintro e3 w3 ⟨rfl, hn3⟩
    have ho3 := hn3.objs
    have hz3 := hn3.le
    try simp at hz3
    rw [k2]
    go_wp2_with (fail)
    go_ret2
    exact ⟨rfl, hn2.trans hn3⟩
  have hl2 := okSto_len k2
  rw [twoV_3]
  go_enter Try.func46, Try.ntmps46
  go_wp2_with (fail)
  refine (l03Ok_any _ n _ f hf hn _ h1).mono ?_
  rintro e4 w4 ⟨rfl, hn4⟩
  have ho4 := hn4.objs
  have hz4 := hn4.le
  try simp at hz4
  rw [k1]
  go_wp2_with (fail)
  refine (l03Ok_any _ m _ g hg hm _ (h2.new hn4)).mono ?_
  rintro e5 w5 ⟨rfl, hn5⟩
  have ho5 := hn5.objs
  have hz5 := hn5.le
  try simp at hz5
  rw [k2]
  have h1' := (h1.new hn4).new hn5
  have h2' := (h2.new hn4).new hn5
  have hN := hn4.trans hn5
  clear hn4 hn5 ho4 ho5
  go_wp2_with (fail)
  refine (over_spec _ _ n m _ _ f g hf hg (by omega) (by omega) (by omega) (by omega) _ h1' h2').mono ?_
  rintro e6 w6 ⟨rfl, hn6⟩
  have ho6 := hn6.objs
  have hz6 := hn6.le
  try simp at hz6
  go_wp2_with (fail)
  go_ret2
  exact ⟨rfl, hN.trans hn6⟩
set_option maxHeartbeats 1000000 in
theorem doOverlap_impl (a1 a2 : Option Addr) (n m c1 c2 : Nat) (f g : Nat → Int) (hf : ∀ i, b16 (f i)) (hg : ∀ i, b16 (g i)) (hn : n ≤ 1048576) (hm : m ≤ 1048576) (W : World) (h1 : Sl W (.slice a1 n c1) n 2 .i16 f) (h2 : Sl W (.slice a2 m c2) m 2 .i16 g) :
    Calls Try.prog 47 #[.slice a1 n c1, .slice a2 m c2] W fun e w' => e = .returned (.tuple #[.bool (twoV (okSto n f) (okSto m g) (overB n m f g)).1, .int .i64 (twoV (okSto n f) (okSto m g) (overB n m f g)).2]) ∧ New W w' := by
  cases k1 : okSto n f
  · rw [twoV_1]
    go_enter Try.func47, Try.ntmps47
    go_wp2_with (fail)
    refine (validSto_impl _ n _ f hf hn _ h1).mono ?_
    rintro e1 w1 ⟨rfl, hn1⟩
    have ho1 := hn1.objs
    have hz1 := hn1.le
    try simp at hz1
    rw [k1]
    go_wp2_with (fail)
    go_ret2
    exact ⟨rfl, hn1⟩
  have hl1 := okSto_len k1
  cases k2 : okSto m g
  · rw [twoV_2]
    go_enter Try.func47, Try.ntmps47
    go_wp2_with (fail)
    refine (validSto_impl _ n _ f hf hn _ h1).mono ?_
    rintro e2 w2 ⟨rfl, hn2⟩
    have ho2 := hn2.objs
    have hz2 := hn2.le
    try simp at hz2
    rw [k1]
    go_wp2_with (fail)
    refine (validSto_impl _ m _ g hg hm _ (h2.new hn2)).mono ?_
    rintro e3 w3 ⟨rfl, hn3⟩
    have ho3 := hn3.objs
    have hz3 := hn3.le
    try simp at hz3
    rw [k2]
    go_wp2_with (fail)
    go_ret2
    exact ⟨rfl, hn2.trans hn3⟩
  have hl2 := okSto_len k2
  rw [twoV_3]
  go_enter Try.func47, Try.ntmps47
  go_wp2_with (fail)
  refine (validSto_impl _ n _ f hf hn _ h1).mono ?_
  rintro e4 w4 ⟨rfl, hn4⟩
  have ho4 := hn4.objs
  have hz4 := hn4.le
  try simp at hz4
  rw [k1]
  go_wp2_with (fail)
  refine (validSto_impl _ m _ g hg hm _ (h2.new hn4)).mono ?_
  rintro e5 w5 ⟨rfl, hn5⟩
  have ho5 := hn5.objs
  have hz5 := hn5.le
  try simp at hz5
  rw [k2]
  have h1' := (h1.new hn4).new hn5
  have h2' := (h2.new hn4).new hn5
  have hN := hn4.trans hn5
  clear hn4 hn5 ho4 ho5
  go_wp2_with (fail)
  refine (over_impl _ _ n m _ _ f g hf hg (by omega) (by omega) (by omega) (by omega) _ h1' h2').mono ?_
  rintro e6 w6 ⟨rfl, hn6⟩
  have ho6 := hn6.objs
  have hz6 := hn6.le
  try simp at hz6
  go_wp2_with (fail)
  go_ret2
  exact ⟨rfl, hN.trans hn6⟩
set_option maxHeartbeats 1000000 in
theorem doTouch_spec (a1 a2 : Option Addr) (n m c1 c2 : Nat) (f g : Nat → Int) (hf : ∀ i, b16 (f i)) (hg : ∀ i, b16 (g i)) (hn : n ≤ 1048576) (hm : m ≤ 1048576) (W : World) (h1 : Sl W (.slice a1 n c1) n 2 .i16 f) (h2 : Sl W (.slice a2 m c2) m 2 .i16 g) :
    Calls Try.prog 48 #[.slice a1 n c1, .slice a2 m c2] W fun e w' => e = .returned (.tuple #[.bool (twoV (okSto n f) (okSto m g) (touchB n m f g)).1, .int .i64 (twoV (okSto n f) (okSto m g) (touchB n m f g)).2]) ∧ New W w' := by
  cases k1 : okSto n f
  · rw [twoV_1]
    go_enter Try.func48, Try.ntmps48
    go_wp2_with (fail)
    refine (l03Ok_any _ n _ f hf hn _ h1).mono ?_
    rintro e1 w1 ⟨rfl, hn1⟩
    have ho1 := hn1.objs
    have hz1 := hn1.le
    try simp at hz1
    rw [k1]
    go_wp2_with (fail)
    go_ret2
    exact ⟨rfl, hn1⟩
  have hl1 := okSto_len k1
  cases k2 : okSto m g
  · rw [twoV_2]
    go_enter Try.func48, Try.ntmps48
    go_wp2_with (fail)
    refine (l03Ok_any _ n _ f hf hn _ h1).mono ?_
    rintro e2 w2 ⟨rfl, hn2⟩
    have ho2 := hn2.objs
    have hz2 := hn2.le
    try simp at hz2
    rw [k1]
    go_wp2_with (fail)
    refine (l03Ok_any _ m _ g hg hm _ (h2.new hn2)).mono ?_
    rintro e3 w3 ⟨rfl, hn3⟩
    have ho3 := hn3.objs
    have hz3 := hn3.le
    try simp at hz3
    rw [k2]
    go_wp2_with (fail)
    go_ret2
    exact ⟨rfl, hn2.trans hn3⟩
  have hl2 := okSto_len k2
  rw [twoV_3]
  unfold touchB
  cases k3 : overB n m f g
  rotate_left
  · go_enter Try.func48, Try.ntmps48
    go_wp2_with (fail)
    refine (l03Ok_any _ n _ f hf hn _ h1).mono ?_
    rintro e4 w4 ⟨rfl, hn4⟩
    have ho4 := hn4.objs
    have hz4 := hn4.le
    try simp at hz4
    rw [k1]
    go_wp2_with (fail)
    refine (l03Ok_any _ m _ g hg hm _ (h2.new hn4)).mono ?_
    rintro e5 w5 ⟨rfl, hn5⟩
    have ho5 := hn5.objs
    have hz5 := hn5.le
    try simp at hz5
    rw [k2]
    have h1' := (h1.new hn4).new hn5
    have h2' := (h2.new hn4).new hn5
    have hN := hn4.trans hn5
    clear hn4 hn5 ho4 ho5
    go_wp2_with (fail)
    refine (over_spec _ _ n m _ _ f g hf hg (by omega) (by omega) (by omega) (by omega) _ h1' h2').mono ?_
    rintro e6 w6 ⟨rfl, hn6⟩
    have ho6 := hn6.objs
    have hz6 := hn6.le
    try simp at hz6
    rw [k3]
    go_wp2_with (fail)
    go_ret2
    exact ⟨rfl, hN.trans hn6⟩
  cases k4 : apart false n m f g
  rotate_left
  · go_enter Try.func48, Try.ntmps48
    go_wp2_with (fail)
    refine (l03Ok_any _ n _ f hf hn _ h1).mono ?_
    rintro e7 w7 ⟨rfl, hn7⟩
    have ho7 := hn7.objs
    have hz7 := hn7.le
    try simp at hz7
    rw [k1]
    go_wp2_with (fail)
    refine (l03Ok_any _ m _ g hg hm _ (h2.new hn7)).mono ?_
    rintro e8 w8 ⟨rfl, hn8⟩
    have ho8 := hn8.objs
    have hz8 := hn8.le
    try simp at hz8
    rw [k2]
    have h1' := (h1.new hn7).new hn8
    have h2' := (h2.new hn7).new hn8
    have hN := hn7.trans hn8
    clear hn7 hn8 ho7 ho8
    go_wp2_with (fail)
    refine (over_spec _ _ n m _ _ f g hf hg (by omega) (by omega) (by omega) (by omega) _ h1' h2').mono ?_
    rintro e9 w9 ⟨rfl, hn9⟩
    have ho9 := hn9.objs
    have hz9 := hn9.le
    try simp at hz9
    rw [k3]
    go_wp2_with (fail)
    refine (l03Apart_any false _ _ n m _ _ f g hf hg (by omega) (by omega) (by omega) (by omega) _ (h1'.new hn9) (h2'.new hn9)).mono ?_
    rintro e10 w10 ⟨rfl, hn10⟩
    have ho10 := hn10.objs
    have hz10 := hn10.le
    try simp at hz10
    rw [show apart false n m f g = true from k4]
    go_wp2_with (fail)
    go_ret2
    exact ⟨rfl, (hN.trans hn9).trans hn10⟩
  go_enter Try.func48, Try.ntmps48
  go_wp2_with (fail)
  refine (l03Ok_any _ n _ f hf hn _ h1).mono ?_
  rintro e11 w11 ⟨rfl, hn11⟩
  have ho11 := hn11.objs
  have hz11 := hn11.le
  try simp at hz11
  rw [k1]
  go_wp2_with (fail)
  refine (l03Ok_any _ m _ g hg hm _ (h2.new hn11)).mono ?_
  rintro e12 w12 ⟨rfl, hn12⟩
  have ho12 := hn12.objs
  have hz12 := hn12.le
  try simp at hz12
  rw [k2]
  have h1' := (h1.new hn11).new hn12
  have h2' := (h2.new hn11).new hn12
  have hN := hn11.trans hn12
  clear hn11 hn12 ho11 ho12
  go_wp2_with (fail)
  refine (over_spec _ _ n m _ _ f g hf hg (by omega) (by omega) (by omega) (by omega) _ h1' h2').mono ?_
  rintro e13 w13 ⟨rfl, hn13⟩
  have ho13 := hn13.objs
  have hz13 := hn13.le
  try simp at hz13
  rw [k3]
  go_wp2_with (fail)
  refine (l03Apart_any false _ _ n m _ _ f g hf hg (by omega) (by omega) (by omega) (by omega) _ (h1'.new hn13) (h2'.new hn13)).mono ?_
  rintro e14 w14 ⟨rfl, hn14⟩
  have ho14 := hn14.objs
  have hz14 := hn14.le
  try simp at hz14
  rw [show apart false n m f g = false from k4]
  go_wp2_with (fail)
  refine (l03Apart_any false _ _ m n _ _ g f hg hf (by omega) (by omega) (by omega) (by omega) _ ((h2'.new hn13).new hn14) ((h1'.new hn13).new hn14)).mono ?_
  rintro e15 w15 ⟨rfl, hn15⟩
  have ho15 := hn15.objs
  have hz15 := hn15.le
  try simp at hz15
  go_wp2_with (fail)
  go_ret2
  exact ⟨rfl, ((hN.trans hn13).trans hn14).trans hn15⟩
set_option maxHeartbeats 1000000 in
theorem doTouch_impl (a1 a2 : Option Addr) (n m c1 c2 : Nat) (f g : Nat → Int) (hf : ∀ i, b16 (f i)) (hg : ∀ i, b16 (g i)) (hn : n ≤ 1048576) (hm : m ≤ 1048576) (W : World) (h1 : Sl W (.slice a1 n c1) n 2 .i16 f) (h2 : Sl W (.slice a2 m c2) m 2 .i16 g) :
    Calls Try.prog 49 #[.slice a1 n c1, .slice a2 m c2] W fun e w' => e = .returned (.tuple #[.bool (twoV (okSto n f) (okSto m g) (touchB n m f g)).1, .int .i64 (twoV (okSto n f) (okSto m g) (touchB n m f g)).2]) ∧ New W w' := by
  cases k1 : okSto n f
  · rw [twoV_1]
    go_enter Try.func49, Try.ntmps49
    go_wp2_with (fail)
    refine (validSto_impl _ n _ f hf hn _ h1).mono ?_
    rintro e1 w1 ⟨rfl, hn1⟩
    have ho1 := hn1.objs
    have hz1 := hn1.le
    try simp at hz1
    rw [k1]
    go_wp2_with (fail)
    go_ret2
    exact ⟨rfl, hn1⟩
  have hl1 := okSto_len k1
  cases k2 : okSto m g
  · rw [twoV_2]
    go_enter Try.func49, Try.ntmps49
    go_wp2_with (fail)
    refine (validSto_impl _ n _ f hf hn _ h1).mono ?_
    rintro e2 w2 ⟨rfl, hn2⟩
    have ho2 := hn2.objs
    have hz2 := hn2.le
    try simp at hz2
    rw [k1]
    go_wp2_with (fail)
    refine (validSto_impl _ m _ g hg hm _ (h2.new hn2)).mono ?_
    rintro e3 w3 ⟨rfl, hn3⟩
    have ho3 := hn3.objs
    have hz3 := hn3.le
    try simp at hz3
    rw [k2]
    go_wp2_with (fail)
    go_ret2
    exact ⟨rfl, hn2.trans hn3⟩
  have hl2 := okSto_len k2
  rw [twoV_3]
  unfold touchB
  cases k3 : overB n m f g
  rotate_left
  · go_enter Try.func49, Try.ntmps49
    go_wp2_with (fail)
    refine (validSto_impl _ n _ f hf hn _ h1).mono ?_
    rintro e4 w4 ⟨rfl, hn4⟩
    have ho4 := hn4.objs
    have hz4 := hn4.le
    try simp at hz4
    rw [k1]
    go_wp2_with (fail)
    refine (validSto_impl _ m _ g hg hm _ (h2.new hn4)).mono ?_
    rintro e5 w5 ⟨rfl, hn5⟩
    have ho5 := hn5.objs
    have hz5 := hn5.le
    try simp at hz5
    rw [k2]
    have h1' := (h1.new hn4).new hn5
    have h2' := (h2.new hn4).new hn5
    have hN := hn4.trans hn5
    clear hn4 hn5 ho4 ho5
    go_wp2_with (fail)
    refine (over_impl _ _ n m _ _ f g hf hg (by omega) (by omega) (by omega) (by omega) _ h1' h2').mono ?_
    rintro e6 w6 ⟨rfl, hn6⟩
    have ho6 := hn6.objs
    have hz6 := hn6.le
    try simp at hz6
    rw [k3]
    go_wp2_with (fail)
    go_ret2
    exact ⟨rfl, hN.trans hn6⟩
  cases k4 : apart false n m f g
  rotate_left
  · go_enter Try.func49, Try.ntmps49
    go_wp2_with (fail)
    refine (validSto_impl _ n _ f hf hn _ h1).mono ?_
    rintro e7 w7 ⟨rfl, hn7⟩
    have ho7 := hn7.objs
    have hz7 := hn7.le
    try simp at hz7
    rw [k1]
    go_wp2_with (fail)
    refine (validSto_impl _ m _ g hg hm _ (h2.new hn7)).mono ?_
    rintro e8 w8 ⟨rfl, hn8⟩
    have ho8 := hn8.objs
    have hz8 := hn8.le
    try simp at hz8
    rw [k2]
    have h1' := (h1.new hn7).new hn8
    have h2' := (h2.new hn7).new hn8
    have hN := hn7.trans hn8
    clear hn7 hn8 ho7 ho8
    go_wp2_with (fail)
    refine (over_impl _ _ n m _ _ f g hf hg (by omega) (by omega) (by omega) (by omega) _ h1' h2').mono ?_
    rintro e9 w9 ⟨rfl, hn9⟩
    have ho9 := hn9.objs
    have hz9 := hn9.le
    try simp at hz9
    rw [k3]
    go_wp2_with (fail)
    refine (parts_any true _ _ n m _ _ f g hf hg (by omega) (by omega) (by omega) _ (h1'.new hn9) (h2'.new hn9)).mono ?_
    rintro e10 w10 ⟨rfl, hn10⟩
    have ho10 := hn10.objs
    have hz10 := hn10.le
    try simp at hz10
    rw [show apart (!true) n m f g = true from k4]
    go_wp2_with (fail)
    go_ret2
    exact ⟨rfl, (hN.trans hn9).trans hn10⟩
  go_enter Try.func49, Try.ntmps49
  go_wp2_with (fail)
  refine (validSto_impl _ n _ f hf hn _ h1).mono ?_
  rintro e11 w11 ⟨rfl, hn11⟩
  have ho11 := hn11.objs
  have hz11 := hn11.le
  try simp at hz11
  rw [k1]
  go_wp2_with (fail)
  refine (validSto_impl _ m _ g hg hm _ (h2.new hn11)).mono ?_
  rintro e12 w12 ⟨rfl, hn12⟩
  have ho12 := hn12.objs
  have hz12 := hn12.le
  try simp at hz12
  rw [k2]
  have h1' := (h1.new hn11).new hn12
  have h2' := (h2.new hn11).new hn12
  have hN := hn11.trans hn12
  clear hn11 hn12 ho11 ho12
  go_wp2_with (fail)
  refine (over_impl _ _ n m _ _ f g hf hg (by omega) (by omega) (by omega) (by omega) _ h1' h2').mono ?_
  rintro e13 w13 ⟨rfl, hn13⟩
  have ho13 := hn13.objs
  have hz13 := hn13.le
  try simp at hz13
  rw [k3]
  go_wp2_with (fail)
  refine (parts_any true _ _ n m _ _ f g hf hg (by omega) (by omega) (by omega) _ (h1'.new hn13) (h2'.new hn13)).mono ?_
  rintro e14 w14 ⟨rfl, hn14⟩
  have ho14 := hn14.objs
  have hz14 := hn14.le
  try simp at hz14
  rw [show apart (!true) n m f g = false from k4]
  go_wp2_with (fail)
  refine (parts_any true _ _ m n _ _ g f hg hf (by omega) (by omega) (by omega) _ ((h2'.new hn13).new hn14) ((h1'.new hn13).new hn14)).mono ?_
  rintro e15 w15 ⟨rfl, hn15⟩
  have ho15 := hn15.objs
  have hz15 := hn15.le
  try simp at hz15
  go_wp2_with (fail)
  go_ret2
  exact ⟨rfl, ((hN.trans hn13).trans hn14).trans hn15⟩
end Go.Proofs.Ytedbagefigclgaa
