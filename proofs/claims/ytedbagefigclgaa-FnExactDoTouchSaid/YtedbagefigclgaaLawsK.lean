/- Laws over palettes and stones, walked; no condition. -/
import Derived.Test.YtedbagefigclgaaOver
import Derived.Test.YtedbagefigclgaaPic
set_option linter.unusedVariables false
namespace Go.Proofs.Ytedbagefigclgaa
open Go.BigFrame
open Go.RowKit Go.Arr
set_option maxHeartbeats 1000000 in
set_option maxRecDepth 100000 in
theorem DoOverlap_law (v0 : Value) (n0 : Nat) (f0 : Nat → Int) (hm0 : n0 ≤ maxLen) (hf0 : ∀ i, -32768 ≤ f0 i ∧ f0 i ≤ 32767) (v1 : Value) (n1 : Nat) (f1 : Nat → Int) (hm1 : n1 ≤ maxLen) (hf1 : ∀ i, -32768 ≤ f1 i ∧ f1 i ≤ 32767) (w : World) (hs0 : Sl w v0 n0 2 .i16 f0) (hs1 : Sl w v1 n1 2 .i16 f1) :
    Calls Try.prog 12 #[v0, v1] w fun e w' => e = .returned (.bool true) ∧ New w w' := by
  obtain ⟨a0, c0, rfl, t0⟩ := hs0
  have hs0 : Sl w (.slice a0 n0 c0) n0 2 .i16 f0 := ⟨a0, c0, rfl, t0⟩
  clear t0
  obtain ⟨a1, c1, rfl, t1⟩ := hs1
  have hs1 : Sl w (.slice a1 n1 c1) n1 2 .i16 f1 := ⟨a1, c1, rfl, t1⟩
  clear t1
  by_cases hz0 : (1048576 : Int) < n0
  · go_enter Try.func12, Try.ntmps12
    go_wp2_with (fail)
    refine (szStone_any a0 n0 c0 (1048576) hm0 (by omega) _).mono ?_
    rintro e1 w1 ⟨rfl, rfl⟩
    rw [if_pos (by omega)]
    go_wp2_with (fail)
    go_ret
    exact ⟨rfl, New.refl w⟩
  by_cases hz1 : (1048576 - n0 : Int) < n1
  · go_enter Try.func12, Try.ntmps12
    go_wp2_with (fail)
    refine (szStone_any a0 n0 c0 (1048576) hm0 (by omega) _).mono ?_
    rintro e1 w1 ⟨rfl, rfl⟩
    rw [if_neg (by omega)]
    go_wp2_with (fail)
    refine (szStone_any a1 n1 c1 (1048576 - n0) hm1 (by omega) _).mono ?_
    rintro e1 w1 ⟨rfl, rfl⟩
    rw [if_pos (by omega)]
    go_wp2_with (fail)
    go_ret
    exact ⟨rfl, New.refl w⟩
  have hb0 : n0 ≤ 1048576 := by omega
  have hb1 : n1 ≤ 1048576 := by omega
  go_enter Try.func12, Try.ntmps12
  go_wp2_with (fail)
  refine (szStone_any a0 n0 c0 (1048576) hm0 (by omega) _).mono ?_
  rintro e1 w1 ⟨rfl, rfl⟩
  rw [if_neg (by omega)]
  go_wp2_with (fail)
  refine (szStone_any a1 n1 c1 (1048576 - n0) hm1 (by omega) _).mono ?_
  rintro e1 w1 ⟨rfl, rfl⟩
  rw [if_neg (by omega)]
  go_wp2_with (fail)
  refine (toStone_any _ n0 f0 hb0 _ hs0).mono ?_
  rintro e1 w1 ⟨g1, rfl, P1, l1, hn1⟩
  have hN_1 := (New.refl w).trans hn1
  have hs0_1 := hs0.new hn1
  have hs1_1 := hs1.new hn1
  go_wp2_with (fail)
  refine (toStone_any _ n1 f1 hb1 _ hs1_1).mono ?_
  rintro e2 w2 ⟨g2, rfl, P2, l2, hn2⟩
  have hN_2 := hN_1.trans hn2
  have hs0_2 := hs0_1.new hn2
  have hs1_2 := hs1_1.new hn2
  have p0_2 := P1.new hn2
  go_wp2_with (fail)
  refine (doOverlap_spec _ _ n0 n1 n0 n1 f0 f1 hf0 hf1 hb0 hb1 _ p0_2.sl P2.sl).mono ?_
  rintro e3 w3 ⟨rfl, hn3⟩
  have hN_3 := hN_2.trans hn3
  have hs0_3 := hs0_2.new hn3
  have hs1_3 := hs1_2.new hn3
  have p0_3 := p0_2.new hn3
  have p1_3 := P2.new hn3
  go_wp2_with (fail)
  refine (toStone_any _ n0 f0 hb0 _ hs0_3).mono ?_
  rintro e4 w4 ⟨g4, rfl, P4, l4, hn4⟩
  have hN_4 := hN_3.trans hn4
  have hs0_4 := hs0_3.new hn4
  have hs1_4 := hs1_3.new hn4
  go_wp2_with (fail)
  refine (toStone_any _ n1 f1 hb1 _ hs1_4).mono ?_
  rintro e5 w5 ⟨g5, rfl, P5, l5, hn5⟩
  have hN_5 := hN_4.trans hn5
  have hs0_5 := hs0_4.new hn5
  have hs1_5 := hs1_4.new hn5
  have p0_5 := P4.new hn5
  go_wp2_with (fail)
  refine (doOverlap_impl _ _ n0 n1 n0 n1 f0 f1 hf0 hf1 hb0 hb1 _ p0_5.sl P5.sl).mono ?_
  rintro e6 w6 ⟨rfl, hn6⟩
  have hN_6 := hN_5.trans hn6
  have hs0_6 := hs0_5.new hn6
  have hs1_6 := hs1_5.new hn6
  have p0_6 := p0_5.new hn6
  have p1_6 := P5.new hn6
  have hq1 : ∀ b : Bool, (b != b) = false := by simp
  have hq2 : ∀ k : Int, (k != k) = false := by simp
  go_wp2_with (fail)
  refine (toStone_any _ n0 f0 hb0 _ hs0_6).mono ?_
  rintro e7 w7 ⟨g7, rfl, P7, l7, hn7⟩
  have hN_7 := hN_6.trans hn7
  have hs0_7 := hs0_6.new hn7
  have hs1_7 := hs1_6.new hn7
  have p0_7 := p0_6.new hn7
  have p1_7 := p1_6.new hn7
  go_wp2_with (fail)
  refine (eqStone_refl _ _ n0 n0 n0 f0 hb0 _ p0_7.sl P7.sl).mono ?_
  rintro e8 w8 ⟨rfl, hn8⟩
  have hN_8 := hN_7.trans hn8
  have hs0_8 := hs0_7.new hn8
  have hs1_8 := hs1_7.new hn8
  have p0_8 := p0_7.new hn8
  have p1_8 := p1_7.new hn8
  have r_8 := P7.new hn8
  go_wp2_with (fail)
  refine (toStone_any _ n1 f1 hb1 _ hs1_8).mono ?_
  rintro e9 w9 ⟨g9, rfl, P9, l9, hn9⟩
  have hN_9 := hN_8.trans hn9
  have hs0_9 := hs0_8.new hn9
  have hs1_9 := hs1_8.new hn9
  have p0_9 := p0_8.new hn9
  have p1_9 := p1_8.new hn9
  go_wp2_with (fail)
  refine (eqStone_refl _ _ n1 n1 n1 f1 hb1 _ p1_9.sl P9.sl).mono ?_
  rintro e10 w10 ⟨rfl, hn10⟩
  have hN_10 := hN_9.trans hn10
  have hs0_10 := hs0_9.new hn10
  have hs1_10 := hs1_9.new hn10
  have p0_10 := p0_9.new hn10
  have p1_10 := p1_9.new hn10
  have r_10 := P9.new hn10
  go_wp2_with (fail)
  go_ret
  exact ⟨rfl, hN_10⟩
set_option maxHeartbeats 1000000 in
set_option maxRecDepth 100000 in
theorem DoTouch_law (v0 : Value) (n0 : Nat) (f0 : Nat → Int) (hm0 : n0 ≤ maxLen) (hf0 : ∀ i, -32768 ≤ f0 i ∧ f0 i ≤ 32767) (v1 : Value) (n1 : Nat) (f1 : Nat → Int) (hm1 : n1 ≤ maxLen) (hf1 : ∀ i, -32768 ≤ f1 i ∧ f1 i ≤ 32767) (w : World) (hs0 : Sl w v0 n0 2 .i16 f0) (hs1 : Sl w v1 n1 2 .i16 f1) :
    Calls Try.prog 13 #[v0, v1] w fun e w' => e = .returned (.bool true) ∧ New w w' := by
  obtain ⟨a0, c0, rfl, t0⟩ := hs0
  have hs0 : Sl w (.slice a0 n0 c0) n0 2 .i16 f0 := ⟨a0, c0, rfl, t0⟩
  clear t0
  obtain ⟨a1, c1, rfl, t1⟩ := hs1
  have hs1 : Sl w (.slice a1 n1 c1) n1 2 .i16 f1 := ⟨a1, c1, rfl, t1⟩
  clear t1
  by_cases hz0 : (1048576 : Int) < n0
  · go_enter Try.func13, Try.ntmps13
    go_wp2_with (fail)
    refine (szStone_any a0 n0 c0 (1048576) hm0 (by omega) _).mono ?_
    rintro e1 w1 ⟨rfl, rfl⟩
    rw [if_pos (by omega)]
    go_wp2_with (fail)
    go_ret
    exact ⟨rfl, New.refl w⟩
  by_cases hz1 : (1048576 - n0 : Int) < n1
  · go_enter Try.func13, Try.ntmps13
    go_wp2_with (fail)
    refine (szStone_any a0 n0 c0 (1048576) hm0 (by omega) _).mono ?_
    rintro e1 w1 ⟨rfl, rfl⟩
    rw [if_neg (by omega)]
    go_wp2_with (fail)
    refine (szStone_any a1 n1 c1 (1048576 - n0) hm1 (by omega) _).mono ?_
    rintro e1 w1 ⟨rfl, rfl⟩
    rw [if_pos (by omega)]
    go_wp2_with (fail)
    go_ret
    exact ⟨rfl, New.refl w⟩
  have hb0 : n0 ≤ 1048576 := by omega
  have hb1 : n1 ≤ 1048576 := by omega
  go_enter Try.func13, Try.ntmps13
  go_wp2_with (fail)
  refine (szStone_any a0 n0 c0 (1048576) hm0 (by omega) _).mono ?_
  rintro e1 w1 ⟨rfl, rfl⟩
  rw [if_neg (by omega)]
  go_wp2_with (fail)
  refine (szStone_any a1 n1 c1 (1048576 - n0) hm1 (by omega) _).mono ?_
  rintro e1 w1 ⟨rfl, rfl⟩
  rw [if_neg (by omega)]
  go_wp2_with (fail)
  refine (toStone_any _ n0 f0 hb0 _ hs0).mono ?_
  rintro e1 w1 ⟨g1, rfl, P1, l1, hn1⟩
  have hN_1 := (New.refl w).trans hn1
  have hs0_1 := hs0.new hn1
  have hs1_1 := hs1.new hn1
  go_wp2_with (fail)
  refine (toStone_any _ n1 f1 hb1 _ hs1_1).mono ?_
  rintro e2 w2 ⟨g2, rfl, P2, l2, hn2⟩
  have hN_2 := hN_1.trans hn2
  have hs0_2 := hs0_1.new hn2
  have hs1_2 := hs1_1.new hn2
  have p0_2 := P1.new hn2
  go_wp2_with (fail)
  refine (doTouch_spec _ _ n0 n1 n0 n1 f0 f1 hf0 hf1 hb0 hb1 _ p0_2.sl P2.sl).mono ?_
  rintro e3 w3 ⟨rfl, hn3⟩
  have hN_3 := hN_2.trans hn3
  have hs0_3 := hs0_2.new hn3
  have hs1_3 := hs1_2.new hn3
  have p0_3 := p0_2.new hn3
  have p1_3 := P2.new hn3
  go_wp2_with (fail)
  refine (toStone_any _ n0 f0 hb0 _ hs0_3).mono ?_
  rintro e4 w4 ⟨g4, rfl, P4, l4, hn4⟩
  have hN_4 := hN_3.trans hn4
  have hs0_4 := hs0_3.new hn4
  have hs1_4 := hs1_3.new hn4
  go_wp2_with (fail)
  refine (toStone_any _ n1 f1 hb1 _ hs1_4).mono ?_
  rintro e5 w5 ⟨g5, rfl, P5, l5, hn5⟩
  have hN_5 := hN_4.trans hn5
  have hs0_5 := hs0_4.new hn5
  have hs1_5 := hs1_4.new hn5
  have p0_5 := P4.new hn5
  go_wp2_with (fail)
  refine (doTouch_impl _ _ n0 n1 n0 n1 f0 f1 hf0 hf1 hb0 hb1 _ p0_5.sl P5.sl).mono ?_
  rintro e6 w6 ⟨rfl, hn6⟩
  have hN_6 := hN_5.trans hn6
  have hs0_6 := hs0_5.new hn6
  have hs1_6 := hs1_5.new hn6
  have p0_6 := p0_5.new hn6
  have p1_6 := P5.new hn6
  have hq1 : ∀ b : Bool, (b != b) = false := by simp
  have hq2 : ∀ k : Int, (k != k) = false := by simp
  go_wp2_with (fail)
  refine (toStone_any _ n0 f0 hb0 _ hs0_6).mono ?_
  rintro e7 w7 ⟨g7, rfl, P7, l7, hn7⟩
  have hN_7 := hN_6.trans hn7
  have hs0_7 := hs0_6.new hn7
  have hs1_7 := hs1_6.new hn7
  have p0_7 := p0_6.new hn7
  have p1_7 := p1_6.new hn7
  go_wp2_with (fail)
  refine (eqStone_refl _ _ n0 n0 n0 f0 hb0 _ p0_7.sl P7.sl).mono ?_
  rintro e8 w8 ⟨rfl, hn8⟩
  have hN_8 := hN_7.trans hn8
  have hs0_8 := hs0_7.new hn8
  have hs1_8 := hs1_7.new hn8
  have p0_8 := p0_7.new hn8
  have p1_8 := p1_7.new hn8
  have r_8 := P7.new hn8
  go_wp2_with (fail)
  refine (toStone_any _ n1 f1 hb1 _ hs1_8).mono ?_
  rintro e9 w9 ⟨g9, rfl, P9, l9, hn9⟩
  have hN_9 := hN_8.trans hn9
  have hs0_9 := hs0_8.new hn9
  have hs1_9 := hs1_8.new hn9
  have p0_9 := p0_8.new hn9
  have p1_9 := p1_8.new hn9
  go_wp2_with (fail)
  refine (eqStone_refl _ _ n1 n1 n1 f1 hb1 _ p1_9.sl P9.sl).mono ?_
  rintro e10 w10 ⟨rfl, hn10⟩
  have hN_10 := hN_9.trans hn10
  have hs0_10 := hs0_9.new hn10
  have hs1_10 := hs1_9.new hn10
  have p0_10 := p0_9.new hn10
  have p1_10 := p1_9.new hn10
  have r_10 := P9.new hn10
  go_wp2_with (fail)
  go_ret
  exact ⟨rfl, hN_10⟩
end Go.Proofs.Ytedbagefigclgaa
