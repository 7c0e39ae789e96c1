/- Laws over palettes and stones, walked; no condition. -/
import Derived.Test.YtedbagefigclgaaArea
import Derived.Test.YtedbagefigclgaaPic
set_option linter.unusedVariables false
namespace Go.Proofs.Ytedbagefigclgaa
open Go.BigFrame
open Go.RowKit Go.Arr
set_option maxHeartbeats 1000000 in
set_option maxRecDepth 100000 in
theorem AreaTwice_law (v0 : Value) (n0 : Nat) (f0 : Nat → Int) (hm0 : n0 ≤ maxLen) (hf0 : ∀ i, -32768 ≤ f0 i ∧ f0 i ≤ 32767) (w : World) (hs0 : Sl w v0 n0 2 .i16 f0) :
    Calls Try.prog 11 #[v0] w fun e w' => e = .returned (.bool true) ∧ New w w' := by
  obtain ⟨a0, c0, rfl, t0⟩ := hs0
  have hs0 : Sl w (.slice a0 n0 c0) n0 2 .i16 f0 := ⟨a0, c0, rfl, t0⟩
  clear t0
  by_cases hz0 : (1048576 : Int) < n0
  · go_enter Try.func11, Try.ntmps11
    go_wp2_with (fail)
    refine (szStone_any a0 n0 c0 (1048576) hm0 (by omega) _).mono ?_
    rintro e1 w1 ⟨rfl, rfl⟩
    rw [if_pos (by omega)]
    go_wp2_with (fail)
    go_ret
    exact ⟨rfl, New.refl w⟩
  have hb0 : n0 ≤ 1048576 := by omega
  go_enter Try.func11, Try.ntmps11
  go_wp2_with (fail)
  refine (szStone_any a0 n0 c0 (1048576) hm0 (by omega) _).mono ?_
  rintro e1 w1 ⟨rfl, rfl⟩
  rw [if_neg (by omega)]
  go_wp2_with (fail)
  refine (toStone_any _ n0 f0 hb0 _ hs0).mono ?_
  rintro e1 w1 ⟨g1, rfl, P1, l1, hn1⟩
  have hN_1 := (New.refl w).trans hn1
  have hs0_1 := hs0.new hn1
  go_wp2_with (fail)
  refine (areaTwice_spec _ n0 _ f0 hf0 hb0 _ P1.sl).mono ?_
  rintro e2 w2 ⟨rfl, hn2⟩
  have hN_2 := hN_1.trans hn2
  have hs0_2 := hs0_1.new hn2
  have p0_2 := P1.new hn2
  go_wp2_with (fail)
  refine (toStone_any _ n0 f0 hb0 _ hs0_2).mono ?_
  rintro e3 w3 ⟨g3, rfl, P3, l3, hn3⟩
  have hN_3 := hN_2.trans hn3
  have hs0_3 := hs0_2.new hn3
  go_wp2_with (fail)
  refine (areaTwice_impl _ n0 _ f0 hf0 hb0 _ P3.sl).mono ?_
  rintro e4 w4 ⟨rfl, hn4⟩
  have hN_4 := hN_3.trans hn4
  have hs0_4 := hs0_3.new hn4
  have p0_4 := P3.new hn4
  have hq : ∀ k : Int, (k != k) = false := by simp
  go_wp2_with (fail)
  refine (toStone_any _ n0 f0 hb0 _ hs0_4).mono ?_
  rintro e5 w5 ⟨g5, rfl, P5, l5, hn5⟩
  have hN_5 := hN_4.trans hn5
  have hs0_5 := hs0_4.new hn5
  have p0_5 := p0_4.new hn5
  go_wp2_with (fail)
  refine (eqStone_refl _ _ n0 n0 n0 f0 hb0 _ p0_5.sl P5.sl).mono ?_
  rintro e6 w6 ⟨rfl, hn6⟩
  have hN_6 := hN_5.trans hn6
  have hs0_6 := hs0_5.new hn6
  have p0_6 := p0_5.new hn6
  have r_6 := P5.new hn6
  go_wp2_with (fail)
  go_ret
  exact ⟨rfl, hN_6⟩
end Go.Proofs.Ytedbagefigclgaa
