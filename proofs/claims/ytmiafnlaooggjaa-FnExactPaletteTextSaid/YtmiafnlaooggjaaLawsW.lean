/- The law on the text of a palette, walked; no condition. -/
import Derived.Test.YtmiafnlaooggjaaPTx
import Derived.Test.YtmiafnlaooggjaaPal
set_option linter.unusedVariables false
namespace Go.Proofs.Ytmiafnlaooggjaa
open Go.BigFrame
open Go.RowKit Go.Arr
set_option maxHeartbeats 4000000 in
set_option maxRecDepth 100000 in
theorem PaletteText_law (v1 : Value) (n : Nat) (fp : Nat → Int) (hm : n ≤ maxLen) (hfp : ∀ i, 0 ≤ fp i ∧ fp i ≤ 255) (w : World) (hs : Sl w v1 n 3 .u8 fp) :
    Calls Try.prog 3 #[v1] w fun e w' => e = .returned (.bool true) ∧ New w w' := by
  obtain ⟨ad, c, rfl, t0⟩ := hs
  have hs : Sl w (.slice ad n c) n 3 .u8 fp := ⟨ad, c, rfl, t0⟩
  clear t0
  by_cases hbig : (1048576 : Int) < n
  · go_enter Try.func3, Try.ntmps3
    go_wp2_with (fail)
    refine (szPalette_any ad n c (1048576) hm (by omega) _).mono ?_
    rintro e1 w1 ⟨rfl, rfl⟩
    rw [if_pos (by omega)]
    go_wp2_with (fail)
    go_ret
    exact ⟨rfl, New.refl w⟩
  have hn : n ≤ 1048576 := by omega
  generalize hA : ptA n fp = A
  go_enter Try.func3, Try.ntmps3
  go_wp2_with (fail)
  refine (szPalette_any ad n c (1048576) hm (by omega) _).mono ?_
  rintro e_1 v_1 ⟨rfl, rfl⟩
  rw [if_neg (by omega)]
  go_wp2_with (fail)
  refine (toPalette_any _ n fp hn _ hs).mono ?_
  rintro e_2 v_2 ⟨g1, rfl, P, lg1, hn_2⟩
  have hs_2 := hs.new hn_2
  clear hs
  go_wp2_with (fail)
  refine (palText_spec _ n _ fp hfp hn _ P.sl).mono ?_
  rintro e_3 v_3 ⟨rfl, hn_3⟩
  have hs_3 := hs_2.new hn_3
  clear hs_2
  have P_3 := P.new hn_3
  clear P
  have N_3 := hn_2.trans hn_3
  rw [hA]
  clear P_3
  go_wp2_with (fail)
  refine (toPalette_any _ n fp hn _ hs_3).mono ?_
  rintro e_4 v_4 ⟨g3, rfl, Q, lg3, hn_4⟩
  have hs_4 := hs_3.new hn_4
  clear hs_3
  have N_4 := N_3.trans hn_4
  go_wp2_with (fail)
  refine (palText_impl _ n _ fp hfp hn (Nat.le_refl _) _ Q.sl).mono ?_
  rintro e_5 v_5 ⟨rfl, hn_5⟩
  have hs_5 := hs_4.new hn_5
  clear hs_4
  have Q_5 := Q.new hn_5
  clear Q
  have N_5 := N_4.trans hn_5
  rw [hA]
  go_wp2_with (fail)
  refine (toPalette_any _ n fp hn _ hs_5).mono ?_
  rintro e_6 v_6 ⟨g4, rfl, R, lg4, hn_6⟩
  have hs_6 := hs_5.new hn_6
  clear hs_5
  have Q_6 := Q_5.new hn_6
  clear Q_5
  have N_6 := N_5.trans hn_6
  go_wp2_with (fail)
  refine (eqPalette_refl _ _ n _ _ fp hn _ Q_6.sl R.sl).mono ?_
  rintro e_7 v_7 ⟨rfl, hn_7⟩
  have hs_7 := hs_6.new hn_7
  clear hs_6
  have Q_7 := Q_6.new hn_7
  clear Q_6
  have R_7 := R.new hn_7
  clear R
  have N_7 := N_6.trans hn_7
  go_wp2_with (fail)
  go_ret
  exact ⟨rfl, N_7⟩
end Go.Proofs.Ytmiafnlaooggjaa
