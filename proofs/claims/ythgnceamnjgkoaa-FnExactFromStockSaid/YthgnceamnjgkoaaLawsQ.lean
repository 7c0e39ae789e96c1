/- The law on a picture from a stock of tones, walked; no condition. -/
import Derived.Test.YthgnceamnjgkoaaFroA
import Derived.Test.YthgnceamnjgkoaaFroB
import Derived.Test.YthgnceamnjgkoaaEqP
import Derived.Test.YthgnceamnjgkoaaPal
set_option linter.unusedVariables false
namespace Go.Proofs.Ythgnceamnjgkoaa
open Go.BigFrame
open Go.RowKit Go.Arr
set_option maxHeartbeats 4000000 in
set_option maxRecDepth 100000 in
theorem FromStock_law (a b : Int) (fm : Nat → Int) (ha : -128 ≤ a ∧ a ≤ 127) (hb : -128 ≤ b ∧ b ≤ 127) (hfm : ∀ i, 0 ≤ fm i ∧ fm i ≤ 255) (v1 : Value) (n : Nat) (fp : Nat → Int) (hm : n ≤ maxLen) (hfp : ∀ i, 0 ≤ fp i ∧ fp i ≤ 255) (v2 : Value) (s : Nat) (st : Nat → Int) (hm2 : s ≤ maxLen) (hz : ∀ i, -9223372036854775808 ≤ st i ∧ st i ≤ 9223372036854775807) (w : World) (hs : Sl w v1 n 3 .u8 fp) (ht : Sl w v2 s 1 .i64 st) :
    Calls Try.prog 8 #[.agg (pic 432 a b fm), v1, v2] w fun e w' => e = .returned (.bool true) ∧ New w w' := by
  obtain ⟨ad, c, rfl, t0⟩ := hs
  have hs : Sl w (.slice ad n c) n 3 .u8 fp := ⟨ad, c, rfl, t0⟩
  clear t0
  obtain ⟨sa, cs, rfl, t0⟩ := ht
  have ht : Sl w (.slice sa s cs) s 1 .i64 st := ⟨sa, cs, rfl, t0⟩
  clear t0
  have hm3 : s ≤ 9223372036854775807 := by unfold maxLen at hm2; omega
  by_cases hbig2 : 1048576 < s
  · go_enter Try.func8, Try.ntmps8
    go_wp2_with (fail)
    go_ret
    exact ⟨rfl, (New.refl w).alloc _⟩
  have hsn : s ≤ 1048576 := by omega
  by_cases hbig : (1048576 : Int) < n
  · go_enter Try.func8, Try.ntmps8
    go_wp2_with (fail)
    refine (szPalette_any ad n c (1048576) hm (by omega) _).mono ?_
    rintro e1 w1 ⟨rfl, rfl⟩
    rw [if_pos (by omega)]
    go_wp2_with (fail)
    go_ret
    exact ⟨rfl, (New.refl w).alloc _⟩
  have hn : n ≤ 1048576 := by omega
  obtain ⟨pa, pb, pf, hA⟩ : ∃ (pa pb : Int) (pf : Nat → Int), fsA a b fm n fp s st = pic 144 pa pb pf := by
    unfold fsA
    split
    · exact ⟨_, _, _, rfl⟩
    · exact ⟨_, _, _, rfl⟩
  generalize hC : fsC a b fm n fp s st = C
  have hq0 : ∀ k : Int, (k != k) = false := by simp
  go_enter Try.func8, Try.ntmps8
  go_wp2_with (fail)
  refine (szPalette_any ad n c (1048576) hm (by omega) _).mono ?_
  rintro e_1 v_1 ⟨rfl, rfl⟩
  rw [if_neg (by omega)]
  go_wp2_with (fail)
  generalize hw_2 : (w.alloc (Obj.cells (pic 432 a b fm) 48)) = v_2
  have b_2 : obj v_2 (w.heap.size) = some (.cells (pic 432 a b fm) 48) := by subst hw_2; go_simp
  have hn_2 : New w v_2 := by subst hw_2; exact (New.refl _).alloc _
  clear hw_2
  have hs_2 := hs.new hn_2
  clear hs
  have ht_2 := ht.new hn_2
  clear ht
  refine (toImage_any a b fm _).mono ?_
  rintro e_3 v_3 ⟨rfl, hn_3⟩
  have hs_3 := hs_2.new hn_3
  clear hs_2
  have ht_3 := ht_2.new hn_3
  clear ht_2
  have b_3 := (hn_3.objs _ (obj_lt b_2)).trans b_2
  clear b_2
  have N_3 := hn_2.trans hn_3
  go_wp2_with (fail)
  refine (toPalette_any _ n fp hn _ hs_3).mono ?_
  rintro e_4 v_4 ⟨g1, rfl, P, lg1, hn_4⟩
  have hs_4 := hs_3.new hn_4
  clear hs_3
  have ht_4 := ht_3.new hn_4
  clear ht_3
  have b_4 := (hn_4.objs _ (obj_lt b_3)).trans b_3
  clear b_3
  have N_4 := N_3.trans hn_4
  go_wp2_with (fail)
  refine (toInts_any _ s st hsn _ ht_4).mono ?_
  rintro e_5 v_5 ⟨g2, rfl, I, lg2, hn_5⟩
  have hs_5 := hs_4.new hn_5
  clear hs_4
  have ht_5 := ht_4.new hn_5
  clear ht_4
  have b_5 := (hn_5.objs _ (obj_lt b_4)).trans b_4
  clear b_4
  have P_5 := P.new hn_5
  clear P
  have N_5 := N_4.trans hn_5
  go_wp2_with (fail)
  refine (fromStock_spec a b fm ha hb hfm _ n _ fp hfp hn _ s _ st hsn _ P_5.sl I.sl).mono ?_
  rintro e_6 v_6 ⟨rfl, hn_6⟩
  have hs_6 := hs_5.new hn_6
  clear hs_5
  have ht_6 := ht_5.new hn_6
  clear ht_5
  have b_6 := (hn_6.objs _ (obj_lt b_5)).trans b_5
  clear b_5
  have P_6 := P_5.new hn_6
  clear P_5
  have I_6 := I.new hn_6
  clear I
  have N_6 := N_5.trans hn_6
  rw [hA, hC]
  clear P_6
  clear I_6
  go_wp2_with (fail)
  generalize hw_7 : (v_6.alloc (Obj.cells (pic 144 pa pb pf) 41)) = v_7
  have t_7 : obj v_7 (v_6.heap.size) = some (.cells (pic 144 pa pb pf) 41) := by subst hw_7; go_simp
  have hn_7 : New v_6 v_7 := by subst hw_7; exact (New.refl _).alloc _
  clear hw_7
  have hs_7 := hs_6.new hn_7
  clear hs_6
  have ht_7 := ht_6.new hn_7
  clear ht_6
  have b_7 := (hn_7.objs _ (obj_lt b_6)).trans b_6
  clear b_6
  have N_7 := N_6.trans hn_7
  refine (toPalette_any _ n fp hn _ hs_7).mono ?_
  rintro e_8 v_8 ⟨g3, rfl, Q, lg3, hn_8⟩
  have hs_8 := hs_7.new hn_8
  clear hs_7
  have ht_8 := ht_7.new hn_8
  clear ht_7
  have b_8 := (hn_8.objs _ (obj_lt b_7)).trans b_7
  clear b_7
  have t_8 := (hn_8.objs _ (obj_lt t_7)).trans t_7
  clear t_7
  have N_8 := N_7.trans hn_8
  go_wp2_with (fail)
  refine (toInts_any _ s st hsn _ ht_8).mono ?_
  rintro e_9 v_9 ⟨g4, rfl, J, lg4, hn_9⟩
  have hs_9 := hs_8.new hn_9
  clear hs_8
  have ht_9 := ht_8.new hn_9
  clear ht_8
  have b_9 := (hn_9.objs _ (obj_lt b_8)).trans b_8
  clear b_8
  have t_9 := (hn_9.objs _ (obj_lt t_8)).trans t_8
  clear t_8
  have Q_9 := Q.new hn_9
  clear Q
  have N_9 := N_8.trans hn_9
  go_wp2_with (fail)
  refine (toImage_any a b fm _).mono ?_
  rintro e_10 v_10 ⟨rfl, hn_10⟩
  have hs_10 := hs_9.new hn_10
  clear hs_9
  have ht_10 := ht_9.new hn_10
  clear ht_9
  have b_10 := (hn_10.objs _ (obj_lt b_9)).trans b_9
  clear b_9
  have t_10 := (hn_10.objs _ (obj_lt t_9)).trans t_9
  clear t_9
  have Q_10 := Q_9.new hn_10
  clear Q_9
  have J_10 := J.new hn_10
  clear J
  have N_10 := N_9.trans hn_10
  clear b_10
  go_wp2_with (fail)
  refine (fromStock_impl a b fm ha hb hfm _ n _ fp hfp hn (Nat.le_refl _) _ s _ st hsn _ Q_10.sl J_10.sl).mono ?_
  rintro e_11 v_11 ⟨rfl, hn_11⟩
  have hs_11 := hs_10.new hn_11
  clear hs_10
  have ht_11 := ht_10.new hn_11
  clear ht_10
  have t_11 := (hn_11.objs _ (obj_lt t_10)).trans t_10
  clear t_10
  have Q_11 := Q_10.new hn_11
  clear Q_10
  have J_11 := J_10.new hn_11
  clear J_10
  have N_11 := N_10.trans hn_11
  rw [hA, hC]
  have rt := obj_lt t_11
  go_wp2_with (fail)
  generalize hw_12 : (v_11.alloc (Obj.cells (pic 144 pa pb pf) 41)) = v_12
  have u_12 : obj v_12 (v_11.heap.size) = some (.cells (pic 144 pa pb pf) 41) := by subst hw_12; go_simp
  have hn_12 : New v_11 v_12 := by subst hw_12; exact (New.refl _).alloc _
  clear hw_12
  have hs_12 := hs_11.new hn_12
  clear hs_11
  have ht_12 := ht_11.new hn_12
  clear ht_11
  have t_12 := (hn_12.objs _ (obj_lt t_11)).trans t_11
  clear t_11
  have Q_12 := Q_11.new hn_12
  clear Q_11
  have J_12 := J_11.new hn_12
  clear J_11
  have N_12 := N_11.trans hn_12
  clear t_12
  clear u_12
  refine (eqPicture_refl _ _ _ _).mono ?_
  rintro e_13 v_13 ⟨rfl, hn_13⟩
  have hs_13 := hs_12.new hn_13
  clear hs_12
  have ht_13 := ht_12.new hn_13
  clear ht_12
  have Q_13 := Q_12.new hn_13
  clear Q_12
  have J_13 := J_12.new hn_13
  clear J_12
  have N_13 := N_12.trans hn_13
  go_wp2_with (fail)
  refine (toPalette_any _ n fp hn _ hs_13).mono ?_
  rintro e_14 v_14 ⟨g5, rfl, R, lg5, hn_14⟩
  have hs_14 := hs_13.new hn_14
  clear hs_13
  have ht_14 := ht_13.new hn_14
  clear ht_13
  have Q_14 := Q_13.new hn_14
  clear Q_13
  have J_14 := J_13.new hn_14
  clear J_13
  have N_14 := N_13.trans hn_14
  go_wp2_with (fail)
  refine (eqPalette_refl _ _ n n n fp hn _ Q_14.sl R.sl).mono ?_
  rintro e_15 v_15 ⟨rfl, hn_15⟩
  have hs_15 := hs_14.new hn_15
  clear hs_14
  have ht_15 := ht_14.new hn_15
  clear ht_14
  have Q_15 := Q_14.new hn_15
  clear Q_14
  have J_15 := J_14.new hn_15
  clear J_14
  have R_15 := R.new hn_15
  clear R
  have N_15 := N_14.trans hn_15
  go_wp2_with (fail)
  refine (toInts_any _ s st hsn _ ht_15).mono ?_
  rintro e_16 v_16 ⟨g6, rfl, K, lg6, hn_16⟩
  have hs_16 := hs_15.new hn_16
  clear hs_15
  have ht_16 := ht_15.new hn_16
  clear ht_15
  have Q_16 := Q_15.new hn_16
  clear Q_15
  have J_16 := J_15.new hn_16
  clear J_15
  have R_16 := R_15.new hn_16
  clear R_15
  have N_16 := N_15.trans hn_16
  go_wp2_with (fail)
  refine (eqInts_refl _ _ s s s st hsn _ J_16.sl K.sl).mono ?_
  rintro e_17 v_17 ⟨rfl, hn_17⟩
  have hs_17 := hs_16.new hn_17
  clear hs_16
  have ht_17 := ht_16.new hn_17
  clear ht_16
  have Q_17 := Q_16.new hn_17
  clear Q_16
  have J_17 := J_16.new hn_17
  clear J_16
  have R_17 := R_16.new hn_17
  clear R_16
  have K_17 := K.new hn_17
  clear K
  have N_17 := N_16.trans hn_17
  go_wp2_with (fail)
  go_ret
  exact ⟨rfl, N_17⟩
end Go.Proofs.Ythgnceamnjgkoaa
