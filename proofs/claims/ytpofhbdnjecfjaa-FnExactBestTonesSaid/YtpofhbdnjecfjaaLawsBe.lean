/- The law on the best tones, walked; no condition. -/
import Derived.Test.YtpofhbdnjecfjaaBesS
import Derived.Test.YtpofhbdnjecfjaaBesI
import Derived.Test.YtpofhbdnjecfjaaStock
import Derived.Test.YtpofhbdnjecfjaaPal
set_option linter.unusedVariables false
namespace Go.Proofs.Ytpofhbdnjecfjaa
open Go.BigFrame
open Go.RowKit Go.Arr
set_option maxHeartbeats 4000000 in
set_option maxRecDepth 100000 in
theorem BestTones_law (a b : Int) (fm : Nat → Int) (ha : -128 ≤ a ∧ a ≤ 127) (hb : -128 ≤ b ∧ b ≤ 127) (hfm : ∀ i, 0 ≤ fm i ∧ fm i ≤ 255) (v1 : Value) (n : Nat) (fp : Nat → Int) (hm : n ≤ maxLen) (hfp : ∀ i, 0 ≤ fp i ∧ fp i ≤ 255) (count : Int) (hct : -9223372036854775808 ≤ count ∧ count ≤ 9223372036854775807) (w : World) (hs : Sl w v1 n 3 .u8 fp) :
    Calls Try.prog 4 #[.agg (pic 432 a b fm), v1, .int .i64 count] w fun e w' => e = .returned (.bool true) ∧ New w w' := by
  obtain ⟨ad, c, rfl, t0⟩ := hs
  have hs : Sl w (.slice ad n c) n 3 .u8 fp := ⟨ad, c, rfl, t0⟩
  clear t0
  by_cases hbig : (1048576 : Int) < n
  · go_enter Try.func4, Try.ntmps4
    go_wp2_with (fail)
    refine (szPalette_any ad n c (1048576) hm (by omega) _).mono ?_
    rintro e1 w1 ⟨rfl, rfl⟩
    rw [if_pos (by omega)]
    go_wp2_with (fail)
    go_ret
    exact ⟨rfl, (New.refl w).alloc _⟩
  have hn : n ≤ 1048576 := by omega
  have hs' := hide hs
  have hN := btN_le a b fm n fp count
  generalize hSN : btN a b fm n fp count = N at hN
  generalize hSF : btL a b fm n fp count = F
  generalize hV : btV a b fm n fp count = V
  generalize hC : btC a b fm n fp count = C
  have hq0 : ∀ k : Int, (k != k) = false := by simp
  go_enter Try.func4, Try.ntmps4
  go_wp2_with (fail)
  refine (szPalette_any ad n c (1048576) hm (by omega) _).mono ?_
  rintro e_1 v_1 ⟨rfl, rfl⟩
  rw [if_neg (by omega)]
  go_wp2_with (fail)
  generalize hw_2 : (w.alloc (Obj.cells (pic 432 a b fm) 26)) = v_2
  have b_2 : obj v_2 (w.heap.size) = some (.cells (pic 432 a b fm) 26) := by subst hw_2; go_simp
  have hn_2 : New w v_2 := by subst hw_2; exact (New.refl _).alloc _
  clear hw_2
  have hs_2 := hs.new hn_2
  clear hs
  refine (toImage_any a b fm _).mono ?_
  rintro e_3 v_3 ⟨rfl, hn_3⟩
  have hs_3 := hs_2.new hn_3
  clear hs_2
  have b_3 := (hn_3.objs _ (obj_lt b_2)).trans b_2
  clear b_2
  have N_3 := hn_2.trans hn_3
  go_wp2_with (fail)
  refine (toPalette_any _ n fp hn _ hs_3).mono ?_
  rintro e_4 v_4 ⟨g1, rfl, P, lg1, hn_4⟩
  have hs_4 := hs_3.new hn_4
  clear hs_3
  have b_4 := (hn_4.objs _ (obj_lt b_3)).trans b_3
  clear b_3
  have N_4 := N_3.trans hn_4
  go_wp2_with (fail)
  refine (best_spec a b fm ha hb hfm _ n _ fp hfp hn count _ P.sl).mono ?_
  rintro e_5 v_5 ⟨va1, rfl, R1, hn_5⟩
  have hs_5 := hs_4.new hn_5
  clear hs_4
  have b_5 := (hn_5.objs _ (obj_lt b_4)).trans b_4
  clear b_4
  have P_5 := P.new hn_5
  clear P
  have N_5 := N_4.trans hn_5
  rw [hSN, hSF] at R1
  rw [hV, hC]
  have hR1b := R1.block
  obtain ⟨x1, y1, rfl, _⟩ := R1.reads
  clear P_5
  go_wp2_with (fail)
  have hl3 := obj_lt b_5
  refine (toPalette_any _ n fp hn _ hs_5).mono ?_
  rintro e_6 v_6 ⟨g5, rfl, P, lg5, hn_6⟩
  have hs_6 := hs_5.new hn_6
  clear hs_5
  have b_6 := (hn_6.objs _ (obj_lt b_5)).trans b_5
  clear b_5
  have R1_6 := R1.new hn_6
  clear R1
  have N_6 := N_5.trans hn_6
  have hR1g : ∀ b, (Value.slice x1 N y1).ownBlock = some b → b < g5 := fun b hb => by have := hR1b b hb; omega
  go_wp2_with (fail)
  refine (toImage_any a b fm _).mono ?_
  rintro e_7 v_7 ⟨rfl, hn_7⟩
  have hs_7 := hs_6.new hn_7
  clear hs_6
  have b_7 := (hn_7.objs _ (obj_lt b_6)).trans b_6
  clear b_6
  have R1_7 := R1_6.new hn_7
  clear R1_6
  have P_7 := P.new hn_7
  clear P
  have N_7 := N_6.trans hn_7
  have hg5 := obj_lt P_7
  go_wp2_with (fail)
  refine (best_impl a b fm ha hb hfm _ n _ fp hfp hn (Nat.le_refl _) count _ P_7.sl).mono ?_
  rintro e_8 v_8 ⟨va2, rfl, R2, hn_8⟩
  have hs_8 := hs_7.new hn_8
  clear hs_7
  have b_8 := (hn_8.objs _ (obj_lt b_7)).trans b_7
  clear b_7
  have R1_8 := R1_7.new hn_8
  clear R1_7
  have P_8 := P_7.new hn_8
  clear P_7
  have N_8 := N_7.trans hn_8
  rw [hSN, hSF] at R2
  rw [hV, hC]
  have hR2b := R2.block
  obtain ⟨x2, y2, rfl, _⟩ := R2.reads
  have hR2g : ∀ b, (Value.slice x2 N y2).ownBlock = some b → g5 < b := fun b hb => by have := hR2b b hb; omega
  go_wp2_with (fail)
  refine (eqRows_refl x2 x1 _ y2 y1 _ (by omega) _ R2.reads' R1_8.reads').mono ?_
  rintro e_9 v_9 ⟨rfl, hn_9⟩
  have hs_9 := hs_8.new hn_9
  clear hs_8
  have b_9 := (hn_9.objs _ (obj_lt b_8)).trans b_8
  clear b_8
  have R1_9 := R1_8.new hn_9
  clear R1_8
  have P_9 := P_8.new hn_9
  clear P_8
  have R2_9 := R2.new hn_9
  clear R2
  have N_9 := N_8.trans hn_9
  go_wp2_with (fail)
  refine (toPalette_any _ n fp hn _ hs_9).mono ?_
  rintro e_10 v_10 ⟨g9, rfl, Q, lg9, hn_10⟩
  have hs_10 := hs_9.new hn_10
  clear hs_9
  have b_10 := (hn_10.objs _ (obj_lt b_9)).trans b_9
  clear b_9
  have R1_10 := R1_9.new hn_10
  clear R1_9
  have P_10 := P_9.new hn_10
  clear P_9
  have R2_10 := R2_9.new hn_10
  clear R2_9
  have N_10 := N_9.trans hn_10
  go_wp2_with (fail)
  refine (eqPalette_refl _ _ n n n fp hn _ P_10.sl Q.sl).mono ?_
  rintro e_11 v_11 ⟨rfl, hn_11⟩
  have hs_11 := hs_10.new hn_11
  clear hs_10
  have b_11 := (hn_11.objs _ (obj_lt b_10)).trans b_10
  clear b_10
  have R1_11 := R1_10.new hn_11
  clear R1_10
  have P_11 := P_10.new hn_11
  clear P_10
  have R2_11 := R2_10.new hn_11
  clear R2_10
  have Q_11 := Q.new hn_11
  clear Q
  have N_11 := N_10.trans hn_11
  clear Q_11
  go_wp2_with (fail)
  refine (markPal_any g5 n n fp hn 1 (by omega) _ P_11).mono ?_
  rintro em vm ⟨rfl, ⟨fm2, P11⟩, hot, hzm, hNm⟩
  have hlw : w.heap.size < g5 := by omega
  have Nm : New w vm := hNm w N_11 (by omega)
  have hsm := hs'.out.new Nm
  have R1m : Row vm _ _ N F := R1_11.same fun b hb => hot b (by have := hR1g b hb; omega)
  have R2m : Row vm _ _ N F := R2_11.same fun b hb => hot b (by have := hR2g b hb; omega)
  have bm : obj vm w.heap.size = _ := (hot _ (by omega)).trans b_11
  have m1 : ¬ (1 + 3 * (n : Int) < 0) := by omega
  clear hot hNm P_11 R1_11 R2_11 b_11 hs_11
  go_wp2_with (fail)
  refine (eqRows_refl x2 x1 _ y2 y1 _ (by omega) _ R2m.reads' R1m.reads').mono ?_
  rintro e_12 v_12 ⟨rfl, hn_12⟩
  have hs_12 := hsm.new hn_12
  clear hsm
  have R1_12 := R1m.new hn_12
  clear R1m
  have R2_12 := R2m.new hn_12
  clear R2m
  have b_12 := (hn_12.objs _ (obj_lt bm)).trans bm
  clear bm
  have N_12 := Nm.trans hn_12
  clear m1
  go_wp2_with (fail)
  refine (mark_row _ _ _ _ 1 (by omega) (by omega) _ R2_12).mono ?_
  rintro en vn ⟨rfl, R2n, hot, hzn, hNm⟩
  have Nn : New w vn := hNm w N_12 (fun b hb => by have := hR2g b hb; omega)
  have R1n : Row vn _ _ N F := R1_12.same fun b hb => hot b fun e => by have h1 := hR1g b hb; have h2 := hR2g b e; omega
  have bn : obj vn w.heap.size = _ := (hot _ fun e => by have := hR2g _ e; omega).trans b_12
  have hsn := hs'.out.new Nn
  clear hot hNm R1_12 R2_12 b_12 hs_12
  go_wp2_with (fail)
  refine (held_row_ x2 _ y2 1 (by omega) (by omega) _ R2n.reads').mono ?_
  rintro e_13 v_13 ⟨rfl, hn_13⟩
  have hs_13 := hsn.new hn_13
  clear hsn
  have R1_13 := R1n.new hn_13
  clear R1n
  have R2_13 := R2n.new hn_13
  clear R2n
  have b_13 := (hn_13.objs _ (obj_lt bn)).trans bn
  clear bn
  have N_13 := Nn.trans hn_13
  have m2 : ¬ (1 + (N : Int) < 0) := by omega
  go_wp2_with (fail)
  refine (toImage_any a b fm _).mono ?_
  rintro e_14 v_14 ⟨rfl, hn_14⟩
  have hs_14 := hs_13.new hn_14
  clear hs_13
  have R1_14 := R1_13.new hn_14
  clear R1_13
  have R2_14 := R2_13.new hn_14
  clear R2_13
  have b_14 := (hn_14.objs _ (obj_lt b_13)).trans b_13
  clear b_13
  have N_14 := N_13.trans hn_14
  go_wp2_with (fail)
  refine (toPalette_any _ n fp hn _ hs_14).mono ?_
  rintro e_15 v_15 ⟨g16, rfl, P2, lg16, hn_15⟩
  have hs_15 := hs_14.new hn_15
  clear hs_14
  have R1_15 := R1_14.new hn_15
  clear R1_14
  have R2_15 := R2_14.new hn_15
  clear R2_14
  have b_15 := (hn_15.objs _ (obj_lt b_14)).trans b_14
  clear b_14
  have N_15 := N_14.trans hn_15
  go_wp2_with (fail)
  refine (best_impl a b fm ha hb hfm _ n _ fp hfp hn (Nat.le_refl _) count _ P2.sl).mono ?_
  rintro e_16 v_16 ⟨va3, rfl, R3, hn_16⟩
  have hs_16 := hs_15.new hn_16
  clear hs_15
  have R1_16 := R1_15.new hn_16
  clear R1_15
  have R2_16 := R2_15.new hn_16
  clear R2_15
  have b_16 := (hn_16.objs _ (obj_lt b_15)).trans b_15
  clear b_15
  have P2_16 := P2.new hn_16
  clear P2
  have N_16 := N_15.trans hn_16
  rw [hSN, hSF] at R3
  rw [hV, hC]
  obtain ⟨x3, y3, rfl, _⟩ := R3.reads
  clear P2_16
  go_wp2_with (fail)
  refine (eqRows_refl x3 x1 _ y3 y1 _ (by omega) _ R3.reads' R1_16.reads').mono ?_
  rintro e_17 v_17 ⟨rfl, hn_17⟩
  have hs_17 := hs_16.new hn_17
  clear hs_16
  have R1_17 := R1_16.new hn_17
  clear R1_16
  have R2_17 := R2_16.new hn_17
  clear R2_16
  have b_17 := (hn_17.objs _ (obj_lt b_16)).trans b_16
  clear b_16
  have R3_17 := R3.new hn_17
  clear R3
  have N_17 := N_16.trans hn_17
  go_wp2_with (fail)
  refine (held_row_ x2 _ y2 1 (by omega) (by omega) _ R2_17.reads').mono ?_
  rintro e_18 v_18 ⟨rfl, hn_18⟩
  have hs_18 := hs_17.new hn_18
  clear hs_17
  have R1_18 := R1_17.new hn_18
  clear R1_17
  have R2_18 := R2_17.new hn_18
  clear R2_17
  have b_18 := (hn_18.objs _ (obj_lt b_17)).trans b_17
  clear b_17
  have R3_18 := R3_17.new hn_18
  clear R3_17
  have N_18 := N_17.trans hn_18
  go_wp2_with (fail)
  go_ret
  exact ⟨rfl, N_18⟩
end Go.Proofs.Ytpofhbdnjecfjaa
