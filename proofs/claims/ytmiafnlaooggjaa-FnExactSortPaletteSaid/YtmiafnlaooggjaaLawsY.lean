/- The law on palettes put in order, walked; no condition. -/
import Derived.Test.YtmiafnlaooggjaaSrtF
import Derived.Test.YtmiafnlaooggjaaPMark
import Derived.Test.YtmiafnlaooggjaaStock
import Derived.Test.YtmiafnlaooggjaaPal
import Derived.Test.YtmiafnlaooggjaaInts
set_option linter.unusedVariables false
namespace Go.Proofs.Ytmiafnlaooggjaa
open Go.BigFrame
open Go.RowKit Go.Arr
theorem srtN_le (n : Nat) (f : Nat → Int) : srtN n f ≤ 15 := by
  unfold srtN
  split
  · rename_i h
    exact (okPal_pos h).2
  · omega
theorem sort_spec' (ad : Option Addr) (n cp : Nat) (f : Nat → Int) (hf : ∀ i, 0 ≤ f i ∧ f i ≤ 255) (hn : n ≤ 1048576) (W : World) (hs : Sl W (.slice ad n cp) n 3 .u8 f) :
    Calls Try.prog 28 #[.slice ad n cp] W fun e w' => ∃ v u, e = .returned (.tuple #[v, u, .int .i64 (srtC n f)]) ∧ PRow w' W.heap.size v (srtN n f) (srtF n f) ∧ Row w' W.heap.size u (srtN n f) (srtO n f) ∧ (∀ b, v.ownBlock = some b → u.ownBlock ≠ some b) ∧ New W w' :=
  (sort_spec ad n cp f hf hn W hs).mono fun _ _ ⟨v, u, h1, h2, h3, h4, h5⟩ => ⟨v, u, h1, h2, h3, h5, h4⟩
theorem sort_impl' (ad : Option Addr) (n cp : Nat) (f : Nat → Int) (hf : ∀ i, 0 ≤ f i ∧ f i ≤ 255) (hn : n ≤ 1048576) (hcp : n ≤ cp) (W : World) (hs : Sl W (.slice ad n cp) n 3 .u8 f) :
    Calls Try.prog 29 #[.slice ad n cp] W fun e w' => ∃ v u, e = .returned (.tuple #[v, u, .int .i64 (srtC n f)]) ∧ PRow w' W.heap.size v (srtN n f) (srtF n f) ∧ Row w' W.heap.size u (srtN n f) (srtO n f) ∧ (∀ b, v.ownBlock = some b → u.ownBlock ≠ some b) ∧ New W w' :=
  (sort_impl ad n cp f hf hn hcp W hs).mono fun _ _ ⟨v, u, h1, h2, h3, h4, h5⟩ => ⟨v, u, h1, h2, h3, h5, h4⟩
set_option maxHeartbeats 8000000 in
set_option maxRecDepth 100000 in
theorem SortPalette_law (v1 : Value) (n : Nat) (fp : Nat → Int) (hm : n ≤ maxLen) (hfp : ∀ i, 0 ≤ fp i ∧ fp i ≤ 255) (w : World) (hs : Sl w v1 n 3 .u8 fp) :
    Calls Try.prog 7 #[v1] w fun e w' => e = .returned (.bool true) ∧ New w w' := by
  obtain ⟨ad, c, rfl, t0⟩ := hs
  have hs : Sl w (.slice ad n c) n 3 .u8 fp := ⟨ad, c, rfl, t0⟩
  clear t0
  by_cases hbig : (1048576 : Int) < n
  · go_enter Try.func7, Try.ntmps7
    go_wp2_with (fail)
    refine (szPalette_any ad n c (1048576) hm (by omega) _).mono ?_
    rintro e1 w1 ⟨rfl, rfl⟩
    rw [if_pos (by omega)]
    go_wp2_with (fail)
    go_ret
    exact ⟨rfl, New.refl w⟩
  have hn : n ≤ 1048576 := by omega
  have hs' := hide hs
  have hN := srtN_le n fp
  generalize hSN : srtN n fp = N at hN
  generalize hSF : srtF n fp = F
  generalize hSO : srtO n fp = O
  generalize hC : srtC n fp = C
  have hq0 : ∀ k : Int, (k != k) = false := by simp
  go_enter Try.func7, Try.ntmps7
  go_wp2_with (fail)
  refine (szPalette_any ad n c (1048576) hm (by omega) _).mono ?_
  rintro e_1 v_1 ⟨rfl, rfl⟩
  rw [if_neg (by omega)]
  go_wp2_with (fail)
  refine (toPalette_any _ n fp hn _ hs).mono ?_
  rintro e_2 v_2 ⟨g1, rfl, P, lg1, hn_2⟩
  have hs_2 := hs.new hn_2
  clear hs
  go_wp2_with (fail)
  refine (sort_spec' _ n _ fp hfp hn _ P.sl).mono ?_
  rintro e_3 v_3 ⟨va1, ua1, rfl, R1, I1, hD1, hn_3⟩
  have hs_3 := hs_2.new hn_3
  clear hs_2
  have P_3 := P.new hn_3
  clear P
  have N_3 := hn_2.trans hn_3
  rw [hSN] at R1 I1
  rw [hSF] at R1
  rw [hSO] at I1
  rw [hC]
  have hR1b := R1.block
  have hI1b := I1.block
  obtain ⟨x1, y1, rfl⟩ := R1.form
  obtain ⟨p1, q1, rfl, _⟩ := I1.reads
  clear P_3
  go_wp2_with (fail)
  have hNle := N_3.le
  refine (toPalette_any _ n fp hn _ hs_3).mono ?_
  rintro e_4 v_4 ⟨g5, rfl, P, lg5, hn_4⟩
  have hs_4 := hs_3.new hn_4
  clear hs_3
  have R1_4 := R1.new hn_4
  clear R1
  have I1_4 := I1.new hn_4
  clear I1
  have N_4 := N_3.trans hn_4
  have hR1g : ∀ b, (Value.slice x1 N y1).ownBlock = some b → b < g5 := fun b hb => by have := hR1b b hb; omega
  have hI1g : ∀ b, (Value.slice p1 N q1).ownBlock = some b → b < g5 := fun b hb => by have := hI1b b hb; omega
  have hg5 := obj_lt P
  go_wp2_with (fail)
  refine (sort_impl' _ n _ fp hfp hn (Nat.le_refl _) _ P.sl).mono ?_
  rintro e_5 v_5 ⟨va2, ua2, rfl, R2, I2, hD2, hn_5⟩
  have hs_5 := hs_4.new hn_5
  clear hs_4
  have R1_5 := R1_4.new hn_5
  clear R1_4
  have I1_5 := I1_4.new hn_5
  clear I1_4
  have P_5 := P.new hn_5
  clear P
  have N_5 := N_4.trans hn_5
  rw [hSN] at R2 I2
  rw [hSF] at R2
  rw [hSO] at I2
  rw [hC]
  have hR2b := R2.block
  have hI2b := I2.block
  obtain ⟨x2, y2, rfl⟩ := R2.form
  obtain ⟨p2, q2, rfl, _⟩ := I2.reads
  have hR2g : ∀ b, (Value.slice x2 N y2).ownBlock = some b → g5 < b := fun b hb => by have := hR2b b hb; omega
  have hI2g : ∀ b, (Value.slice p2 N q2).ownBlock = some b → g5 < b := fun b hb => by have := hI2b b hb; omega
  go_wp2_with (fail)
  refine (eqPalette_refl x2 x1 N y2 y1 _ (by omega) _ R2.sl R1_5.sl).mono ?_
  rintro e_6 v_6 ⟨rfl, hn_6⟩
  have hs_6 := hs_5.new hn_6
  clear hs_5
  have R1_6 := R1_5.new hn_6
  clear R1_5
  have I1_6 := I1_5.new hn_6
  clear I1_5
  have P_6 := P_5.new hn_6
  clear P_5
  have R2_6 := R2.new hn_6
  clear R2
  have I2_6 := I2.new hn_6
  clear I2
  have N_6 := N_5.trans hn_6
  go_wp2_with (fail)
  refine (eqInts_refl p2 p1 N q2 q1 _ (by omega) _ I2_6.sl I1_6.sl).mono ?_
  rintro e_7 v_7 ⟨rfl, hn_7⟩
  have hs_7 := hs_6.new hn_7
  clear hs_6
  have R1_7 := R1_6.new hn_7
  clear R1_6
  have I1_7 := I1_6.new hn_7
  clear I1_6
  have P_7 := P_6.new hn_7
  clear P_6
  have R2_7 := R2_6.new hn_7
  clear R2_6
  have I2_7 := I2_6.new hn_7
  clear I2_6
  have N_7 := N_6.trans hn_7
  go_wp2_with (fail)
  refine (toPalette_any _ n fp hn _ hs_7).mono ?_
  rintro e_8 v_8 ⟨g9, rfl, Q, lg9, hn_8⟩
  have hs_8 := hs_7.new hn_8
  clear hs_7
  have R1_8 := R1_7.new hn_8
  clear R1_7
  have I1_8 := I1_7.new hn_8
  clear I1_7
  have P_8 := P_7.new hn_8
  clear P_7
  have R2_8 := R2_7.new hn_8
  clear R2_7
  have I2_8 := I2_7.new hn_8
  clear I2_7
  have N_8 := N_7.trans hn_8
  go_wp2_with (fail)
  refine (eqPalette_refl _ _ n n n fp hn _ P_8.sl Q.sl).mono ?_
  rintro e_9 v_9 ⟨rfl, hn_9⟩
  have hs_9 := hs_8.new hn_9
  clear hs_8
  have R1_9 := R1_8.new hn_9
  clear R1_8
  have I1_9 := I1_8.new hn_9
  clear I1_8
  have P_9 := P_8.new hn_9
  clear P_8
  have R2_9 := R2_8.new hn_9
  clear R2_8
  have I2_9 := I2_8.new hn_9
  clear I2_8
  have Q_9 := Q.new hn_9
  clear Q
  have N_9 := N_8.trans hn_9
  clear Q_9
  go_wp2_with (fail)
  refine (markPal_any g5 n n fp hn 1 (by omega) _ P_9).mono ?_
  rintro em vm ⟨rfl, ⟨fm2, P11⟩, hot, hzm, hNm⟩
  have hlw : w.heap.size ≤ g5 := by omega
  have Nm : New w vm := hNm w N_9 (by omega)
  have hsm := hs'.out.new Nm
  have R1m : PRow vm _ _ N F := R1_9.same fun b hb => hot b (by have := hR1g b hb; omega)
  have R2m : PRow vm _ _ N F := R2_9.same fun b hb => hot b (by have := hR2g b hb; omega)
  have I1m : Row vm _ _ N O := I1_9.same fun b hb => hot b (by have := hI1g b hb; omega)
  have I2m : Row vm _ _ N O := I2_9.same fun b hb => hot b (by have := hI2g b hb; omega)
  have m1 : ¬ (1 + 3 * (n : Int) < 0) := by omega
  clear hot hNm P_9 R1_9 R2_9 I1_9 I2_9 hs_9
  go_wp2_with (fail)
  refine (eqPalette_refl x2 x1 N y2 y1 _ (by omega) _ R2m.sl R1m.sl).mono ?_
  rintro e_10 v_10 ⟨rfl, hn_10⟩
  have hs_10 := hsm.new hn_10
  clear hsm
  have R1_10 := R1m.new hn_10
  clear R1m
  have R2_10 := R2m.new hn_10
  clear R2m
  have I1_10 := I1m.new hn_10
  clear I1m
  have I2_10 := I2m.new hn_10
  clear I2m
  have N_10 := Nm.trans hn_10
  clear m1
  go_wp2_with (fail)
  refine (eqInts_refl p2 p1 N q2 q1 _ (by omega) _ I2_10.sl I1_10.sl).mono ?_
  rintro e_11 v_11 ⟨rfl, hn_11⟩
  have hs_11 := hs_10.new hn_11
  clear hs_10
  have R1_11 := R1_10.new hn_11
  clear R1_10
  have R2_11 := R2_10.new hn_11
  clear R2_10
  have I1_11 := I1_10.new hn_11
  clear I1_10
  have I2_11 := I2_10.new hn_11
  clear I2_10
  have N_11 := N_10.trans hn_11
  go_wp2_with (fail)
  refine (mark_prow _ _ _ _ 1 (by omega) (by omega) _ R2_11).mono ?_
  rintro en vn ⟨rfl, R2n, hot, hzn, hNm⟩
  have Nn : New w vn := hNm w N_11 (fun b hb => by have := hR2g b hb; omega)
  have R1n : PRow vn _ _ N F := R1_11.same fun b hb => hot b fun e => by have h1 := hR1g b hb; have h2 := hR2g b e; omega
  have I1n : Row vn _ _ N O := I1_11.same fun b hb => hot b fun e => by have h1 := hI1g b hb; have h2 := hR2g b e; omega
  have I2n : Row vn _ _ N O := I2_11.same fun b hb => hot b fun e => hD2 b e hb
  have hsn := hs'.out.new Nn
  clear hot hNm R1_11 R2_11 I1_11 I2_11 hs_11
  go_wp2_with (fail)
  refine (mark_row _ _ _ _ (1 + 3 * (N : Int)) (by omega) (by omega) _ I2n).mono ?_
  rintro eo vo ⟨rfl, I2o, hot, hzo, hNm⟩
  have No : New w vo := hNm w Nn (fun b hb => by have := hI2g b hb; omega)
  have R1o : PRow vo _ _ N F := R1n.same fun b hb => hot b fun e => by have h1 := hR1g b hb; have h2 := hI2g b e; omega
  have I1o : Row vo _ _ N O := I1n.same fun b hb => hot b fun e => by have h1 := hI1g b hb; have h2 := hI2g b e; omega
  have R2o : PRow vo _ _ N fun j => 1 + j := R2n.same fun b hb => hot b fun e => hD2 b hb e
  have hso := hs'.out.new No
  clear hot hNm R1n R2n I1n I2n hsn
  go_wp2_with (fail)
  refine (held_prow _ _ N 1 (by omega) (by omega) _ R2o).mono ?_
  rintro e_12 v_12 ⟨rfl, hn_12⟩
  have hs_12 := hso.new hn_12
  clear hso
  have R1_12 := R1o.new hn_12
  clear R1o
  have R2_12 := R2o.new hn_12
  clear R2o
  have I1_12 := I1o.new hn_12
  clear I1o
  have I2_12 := I2o.new hn_12
  clear I2o
  have N_12 := No.trans hn_12
  have m2 : ¬ (1 + 3 * (N : Int) < 0) := by omega
  have m3 : ¬ (1 + 3 * (N : Int) + N < 0) := by omega
  go_wp2_with (fail)
  refine (held_row_ p2 N q2 (1 + 3 * (N : Int)) (by omega) (by omega) _ I2_12.reads').mono ?_
  rintro e_13 v_13 ⟨rfl, hn_13⟩
  have hs_13 := hs_12.new hn_13
  clear hs_12
  have R1_13 := R1_12.new hn_13
  clear R1_12
  have R2_13 := R2_12.new hn_13
  clear R2_12
  have I1_13 := I1_12.new hn_13
  clear I1_12
  have I2_13 := I2_12.new hn_13
  clear I2_12
  have N_13 := N_12.trans hn_13
  go_wp2_with (fail)
  refine (toPalette_any _ n fp hn _ hs_13).mono ?_
  rintro e_14 v_14 ⟨g16, rfl, P2, lg16, hn_14⟩
  have hs_14 := hs_13.new hn_14
  clear hs_13
  have R1_14 := R1_13.new hn_14
  clear R1_13
  have R2_14 := R2_13.new hn_14
  clear R2_13
  have I1_14 := I1_13.new hn_14
  clear I1_13
  have I2_14 := I2_13.new hn_14
  clear I2_13
  have N_14 := N_13.trans hn_14
  go_wp2_with (fail)
  refine (sort_impl' _ n _ fp hfp hn (Nat.le_refl _) _ P2.sl).mono ?_
  rintro e_15 v_15 ⟨va3, ua3, rfl, R3, I3, hD3, hn_15⟩
  have hs_15 := hs_14.new hn_15
  clear hs_14
  have R1_15 := R1_14.new hn_15
  clear R1_14
  have R2_15 := R2_14.new hn_15
  clear R2_14
  have I1_15 := I1_14.new hn_15
  clear I1_14
  have I2_15 := I2_14.new hn_15
  clear I2_14
  have P2_15 := P2.new hn_15
  clear P2
  have N_15 := N_14.trans hn_15
  rw [hSN] at R3 I3
  rw [hSF] at R3
  rw [hSO] at I3
  rw [hC]
  obtain ⟨x3, y3, rfl⟩ := R3.form
  obtain ⟨p3, q3, rfl, _⟩ := I3.reads
  clear P2_15
  go_wp2_with (fail)
  refine (eqPalette_refl x3 x1 N y3 y1 _ (by omega) _ R3.sl R1_15.sl).mono ?_
  rintro e_16 v_16 ⟨rfl, hn_16⟩
  have hs_16 := hs_15.new hn_16
  clear hs_15
  have R1_16 := R1_15.new hn_16
  clear R1_15
  have R2_16 := R2_15.new hn_16
  clear R2_15
  have I1_16 := I1_15.new hn_16
  clear I1_15
  have I2_16 := I2_15.new hn_16
  clear I2_15
  have R3_16 := R3.new hn_16
  clear R3
  have I3_16 := I3.new hn_16
  clear I3
  have N_16 := N_15.trans hn_16
  go_wp2_with (fail)
  refine (eqInts_refl p3 p1 N q3 q1 _ (by omega) _ I3_16.sl I1_16.sl).mono ?_
  rintro e_17 v_17 ⟨rfl, hn_17⟩
  have hs_17 := hs_16.new hn_17
  clear hs_16
  have R1_17 := R1_16.new hn_17
  clear R1_16
  have R2_17 := R2_16.new hn_17
  clear R2_16
  have I1_17 := I1_16.new hn_17
  clear I1_16
  have I2_17 := I2_16.new hn_17
  clear I2_16
  have R3_17 := R3_16.new hn_17
  clear R3_16
  have I3_17 := I3_16.new hn_17
  clear I3_16
  have N_17 := N_16.trans hn_17
  go_wp2_with (fail)
  refine (held_prow _ _ N 1 (by omega) (by omega) _ R2_17).mono ?_
  rintro e_18 v_18 ⟨rfl, hn_18⟩
  have hs_18 := hs_17.new hn_18
  clear hs_17
  have R1_18 := R1_17.new hn_18
  clear R1_17
  have R2_18 := R2_17.new hn_18
  clear R2_17
  have I1_18 := I1_17.new hn_18
  clear I1_17
  have I2_18 := I2_17.new hn_18
  clear I2_17
  have R3_18 := R3_17.new hn_18
  clear R3_17
  have I3_18 := I3_17.new hn_18
  clear I3_17
  have N_18 := N_17.trans hn_18
  go_wp2_with (fail)
  refine (held_row_ p2 N q2 (1 + 3 * (N : Int)) (by omega) (by omega) _ I2_18.reads').mono ?_
  rintro e_19 v_19 ⟨rfl, hn_19⟩
  have hs_19 := hs_18.new hn_19
  clear hs_18
  have R1_19 := R1_18.new hn_19
  clear R1_18
  have R2_19 := R2_18.new hn_19
  clear R2_18
  have I1_19 := I1_18.new hn_19
  clear I1_18
  have I2_19 := I2_18.new hn_19
  clear I2_18
  have R3_19 := R3_18.new hn_19
  clear R3_18
  have I3_19 := I3_18.new hn_19
  clear I3_18
  have N_19 := N_18.trans hn_19
  go_wp2_with (fail)
  go_ret
  exact ⟨rfl, N_19⟩
end Go.Proofs.Ytmiafnlaooggjaa
