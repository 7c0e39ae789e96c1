/- The law on the stock of a picture, walked; no condition. -/
import Derived.Test.YthgnceamnjgkoaaStock
import Derived.Test.YthgnceamnjgkoaaPic
import Derived.Test.YthgnceamnjgkoaaPal
set_option linter.unusedVariables false
namespace Go.Proofs.Ythgnceamnjgkoaa
open Go.BigFrame
open Go.RowKit Go.Arr
set_option maxHeartbeats 4000000 in
set_option maxRecDepth 100000 in
theorem StockFor_law (a b : Int) (f : Nat → Int) (ha : -128 ≤ a ∧ a ≤ 127) (hb : -128 ≤ b ∧ b ≤ 127) (hf : ∀ i, 0 ≤ f i ∧ f i ≤ 255) (va : Value) (n : Nat) (fp : Nat → Int) (hm : n ≤ maxLen) (hfp : ∀ i, 0 ≤ fp i ∧ fp i ≤ 255) (w : World) (hs : Sl w va n 3 .u8 fp) :
    Calls Try.prog 6 #[.agg (pic 144 a b f), va] w fun e w' => e = .returned (.bool true) ∧ New w w' := by
  obtain ⟨ad, cp, rfl, t0⟩ := hs
  have hs : Sl w (.slice ad n cp) n 3 .u8 fp := ⟨ad, cp, rfl, t0⟩
  clear t0
  by_cases hbig : (1048576 : Int) < n
  · go_enter Try.func6, Try.ntmps6
    go_wp2_with (fail)
    refine (szPalette_any ad n cp (1048576) hm (by omega) _).mono ?_
    rintro e1 w1 ⟨rfl, rfl⟩
    rw [if_pos (by omega)]
    go_wp2_with (fail)
    go_ret
    exact ⟨rfl, (New.refl w).alloc _⟩
  have hn : n ≤ 1048576 := by omega
  have hs' := hide hs
  have hN := stockN_le a b f n fp
  generalize hSN : stockN a b f n fp = N at hN
  generalize hSF : stockF a b f = F
  generalize hC : hasV a b f n fp = C
  have hq0 : ∀ k : Int, (k != k) = false := by simp
  go_enter Try.func6, Try.ntmps6
  go_wp2_with (fail)
  refine (szPalette_any ad n cp (1048576) hm (by omega) _).mono ?_
  rintro e1 w1 ⟨rfl, rfl⟩
  rw [if_neg (by omega)]
  go_wp2_with (fail)
  generalize hw0 : w.alloc (Obj.cells (pic 144 a b f) 33) = w0
  have b0 : obj w0 w.heap.size = some (.cells (pic 144 a b f) 33) := by subst hw0; go_simp
  have hN0 : New w w0 := by subst hw0; exact (New.refl w).alloc _
  have hs0 := hs.new hN0
  clear hw0 hs
  refine (toPicture_any a b f _).mono ?_
  rintro e1 w1 ⟨rfl, hn1⟩
  have b1 := (hn1.objs _ (obj_lt b0)).trans b0
  have hN1 := hN0.trans hn1
  have hs1 := hs0.new hn1
  clear b0 hs0 hN0
  go_wp2_with (fail)
  refine (toPalette_any _ n fp hn _ hs1).mono ?_
  rintro e2 w2 ⟨g2, rfl, P2, lg2, hn2⟩
  have b2 := (hn2.objs _ (obj_lt b1)).trans b1
  have hN2 := hN1.trans hn2
  have hs2 := hs1.new hn2
  clear b1 hs1 hN1
  go_wp2_with (fail)
  refine (stockFor_spec a b f ha hb hf _ n _ fp hn _ P2.sl).mono ?_
  rintro e3 w3 ⟨va1, rfl, R1, hn3⟩
  rw [hSN, hSF] at R1
  rw [hC]
  have b3 := (hn3.objs _ (obj_lt b2)).trans b2
  have hN3 := hN2.trans hn3
  have hs3 := hs2.new hn3
  have hR1b := R1.block
  have hl3 := obj_lt b3
  obtain ⟨x1, y1, rfl, _⟩ := R1.reads
  clear b2 P2 hs2
  go_wp2_with (fail)
  refine (toPalette_any _ n fp hn _ hs3).mono ?_
  rintro e5 w5 ⟨g5, rfl, P5, lg5, hn5⟩
  have b5 := (hn5.objs _ (obj_lt b3)).trans b3
  have hN5 := hN3.trans hn5
  have hs5 := hs3.new hn5
  have R15 := R1.new hn5
  have hR1g : ∀ b, (Value.slice x1 N y1).ownBlock = some b → b < g5 := fun b hb => by have := hR1b b hb; omega
  clear b3 hs3 R1
  go_wp2_with (fail)
  refine (toPicture_any a b f _).mono ?_
  rintro e6 w6 ⟨rfl, hn6⟩
  have hN6 := hN5.trans hn6
  have hs6 := hs5.new hn6
  have P6 := P5.new hn6
  have R16 := R15.new hn6
  have b6 := (hn6.objs _ (obj_lt b5)).trans b5
  have hg5 := obj_lt P6
  clear b5 hs5 P5 R15
  go_wp2_with (fail)
  refine (stockFor_impl a b f ha hb hf _ n _ fp hn (Nat.le_refl _) _ P6.sl).mono ?_
  rintro e7 w7 ⟨va2, rfl, R2, hn7⟩
  rw [hSN, hSF] at R2
  rw [hC]
  have hN7 := hN6.trans hn7
  have hs7 := hs6.new hn7
  have P7 := P6.new hn7
  have R17 := R16.new hn7
  have b7 := (hn7.objs _ (obj_lt b6)).trans b6
  have hR2b := R2.block
  obtain ⟨x2, y2, rfl, _⟩ := R2.reads
  have hR2g : ∀ b, (Value.slice x2 N y2).ownBlock = some b → g5 < b := fun b hb => by have := hR2b b hb; omega
  clear b6 hs6 P6 R16
  go_wp2_with (fail)
  refine (eqRows_refl x2 x1 _ y2 y1 _ (by omega) _ R2.reads' R17.reads').mono ?_
  rintro e8 w8 ⟨rfl, hn8⟩
  have hN8 := hN7.trans hn8
  have hs8 := hs7.new hn8
  have P8 := P7.new hn8
  have R18 := R17.new hn8
  have R28 := R2.new hn8
  have b8 := (hn8.objs _ (obj_lt b7)).trans b7
  clear b7 hs7 P7 R17 R2
  go_wp2_with (fail)
  refine (toPalette_any _ n fp hn _ hs8).mono ?_
  rintro e9 w9 ⟨g9, rfl, Q9, lg9, hn9⟩
  have hN9 := hN8.trans hn9
  have hs9 := hs8.new hn9
  have P9 := P8.new hn9
  have R19 := R18.new hn9
  have R29 := R28.new hn9
  have b9 := (hn9.objs _ (obj_lt b8)).trans b8
  clear b8 hs8 P8 R18 R28
  go_wp2_with (fail)
  refine (eqPalette_refl _ _ n n n fp hn _ P9.sl Q9.sl).mono ?_
  rintro e10 w10 ⟨rfl, hn10⟩
  have hN10 := hN9.trans hn10
  have hs10 := hs9.new hn10
  have P10 := P9.new hn10
  have R110 := R19.new hn10
  have R210 := R29.new hn10
  have b10 := (hn10.objs _ (obj_lt b9)).trans b9
  clear b9 hs9 P9 R19 R29
  go_wp2_with (fail)
  refine (markPal_any g5 n n fp hn 1 (by omega) _ P10).mono ?_
  rintro e11 w11 ⟨rfl, ⟨fm, P11⟩, hot, hz11, hNm⟩
  have hlw : w.heap.size < g5 := by omega
  have hN11 : New w w11 := hNm w hN10 (by omega)
  have hs11 := hs'.out.new hN11
  have R111 : Row w11 _ _ N F := R110.same fun b hb => hot b (by have := hR1g b hb; omega)
  have R211 : Row w11 _ _ N F := R210.same fun b hb => hot b (by have := hR2g b hb; omega)
  have b11 : obj w11 w.heap.size = _ := (hot _ (by omega)).trans b10
  have m1 : ¬ (1 + 3 * (n : Int) < 0) := by omega
  clear hot hNm P10 R110 R210 b10
  go_wp2_with (fail)
  refine (eqRows_refl x2 x1 _ y2 y1 _ (by omega) _ R211.reads' R111.reads').mono ?_
  rintro e12 w12 ⟨rfl, hn12⟩
  have hN12 := hN11.trans hn12
  have hs12 := hs11.new hn12
  have R112 := R111.new hn12
  have R212 := R211.new hn12
  have b12 := (hn12.objs _ (obj_lt b11)).trans b11
  clear b11 hs11 R111 R211 m1
  go_wp2_with (fail)
  refine (mark_row _ _ _ _ 1 (by omega) (by omega) _ R212).mono ?_
  rintro e13 w13 ⟨rfl, R213, hot, hz13, hNm⟩
  have hR2l := R212.block
  have hN13 : New w w13 := hNm w hN12 (fun b hb => by have := hR2g b hb; omega)
  have R113 : Row w13 _ _ N F := R112.same fun b hb => hot b fun e => by have h1 := hR1g b hb; have h2 := hR2g b e; omega
  have b13 : obj w13 w.heap.size = _ := (hot _ fun e => by have := hR2g _ e; omega).trans b12
  have hs13 := hs'.out.new hN13
  clear hot hNm R212 R112 b12 hs12
  go_wp2_with (fail)
  refine (held_row_ x2 _ y2 1 (by omega) (by omega) _ R213.reads').mono ?_
  rintro e14 w14 ⟨rfl, hn14⟩
  have hN14 := hN13.trans hn14
  have R114 := R113.new hn14
  have R214 := R213.new hn14
  have hs14 := hs13.new hn14
  have b14 := (hn14.objs _ (obj_lt b13)).trans b13
  have m2 : ¬ (1 + (N : Int) < 0) := by omega
  clear b13 hs13 R113 R213
  go_wp2_with (fail)
  refine (toPicture_any a b f _).mono ?_
  rintro e15 w15 ⟨rfl, hn15⟩
  have hN15 := hN14.trans hn15
  have R115 := R114.new hn15
  have R215 := R214.new hn15
  have hs15 := hs14.new hn15
  clear b14 hs14 R114 R214
  go_wp2_with (fail)
  refine (toPalette_any _ n fp hn _ hs15).mono ?_
  rintro e16 w16 ⟨g16, rfl, P16, lg16, hn16⟩
  have hN16 := hN15.trans hn16
  have R116 := R115.new hn16
  have R216 := R215.new hn16
  clear R115 R215
  go_wp2_with (fail)
  refine (stockFor_impl a b f ha hb hf _ n _ fp hn (Nat.le_refl _) _ P16.sl).mono ?_
  rintro e17 w17 ⟨va3, rfl, R3, hn17⟩
  rw [hSN, hSF] at R3
  rw [hC]
  have hN17 := hN16.trans hn17
  have R117 := R116.new hn17
  have R217 := R216.new hn17
  obtain ⟨x3, y3, rfl, _⟩ := R3.reads
  clear R116 R216
  go_wp2_with (fail)
  refine (eqRows_refl x3 x1 _ y3 y1 _ (by omega) _ R3.reads' R117.reads').mono ?_
  rintro e18 w18 ⟨rfl, hn18⟩
  have hN18 := hN17.trans hn18
  have R218 := R217.new hn18
  go_wp2_with (fail)
  refine (held_row_ x2 _ y2 1 (by omega) (by omega) _ R218.reads').mono ?_
  rintro e19 w19 ⟨rfl, hn19⟩
  go_wp2_with (fail)
  go_ret
  exact ⟨rfl, hN18.trans hn19⟩
end Go.Proofs.Ythgnceamnjgkoaa
