/- The law on the picture whose errors are spread, walked; no condition. -/
import Derived.Test.YtpofhbdnjecfjaaSprS
import Derived.Test.YtpofhbdnjecfjaaSprI
import Derived.Test.YtpofhbdnjecfjaaEqP
import Derived.Test.YtpofhbdnjecfjaaPal
set_option linter.unusedVariables false
namespace Go.Proofs.Ytpofhbdnjecfjaa
open Go.BigFrame
open Go.RowKit Go.Arr
set_option maxHeartbeats 2000000 in
set_option maxRecDepth 100000 in
theorem SpreadPicture_law (a b : Int) (fm : Nat → Int) (ha : -128 ≤ a ∧ a ≤ 127) (hb : -128 ≤ b ∧ b ≤ 127) (hfm : ∀ i, 0 ≤ fm i ∧ fm i ≤ 255) (v1 : Value) (n : Nat) (fp : Nat → Int) (hm : n ≤ maxLen) (hfp : ∀ i, 0 ≤ fp i ∧ fp i ≤ 255) (w : World) (hs : Sl w v1 n 3 .u8 fp) :
    Calls Try.prog 3 #[.agg (pic 432 a b fm), v1] w fun e w' => e = .returned (.bool true) ∧ New w w' := by
  obtain ⟨ad, c, rfl, t0⟩ := hs
  have hs : Sl w (.slice ad n c) n 3 .u8 fp := ⟨ad, c, rfl, t0⟩
  clear t0
  by_cases hbig : (1048576 : Int) < n
  · go_enter Try.func3, Try.ntmps3
    go_wp2_with (fail)
    refine (szPalette_any ad n c (1048576) hm (by omega) _).mono ?_
    rintro e1 w1 ⟨rfl, rfl⟩
    rw [if_pos (by omega)]
    go_wp2_with (fail)
    go_ret
    exact ⟨rfl, (New.refl w).alloc _⟩
  have hn : n ≤ 1048576 := by omega
  obtain ⟨pa, pb, pf, hA⟩ : ∃ (pa pb : Int) (pf : Nat → Int), sprA a b fm n fp = pic 144 pa pb pf := by
    cases h : askOk a b fm n fp
    · exact ⟨_, _, _, if_neg (by rw [h]; simp)⟩
    · exact ⟨_, _, _, if_pos h⟩
  generalize hC : sprC a b fm n fp = C
  have hq0 : ∀ k : Int, (k != k) = false := by simp
  go_enter Try.func3, Try.ntmps3
  go_wp2_with (fail)
  refine (szPalette_any ad n c (1048576) hm (by omega) _).mono ?_
  rintro e1 w1 ⟨rfl, rfl⟩
  rw [if_neg (by omega)]
  go_wp2_with (fail)
  generalize hw0 : w.alloc (Obj.cells (pic 432 a b fm) 26) = w0
  have b0 : obj w0 w.heap.size = some (.cells (pic 432 a b fm) 26) := by subst hw0; go_simp
  have hN0 : New w w0 := by subst hw0; exact (New.refl w).alloc _
  have hs0 := hs.new hN0
  clear hw0 hs
  refine (toImage_any a b fm _).mono ?_
  rintro e1 w1 ⟨rfl, hn1⟩
  have b1 := (hn1.objs _ (obj_lt b0)).trans b0
  have hN1 := hN0.trans hn1
  have hs1 := hs0.new hn1
  clear b0
  go_wp2_with (fail)
  refine (toPalette_any _ n fp hn _ hs1).mono ?_
  rintro e2 w2 ⟨g2, rfl, P2, lg2, hn2⟩
  have b2 := (hn2.objs _ (obj_lt b1)).trans b1
  have hN2 := hN1.trans hn2
  have hs2 := hs1.new hn2
  clear b1
  go_wp2_with (fail)
  refine (spread_spec a b fm ha hb hfm _ n _ fp hfp hn _ P2.sl).mono ?_
  rintro e3 w3 ⟨rfl, hn3⟩
  rw [hA, hC]
  have b3 := (hn3.objs _ (obj_lt b2)).trans b2
  have hN3 := hN2.trans hn3
  have hs3 := hs2.new hn3
  clear b2 P2
  go_wp2_with (fail)
  generalize hwa : w3.alloc (Obj.cells (pic 144 pa pb pf) 31) = wa
  have t4 : obj wa w3.heap.size = some (.cells (pic 144 pa pb pf) 31) := by subst hwa; go_simp
  have hna : New w3 wa := by subst hwa; exact (New.refl _).alloc _
  have b4 := (hna.objs _ (obj_lt b3)).trans b3
  have hN4 := hN3.trans hna
  have hs4 := hs3.new hna
  clear hwa b3 hna
  refine (toPalette_any _ n fp hn _ hs4).mono ?_
  rintro e5 w5 ⟨g5, rfl, P5, lg5, hn5⟩
  have b5 := (hn5.objs _ (obj_lt b4)).trans b4
  have t5 := (hn5.objs _ (obj_lt t4)).trans t4
  have hN5 := hN4.trans hn5
  have hs5 := hs4.new hn5
  clear b4 t4
  go_wp2_with (fail)
  refine (toImage_any a b fm _).mono ?_
  rintro e6 w6 ⟨rfl, hn6⟩
  have t6 := (hn6.objs _ (obj_lt t5)).trans t5
  have hN6 := hN5.trans hn6
  have hs6 := hs5.new hn6
  have P6 := P5.new hn6
  clear b5 t5
  go_wp2_with (fail)
  refine (spread_impl a b fm ha hb hfm _ n _ fp hfp hn (Nat.le_refl _) _ P6.sl).mono ?_
  rintro e7 w7 ⟨rfl, hn7⟩
  rw [hA, hC]
  have t7 := (hn7.objs _ (obj_lt t6)).trans t6
  have r7 := obj_lt t7
  have hN7 := hN6.trans hn7
  have hs7 := hs6.new hn7
  have P7 := P6.new hn7
  clear t6
  go_wp2_with (fail)
  generalize hwb : w7.alloc (Obj.cells (pic 144 pa pb pf) 31) = wb
  have hnb : New w7 wb := by subst hwb; exact (New.refl _).alloc _
  have hs8 := hs7.new hnb
  have P8 := P7.new hnb
  have hN8 := hN7.trans hnb
  clear hwb hnb t7
  refine (eqPicture_refl _ _ _ _).mono ?_
  rintro e8 w8 ⟨rfl, hn8⟩
  have hs9 := hs8.new hn8
  have P9 := P8.new hn8
  have hN9 := hN8.trans hn8
  go_wp2_with (fail)
  refine (toPalette_any _ n fp hn _ hs9).mono ?_
  rintro e9 w9 ⟨g9, rfl, Q9, lg9, hn9⟩
  have P10 := P9.new hn9
  have hN10 := hN9.trans hn9
  go_wp2_with (fail)
  refine (eqPalette_refl _ _ n n n fp hn _ P10.sl Q9.sl).mono ?_
  rintro e10 w10 ⟨rfl, hn10⟩
  go_wp2_with (fail)
  go_ret
  exact ⟨rfl, hN10.trans hn10⟩
end Go.Proofs.Ytpofhbdnjecfjaa
