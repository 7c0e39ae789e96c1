/- The law on the image of a picture, walked; no condition. -/
import Derived.Test.YthgnceamnjgkoaaImOf
import Derived.Test.YthgnceamnjgkoaaPic
import Derived.Test.YthgnceamnjgkoaaPal
import Derived.Test.YthgnceamnjgkoaaDraw
import Derived.Test.YthgnceamnjgkoaaEqI
set_option linter.unusedVariables false
namespace Go.Proofs.Ythgnceamnjgkoaa
open Go.BigFrame
open Go.RowKit Go.Arr
set_option maxHeartbeats 8000000 in
set_option maxRecDepth 100000 in
theorem ImageOf_law (a b : Int) (f : Nat → Int) (ha : -128 ≤ a ∧ a ≤ 127) (hb : -128 ≤ b ∧ b ≤ 127) (hf : ∀ i, 0 ≤ f i ∧ f i ≤ 255) (v1 : Value) (n : Nat) (fp : Nat → Int) (hm : n ≤ maxLen) (hfp : ∀ i, 0 ≤ fp i ∧ fp i ≤ 255) (x y z : Int) (hx : 0 ≤ x ∧ x ≤ 255) (hy : 0 ≤ y ∧ y ≤ 255) (hz : 0 ≤ z ∧ z ≤ 255) (w : World) (hs : Sl w v1 n 3 .u8 fp) :
    Calls Try.prog 4 #[.agg (pic 144 a b f), v1, .agg #[.int .u8 x, .int .u8 y, .int .u8 z]] w fun e w' => e = .returned (.bool true) ∧ New w w' := by
  obtain ⟨ad, cp, rfl, t0⟩ := hs
  have hs : Sl w (.slice ad n cp) n 3 .u8 fp := ⟨ad, cp, rfl, t0⟩
  clear t0
  by_cases hbig : (1048576 : Int) < n
  · go_enter Try.func4, Try.ntmps4
    go_wp2_with (fail)
    refine (szPalette_any ad n cp (1048576) hm (by omega) _).mono ?_
    rintro e1 w1 ⟨rfl, rfl⟩
    rw [if_pos (by omega)]
    go_wp2_with (fail)
    go_ret
    exact ⟨rfl, ((New.refl w).alloc _).alloc _⟩
  have hn : n ≤ 1048576 := by omega
  obtain ⟨pa, pb, pf, hA⟩ : ∃ (pa pb : Int) (pf : Nat → Int), iofA a b f n fp x y z = pic 432 pa pb pf := by
    unfold iofA
    split
    · exact ⟨_, _, _, rfl⟩
    · exact ⟨_, _, _, rfl⟩
  generalize hC : hasV a b f n fp = C
  have hq0 : ∀ k : Int, (k != k) = false := by simp
  go_enter Try.func4, Try.ntmps4
  go_wp2_with (fail)
  refine (szPalette_any ad n cp (1048576) hm (by omega) _).mono ?_
  rintro e1 w1 ⟨rfl, rfl⟩
  rw [if_neg (by omega)]
  go_wp2_with (fail)
  generalize hv : (w.alloc (Obj.cells (pic 144 a b f) 33)).alloc (Obj.cells #[.int .u8 x, .int .u8 y, .int .u8 z] 34) = v
  have b1 : obj v w.heap.size = some (.cells (pic 144 a b f) 33) := by subst hv; go_simp
  have b2 : obj v (w.heap.size + 1) = some (.cells #[.int .u8 x, .int .u8 y, .int .u8 z] 34) := by subst hv; go_simp
  have hw : New w v := by subst hv; exact ((New.refl w).alloc _).alloc _
  have l1 : w.heap.size < v.heap.size := by subst hv; simp; omega
  have l2 : w.heap.size + 1 < v.heap.size := by subst hv; simp
  clear hv
  have hs1 := hs.new hw
  clear hs
  go_cut [8, 9] (fun s0 s1 wx => ∃ q : Nat, s0 = .pointer (some ⟨q, 0, none⟩) ∧ s1 = .int .i64 C ∧ Hid (obj wx q = some (.cells (pic 432 pa pb pf) 38)) ∧ New v wx ∧ v.heap.size ≤ q ∧ q < wx.heap.size)
  case first =>
    go_region_held3 (fun W => obj W w.heap.size = some (.cells (pic 144 a b f) 33) ∧ obj W (w.heap.size + 1) = some (.cells #[.int .u8 x, .int .u8 y, .int .u8 z] 34) ∧ New v W) (first | exact held_begin (by assumption) (by assumption) | exact held_new (by assumption) (by assumption) (by assumption) (by assumption) | exact held_new (by assumption) (by assumption) (by assumption) ((New.refl _).alloc _) | exact held_re (by assumption) (by assumption) (by assumption) (by assumption) _ | exact held_row (by assumption) (by assumption) (by assumption) (by first | assumption | (simp; done) | (simp; omega)) _) (first | (go_at_call 21; refine (toPicture_any _ _ _ _).mono ?_; rintro e1 w1 ⟨rfl, hn1⟩; have ho1 := hn1.objs; have kk1 := lt_new hn1; have hz1 := hn1.le; have hl1 : v.heap.size ≤ w1.heap.size := (by (try simp at hz1); omega); (try (first | have P2 := Pal.new ‹Pal _ _ n fp› hn1 | have P2 := Pal.new (Pal.new ‹Pal _ _ n fp› ((New.refl _).alloc _)) hn1)); (try (first | have hb1 := (hn1.objs _ (obj_lt hb1)).trans hb1 | have hb1 := obj_made hn1 | have hb1 := obj_made2 hn1)); (try simp only [World.size_drew] at hb1)) | (go_at_call 22; refine (toTone_any _ _ _ _).mono ?_; rintro e1 w1 ⟨rfl, hn1⟩; have ho1 := hn1.objs; have kk1 := lt_new hn1; have hz1 := hn1.le; have hl1 : v.heap.size ≤ w1.heap.size := (by (try simp at hz1); omega); (try (first | have P2 := Pal.new ‹Pal _ _ n fp› hn1 | have P2 := Pal.new (Pal.new ‹Pal _ _ n fp› ((New.refl _).alloc _)) hn1)); (try (first | have hb1 := (hn1.objs _ (obj_lt hb1)).trans hb1 | have hb1 := obj_made hn1 | have hb1 := obj_made2 hn1)); (try simp only [World.size_drew] at hb1)) | (go_at_call 17; refine (toPalette_any _ n fp hn _ (hs1.new (‹obj _ w.heap.size = some (.cells (pic 144 a b f) 33) ∧ obj _ (w.heap.size + 1) = some (.cells #[.int .u8 x, .int .u8 y, .int .u8 z] 34) ∧ New v _›).2.2)).mono ?_; rintro e1 w1 ⟨g1, rfl, P1, lg1, hn1⟩; have ho1 := hn1.objs; have kk1 := lt_new hn1; have hz1 := hn1.le; have hl1 : v.heap.size ≤ w1.heap.size := (by (try simp at hz1); omega); (try (first | have hb1 := (hn1.objs _ (obj_lt hb1)).trans hb1 | have hb1 := obj_made hn1 | have hb1 := obj_made2 hn1)); (try simp only [World.size_drew] at hb1)) | (go_at_call 20; refine (imageOf_spec a b f ha hb hf _ n _ fp hfp hn x y z _ (Pal.sl (by first | assumption | exact Pal.new (by assumption) ((New.refl _).alloc _)))).mono ?_; rintro e1 w1 ⟨rfl, hn1⟩; have ho1 := hn1.objs; have kk1 := lt_new hn1; have hz1 := hn1.le; have hl1 : v.heap.size ≤ w1.heap.size := (by (try simp at hz1); omega); (try (first | have hb1 := (hn1.objs _ (obj_lt hb1)).trans hb1 | have hb1 := obj_made hn1 | have hb1 := obj_made2 hn1)); (try simp only [World.size_drew] at hb1)))
    all_goals
      obtain ⟨_, _, hN⟩ := ‹obj _ w.heap.size = some (.cells (pic 144 a b f) 33) ∧ obj _ (w.heap.size + 1) = some (.cells #[.int .u8 x, .int .u8 y, .int .u8 z] 34) ∧ New v _›
      go_wp2_with (fail)
      go_meet
      refine ⟨_, rfl, rfl, ?_, hN, ?_, ?_⟩
      · show _ = _
        go_simp
      · first | assumption | (simp; done) | (simp; omega)
      · first | (rw [size_setRow]; exact obj_lt hb1) | exact obj_lt hb1 | (simp; done) | (simp; omega)
  case rest =>
  obtain ⟨q, rfl, rfl, hq1, hn1, hlq, hql⟩ := hcut
  have c1 : obj wc w.heap.size = _ := (hn1.objs _ l1).trans b1
  have c2 : obj wc (w.heap.size + 1) = _ := (hn1.objs _ l2).trans b2
  have hw2 := hw.trans hn1
  have hs2 := hs1.new hn1
  clear b1 b2 hs1 hn1 l1 l2
  go_wp2_with (fail)
  refine (toPalette_any _ n fp hn _ hs2).mono ?_
  rintro e1 v1 ⟨g1, rfl, P1, lg1, hn1⟩
  have d1 : obj v1 w.heap.size = _ := (hn1.objs _ (obj_lt c1)).trans c1
  have d2 : obj v1 (w.heap.size + 1) = _ := (hn1.objs _ (obj_lt c2)).trans c2
  have d3 := hide ((hn1.objs _ hql).trans hq1.out)
  have hw3 := hw2.trans hn1
  have hs3 := hs2.new hn1
  have l1 := obj_lt d1
  have l2 := obj_lt d2
  clear c1 c2 hs2 hn1 lg1 hq1 hlq hql
  go_wp2_with (fail)
  go_cut [11, 12] (fun s0 s1 wx => ∃ q : Nat, s0 = .pointer (some ⟨q, 0, none⟩) ∧ s1 = .int .i64 C ∧ Hid (obj wx q = some (.cells (pic 432 pa pb pf) 38)) ∧ New v1 wx ∧ v1.heap.size ≤ q ∧ q < wx.heap.size)
  case first =>
    go_region_held3 (fun W => obj W w.heap.size = some (.cells (pic 144 a b f) 33) ∧ obj W (w.heap.size + 1) = some (.cells #[.int .u8 x, .int .u8 y, .int .u8 z] 34) ∧ New v1 W) (first | exact held_begin (by assumption) (by assumption) | exact held_new (by assumption) (by assumption) (by assumption) (by assumption) | exact held_new (by assumption) (by assumption) (by assumption) ((New.refl _).alloc _) | exact held_re (by assumption) (by assumption) (by assumption) (by assumption) _ | exact held_row (by assumption) (by assumption) (by assumption) (by first | assumption | (simp; done) | (simp; omega)) _) (first | (go_at_call 21; refine (toPicture_any _ _ _ _).mono ?_; rintro e1 w1 ⟨rfl, hn1⟩; have ho1 := hn1.objs; have kk1 := lt_new hn1; have hz1 := hn1.le; have hl1 : v1.heap.size ≤ w1.heap.size := (by (try simp at hz1); omega); (try (first | have hb1 := (hn1.objs _ (obj_lt hb1)).trans hb1 | have hb1 := obj_made hn1 | have hb1 := obj_made2 hn1)); (try simp only [World.size_drew] at hb1)) | (go_at_call 22; refine (toTone_any _ _ _ _).mono ?_; rintro e1 w1 ⟨rfl, hn1⟩; have ho1 := hn1.objs; have kk1 := lt_new hn1; have hz1 := hn1.le; have hl1 : v1.heap.size ≤ w1.heap.size := (by (try simp at hz1); omega); (try (first | have hb1 := (hn1.objs _ (obj_lt hb1)).trans hb1 | have hb1 := obj_made hn1 | have hb1 := obj_made2 hn1)); (try simp only [World.size_drew] at hb1)) | (go_at_call 23; refine (imageOf_impl a b f ha hb hf _ n _ fp hfp hn (Nat.le_refl _) x y z _ (Pal.sl (P1.new (‹obj _ w.heap.size = some (.cells (pic 144 a b f) 33) ∧ obj _ (w.heap.size + 1) = some (.cells #[.int .u8 x, .int .u8 y, .int .u8 z] 34) ∧ New v1 _›).2.2))).mono ?_; rintro e1 w1 ⟨rfl, hn1⟩; have ho1 := hn1.objs; have kk1 := lt_new hn1; have hz1 := hn1.le; have hl1 : v1.heap.size ≤ w1.heap.size := (by (try simp at hz1); omega); (try (first | have hb1 := (hn1.objs _ (obj_lt hb1)).trans hb1 | have hb1 := obj_made hn1 | have hb1 := obj_made2 hn1)); (try simp only [World.size_drew] at hb1)))
    all_goals
      obtain ⟨_, _, hN⟩ := ‹obj _ w.heap.size = some (.cells (pic 144 a b f) 33) ∧ obj _ (w.heap.size + 1) = some (.cells #[.int .u8 x, .int .u8 y, .int .u8 z] 34) ∧ New v1 _›
      go_wp2_with (fail)
      go_meet
      refine ⟨_, rfl, rfl, ?_, hN, ?_, ?_⟩
      · show _ = _
        go_simp
      · first | assumption | (simp; done) | (simp; omega)
      · first | (rw [size_setRow]; exact obj_lt hb1) | exact obj_lt hb1 | (simp; done) | (simp; omega)
  case rest =>
  obtain ⟨m, rfl, rfl, hq2, hn5, hlm, hml⟩ := hcut
  have P3 := P1.new hn5
  have e1 : obj wc q = _ := (hn5.objs _ (obj_lt d3.out)).trans d3.out
  have e2 := hq2.out
  have hw5 := hw3.trans hn5
  have hs5 := hs3.new hn5
  go_wp2_with (fail)
  refine (eqImage_refl _ _ _ _).mono ?_
  rintro e3 w3 ⟨rfl, hn3⟩
  have P4 := P3.new hn3
  have hw6 := hw5.trans hn3
  go_wp2_with (fail)
  refine (toPalette_any _ n fp hn _ (hs5.new hn3)).mono ?_
  rintro e4 w4 ⟨g4, rfl, Q4, lg4, hn4⟩
  have P5 := P4.new hn4
  have hw7 := hw6.trans hn4
  go_wp2_with (fail)
  refine (eqPalette_refl _ _ n n n fp hn _ P5.sl Q4.sl).mono ?_
  rintro e5 w5 ⟨rfl, hn6⟩
  go_wp2_with (fail)
  go_ret
  exact ⟨rfl, hw7.trans hn6⟩
end Go.Proofs.Ythgnceamnjgkoaa
