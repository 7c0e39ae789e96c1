/- The law on the cost of an image, walked; no condition. -/
import Derived.Test.YthgnceamnjgkoaaCost
import Derived.Test.YthgnceamnjgkoaaPic
import Derived.Test.YthgnceamnjgkoaaPal
import Derived.Test.YthgnceamnjgkoaaDraw
set_option linter.unusedVariables false
namespace Go.Proofs.Ythgnceamnjgkoaa
open Go.BigFrame
open Go.RowKit Go.Arr
set_option maxHeartbeats 4000000 in
set_option maxRecDepth 100000 in
theorem CostOf_law (a b : Int) (fm : Nat → Int) (ha : -128 ≤ a ∧ a ≤ 127) (hb : -128 ≤ b ∧ b ≤ 127) (hfm : ∀ i, 0 ≤ fm i ∧ fm i ≤ 255) (c d : Int) (f : Nat → Int) (hc : -128 ≤ c ∧ c ≤ 127) (hd : -128 ≤ d ∧ d ≤ 127) (hf : ∀ i, 0 ≤ f i ∧ f i ≤ 255) (v2 : Value) (n : Nat) (fp : Nat → Int) (hm : n ≤ maxLen) (hfp : ∀ i, 0 ≤ fp i ∧ fp i ≤ 255) (w : World) (hs : Sl w v2 n 3 .u8 fp) :
    Calls Try.prog 7 #[.agg (pic 432 a b fm), .agg (pic 144 c d f), v2] w fun e w' => e = .returned (.bool true) ∧ New w w' := by
  obtain ⟨ad, cp, rfl, t0⟩ := hs
  have hs : Sl w (.slice ad n cp) n 3 .u8 fp := ⟨ad, cp, rfl, t0⟩
  clear t0
  by_cases hbig : (1048576 : Int) < n
  · go_enter Try.func7, Try.ntmps7
    go_wp2_with (fail)
    refine (szPalette_any ad n cp (1048576) hm (by omega) _).mono ?_
    rintro e1 w1 ⟨rfl, rfl⟩
    rw [if_pos (by omega)]
    go_wp2_with (fail)
    go_ret
    exact ⟨rfl, ((New.refl w).alloc _).alloc _⟩
  have hn : n ≤ 1048576 := by omega
  generalize hV : costV a b fm c d f n fp = V
  generalize hC : costC a b fm c d f n fp = C
  have hq0 : ∀ k : Int, (k != k) = false := by simp
  go_enter Try.func7, Try.ntmps7
  go_wp2_with (fail)
  refine (szPalette_any ad n cp (1048576) hm (by omega) _).mono ?_
  rintro e1 w1 ⟨rfl, rfl⟩
  rw [if_neg (by omega)]
  go_wp2_with (fail)
  generalize hv : (w.alloc (Obj.cells (pic 432 a b fm) 48)).alloc (Obj.cells (pic 144 c d f) 33) = v
  have b1 : obj v w.heap.size = some (.cells (pic 432 a b fm) 48) := by subst hv; go_simp
  have b2 : obj v (w.heap.size + 1) = some (.cells (pic 144 c d f) 33) := by subst hv; go_simp
  have hw : New w v := by subst hv; exact ((New.refl w).alloc _).alloc _
  have l1 : w.heap.size < v.heap.size := by subst hv; simp; omega
  have l2 : w.heap.size + 1 < v.heap.size := by subst hv; simp
  clear hv
  have hs1 := hs.new hw
  clear hs
  go_cut [8, 9] (fun s0 s1 wx => s0 = .int .i64 V ∧ s1 = .int .i64 C ∧ New v wx)
  case first =>
    go_region_held3 (fun W => obj W w.heap.size = some (.cells (pic 432 a b fm) 48) ∧ obj W (w.heap.size + 1) = some (.cells (pic 144 c d f) 33) ∧ New v W) (first | exact held_begin (by assumption) (by assumption) | exact held_new (by assumption) (by assumption) (by assumption) (by assumption)) (first | (go_at_call 26; refine (toImage_any _ _ _ _).mono ?_; rintro e1 w1 ⟨rfl, hn1⟩; have hz1 := hn1.le; have hl1 : v.heap.size ≤ w1.heap.size := (by (try simp at hz1); omega); try (have P2 := Pal.new ‹Pal _ _ n fp› hn1)) | (go_at_call 21; refine (toPicture_any _ _ _ _).mono ?_; rintro e1 w1 ⟨rfl, hn1⟩; have hz1 := hn1.le; have hl1 : v.heap.size ≤ w1.heap.size := (by (try simp at hz1); omega); try (have P2 := Pal.new ‹Pal _ _ n fp› hn1)) | (go_at_call 17; refine (toPalette_any _ n fp hn _ (hs1.new ((‹obj _ w.heap.size = some (.cells (pic 432 a b fm) 48) ∧ obj _ (w.heap.size + 1) = some (.cells (pic 144 c d f) 33) ∧ New v _›).2.2))).mono ?_; rintro e1 w1 ⟨g1, rfl, P1, lg1, hn1⟩; have hz1 := hn1.le; have hl1 : v.heap.size ≤ w1.heap.size := (by (try simp at hz1); omega)) | (go_at_call 35; refine (costOf_spec a b fm ha hb hfm c d f hc hd hf _ n _ fp hfp hn _ (Pal.sl (by assumption))).mono ?_; rintro e1 w1 ⟨rfl, hn1⟩))
    all_goals
      obtain ⟨_, _, hN⟩ := ‹obj _ w.heap.size = some (.cells (pic 432 a b fm) 48) ∧ obj _ (w.heap.size + 1) = some (.cells (pic 144 c d f) 33) ∧ New v _›
      go_wp2_with (fail)
      go_meet
      exact ⟨rfl, rfl, hN⟩
  case rest =>
  obtain ⟨rfl, rfl, hn1⟩ := hcut
  have c1 : obj wc w.heap.size = _ := (hn1.objs _ l1).trans b1
  have c2 : obj wc (w.heap.size + 1) = _ := (hn1.objs _ l2).trans b2
  have hw2 := hw.trans hn1
  have hs2 := hs1.new hn1
  clear b1 b2 hs1 hn1 l1 l2
  go_wp2_with (fail)
  refine (toPalette_any _ n fp hn _ hs2).mono ?_
  rintro e1 v1 ⟨g1, rfl, P1, lg1, hn1⟩
  have d1 : obj v1 w.heap.size = _ := (hn1.objs _ (obj_lt c1)).trans c1
  have d2 : obj v1 (w.heap.size + 1) = _ := (hn1.objs _ (obj_lt c2)).trans c2
  have hw3 := hw2.trans hn1
  have hs3 := hs2.new hn1
  have l1 := obj_lt d1
  have l2 := obj_lt d2
  clear c1 c2 hs2 hn1 lg1
  go_wp2_with (fail)
  go_cut [11, 12] (fun s0 s1 wx => s0 = .int .i64 V ∧ s1 = .int .i64 C ∧ New v1 wx)
  case first =>
    go_region_held3 (fun W => obj W w.heap.size = some (.cells (pic 432 a b fm) 48) ∧ obj W (w.heap.size + 1) = some (.cells (pic 144 c d f) 33) ∧ New v1 W) (first | exact held_begin (by assumption) (by assumption) | exact held_new (by assumption) (by assumption) (by assumption) (by assumption)) (first | (go_at_call 26; refine (toImage_any _ _ _ _).mono ?_; rintro e1 w1 ⟨rfl, hn1⟩; have hz1 := hn1.le; have hl1 : v1.heap.size ≤ w1.heap.size := (by (try simp at hz1); omega)) | (go_at_call 21; refine (toPicture_any _ _ _ _).mono ?_; rintro e1 w1 ⟨rfl, hn1⟩; have hz1 := hn1.le; have hl1 : v1.heap.size ≤ w1.heap.size := (by (try simp at hz1); omega)) | (go_at_call 36; refine (costOf_impl a b fm ha hb hfm c d f hc hd hf _ n _ fp hfp hn (Nat.le_refl _) _ (Pal.sl (P1.new (‹obj _ w.heap.size = some (.cells (pic 432 a b fm) 48) ∧ obj _ (w.heap.size + 1) = some (.cells (pic 144 c d f) 33) ∧ New v1 _›).2.2))).mono ?_; rintro e1 w1 ⟨rfl, hn1⟩))
    all_goals
      obtain ⟨_, _, hN⟩ := ‹obj _ w.heap.size = some (.cells (pic 432 a b fm) 48) ∧ obj _ (w.heap.size + 1) = some (.cells (pic 144 c d f) 33) ∧ New v1 _›
      go_wp2_with (fail)
      go_meet
      exact ⟨rfl, rfl, hN⟩
  case rest =>
  obtain ⟨rfl, rfl, hn5⟩ := hcut
  have P3 := P1.new hn5
  have hw5 := hw3.trans hn5
  have hs5 := hs3.new hn5
  go_wp2_with (fail)
  refine (toPalette_any _ n fp hn _ hs5).mono ?_
  rintro e4 w4 ⟨g4, rfl, P4, lg4, hn4⟩
  have P5 := P3.new hn4
  have hw6 := hw5.trans hn4
  go_wp2_with (fail)
  refine (eqPalette_refl _ _ n n n fp hn _ P5.sl P4.sl).mono ?_
  rintro e5 w5 ⟨rfl, hn6⟩
  go_wp2_with (fail)
  go_ret
  exact ⟨rfl, hw6.trans hn6⟩
end Go.Proofs.Ythgnceamnjgkoaa
