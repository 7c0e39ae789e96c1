/- The law on the nearest tone, walked; no condition. -/
import Derived.Test.YtedbagefigclgaaNear
import Derived.Test.YtedbagefigclgaaDraw
import Derived.Test.YtedbagefigclgaaPic
set_option linter.unusedVariables false
namespace Go.Proofs.Ytedbagefigclgaa
open Go.BigFrame
open Go.RowKit Go.Arr
set_option maxHeartbeats 2000000 in
set_option maxRecDepth 100000 in
theorem NearestTone_law (v0 : Value) (n0 : Nat) (f0 : Nat → Int) (hm0 : n0 ≤ maxLen) (hf0 : ∀ i, 0 ≤ f0 i ∧ f0 i ≤ 255) (x y z : Int) (hx : 0 ≤ x ∧ x ≤ 255) (hy : 0 ≤ y ∧ y ≤ 255) (hz : 0 ≤ z ∧ z ≤ 255) (w : World) (hs0 : Sl w v0 n0 3 .u8 f0) :
    Calls Try.prog 10 #[v0, .agg #[.int .u8 x, .int .u8 y, .int .u8 z]] w fun e w' => e = .returned (.bool true) ∧ New w w' := by
  obtain ⟨a0, c0, rfl, t0⟩ := hs0
  have hs0 : Sl w (.slice a0 n0 c0) n0 3 .u8 f0 := ⟨a0, c0, rfl, t0⟩
  clear t0
  by_cases hz0 : (1048576 : Int) < n0
  · go_enter Try.func10, Try.ntmps10
    go_wp2_with (fail)
    refine (szPalette_any a0 n0 c0 (1048576) hm0 (by omega) _).mono ?_
    rintro e1 w1 ⟨rfl, rfl⟩
    rw [if_pos (by omega)]
    go_wp2_with (fail)
    go_ret
    exact ⟨rfl, (New.refl w).alloc _⟩
  have hb0 : n0 ≤ 1048576 := by omega
  go_enter Try.func10, Try.ntmps10
  go_wp2_with (fail)
  refine (szPalette_any a0 n0 c0 (1048576) hm0 (by omega) _).mono ?_
  rintro e1 w1 ⟨rfl, rfl⟩
  rw [if_neg (by omega)]
  go_wp2_with (fail)
  generalize hv : w.alloc (Obj.cells #[.int .u8 x, .int .u8 y, .int .u8 z] 50) = v
  have b1 : obj v w.heap.size = some (.cells #[.int .u8 x, .int .u8 y, .int .u8 z] 50) := by subst hv; go_simp
  have hw : New w v := by subst hv; exact (New.refl w).alloc _
  have l1 : w.heap.size < v.heap.size := by subst hv; simp
  clear hv
  have hs1 := hs0.new hw
  go_cut [6, 7, 8] (fun s0 s1 s2 wx => s0 = .int .i64 (nearV n0 f0 x y z).1 ∧ s1 = .int .i64 (nearV n0 f0 x y z).2.1 ∧ s2 = .int .i64 (nearV n0 f0 x y z).2.2 ∧ New v wx)
  case first =>
    go_region_held3 (fun W => obj W w.heap.size = some (.cells #[.int .u8 x, .int .u8 y, .int .u8 z] 50) ∧ obj W w.heap.size = some (.cells #[.int .u8 x, .int .u8 y, .int .u8 z] 50) ∧ New v W) (first | exact held_begin (by assumption) (by assumption) | exact held_new (by assumption) (by assumption) (by assumption) (by assumption)) (first | (go_at_call 42; refine (toTone_any _ _ _ _).mono ?_; rintro e1 w1 ⟨rfl, hn1⟩; have hz1 := hn1.le; have hl1 : v.heap.size ≤ w1.heap.size := (by (try simp at hz1); omega); try (have P2 := Pal.new ‹Pal _ _ n0 f0› hn1)) | (go_at_call 23; refine (toPalette_any _ n0 f0 hb0 _ (hs1.new ((‹obj _ w.heap.size = some (.cells #[.int .u8 x, .int .u8 y, .int .u8 z] 50) ∧ obj _ w.heap.size = some (.cells #[.int .u8 x, .int .u8 y, .int .u8 z] 50) ∧ New v _›).2.2))).mono ?_; rintro e1 w1 ⟨g1, rfl, P1, lg1, hn1⟩; have hz1 := hn1.le; have hl1 : v.heap.size ≤ w1.heap.size := (by (try simp at hz1); omega)) | (go_at_call 41; refine (near_spec _ n0 _ f0 x y z hx hy hz hf0 hb0 _ (Pal.sl (by assumption))).mono ?_; rintro e1 w1 ⟨rfl, hn1⟩))
    all_goals
      obtain ⟨_, _, hN⟩ := ‹obj _ w.heap.size = some (.cells #[.int .u8 x, .int .u8 y, .int .u8 z] 50) ∧ obj _ w.heap.size = some (.cells #[.int .u8 x, .int .u8 y, .int .u8 z] 50) ∧ New v _›
      go_wp2_with (fail)
      go_meet
      exact ⟨rfl, rfl, rfl, hN⟩
  case rest =>
  obtain ⟨rfl, rfl, rfl, hn1⟩ := hcut
  have c1 : obj wc w.heap.size = _ := (hn1.objs _ l1).trans b1
  have m1 : w.heap.size < wc.heap.size := by have := hn1.le; omega
  have hw2 := hw.trans hn1
  have hs2 := hs1.new hn1
  clear b1 hs1 hn1 l1
  obtain ⟨v1, rfl⟩ : ∃ v1 : World, v1 = wc := ⟨_, rfl⟩
  go_wp2_with (fail)
  refine (toPalette_any _ n0 f0 hb0 _ hs2).mono ?_
  rintro e1 w1 ⟨g1, rfl, P1, lg1, hn1⟩
  have d1 : obj w1 w.heap.size = _ := (hn1.objs _ m1).trans c1
  have hw3 := hw2.trans hn1
  have hs3 := hs2.new hn1
  clear c1
  go_wp2_with (fail)
  refine (toTone_any _ _ _ _).mono ?_
  rintro e2 w2 ⟨rfl, hn2⟩
  have P2 := P1.new hn2
  have hw4 := hw3.trans hn2
  have hs4 := hs3.new hn2
  go_wp2_with (fail)
  refine (near_impl _ n0 _ f0 x y z hx hy hz hf0 hb0 (Nat.le_refl _) _ P2.sl).mono ?_
  rintro e3 w3 ⟨rfl, hn3⟩
  have P3 := P2.new hn3
  have hw5 := hw4.trans hn3
  have hs5 := hs4.new hn3
  have q0 : ∀ k : Int, (k != k) = false := by simp
  go_wp2_with (fail)
  refine (toPalette_any _ n0 f0 hb0 _ hs5).mono ?_
  rintro e4 w4 ⟨g4, rfl, P4, lg4, hn4⟩
  have P5 := P3.new hn4
  have hw6 := hw5.trans hn4
  go_wp2_with (fail)
  refine (eqPalette_refl _ _ n0 n0 n0 f0 hb0 _ P5.sl P4.sl).mono ?_
  rintro e5 w5 ⟨rfl, hn5⟩
  go_wp2_with (fail)
  go_ret
  exact ⟨rfl, hw6.trans hn5⟩
end Go.Proofs.Ytedbagefigclgaa
