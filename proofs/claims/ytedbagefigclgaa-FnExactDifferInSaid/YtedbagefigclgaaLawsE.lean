/- The law on the places in which two pictures differ, walked; no condition. -/
import Derived.Test.YtedbagefigclgaaDif
import Derived.Test.YtedbagefigclgaaPic
import Derived.Test.YtedbagefigclgaaDraw
set_option linter.unusedVariables false
namespace Go.Proofs.Ytedbagefigclgaa
open Go.BigFrame
open Go.RowKit Go.Arr
set_option maxHeartbeats 4000000 in
set_option maxRecDepth 100000 in
theorem dif_law (a b : Int) (f : Nat → Int) (ha : -128 ≤ a ∧ a ≤ 127) (hb : -128 ≤ b ∧ b ≤ 127) (hf : ∀ i, 0 ≤ f i ∧ f i ≤ 255) (c d : Int) (g : Nat → Int) (hc : -128 ≤ c ∧ c ≤ 127) (hd : -128 ≤ d ∧ d ≤ 127) (hg : ∀ i, 0 ≤ g i ∧ g i ≤ 255) (w : World) :
    Calls Try.prog 3 #[.agg (pic 144 a b f), .agg (pic 144 c d g)] w fun e w' => e = .returned (.bool true) ∧ New w w' := by
  have hM := difM_le a b f c d g
  go_enter Try.func3, Try.ntmps3
  go_wp2_with (fail)
  generalize hv : (w.alloc (Obj.cells (pic 144 a b f) 25)).alloc (Obj.cells (pic 144 c d g) 25) = v
  have b1 : obj v w.heap.size = some (.cells (pic 144 a b f) 25) := by subst hv; go_simp
  have b2 : obj v (w.heap.size + 1) = some (.cells (pic 144 c d g) 25) := by subst hv; go_simp
  have hw : New w v := by subst hv; exact ((New.refl w).alloc _).alloc _
  have l1 : w.heap.size < v.heap.size := by subst hv; simp; omega
  have l2 : w.heap.size + 1 < v.heap.size := by subst hv; simp
  clear hv
  go_cut [5, 6] (fun s0 s1 wx => s1 = .int .i64 (difC a b f c d g) ∧ Row wx v.heap.size s0 (difM a b f c d g) (difF f g 144) ∧ New v wx)
  case first =>
    go_region_held3 (fun W => obj W w.heap.size = some (.cells (pic 144 a b f) 25) ∧ obj W (w.heap.size + 1) = some (.cells (pic 144 c d g) 25) ∧ New v W) (first | exact held_begin (by assumption) (by assumption) | exact held_new (by assumption) (by assumption) (by assumption) (by assumption)) (first | (go_at_call 16; refine (toPicture_any _ _ _ _).mono ?_; rintro e1 w1 ⟨rfl, hn1⟩; have hz1 := hn1.le; have hl1 : v.heap.size ≤ w1.heap.size := (by (try simp at hz1); omega)) | (go_at_call 15; refine (dif_spec a b f c d g ha hb hf hc hd hg _).mono ?_; rintro e1 w1 ⟨val1, rfl, hr1, hn1⟩; have hr2 := hr1.lower (b := v.heap.size) (by assumption)))
    all_goals
      obtain ⟨_, _, hN⟩ := ‹obj _ w.heap.size = some (.cells (pic 144 a b f) 25) ∧ obj _ (w.heap.size + 1) = some (.cells (pic 144 c d g) 25) ∧ New v _›
      go_wp2_with (fail)
      go_meet
      exact ⟨rfl, hr2, hN⟩
  case rest =>
  obtain ⟨rfl, R1, hn1⟩ := hcut
  have c1 : obj wc w.heap.size = _ := (hn1.objs _ l1).trans b1
  have c2 : obj wc (w.heap.size + 1) = _ := (hn1.objs _ l2).trans b2
  have m1 : w.heap.size < wc.heap.size := by have := hn1.le; omega
  have m2 : w.heap.size + 1 < wc.heap.size := by have := hn1.le; omega
  have hw2 := hw.trans hn1
  clear b1 b2
  obtain ⟨x1, y1, rfl, _⟩ := R1.reads
  obtain ⟨v1, rfl⟩ : ∃ v1 : World, v1 = wc := ⟨_, rfl⟩
  go_wp2_with (fail)
  go_cut [7, 8] (fun s0 s1 wx => s1 = .int .i64 (difC a b f c d g) ∧ Row wx v1.heap.size s0 (difM a b f c d g) (difF f g 144) ∧ New v1 wx)
  case first =>
    go_region_held3 (fun W => obj W w.heap.size = some (.cells (pic 144 a b f) 25) ∧ obj W (w.heap.size + 1) = some (.cells (pic 144 c d g) 25) ∧ New v1 W) (first | exact held_begin (by assumption) (by assumption) | exact held_new (by assumption) (by assumption) (by assumption) (by assumption)) (first | (go_at_call 16; refine (toPicture_any _ _ _ _).mono ?_; rintro e1 w1 ⟨rfl, hn1⟩; have hz1 := hn1.le; have hl1 : v1.heap.size ≤ w1.heap.size := (by (try simp at hz1); omega)) | (go_at_call 17; refine (dif_impl a b f c d g ha hb hf hc hd hg _).mono ?_; rintro e1 w1 ⟨val1, rfl, hr1, hn1⟩; have hr2 := hr1.lower (b := v1.heap.size) (by assumption)))
    all_goals
      obtain ⟨_, _, hN⟩ := ‹obj _ w.heap.size = some (.cells (pic 144 a b f) 25) ∧ obj _ (w.heap.size + 1) = some (.cells (pic 144 c d g) 25) ∧ New v1 _›
      go_wp2_with (fail)
      go_meet
      exact ⟨rfl, hr2, hN⟩
  case rest =>
  obtain ⟨rfl, R2, hn2⟩ := hcut
  have d1 : obj wc w.heap.size = _ := (hn2.objs _ m1).trans c1
  have d2 : obj wc (w.heap.size + 1) = _ := (hn2.objs _ m2).trans c2
  have hw3 := hw2.trans hn2
  have hs2 := hn2.le
  have R1' := R1.new hn2
  obtain ⟨x2, y2, rfl, r2⟩ := R2.reads
  obtain ⟨v2, rfl⟩ : ∃ v2 : World, v2 = wc := ⟨_, rfl⟩
  clear c1 c2 hn1 hn2
  go_wp2_with (fail)
  refine (eqRows_refl x2 x1 _ y2 y1 _ (by omega) _ r2 R1'.reads').mono ?_
  rintro e3 w3 ⟨rfl, hn3⟩
  go_wp2_with (fail)
  refine (mark_row _ _ _ _ 1 (by omega) (by omega) _ (R2.new hn3)).mono ?_
  rintro e4 w4 ⟨rfl, R4, ho4, hz4, hN4⟩
  have hb2 := R2.block
  have hb1 := R1.block
  have R1'' : Row w4 v.heap.size (.slice x1 (difM a b f c d g) y1) (difM a b f c d g) (difF f g 144) := (R1'.new hn3).same fun b hb => ho4 b fun e => by
    have h1 := hb1 b hb
    have h2 := hb2 b e
    omega
  have e1 : obj w4 w.heap.size = _ := (ho4 _ fun e => by have := hb2 _ e; omega).trans ((hn3.objs _ (by omega)).trans d1)
  have e2 : obj w4 (w.heap.size + 1) = _ := (ho4 _ fun e => by have := hb2 _ e; omega).trans ((hn3.objs _ (by omega)).trans d2)
  have hw4 : New w w4 := hN4 w (hw3.trans hn3) fun b hb => by have := hb2 b hb; omega
  have hs3 := hn3.le
  clear ho4 hN4 hb1 hb2 d1 d2 R1'
  go_wp2_with (fail)
  refine (held_row_ x2 _ y2 1 (by omega) (by omega) _ R4.reads').mono ?_
  rintro e5 w5 ⟨rfl, hn5⟩
  have f1 : obj w5 w.heap.size = _ := (hn5.objs _ (by omega)).trans e1
  have f2 : obj w5 (w.heap.size + 1) = _ := (hn5.objs _ (by omega)).trans e2
  have n1 : w.heap.size < w5.heap.size := by have := hn5.le; omega
  have n2 : w.heap.size + 1 < w5.heap.size := by have := hn5.le; omega
  have R5 := R4.new hn5
  have Q5 := R1''.new hn5
  have hw5 := hw4.trans hn5
  clear e1 e2 R4 R1''
  have q1 : ¬ (1 + (difM a b f c d g : Int) < 0) := by omega
  go_wp2_with (fail)
  go_cut [11, 12] (fun s0 s1 wx => s1 = .int .i64 (difC a b f c d g) ∧ Row wx w5.heap.size s0 (difM a b f c d g) (difF f g 144) ∧ New w5 wx)
  case first =>
    go_region_held3 (fun W => obj W w.heap.size = some (.cells (pic 144 a b f) 25) ∧ obj W (w.heap.size + 1) = some (.cells (pic 144 c d g) 25) ∧ New w5 W) (first | exact held_begin (by assumption) (by assumption) | exact held_new (by assumption) (by assumption) (by assumption) (by assumption)) (first | (go_at_call 16; refine (toPicture_any _ _ _ _).mono ?_; rintro e1 w1 ⟨rfl, hn1⟩; have hz1 := hn1.le; have hl1 : w5.heap.size ≤ w1.heap.size := (by (try simp at hz1); omega)) | (go_at_call 17; refine (dif_impl a b f c d g ha hb hf hc hd hg _).mono ?_; rintro e1 w1 ⟨val1, rfl, hr1, hn1⟩; have hr2 := hr1.lower (b := w5.heap.size) (by assumption)))
    all_goals
      obtain ⟨_, _, hN⟩ := ‹obj _ w.heap.size = some (.cells (pic 144 a b f) 25) ∧ obj _ (w.heap.size + 1) = some (.cells (pic 144 c d g) 25) ∧ New w5 _›
      go_wp2_with (fail)
      go_meet
      exact ⟨rfl, hr2, hN⟩
  case rest =>
  obtain ⟨rfl, R6, hn6⟩ := hcut
  obtain ⟨x6, y6, rfl, r6⟩ := R6.reads
  have Q6 := Q5.new hn6
  have R6' := R5.new hn6
  have hw6 := hw5.trans hn6
  go_wp2_with (fail)
  refine (eqRows_refl x6 x1 _ y6 y1 _ (by omega) _ r6 Q6.reads').mono ?_
  rintro e7 w7 ⟨rfl, hn7⟩
  go_wp2_with (fail)
  refine (held_row_ x2 _ y2 1 (by omega) (by omega) _ (R6'.new hn7).reads').mono ?_
  rintro e8 w8 ⟨rfl, hn8⟩
  go_wp2_with (fail)
  go_ret
  exact ⟨rfl, (hw6.trans hn7).trans hn8⟩
end Go.Proofs.Ytedbagefigclgaa
