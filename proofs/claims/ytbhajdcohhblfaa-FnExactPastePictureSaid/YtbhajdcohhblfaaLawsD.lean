/- The law on pasted pictures, walked; no condition. -/
import Derived.Test.YtbhajdcohhblfaaImplC
import Derived.Test.YtbhajdcohhblfaaEqP
import Derived.Test.YtbhajdcohhblfaaDraw
set_option linter.unusedVariables false
namespace Go.Proofs.Ytbhajdcohhblfaa
open Go.BigFrame
open Go.RowKit Go.Arr
set_option maxHeartbeats 4000000 in
set_option maxRecDepth 100000 in
theorem pas_law (a b : Int) (f : Nat → Int) (ha : -128 ≤ a ∧ a ≤ 127) (hb : -128 ≤ b ∧ b ≤ 127) (hf : ∀ i, 0 ≤ f i ∧ f i ≤ 255) (c d : Int) (g : Nat → Int) (hc : -128 ≤ c ∧ c ≤ 127) (hd : -128 ≤ d ∧ d ≤ 127) (hg : ∀ i, 0 ≤ g i ∧ g i ≤ 255) (x : Int) (hx : -9223372036854775808 ≤ x ∧ x ≤ 9223372036854775807) (y : Int) (hy : -9223372036854775808 ≤ y ∧ y ≤ 9223372036854775807) (w : World) :
    Calls Try.prog 11 #[.agg (pic 144 a b f), .agg (pic 144 c d g), .int .i64 x, .int .i64 y] w fun e w' => e = .returned (.bool true) ∧ New w w' := by
  go_enter Try.func11, Try.ntmps11
  go_wp2_with (fail)
  generalize hv : (w.alloc (Obj.cells (pic 144 a b f) 25)).alloc (Obj.cells (pic 144 c d g) 25) = v
  have b1 : obj v w.heap.size = some (.cells (pic 144 a b f) 25) := by subst hv; go_simp
  have b2 : obj v (w.heap.size + 1) = some (.cells (pic 144 c d g) 25) := by subst hv; go_simp
  have hw : New w v := by subst hv; exact ((New.refl w).alloc _).alloc _
  have l1 : w.heap.size < v.heap.size := by subst hv; simp; omega
  have l2 : w.heap.size + 1 < v.heap.size := by subst hv; simp
  clear hv
  go_cut [9, 10] (fun s0 s1 wx => ∃ n : Nat, s0 = .pointer (some ⟨n, 0, none⟩) ∧ s1 = .int .i64 (pasA a b f c d g x y).c ∧ Hid (obj wx n = some (.cells (pic 144 (pasA a b f c d g x y).w (pasA a b f c d g x y).h (pasA a b f c d g x y).f) 27)) ∧ New v wx ∧ v.heap.size ≤ n ∧ n < wx.heap.size)
  case first =>
    go_region_held3 (fun W => obj W w.heap.size = some (.cells (pic 144 a b f) 25) ∧ obj W (w.heap.size + 1) = some (.cells (pic 144 c d g) 25) ∧ New v W) (first | exact held_begin (by assumption) (by assumption) | exact held_new (by assumption) (by assumption) (by assumption) (by assumption) | exact held_new (by assumption) (by assumption) (by assumption) ((New.refl _).alloc _) | exact held_re (by assumption) (by assumption) (by assumption) (by assumption) _ | exact held_row (by assumption) (by assumption) (by assumption) (by first | assumption | (simp; done) | (simp; omega)) _) (first | (go_at_call 16; refine (toPicture_any _ _ _ _).mono ?_; rintro e1 w1 ⟨rfl, hn1⟩; have ho1 := hn1.objs; have kk1 := lt_new hn1; have hz1 := hn1.le; have hl1 : v.heap.size ≤ w1.heap.size := (by (try simp at hz1); omega); try (first | have hb1 := (hn1.objs _ (obj_lt hb1)).trans hb1 | have hb1 := obj_made hn1 | have hb1 := obj_made2 hn1); try simp only [World.size_drew] at hb1) | (go_at_call 33; refine (pas_spec a b f c d g x y ha hb hf hc hd hg _).mono ?_; rintro e1 w1 ⟨rfl, hn1⟩; have ho1 := hn1.objs; have kk1 := lt_new hn1; have hz1 := hn1.le; have hl1 : v.heap.size ≤ w1.heap.size := (by (try simp at hz1); omega); try (first | have hb1 := (hn1.objs _ (obj_lt hb1)).trans hb1 | have hb1 := obj_made hn1 | have hb1 := obj_made2 hn1); try simp only [World.size_drew] at hb1))
    all_goals
      obtain ⟨_, _, hN⟩ := ‹obj _ w.heap.size = some (.cells (pic 144 a b f) 25) ∧ obj _ (w.heap.size + 1) = some (.cells (pic 144 c d g) 25) ∧ New v _›
      go_wp2_with (fail)
      go_meet
      refine ⟨_, rfl, rfl, ?_, hN, ?_, ?_⟩
      · show _ = _
        go_simp
      · first | assumption | (simp; done) | (simp; omega)
      · first | (rw [size_setRow]; exact obj_lt hb1) | exact obj_lt hb1 | (simp; done) | (simp; omega)
  case rest =>
  obtain ⟨n, rfl, rfl, hq1, hn1, hln, hnl⟩ := hcut
  have c1 : obj wc w.heap.size = _ := (hn1.objs _ l1).trans b1
  have c2 : obj wc (w.heap.size + 1) = _ := (hn1.objs _ l2).trans b2
  have m1 : w.heap.size < wc.heap.size := by omega
  have m2 : w.heap.size + 1 < wc.heap.size := by omega
  have hw2 := hw.trans hn1
  clear b1 b2
  obtain ⟨v1, rfl⟩ : ∃ v1 : World, v1 = wc := ⟨_, rfl⟩
  go_wp2_with (fail)
  go_cut [11, 12] (fun s0 s1 wx => ∃ n : Nat, s0 = .pointer (some ⟨n, 0, none⟩) ∧ s1 = .int .i64 (pasA a b f c d g x y).c ∧ Hid (obj wx n = some (.cells (pic 144 (pasA a b f c d g x y).w (pasA a b f c d g x y).h (pasA a b f c d g x y).f) 27)) ∧ New v1 wx ∧ v1.heap.size ≤ n ∧ n < wx.heap.size)
  case first =>
    go_region_held3 (fun W => obj W w.heap.size = some (.cells (pic 144 a b f) 25) ∧ obj W (w.heap.size + 1) = some (.cells (pic 144 c d g) 25) ∧ New v1 W) (first | exact held_begin (by assumption) (by assumption) | exact held_new (by assumption) (by assumption) (by assumption) (by assumption) | exact held_new (by assumption) (by assumption) (by assumption) ((New.refl _).alloc _) | exact held_re (by assumption) (by assumption) (by assumption) (by assumption) _ | exact held_row (by assumption) (by assumption) (by assumption) (by first | assumption | (simp; done) | (simp; omega)) _) (first | (go_at_call 16; refine (toPicture_any _ _ _ _).mono ?_; rintro e1 w1 ⟨rfl, hn1⟩; have ho1 := hn1.objs; have kk1 := lt_new hn1; have hz1 := hn1.le; have hl1 : v1.heap.size ≤ w1.heap.size := (by (try simp at hz1); omega); try (first | have hb1 := (hn1.objs _ (obj_lt hb1)).trans hb1 | have hb1 := obj_made hn1 | have hb1 := obj_made2 hn1); try simp only [World.size_drew] at hb1) | (go_at_call 34; refine (pas_impl a b f c d g x y ha hb hf hc hd hg _).mono ?_; rintro e1 w1 ⟨rfl, hn1⟩; have ho1 := hn1.objs; have kk1 := lt_new hn1; have hz1 := hn1.le; have hl1 : v1.heap.size ≤ w1.heap.size := (by (try simp at hz1); omega); try (first | have hb1 := (hn1.objs _ (obj_lt hb1)).trans hb1 | have hb1 := obj_made hn1 | have hb1 := obj_made2 hn1); try simp only [World.size_drew] at hb1))
    all_goals
      obtain ⟨_, _, hN⟩ := ‹obj _ w.heap.size = some (.cells (pic 144 a b f) 25) ∧ obj _ (w.heap.size + 1) = some (.cells (pic 144 c d g) 25) ∧ New v1 _›
      go_wp2_with (fail)
      go_meet
      refine ⟨_, rfl, rfl, ?_, hN, ?_, ?_⟩
      · show _ = _
        go_simp
      · first | assumption | (simp; done) | (simp; omega)
      · first | (rw [size_setRow]; exact obj_lt hb1) | exact obj_lt hb1 | (simp; done) | (simp; omega)
  case rest =>
  obtain ⟨m, rfl, rfl, hq2, hn2, hlm, hml⟩ := hcut
  have d1 : obj wc n = _ := (hn2.objs _ hnl).trans hq1.out
  have d2 := hq2.out
  go_wp2_with (fail)
  refine (eqPicture_refl _ _ _ _).mono ?_
  rintro e3 w3 ⟨rfl, hn3⟩
  go_wp2_with (fail)
  go_ret
  exact ⟨rfl, (hw2.trans hn2).trans hn3⟩
end Go.Proofs.Ytbhajdcohhblfaa
