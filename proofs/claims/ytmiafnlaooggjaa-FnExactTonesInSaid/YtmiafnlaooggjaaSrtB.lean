/- Tones sorted by brightness, by the program; no condition. -/
import Derived.Test.YtmiafnlaooggjaaSrt
set_option linter.unusedVariables false
namespace Go.Proofs.Ytmiafnlaooggjaa
open Go.BigFrame
open Go.RowKit Go.Arr
open Go.Sort (grow)
section
variable {v W W' : World} {g1 g2 : Nat} {A B : Option Obj}
theorem gh_begin (h1 : obj W g1 = A) (h2 : obj W g2 = B) : obj W.drew g1 = A ∧ obj W.drew g2 = B ∧ Gr W W.drew := ⟨h1, h2, (Gr.refl W).drew⟩
theorem gh_step (l1 : g1 < v.heap.size) (l2 : g2 < v.heap.size) (h : obj W g1 = A ∧ obj W g2 = B ∧ Gr v W) (hg : Gr W W') : obj W' g1 = A ∧ obj W' g2 = B ∧ Gr v W' := by
  have hv := h.2.2.new.le
  exact ⟨by rw [hg.new.objs _ (by omega), h.1], by rw [hg.new.objs _ (by omega), h.2.1], h.2.2.trans hg⟩
end
theorem gr_eq {w w' : World} (h : w = w') : Gr w w' := by subst h; exact Gr.refl _
theorem cmpF_cells (x y : Tn) (W : World) (T : TypeId) (z0 z1 z2 z3 : Int) (h0 : z0 = cmpF x y 0) (h1 : z1 = cmpF x y 1) (h2 : z2 = cmpF x y 2) (h3 : z3 = cmpF x y 3) (g : Nat) (hg : g = W.heap.size) : Sl (W.alloc (.cells #[.int .i64 z0, .int .i64 z1, .int .i64 z2, .int .i64 z3] T)) (.slice (some ⟨g, 0, none⟩) 4 4) 4 1 .i64 (cmpF x y) := by
  subst h0; subst h1; subst h2; subst h3
  refine Sl.of (obj_alloc_at _ _ _ hg) fun i hi => ?_
  have : i = 0 ∨ i = 1 ∨ i = 2 ∨ i = 3 := by omega
  rcases this with rfl | rfl | rfl | rfl <;> rfl
set_option maxHeartbeats 4000000 in
set_option maxRecDepth 100000 in
theorem byBright_gr (x y : Tn) (w : World) :
    Calls Try.prog 81 #[.agg #[.int .u8 (n0 x), .int .u8 (n1 x), .int .u8 (n2 x)], .agg #[.int .u8 (n0 y), .int .u8 (n1 y), .int .u8 (n2 y)]] w fun e w' => e = .returned (.int .i64 (cmpT x y)) ∧ Gr w w' := by
  have hx := n_b x
  have hy := n_b y
  have bx0 : Hid (bright (n0 x) (n1 x) (n2 x) = brT x) := rfl
  have by0 : Hid (bright (n0 y) (n1 y) (n2 y) = brT y) := rfl
  go_enter Try.func81, Try.ntmps81
  go_wp2_with (fail)
  generalize hw2 : (w.alloc (Obj.cells #[.int .u8 (n0 x), .int .u8 (n1 x), .int .u8 (n2 x)] 40)).alloc (Obj.cells #[.int .u8 (n0 y), .int .u8 (n1 y), .int .u8 (n2 y)] 40) = w2
  have b1 : obj w2 w.heap.size = some (.cells #[.int .u8 (n0 x), .int .u8 (n1 x), .int .u8 (n2 x)] 40) := by subst hw2; go_simp
  have b2 : obj w2 (w.heap.size + 1) = some (.cells #[.int .u8 (n0 y), .int .u8 (n1 y), .int .u8 (n2 y)] 40) := by subst hw2; go_simp
  have hg2 : Gr w w2 := by subst hw2; exact ((Gr.refl w).alloc _).alloc _
  clear hw2
  have r1 := obj_lt b1
  have r2 := obj_lt b2
  go_region_held3 (fun W' => obj W' w.heap.size = some (.cells #[.int .u8 (n0 x), .int .u8 (n1 x), .int .u8 (n2 x)] 40) ∧ obj W' (w.heap.size + 1) = some (.cells #[.int .u8 (n0 y), .int .u8 (n1 y), .int .u8 (n2 y)] 40) ∧ Gr w2 W') (first | exact gh_begin (by assumption) (by assumption) | exact gh_step (by assumption) (by assumption) (by assumption) (by assumption) | exact gh_step (by assumption) (by assumption) (by assumption) ((Gr.refl _).alloc _)) (first | (go_at_call 110; refine (bright_gr _ _ _ (by omega) (by omega) (by omega) _).mono ?_; rintro e1 w3 ⟨rfl, hn3⟩) | (go_at_call 109; refine (compare64_any _ _ _).mono ?_; rintro e1 w3 ⟨rfl, hn3⟩; replace hn3 := gr_eq hn3) | (go_at_call 111; refine (compare8_any _ _ _).mono ?_; rintro e1 w3 ⟨rfl, hn3⟩; replace hn3 := gr_eq hn3) | (go_at_call 108; refine (or_any _ 4 4 (cmpF x y) (by omega) _ (cmpF_cells x y _ _ _ _ _ _ rfl rfl rfl rfl _ rfl)).mono ?_; rintro e1 w3 ⟨rfl, hn3⟩; replace hn3 := gr_eq hn3))
  all_goals
    rename_i hH
    have hH := hH.2.2
    clear bx0 by0 hx hy b1 b2
    go_wp2_with (fail)
    go_ret
    exact ⟨rfl, hg2.trans hH⟩
end Go.Proofs.Ytmiafnlaooggjaa
