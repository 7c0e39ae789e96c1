/- The field at a place: the reference and the program answer alike; no condition. -/
import Derived.Test.YtmmckoemkpfgbaaFldD
set_option linter.unusedVariables false
namespace Go.Proofs.Ytmmckoemkpfgbaa
open Go.BigFrame
open Go.RowKit Go.Arr
def fC (a b : Int) (f : Nat → Int) (x y : Int) : Int := codeB (okPic a b f) (isCellB x y a b)
def fQ (a b : Int) (f : Nat → Int) (x y : Int) : List Nat := fldQ a b f (x + 12 * y).toNat
def fN (a b : Int) (f : Nat → Int) (x y : Int) : Nat := if fC a b f x y = 0 then selN (inF (fQ a b f x y)) 144 else 0
def fG (a b : Int) (f : Nat → Int) (x y : Int) : Nat → Int := fun j => (selG (inF (fQ a b f x y)) 144 j : Int)
theorem fN_le (a b : Int) (f : Nat → Int) (x y : Int) : fN a b f x y ≤ 144 := by
  unfold fN
  split
  · exact selN_le 144
  · omega
theorem place_cell {a b x y : Int} {f : Nat → Int} (h1 : okPic a b f = true) (h2 : isCellB x y a b = true) : (a ≤ 12 ∧ b ≤ 12) ∧ (0 ≤ x ∧ x ≤ 11) ∧ (0 ≤ y ∧ y ≤ 11) ∧ x + 12 * y = (((x + 12 * y).toNat : Nat) : Int) ∧ cellN a b (x + 12 * y).toNat = true := by
  have hd := okPic_dims h1
  have hc := isCellB_t h2
  refine ⟨by omega, by omega, by omega, by omega, ?_⟩
  rw [cellN_e]
  omega
set_option maxHeartbeats 2000000 in
set_option maxRecDepth 100000 in
theorem fieldAt_spec (a b : Int) (f : Nat → Int) (x y : Int) (ha : -128 ≤ a ∧ a ≤ 127) (hb : -128 ≤ b ∧ b ≤ 127) (hf : ∀ i, 0 ≤ f i ∧ f i ≤ 255) (w : World) :
    Calls Try.prog 16 #[.agg (pic 144 a b f), .int .i64 x, .int .i64 y] w fun e w' => ∃ v, e = .returned (.tuple #[v, .int .i64 (fC a b f x y)]) ∧ Row w' w.heap.size v (fN a b f x y) (fG a b f x y) ∧ New w w' := by
  have hFN : Hid (fN a b f x y = if fC a b f x y = 0 then selN (inF (fQ a b f x y)) 144 else 0) := rfl
  rcases codeB_cases (okPic a b f) (isCellB x y a b) with ⟨h1, h2, h3⟩ | ⟨h3, h1⟩ | ⟨h3, h1, h2⟩
  · obtain ⟨hd, hx, hy, he, hcell⟩ := place_cell h1 h2
    have hC : Hid (fC a b f x y = 0) := h3
    have hN : Hid (fN a b f x y = selN (inF (fQ a b f x y)) 144) := hFN.out.trans (if_pos h3)
    have hfq : Hid (fldQ a b f (x + 12 * y).toNat = fQ a b f x y) := rfl
    generalize (x + 12 * y).toNat = c0 at he hcell hfq
    clear h1 h2
    go_enter Try.func16, Try.ntmps16
    go_wp2_with (fail)
    generalize hw0 : w.alloc (Obj.cells (pic 144 a b f) 27) = w0
    have b1 : obj w0 w.heap.size = some (.cells (pic 144 a b f) 27) := by subst hw0; go_simp
    have hn0 : New w w0 := by subst hw0; exact (New.refl w).alloc _
    clear hw0
    refine (l01Place_any _ 27 a b f x y ha hb hf _ b1).mono ?_
    rintro e w1 ⟨rfl, rfl⟩
    rw [h3]
    go_wp2_with (fail)
    refine (l01Field_any _ 27 a b f ⟨by omega, by omega⟩ ⟨by omega, by omega⟩ hf c0 hcell _ b1).mono ?_
    rintro e w2 ⟨rfl, hn2⟩
    rw [hfq.out]
    have hN2 := hn0.trans hn2
    go_wp2_with (fail)
    refine (l01Listed_any _ (inF (fQ a b f x y)) 62 _ (by go_simp)).mono ?_
    rintro e w3 ⟨v, rfl, hr, hn3⟩
    have hz := hN2.le
    go_wp2_with (fail)
    go_ret2
    exact ⟨v, by rw [hC.out]; rfl, by rw [hN.out]; exact hr.lower (by simp; omega), (hN2.alloc _).trans hn3⟩
  all_goals
    have hC : Hid (fC a b f x y = _) := h3
    have hN : Hid (fN a b f x y = 0) := hFN.out.trans (if_neg (by unfold fC; rw [h3]; omega))
    clear h1
    try clear h2
    go_enter Try.func16, Try.ntmps16
    go_wp2_with (fail)
    refine (l01Place_any _ 27 a b f x y ha hb hf _ (by go_simp)).mono ?_
    rintro e w1 ⟨rfl, rfl⟩
    rw [h3]
    go_wp2_with (fail)
    go_ret2
    exact ⟨_, by rw [hC.out]; rfl, by rw [hN.out]; exact row_empty2 (obj_alloc_at _ _ _ (by simp)) (by simp), ((New.refl w).alloc _).alloc _⟩
set_option maxHeartbeats 2000000 in
set_option maxRecDepth 100000 in
theorem fieldAt_impl (a b : Int) (f : Nat → Int) (x y : Int) (ha : -128 ≤ a ∧ a ≤ 127) (hb : -128 ≤ b ∧ b ≤ 127) (hf : ∀ i, 0 ≤ f i ∧ f i ≤ 255) (w : World) :
    Calls Try.prog 10 #[.agg (pic 144 a b f), .int .i64 x, .int .i64 y] w fun e w' => ∃ v, e = .returned (.tuple #[v, .int .i64 (fC a b f x y)]) ∧ Row w' w.heap.size v (fN a b f x y) (fG a b f x y) ∧ New w w' := by
  have hFN : Hid (fN a b f x y = if fC a b f x y = 0 then selN (inF (fQ a b f x y)) 144 else 0) := rfl
  rcases codeB_cases (okPic a b f) (isCellB x y a b) with ⟨h1, h2, h3⟩ | ⟨h3, h1⟩ | ⟨h3, h1, h2⟩
  · obtain ⟨hd, hx, hy, he, hcell⟩ := place_cell h1 h2
    have hC : Hid (fC a b f x y = 0) := h3
    have hN : Hid (fN a b f x y = selN (inF (fQ a b f x y)) 144) := hFN.out.trans (if_pos h3)
    have he' := hide he
    clear h1 h2 he
    go_enter Try.func10, Try.ntmps10
    go_wp2_with (fail)
    refine wp_region_new (by kernel_rfl) (by kernel_rfl) ?_
    repeat (go_big_quiet_step (first | fail | (go_at_call 25; with_reducible exact calls_new (validPicture_impl a b f ha hb hf _)) | (go_at_call 32; with_reducible exact calls_new (has_any a b f x y ha hb _)) | (go_at_call 31; with_reducible exact calls_new (new_same (codeOf_any _ _ _)))))
    refine wpQuiet_nil ?_
    intro w1 hc1
    have hn1 := NewW.of hc1
    clear hc1
    have ho1 := hn1.objs
    have hz1 := hn1.le
    try simp at hz1
    have k1_0 : w.heap.size < w1.heap.size := by omega
    go_wp2_with (fail)
    refine (field_any a b f ⟨by omega, by omega⟩ ⟨by omega, by omega⟩ hf (x + 12 * y).toNat x y hx hy he'.out hcell _).mono ?_
    rintro e w3 ⟨v, rfl, hr, hn3⟩
    have hNw : New w w1 := ((New.refl w).alloc _).trans hn1
    have hz := hNw.le
    go_wp2_with (fail)
    go_ret2
    exact ⟨v, by rw [hC.out]; rfl, by rw [hN.out]; exact hr.lower hz, hNw.trans hn3⟩
  all_goals
    have hC : Hid (fC a b f x y = _) := h3
    have hN : Hid (fN a b f x y = 0) := hFN.out.trans (if_neg (by unfold fC; rw [h3]; omega))
    clear h1
    try clear h2
    go_enter Try.func10, Try.ntmps10
    go_wp2_with (fail)
    refine wp_region_new (by kernel_rfl) (by kernel_rfl) ?_
    repeat (go_big_quiet_step (first | fail | (go_at_call 25; with_reducible exact calls_new (validPicture_impl a b f ha hb hf _)) | (go_at_call 32; with_reducible exact calls_new (has_any a b f x y ha hb _)) | (go_at_call 31; with_reducible exact calls_new (new_same (codeOf_any _ _ _)))))
    refine wpQuiet_nil ?_
    intro w2 hc2
    have hn2 := NewW.of hc2
    clear hc2
    have ho2 := hn2.objs
    have hz2 := hn2.le
    try simp at hz2
    have k2_0 : w.heap.size < w2.heap.size := by omega
    go_wp2_with (fail)
    go_ret2
    refine ⟨_, rfl, by rw [hN.out]; exact Row.nil, ?_⟩
    repeat' (first | exact New.refl _ | refine New.alloc ?_ _ | refine New.drew ?_ | refine New.drewN ?_ _ | refine New.setRow ?_ (by omega) _ | refine New.setCell ?_ (by first | omega | (simp; done) | (simp; omega)) _ | refine New.trans ?_ hn2 | refine New.trans ?_ hn1)
end Go.Proofs.Ytmmckoemkpfgbaa
