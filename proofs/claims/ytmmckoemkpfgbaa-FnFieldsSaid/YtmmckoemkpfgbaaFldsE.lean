/- All fields: the reference and the program answer alike; no condition. -/
import Derived.Test.YtmmckoemkpfgbaaFldsI
import Derived.Test.YtmmckoemkpfgbaaFldE
import Derived.Test.YtmmckoemkpfgbaaRMark
set_option linter.unusedVariables false
namespace Go.Proofs.Ytmmckoemkpfgbaa
open Go.BigFrame
open Go.RowKit Go.Arr
def flC (a b : Int) (f : Nat → Int) : Int := if okPic a b f = true then 0 else 1
def flN (a b : Int) (f : Nat → Int) : Nat := if okPic a b f = true then fsN a b f 144 else 0
theorem flN_le (a b : Int) (f : Nat → Int) : flN a b f ≤ 144 := by
  unfold flN
  split
  · exact fsN_le a b f 144
  · omega
theorem fsM_le (a b : Int) (f : Nat → Int) (i j : Nat) : fsM a b f i j ≤ 144 := fldM_le a b f _
set_option maxHeartbeats 2000000 in
set_option maxRecDepth 100000 in
theorem fieldsOf_spec (a b : Int) (f : Nat → Int) (ha : -128 ≤ a ∧ a ≤ 127) (hb : -128 ≤ b ∧ b ≤ 127) (hf : ∀ i, 0 ≤ f i ∧ f i ≤ 255) (w : World) :
    Calls Try.prog 7 #[.agg (pic 144 a b f)] w fun e w' => ∃ v vs, e = .returned (.tuple #[v, .int .i64 (flC a b f)]) ∧ RR w' w.heap.size v (flN a b f) vs (fsM a b f 144) (fsF a b f 144) ∧ New w w' := by
  cases h1 : okPic a b f
  · have hC : Hid (flC a b f = 1) := if_neg (by rw [h1]; simp)
    have hN : Hid (flN a b f = 0) := if_neg (by rw [h1]; simp)
    go_enter Try.func7, Try.ntmps7
    go_wp2_with (fail)
    refine (l01Ok_any _ 27 a b f ha hb hf _ (by go_simp)).mono ?_
    rintro e w1 ⟨rfl, rfl⟩
    rw [h1]
    clear h1
    go_wp2_with (fail)
    go_ret2
    exact ⟨_, fun _ => .slice none 0 0, by rw [hC.out]; rfl, by rw [hN.out]; exact RR.empty (obj_alloc_at _ _ _ (by simp)) (by simp), ((New.refl w).alloc _).alloc _⟩
  · have hC : Hid (flC a b f = 0) := if_pos h1
    have hN : Hid (flN a b f = fsN a b f 144) := if_pos h1
    have hd := okPic_dims h1
    go_enter Try.func7, Try.ntmps7
    go_wp2_with (fail)
    generalize hw0 : w.alloc (Obj.cells (pic 144 a b f) 27) = w0
    have b1 : obj w0 w.heap.size = some (.cells (pic 144 a b f) 27) := by subst hw0; go_simp
    have hn0 : New w w0 := by subst hw0; exact (New.refl w).alloc _
    clear hw0
    refine (l01Ok_any _ 27 a b f ha hb hf _ b1).mono ?_
    rintro e w1 ⟨rfl, rfl⟩
    rw [h1]
    clear h1
    go_wp2_with (fail)
    refine (l01Fields_any _ 27 a b f ⟨by omega, by omega⟩ ⟨by omega, by omega⟩ hf _ b1).mono ?_
    rintro e w2 ⟨v, vs, rfl, hrr, hn2⟩
    have hz := hn0.le
    go_wp2_with (fail)
    go_ret2
    exact ⟨v, vs, by rw [hC.out]; rfl, by rw [hN.out]; exact hrr.lower hz, hn0.trans hn2⟩
set_option maxHeartbeats 2000000 in
set_option maxRecDepth 100000 in
theorem fieldsOf_impl (a b : Int) (f : Nat → Int) (ha : -128 ≤ a ∧ a ≤ 127) (hb : -128 ≤ b ∧ b ≤ 127) (hf : ∀ i, 0 ≤ f i ∧ f i ≤ 255) (w : World) :
    Calls Try.prog 6 #[.agg (pic 144 a b f)] w fun e w' => ∃ v vs, e = .returned (.tuple #[v, .int .i64 (flC a b f)]) ∧ RR w' w.heap.size v (flN a b f) vs (fsM a b f 144) (fsF a b f 144) ∧ New w w' := by
  cases h1 : okPic a b f
  · have hC : Hid (flC a b f = 1) := if_neg (by rw [h1]; simp)
    have hN : Hid (flN a b f = 0) := if_neg (by rw [h1]; simp)
    go_enter Try.func6, Try.ntmps6
    go_wp2_with (fail)
    refine (valid_v a b f ha hb hf _ h1 _).mono ?_
    rintro e1 w1 ⟨rfl, hn1⟩
    have ho1 := hn1.objs
    have hz1 := hn1.le
    try simp at hz1
    have k1_0 : w.heap.size < w1.heap.size := by omega
    clear h1
    go_wp2_with (fail)
    go_ret2
    exact ⟨_, fun _ => .slice none 0 0, by rw [hC.out]; rfl, by rw [hN.out]; exact RR.nil, ((New.refl w).alloc _).trans hn1⟩
  · have hC : Hid (flC a b f = 0) := if_pos h1
    have hN : Hid (flN a b f = fsN a b f 144) := if_pos h1
    have hd := okPic_dims h1
    go_enter Try.func6, Try.ntmps6
    go_wp2_with (fail)
    refine (valid_v a b f ha hb hf _ h1 _).mono ?_
    rintro e2 w2 ⟨rfl, hn2⟩
    have ho2 := hn2.objs
    have hz2 := hn2.le
    try simp at hz2
    have k2_0 : w.heap.size < w2.heap.size := by omega
    clear h1
    go_wp2_with (fail)
    refine (fields_any a b f ⟨by omega, by omega⟩ ⟨by omega, by omega⟩ hf _).mono ?_
    rintro e w3 ⟨v, vs, rfl, hrr, hn3⟩
    have hNw : New w w2 := ((New.refl w).alloc _).trans hn2
    have hz := hNw.le
    go_wp2_with (fail)
    go_ret2
    exact ⟨v, vs, by rw [hC.out]; rfl, by rw [hN.out]; exact hrr.lower hz, hNw.trans hn3⟩
end Go.Proofs.Ytmmckoemkpfgbaa
