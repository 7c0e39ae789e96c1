/- A place of a picture: what is read and written there; no condition. -/
import Derived.Test.YtmmckoemkpfgbaaImplA
set_option linter.unusedVariables false
namespace Go.Proofs.Ytmmckoemkpfgbaa
open Go.BigFrame
open Go.RowKit Go.Arr
theorem new_same {P : Program} {f : FuncId} {args : Array Value} {w : World} {v : Value} (h : Calls P f args w fun e w' => e = .returned v ∧ w = w') : Calls P f args w fun e w' => e = .returned v ∧ New w w' :=
  h.mono fun _ _ ⟨he, hw⟩ => ⟨he, by subst hw; exact New.refl _⟩
theorem isCellB_t {x y a b : Int} (h : isCellB x y a b = true) : (0 ≤ x ∧ x < a) ∧ (0 ≤ y ∧ y < b) := by
  unfold isCellB at h
  rw [Bool.and_eq_true] at h
  have h1 := inB_t.1 h.1
  have h2 := inB_t.1 h.2
  omega
set_option maxHeartbeats 400000 in
set_option maxRecDepth 100000 in
theorem l01Place_any (g : Nat) (t : TypeId) (a b : Int) (f : Nat → Int) (x y : Int) (ha : -128 ≤ a ∧ a ≤ 127) (hb : -128 ≤ b ∧ b ≤ 127) (hf : ∀ i, 0 ≤ f i ∧ f i ≤ 255) (w : World) (ho : obj w g = some (.cells (pic 144 a b f) t)) :
    Calls Try.prog 36 #[.pointer (some ⟨g, 0, none⟩), .int .i64 x, .int .i64 y] w fun e w' => e = .returned (.int .i64 (codeB (okPic a b f) (isCellB x y a b))) ∧ w = w' := by
  cases hok : okPic a b f
  · go_enter Try.func36, Try.ntmps36
    go_wp2_with (go_at_call 27; refine (l01Ok_any g t a b f ha hb hf _ ho).mono ?_; rintro e w' ⟨rfl, rfl⟩)
    go_ret
    exact ⟨rfl, rfl⟩
  cases h1 : inB x 0 (a - 1)
  · go_enter Try.func36, Try.ntmps36
    go_wp2_with (first | (go_at_call 27; refine (l01Ok_any g t a b f ha hb hf _ ho).mono ?_; rintro e w' ⟨rfl, rfl⟩) | (go_at_call 47; refine (l00In_any _ _ _ _).mono ?_; rintro e w' ⟨rfl, rfl⟩))
    go_ret
    exact ⟨by simp [codeB, isCellB, h1], rfl⟩
  cases h2 : inB y 0 (b - 1)
  all_goals
    go_enter Try.func36, Try.ntmps36
    go_wp2_with (first | (go_at_call 27; refine (l01Ok_any g t a b f ha hb hf _ ho).mono ?_; rintro e w' ⟨rfl, rfl⟩) | (go_at_call 47; refine (l00In_any _ _ _ _).mono ?_; rintro e w' ⟨rfl, rfl⟩))
    go_ret
    exact ⟨by simp [codeB, isCellB, h1, h2], rfl⟩
def colC (a b : Int) (f : Nat → Int) (x y : Int) : Int := if codeB (okPic a b f) (isCellB x y a b) = 0 then f (x + 12 * y).toNat else 0
theorem codeB_cases (p q : Bool) : (p = true ∧ q = true ∧ codeB p q = 0) ∨ (codeB p q = 1 ∧ p = false) ∨ (codeB p q = 2 ∧ p = true ∧ q = false) := by
  cases p <;> cases q <;> simp [codeB]
set_option maxHeartbeats 1000000 in
set_option maxRecDepth 100000 in
theorem colourAt_impl (a b : Int) (f : Nat → Int) (x y : Int) (ha : -128 ≤ a ∧ a ≤ 127) (hb : -128 ≤ b ∧ b ≤ 127) (hf : ∀ i, 0 ≤ f i ∧ f i ≤ 255) (w : World) :
    Calls Try.prog 20 #[.agg (pic 144 a b f), .int .i64 x, .int .i64 y] w fun e w' => e = .returned (.tuple #[.int .i64 (colC a b f x y), .int .i64 (codeB (okPic a b f) (isCellB x y a b))]) ∧ New w w' := by
  rcases codeB_cases (okPic a b f) (isCellB x y a b) with ⟨h1, h2, h3⟩ | ⟨h3, h1⟩ | ⟨h3, h1, h2⟩
  · have hd := okPic_dims h1
    have hc := isCellB_t h2
    have hC : Hid (colC a b f x y = f (x + 12 * y).toNat) := by show _ = _; rw [colC, if_pos h3]
    have hfx := hf (x + 12 * y).toNat
    clear h1 h2
    go_enter Try.func20, Try.ntmps20
    go_wp2_with (fail)
    refine wp_region_new (by kernel_rfl) (by kernel_rfl) ?_
    repeat (go_big_quiet_step (first | fail | (go_at_call 25; with_reducible exact calls_new (validPicture_impl a b f ha hb hf _)) | (go_at_call 32; with_reducible exact calls_new (has_any a b f x y ha hb _)) | (go_at_call 31; with_reducible exact calls_new (new_same (codeOf_any _ _ _)))))
    refine wpQuiet_nil ?_
    intro w1 hc1
    have hn1 := NewW.of hc1
    clear hc1
    have ho1 := hn1.objs
    have hz1 := hn1.le
    try simp at hz1
    have k1_0 : w.heap.size < w1.heap.size := by omega
    go_wp2_with (fail)
    refine (at_any a b f x y (by omega) (by omega) (by omega) _).mono ?_
    rintro e2 w2 ⟨rfl, hn2⟩
    go_wp2_with (fail)
    go_ret2
    refine ⟨by rw [hC.out, h3]; rfl, New.trans ?_ hn2⟩
    repeat' (first | exact New.refl _ | refine New.alloc ?_ _ | refine New.drew ?_ | refine New.drewN ?_ _ | refine New.setRow ?_ (by omega) _ | refine New.setCell ?_ (by first | omega | (simp; done) | (simp; omega)) _ | refine New.trans ?_ hn1)
  all_goals
    have hC : Hid (colC a b f x y = 0) := by show _ = _; rw [colC, if_neg (by rw [h3]; omega)]
    clear h1
    try clear h2
    go_enter Try.func20, Try.ntmps20
    go_wp2_with (fail)
    refine wp_region_new (by kernel_rfl) (by kernel_rfl) ?_
    repeat (go_big_quiet_step (first | fail | (go_at_call 25; with_reducible exact calls_new (validPicture_impl a b f ha hb hf _)) | (go_at_call 32; with_reducible exact calls_new (has_any a b f x y ha hb _)) | (go_at_call 31; with_reducible exact calls_new (new_same (codeOf_any _ _ _)))))
    refine wpQuiet_nil ?_
    intro w2 hc2
    have hn2 := NewW.of hc2
    clear hc2
    have ho2 := hn2.objs
    have hz2 := hn2.le
    try simp at hz2
    have k2_0 : w.heap.size < w2.heap.size := by omega
    go_wp2_with (fail)
    go_ret2
    refine ⟨by rw [hC.out, h3]; rfl, ?_⟩
    repeat' (first | exact New.refl _ | refine New.alloc ?_ _ | refine New.drew ?_ | refine New.drewN ?_ _ | refine New.setRow ?_ (by omega) _ | refine New.setCell ?_ (by first | omega | (simp; done) | (simp; omega)) _ | refine New.trans ?_ hn2 | refine New.trans ?_ hn1)
end Go.Proofs.Ytmmckoemkpfgbaa
