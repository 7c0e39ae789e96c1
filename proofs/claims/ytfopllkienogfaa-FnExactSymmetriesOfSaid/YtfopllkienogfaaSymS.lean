/- The symmetries of a picture: the reference and the program answer alike, and the law; no condition. -/
import Derived.Test.YtfopllkienogfaaSymT
import Derived.Test.YtfopllkienogfaaSpecB
import Derived.Test.YtfopllkienogfaaPic
import Derived.Test.YtfopllkienogfaaDraw
set_option linter.unusedVariables false
namespace Go.Proofs.Ytfopllkienogfaa
open Go.BigFrame
open Go.RowKit Go.Arr
def symM (a b : Int) (f : Nat → Int) : Nat → Bool
  | 0 => eqPic 144 a b (paint a b (mirH a f)) a b f
  | 1 => eqPic 144 a b (paint a b (flipH b f)) a b f
  | 2 => eqPic 144 a b (paint a b (turnH a (paint b a (turnH b f)))) a b f
  | _ => eqPic 144 b a (paint b a (turnH b f)) a b f
def kindN : Nat → Int
  | 0 => 1
  | 1 => 2
  | 2 => 4
  | _ => 8
def symU (m : Nat → Bool) : Nat → Int
  | 0 => 0
  | j + 1 => if m j = true then symU m j + kindN j else symU m j
theorem symU_t {m : Nat → Bool} {j : Nat} (h : m j = true) : symU m (j + 1) = symU m j + kindN j := if_pos h
theorem symU_f {m : Nat → Bool} {j : Nat} (h : m j = false) : symU m (j + 1) = symU m j := if_neg (by rw [h]; simp)
theorem kindN_b (j : Nat) : 1 ≤ kindN j ∧ kindN j ≤ 8 := by
  match j with
  | 0 => decide
  | 1 => decide
  | 2 => decide
  | j + 3 => exact ⟨by simp [kindN], by simp [kindN]⟩
theorem symU_b (m : Nat → Bool) (j : Nat) : 0 ≤ symU m j ∧ symU m j ≤ 8 * j := by
  induction j with
  | zero => simp [symU]
  | succ j ih =>
    have := kindN_b j
    unfold symU
    split <;> omega
def symV (a b : Int) (f : Nat → Int) : Int := if okPic a b f = true then symU (symM a b f) 4 else 0
def symC (a b : Int) (f : Nat → Int) : Int := if okPic a b f = true then 0 else 1
attribute [local go_sem high] bldK bldS
attribute [local go_sem ↓] lvK svK zeroK bvK svS
attribute [local go_sem] ldK stK size_pk ones_pk seg_pk ext_pk_all ext_pk_pic get_pk_k get_pk_e pop_pk
set_option maxHeartbeats 4000000 in
set_option maxRecDepth 100000 in
theorem sym_impl (a b : Int) (f : Nat → Int) (ha : -128 ≤ a ∧ a ≤ 127) (hb : -128 ≤ b ∧ b ≤ 127) (hf : ∀ i, 0 ≤ f i ∧ f i ≤ 255) (w : World) :
    Calls Try.prog 8 #[.agg (pic 144 a b f)] w fun e w' => e = .returned (.tuple #[.int .i64 (symV a b f), .int .i64 (symC a b f)]) ∧ New w w' := by
  cases h1 : okPic a b f
  · have hV : Hid (symV a b f = 0) := if_neg (by rw [h1]; simp)
    have hC : Hid (symC a b f = 1) := if_neg (by rw [h1]; simp)
    go_enter Try.func8, Try.ntmps8
    go_wp2_with (fail)
    refine (valid_v a b f ha hb hf _ h1 _).mono ?_
    rintro e1 w1 ⟨rfl, hn1⟩
    have ho1 := hn1.objs
    have hz1 := hn1.le
    try simp at hz1
    have k1_0 : w.heap.size < w1.heap.size := by omega
    clear h1
    go_wp2_with (fail)
    go_ret2
    refine ⟨by rw [hV.out, hC.out]; rfl, ?_⟩
    repeat' (first | exact New.refl _ | refine New.alloc ?_ _ | refine New.drew ?_ | refine New.drewN ?_ _ | refine New.setRow ?_ (by omega) _ | refine New.setCell ?_ (by first | omega | (simp; done) | (simp; omega)) _ | refine New.trans ?_ hn1)
  have gd := okPic_dims h1
  have hV : Hid (symV a b f = symU (symM a b f) 4) := if_pos h1
  have hC : Hid (symC a b f = 0) := if_pos h1
  have hm0 : Hid (symM a b f 0 = eqPic 144 a b (paint a b (mirH a f)) a b f) := rfl
  have hm1 : Hid (symM a b f 1 = eqPic 144 a b (paint a b (flipH b f)) a b f) := rfl
  have hm2 : Hid (symM a b f 2 = eqPic 144 a b (paint a b (turnH a (paint b a (turnH b f)))) a b f) := rfl
  have hm3 : Hid (symM a b f 3 = eqPic 144 b a (paint b a (turnH b f)) a b f) := rfl
  go_enter Try.func8, Try.ntmps8
  go_wp2_with (fail)
  refine (valid_v a b f ha hb hf _ h1 _).mono ?_
  rintro e2 w2 ⟨rfl, hn2⟩
  have ho2 := hn2.objs
  have hz2 := hn2.le
  try simp at hz2
  have c1 : obj w2 w.heap.size = some (.cells (pic 144 a b f) 28) := (hn2.objs _ (by simp)).trans (by go_simp)
  have hN2 : New w w2 := ((New.refl w).alloc _).trans hn2
  have r1 := obj_lt c1
  clear h1 hn2 ho2
  have c2 := c1
  go_wp2_with (fail)
  go_region_held3 (fun W' => obj W' w.heap.size = some (.cells (pic 144 a b f) 28) ∧ obj W' w.heap.size = some (.cells (pic 144 a b f) 28) ∧ New w2 W') (first | exact held_begin (by assumption) (by assumption) | exact held_new (by assumption) (by assumption) (by assumption) (by assumption) | exact held_new (by assumption) (by assumption) (by assumption) ((New.refl _).alloc _)) (first | (go_at_call 37; refine (mirrored_any _ _ _ (by omega) (by omega) _).mono ?_; rintro e1 w3 ⟨rfl, hn3⟩) | (go_at_call 38; refine (flipped_any _ _ _ (by omega) (by omega) _).mono ?_; rintro e1 w3 ⟨rfl, hn3⟩) | (go_at_call 39; refine (turned_any _ _ _ (by omega) (by omega) _).mono ?_; rintro e1 w3 ⟨rfl, hn3⟩))
  obtain ⟨d1, _, hN3⟩ := ‹obj (w3.alloc _) w.heap.size = _ ∧ _ ∧ New w2 _›
  go_wp2_with (fail)
  generalize paint a b (mirH a f) = g1 at hm0 d1 hN3 ⊢
  generalize paint a b (flipH b f) = g2 at hm1 d1 hN3 ⊢
  generalize paint b a (turnH b f) = g4 at hm2 hm3 d1 hN3 ⊢
  generalize paint a b (turnH a g4) = g3 at hm2 d1 hN3 ⊢
  generalize hw4 : w3.alloc (Obj.cells (row4 (pk a b g1 1) (pk a b g2 2) (pk a b g3 4) (pk b a g4 8)) 58) = w4 at d1 hN3 ⊢
  have d2 : obj w4 w3.heap.size = some (.cells (row4 (pk a b g1 1) (pk a b g2 2) (pk a b g3 4) (pk b a g4 8)) 58) := by rw [← hw4]; exact obj_alloc_at _ _ _ rfl
  obtain ⟨x0, x1, x2, x3, xs⟩ := row4_0 (size_pk (a := a) (b := b) (k := 1) (f := g1)) (size_pk (a := a) (b := b) (k := 2) (f := g2)) (size_pk (a := a) (b := b) (k := 4) (f := g3)) (size_pk (a := b) (b := a) (k := 8) (f := g4))
  generalize row4 (pk a b g1 1) (pk a b g2 2) (pk a b g3 4) (pk b a g4 8) = R at d2 x0 x1 x2 x3 xs
  have hN4 : New w w4 := hN2.trans hN3
  have s1 := obj_lt d1
  have s2 := obj_lt d2
  clear hw4 c1 c2
  generalize symM a b f = m at hm0 hm1 hm2 hm3 hV
  go_loopw [25, 4] (fun i s wr => ∃ j : Nat, j ≤ 4 ∧ i = .int .i64 j ∧ s = .int .i64 (symU m j) ∧ New w4 wr) (fun i _ _ => 4 - (intOf i).toNat)
  case atStart => exact ⟨0, by omega, rfl, rfl, New.refl _⟩
  case round =>
    obtain ⟨j, hj, rfl, rfl, hnw⟩ := hrel
    have p1 := (hnw.objs _ s1).trans d1
    have p2 := (hnw.objs _ s2).trans d2
    have q1 := obj_lt p1
    have q2 := obj_lt p2
    have hub := symU_b m j
    by_cases hlt : j < 4
    · have hjj : j = 0 ∨ j = 1 ∨ j = 2 ∨ j = 3 := by omega
      rcases hjj with rfl | rfl | rfl | rfl
      · cases hc : m 0
        · have hq := hide (symU_f hc)
          have he : eqPic 144 a b g1 a b f = false := by rw [← hm0.out]; exact hc
          go_wp2_with (fail)
          go_roundw
          case rel => exact ⟨1, by omega, by go_num, by rw [hq.out] <;> rfl, hnw.alloc _⟩
          case measure => simp [intOf]
        · have hq := hide (symU_t hc)
          have he : eqPic 144 a b g1 a b f = true := by rw [← hm0.out]; exact hc
          go_wp2_with (fail)
          go_roundw
          case rel => exact ⟨1, by omega, by go_num, by rw [hq.out] <;> rfl, hnw.alloc _⟩
          case measure => simp [intOf]
      · cases hc : m 1
        · have hq := hide (symU_f hc)
          have he : eqPic 144 a b g2 a b f = false := by rw [← hm1.out]; exact hc
          go_wp2_with (fail)
          go_roundw
          case rel => exact ⟨2, by omega, by go_num, by rw [hq.out] <;> rfl, hnw.alloc _⟩
          case measure => simp [intOf]
        · have hq := hide (symU_t hc)
          have he : eqPic 144 a b g2 a b f = true := by rw [← hm1.out]; exact hc
          go_wp2_with (fail)
          go_roundw
          case rel => exact ⟨2, by omega, by go_num, by rw [hq.out] <;> rfl, hnw.alloc _⟩
          case measure => simp [intOf]
      · cases hc : m 2
        · have hq := hide (symU_f hc)
          have he : eqPic 144 a b g3 a b f = false := by rw [← hm2.out]; exact hc
          go_wp2_with (fail)
          go_roundw
          case rel => exact ⟨3, by omega, by go_num, by rw [hq.out] <;> rfl, hnw.alloc _⟩
          case measure => simp [intOf]
        · have hq := hide (symU_t hc)
          have he : eqPic 144 a b g3 a b f = true := by rw [← hm2.out]; exact hc
          go_wp2_with (fail)
          go_roundw
          case rel => exact ⟨3, by omega, by go_num, by rw [hq.out] <;> rfl, hnw.alloc _⟩
          case measure => simp [intOf]
      · cases hc : m 3
        · have hq := hide (symU_f hc)
          have he : eqPic 144 b a g4 a b f = false := by rw [← hm3.out]; exact hc
          go_wp2_with (fail)
          go_roundw
          case rel => exact ⟨4, by omega, by go_num, by rw [hq.out] <;> rfl, hnw.alloc _⟩
          case measure => simp [intOf]
        · have hq := hide (symU_t hc)
          have he : eqPic 144 b a g4 a b f = true := by rw [← hm3.out]; exact hc
          go_wp2_with (fail)
          go_roundw
          case rel => exact ⟨4, by omega, by go_num, by rw [hq.out] <;> rfl, hnw.alloc _⟩
          case measure => simp [intOf]
    · obtain rfl : j = 4 := by omega
      go_wp2_with (fail)
      go_ret2
      exact ⟨by rw [hV.out, hC.out]; rfl, hN4.trans hnw⟩
end Go.Proofs.Ytfopllkienogfaa
