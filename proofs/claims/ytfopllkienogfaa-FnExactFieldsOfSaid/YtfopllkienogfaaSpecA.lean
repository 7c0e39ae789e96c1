/- The reference's pictures in other places; no condition. -/
import Derived.Test.YtfopllkienogfaaValid
import Derived.Test.YtfopllkienogfaaPaint
set_option linter.unusedVariables false
namespace Go.Proofs.Ytfopllkienogfaa
open Go.BigFrame
open Go.RowKit Go.Arr
theorem cellB_t {i : Nat} {a b : Int} (hi : i < 144) : cellB i a b = true ↔ inside a b i := by
  unfold cellB inside
  have : inB i 0 143 = true := inB_t.2 (by omega)
  rw [this, Bool.true_and, Bool.and_eq_true, decide_eq_true_iff, decide_eq_true_iff]
/-- what is painted in the end, out of what is filled cell by cell -/
theorem fold_paint (a b : Int) (ha : 1 ≤ a ∧ a ≤ 12) (hb : 1 ≤ b ∧ b ≤ 12) (dst src : Nat → Nat) (val : Nat → Int) (h : Int → Int → Int) (a' b' : Int)
    (H1 : ∀ i, i < 144 → inside a b i → inside a' b' (dst i) ∧ dst i < 144 ∧ src (dst i) = i ∧ val i = h ((dst i : Int) % 12) ((dst i : Int) / 12))
    (H2 : ∀ j, j < 144 → inside a' b' j → inside a b (src j) ∧ src j < 144 ∧ dst (src j) = j) (j : Nat) (hj : j < 144) :
    fold (fun _ => 0) (fun i => cellB i a b) dst val 144 j = paint a' b' h j := by
  rw [fold_at _ _ dst src val 144 (fun i hi ht => (H1 i hi ((cellB_t hi).1 ht)).2.2.1)]
  unfold paint
  by_cases hc : inside a' b' j
  · obtain ⟨h1, h2, h3⟩ := H2 j hj hc
    obtain ⟨_, _, _, h7⟩ := H1 (src j) h2 h1
    rw [if_pos ⟨h2, (cellB_t h2).2 h1, h3⟩, if_pos hc, h7, h3]
  · rw [if_neg hc, if_neg]
    rintro ⟨h1, h2, h3⟩
    have h4 := (H1 (src j) h1 ((cellB_t h1).1 h2)).1
    rw [h3] at h4
    exact hc h4
def mirH (a : Int) (f : Nat → Int) (x y : Int) : Int := f (a - 1 - x + 12 * y).toNat
def mirD (a : Int) (i : Nat) : Nat := ((i : Int) - 2 * ((i : Int) % 12) + a).toNat - 1
theorem mir_end (a b : Int) (f : Nat → Int) (ha : 1 ≤ a ∧ a ≤ 12) (hb : 1 ≤ b ∧ b ≤ 12) (j : Nat) (hj : j < 144) :
    fold (fun _ => 0) (fun i => cellB i a b) (mirD a) f 144 j = paint a b (mirH a f) j := by
  refine fold_paint a b ha hb (mirD a) (mirD a) f (mirH a f) a b ?_ ?_ j hj
  · intro i hi hin
    unfold inside at hin ⊢
    unfold mirD mirH
    refine ⟨by omega, by omega, by omega, ?_⟩
    congr 1
    omega
  · intro i hi hin
    unfold inside at hin ⊢
    unfold mirD
    refine ⟨by omega, by omega, by omega⟩
set_option maxHeartbeats 2000000 in
set_option maxRecDepth 100000 in
theorem l01Mirror_any (g : Nat) (t : TypeId) (a b : Int) (f : Nat → Int) (ha : 1 ≤ a ∧ a ≤ 12) (hb : 1 ≤ b ∧ b ≤ 12) (w : World) (ho : obj w g = some (.cells (pic 144 a b f) t)) :
    Calls Try.prog 33 #[.pointer (some ⟨g, 0, none⟩)] w fun e w' => e = .returned (.agg (pic 144 a b (paint a b (mirH a f)))) ∧ New w w' := by
  have hg := obj_lt ho
  have hg1 : g < w.heap.size + 1 := by omega
  go_enter Try.func33, Try.ntmps33
  go_wp2_with (fail)
  go_region
  go_wp2_with (fail)
  go_loopw [4] (fun i wr => ∃ k : Nat, k ≤ 144 ∧ i = .int .i64 k ∧ Hid (obj wr g = some (.cells (pic 144 a b f) t)) ∧ Hid (∃ z, obj wr w.heap.size = some (.cells (pic 144 0 0 z) 28)) ∧ Hid (obj wr (w.heap.size + 1) = some (.cells (pic 144 a b (fold (fun _ => 0) (fun i => cellB i a b) (mirD a) f k)) 28)) ∧ New w wr ∧ w.heap.size + 2 ≤ wr.heap.size) (fun i _ => 144 - (intOf i).toNat)
  case atStart =>
    refine ⟨0, by omega, rfl, ?_, ⟨fun _ => 0, by go_simp⟩, ?_, ?_, by simp⟩
    · show _ = _
      go_simp
    · show _ = _
      go_simp
      rfl
    · repeat' (first | exact New.refl _ | refine New.alloc ?_ _ | refine New.drew ?_ | refine New.drewN ?_ _ | refine New.setRow ?_ (by omega) _ | refine New.setCell ?_ (by first | omega | (simp; done) | (simp; omega)) _)
  case round =>
    obtain ⟨k, hk, rfl, hp1, hz, hq1, hn, hlw⟩ := hrel
    have hp := hp1.out
    have hq := hq1.out
    have k0 : w.heap.size < wr.heap.size := by omega
    have k1 : w.heap.size + 1 < wr.heap.size := by omega
    by_cases hlt : k < 144
    · cases hc : cellB k a b
      · go_wp2_with (fail)
        refine (l01Is_any g t a b f _ (by omega) (by omega) _ hp).mono ?_
        rintro e w1 ⟨rfl, rfl⟩
        go_wp2_with (fail)
        go_roundw
        case rel => exact ⟨k + 1, by omega, by go_num, hp1, hz, by show _ = _; rw [hq]; simp [fold, hc], hn, hlw⟩
        case measure => simp [intOf]; omega
      · have hin : Hid (inside a b k) := (cellB_t hlt).1 hc
        have q1 : 0 ≤ (k : Int) - 2 * ((k : Int) % 12) + a - 1 := by have := hin.out; unfold inside at this; omega
        have q2 : (k : Int) - 2 * ((k : Int) % 12) + a - 1 < 144 := by have := hin.out; unfold inside at this; omega
        go_wp2_with (fail)
        refine (l01Is_any g t a b f _ (by omega) (by omega) _ hp).mono ?_
        rintro e w1 ⟨rfl, rfl⟩
        go_wp2_with (fail)
        go_region
        go_wp2_with (fail)
        go_roundw
        case rel =>
          refine ⟨k + 1, by omega, by go_num, ?_, ?_, ?_, ?_, ?_⟩
          · show _ = _
            rw [obj_drew, obj_setCell_other _ _ _ _ _ (by omega), hp]
          · obtain ⟨z, hz2⟩ := hz.out
            exact ⟨z, by rw [obj_drew, obj_setCell_other _ _ _ _ _ (by omega), hz2]⟩
          · show _ = _
            rw [obj_drew, obj_set_pic hq _ (mirD a k) _ (by have := hin.out; unfold inside at this; unfold mirD; omega)]
            simp only [fold, hc, if_true]
          · exact (hn.setCell (by show w.heap.size ≤ w.heap.size + 1; omega) _).drew
          · show _ ≤ (World.setCell _ _ _).heap.size
            rw [World.size_setCell]; omega
        case measure => simp [intOf]; omega
    · obtain rfl : k = 144 := by omega
      obtain ⟨z, hz2⟩ := hz.out
      clear hz
      go_wp2_with (fail)
      refine ret_cell agg28 rfl rfl (c := pic 144 a b (fold (fun _ => 0) (fun i => cellB i a b) (mirD a) f 144)) (t := 28) (fr := (0, 0)) (by go_simp) size_pic rfl ⟨?_, ?_⟩
      · rw [pic_congr (fun j hj => mir_end a b f ha hb j hj)]
      · exact hn.setRow (by omega) _
def flipH (b : Int) (f : Nat → Int) (x y : Int) : Int := f (x + 12 * (b - 1 - y)).toNat
def flipD (b : Int) (i : Nat) : Nat := ((i : Int) % 12 + 12 * (b - 1 - (i : Int) / 12)).toNat
theorem flip_end (a b : Int) (f : Nat → Int) (ha : 1 ≤ a ∧ a ≤ 12) (hb : 1 ≤ b ∧ b ≤ 12) (j : Nat) (hj : j < 144) :
    fold (fun _ => 0) (fun i => cellB i a b) (flipD b) f 144 j = paint a b (flipH b f) j := by
  refine fold_paint a b ha hb (flipD b) (flipD b) f (flipH b f) a b ?_ ?_ j hj
  · intro i hi hin
    unfold inside at hin ⊢
    unfold flipD flipH
    refine ⟨by omega, by omega, by omega, ?_⟩
    congr 1
    omega
  · intro i hi hin
    unfold inside at hin ⊢
    unfold flipD
    refine ⟨by omega, by omega, by omega⟩
set_option maxHeartbeats 2000000 in
set_option maxRecDepth 100000 in
theorem l01Flip_any (g : Nat) (t : TypeId) (a b : Int) (f : Nat → Int) (ha : 1 ≤ a ∧ a ≤ 12) (hb : 1 ≤ b ∧ b ≤ 12) (w : World) (ho : obj w g = some (.cells (pic 144 a b f) t)) :
    Calls Try.prog 34 #[.pointer (some ⟨g, 0, none⟩)] w fun e w' => e = .returned (.agg (pic 144 a b (paint a b (flipH b f)))) ∧ New w w' := by
  have hg := obj_lt ho
  have hg1 : g < w.heap.size + 1 := by omega
  go_enter Try.func34, Try.ntmps34
  go_wp2_with (fail)
  go_region
  go_wp2_with (fail)
  go_loopw [4] (fun i wr => ∃ k : Nat, k ≤ 144 ∧ i = .int .i64 k ∧ Hid (obj wr g = some (.cells (pic 144 a b f) t)) ∧ Hid (∃ z, obj wr w.heap.size = some (.cells (pic 144 0 0 z) 28)) ∧ Hid (obj wr (w.heap.size + 1) = some (.cells (pic 144 a b (fold (fun _ => 0) (fun i => cellB i a b) (flipD b) f k)) 28)) ∧ New w wr ∧ w.heap.size + 2 ≤ wr.heap.size) (fun i _ => 144 - (intOf i).toNat)
  case atStart =>
    refine ⟨0, by omega, rfl, ?_, ⟨fun _ => 0, by go_simp⟩, ?_, ?_, by simp⟩
    · show _ = _
      go_simp
    · show _ = _
      go_simp
      rfl
    · repeat' (first | exact New.refl _ | refine New.alloc ?_ _ | refine New.drew ?_ | refine New.drewN ?_ _ | refine New.setRow ?_ (by omega) _ | refine New.setCell ?_ (by first | omega | (simp; done) | (simp; omega)) _)
  case round =>
    obtain ⟨k, hk, rfl, hp1, hz, hq1, hn, hlw⟩ := hrel
    have hp := hp1.out
    have hq := hq1.out
    have k0 : w.heap.size < wr.heap.size := by omega
    have k1 : w.heap.size + 1 < wr.heap.size := by omega
    by_cases hlt : k < 144
    · cases hc : cellB k a b
      · go_wp2_with (fail)
        refine (l01Is_any g t a b f _ (by omega) (by omega) _ hp).mono ?_
        rintro e w1 ⟨rfl, rfl⟩
        go_wp2_with (fail)
        go_roundw
        case rel => exact ⟨k + 1, by omega, by go_num, hp1, hz, by show _ = _; rw [hq]; simp [fold, hc], hn, hlw⟩
        case measure => simp [intOf]; omega
      · have hin : Hid (inside a b k) := (cellB_t hlt).1 hc
        have q1 : 0 ≤ (k : Int) % 12 + 12 * (b - 1 - (k : Int) / 12) := by have := hin.out; unfold inside at this; omega
        have q2 : (k : Int) % 12 + 12 * (b - 1 - (k : Int) / 12) < 144 := by have := hin.out; unfold inside at this; omega
        go_wp2_with (fail)
        refine (l01Is_any g t a b f _ (by omega) (by omega) _ hp).mono ?_
        rintro e w1 ⟨rfl, rfl⟩
        go_wp2_with (fail)
        go_region
        go_wp2_with (fail)
        go_roundw
        case rel =>
          refine ⟨k + 1, by omega, by go_num, ?_, ?_, ?_, ?_, ?_⟩
          · show _ = _
            rw [obj_drew, obj_setCell_other _ _ _ _ _ (by omega), hp]
          · obtain ⟨z, hz2⟩ := hz.out
            exact ⟨z, by rw [obj_drew, obj_setCell_other _ _ _ _ _ (by omega), hz2]⟩
          · show _ = _
            rw [obj_drew, obj_set_pic hq _ (flipD b k) _ (by have := hin.out; unfold inside at this; unfold flipD; omega)]
            simp only [fold, hc, if_true]
          · exact (hn.setCell (by show w.heap.size ≤ w.heap.size + 1; omega) _).drew
          · show _ ≤ (World.setCell _ _ _).heap.size
            rw [World.size_setCell]; omega
        case measure => simp [intOf]; omega
    · obtain rfl : k = 144 := by omega
      obtain ⟨z, hz2⟩ := hz.out
      clear hz
      go_wp2_with (fail)
      refine ret_cell agg28 rfl rfl (c := pic 144 a b (fold (fun _ => 0) (fun i => cellB i a b) (flipD b) f 144)) (t := 28) (fr := (0, 0)) (by go_simp) size_pic rfl ⟨?_, ?_⟩
      · rw [pic_congr (fun j hj => flip_end a b f ha hb j hj)]
      · exact hn.setRow (by omega) _
end Go.Proofs.Ytfopllkienogfaa
