/- The reference's turned picture, and what it answers for pictures that are mirrored, flipped or turned; no condition. -/
import Derived.Test.YtfopllkienogfaaSpecA
set_option linter.unusedVariables false
namespace Go.Proofs.Ytfopllkienogfaa
open Go.BigFrame
open Go.RowKit Go.Arr
def turnH (b : Int) (f : Nat → Int) (x y : Int) : Int := f (y + 12 * (b - 1 - x)).toNat
def turnV (b : Int) (f : Nat → Int) (i : Nat) : Int := turnH b f ((i : Int) % 12) ((i : Int) / 12)
theorem id_end (a b : Int) (ha : 1 ≤ a ∧ a ≤ 12) (hb : 1 ≤ b ∧ b ≤ 12) (h : Int → Int → Int) (val : Nat → Int) (hv : ∀ i, i < 144 → inside a b i → val i = h ((i : Int) % 12) ((i : Int) / 12)) (j : Nat) (hj : j < 144) :
    fold (fun _ => 0) (fun i => cellB i a b) (fun i => i) val 144 j = paint a b h j :=
  fold_paint a b ha hb (fun i => i) (fun i => i) val h a b (fun i hi hin => ⟨hin, hi, rfl, hv i hi hin⟩) (fun i hi hin => ⟨hin, hi, rfl⟩) j hj
set_option maxHeartbeats 2000000 in
set_option maxRecDepth 100000 in
theorem l01Turn_any (g : Nat) (t : TypeId) (a b : Int) (f : Nat → Int) (ha : 1 ≤ a ∧ a ≤ 12) (hb : 1 ≤ b ∧ b ≤ 12) (w : World) (ho : obj w g = some (.cells (pic 144 a b f) t)) :
    Calls Try.prog 32 #[.pointer (some ⟨g, 0, none⟩)] w fun e w' => e = .returned (.agg (pic 144 b a (paint b a (turnH b f)))) ∧ New w w' := by
  have hg := obj_lt ho
  have hg1 : g < w.heap.size + 1 := by omega
  go_enter Try.func32, Try.ntmps32
  go_wp2_with (fail)
  go_region
  go_wp2_with (fail)
  go_loopw [4, 5, 6] (fun i _ _ wr => ∃ k : Nat, k ≤ 144 ∧ i = .int .i64 k ∧ Hid (obj wr g = some (.cells (pic 144 a b f) t)) ∧ Hid (∃ z, obj wr w.heap.size = some (.cells (pic 144 0 0 z) 28)) ∧ Hid (obj wr (w.heap.size + 1) = some (.cells (pic 144 b a (fold (fun _ => 0) (fun i => cellB i b a) (fun i => i) (turnV b f) k)) 28)) ∧ New w wr ∧ w.heap.size + 2 ≤ wr.heap.size) (fun i _ _ _ => 144 - (intOf i).toNat)
  case atStart =>
    refine ⟨0, by omega, rfl, ?_, ⟨fun _ => 0, by go_simp⟩, ?_, ?_, by simp⟩
    · show _ = _
      go_simp
    · show _ = _
      go_simp
      rfl
    · repeat' (first | exact New.refl _ | refine New.alloc ?_ _ | refine New.drew ?_ | refine New.drewN ?_ _ | refine New.setRow ?_ (by omega) _ | refine New.setCell ?_ (by first | omega | (simp; done) | (simp; omega)) _)
  case round =>
    obtain ⟨k, hk, rfl, hp1, hz, hq1, hn, hlw⟩ := hrel
    have hp := hp1.out
    have hq := hq1.out
    have k0 : w.heap.size < wr.heap.size := by omega
    have k1 : w.heap.size + 1 < wr.heap.size := by omega
    by_cases hlt : k < 144
    · cases hc : cellB k b a
      · go_wp2_with (fail)
        refine (l01Is_any _ 28 b a _ _ (by omega) (by omega) _ hq).mono ?_
        rintro e w1 ⟨rfl, rfl⟩
        go_wp2_with (fail)
        go_roundw
        case rel => exact ⟨k + 1, by omega, by go_num, hp1, hz, by show _ = _; rw [hq]; simp [fold, hc], hn, hlw⟩
        case measure => simp [intOf]; omega
      · have hin : Hid (inside b a k) := (cellB_t hlt).1 hc
        have q1 : 0 ≤ (k : Int) / 12 + 12 * (b - 1 - (k : Int) % 12) := by have := hin.out; unfold inside at this; omega
        have q2 : (k : Int) / 12 + 12 * (b - 1 - (k : Int) % 12) < 144 := by have := hin.out; unfold inside at this; omega
        go_wp2_with (fail)
        refine (l01Is_any _ 28 b a _ _ (by omega) (by omega) _ hq).mono ?_
        rintro e w1 ⟨rfl, rfl⟩
        go_wp2_with (fail)
        go_region
        go_wp2_with (fail)
        go_roundw
        case rel =>
          refine ⟨k + 1, by omega, by go_num, ?_, ?_, ?_, ?_, ?_⟩
          · show _ = _
            rw [obj_drew, obj_setCell_other _ _ _ _ _ (by omega), hp]
          · obtain ⟨z, hz2⟩ := hz.out
            exact ⟨z, by rw [obj_drew, obj_setCell_other _ _ _ _ _ (by omega), hz2]⟩
          · show _ = _
            rw [obj_drew, obj_set_pic hq _ k _ (by omega)]
            simp only [fold, hc, if_true, turnV, turnH]
          · exact (hn.setCell (by show w.heap.size ≤ w.heap.size + 1; omega) _).drew
          · show _ ≤ (World.setCell _ _ _).heap.size
            rw [World.size_setCell]; omega
        case measure => simp [intOf]; omega
    · obtain rfl : k = 144 := by omega
      obtain ⟨z, hz2⟩ := hz.out
      clear hz
      go_wp2_with (fail)
      refine ret_cell agg28 rfl rfl (c := pic 144 b a (fold (fun _ => 0) (fun i => cellB i b a) (fun i => i) (turnV b f) 144)) (t := 28) (fr := (0, 0)) (by go_simp) size_pic rfl ⟨?_, ?_⟩
      · rw [pic_congr (fun j hj => id_end b a hb ha (turnH b f) (turnV b f) (fun i _ _ => rfl) j hj)]
      · exact hn.setRow (by omega) _
/-- a picture and a code -/
structure PicAns where
  c : Int
  w : Int
  h : Int
  f : Nat → Int
def noPic (c : Int) : PicAns := ⟨c, 0, 0, fun _ => 0⟩
def mirA (a b : Int) (f : Nat → Int) : PicAns := if okPic a b f = true then ⟨0, a, b, paint a b (mirH a f)⟩ else noPic 1
def flipA (a b : Int) (f : Nat → Int) : PicAns := if okPic a b f = true then ⟨0, a, b, paint a b (flipH b f)⟩ else noPic 1
def turnA (a b : Int) (f : Nat → Int) : PicAns := if okPic a b f = true then ⟨0, b, a, paint b a (turnH b f)⟩ else noPic 1
theorem okPic_dims {a b : Int} {f : Nat → Int} (h : okPic a b f = true) : (1 ≤ a ∧ a ≤ 12) ∧ (1 ≤ b ∧ b ≤ 12) := by
  unfold okPic isSizeB at h
  simp only [Bool.and_eq_true] at h
  exact ⟨inB_t.1 h.1.1, inB_t.1 h.1.2⟩
theorem okPic_cell {a b : Int} {f : Nat → Int} (h : okPic a b f = true) (i : Nat) (hi : i < 144) : f i < 16 ∧ (inside a b i ∨ f i = 0) := by
  unfold okPic at h
  simp only [Bool.and_eq_true, List.all_eq_true] at h
  have h2 := h.2 i (by simpa using hi)
  unfold goodAt at h2
  simp only [Bool.and_eq_true, Bool.or_eq_true, decide_eq_true_iff] at h2
  exact ⟨h2.1, h2.2.imp (cellB_t hi).1 id⟩
end Go.Proofs.Ytfopllkienogfaa
