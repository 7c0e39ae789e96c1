/- The reference's bordered pictures; no condition. -/
import Derived.Test.YtbhajdcohhblfaaSpecD
set_option linter.unusedVariables false
namespace Go.Proofs.Ytbhajdcohhblfaa
open Go.BigFrame
open Go.RowKit Go.Arr
def borH (a b : Int) (f : Nat → Int) (c : Int) (x y : Int) : Int := if isCellB (x - 1) (y - 1) a b = true then f (x - 1 + 12 * (y - 1)).toNat else c
def borV (a b : Int) (f : Nat → Int) (c : Int) (i : Nat) : Int := borH a b f c ((i : Int) % 12) ((i : Int) / 12)
def borA (a b : Int) (f : Nat → Int) (c : Int) : PicAns := if codeB (okPic a b f) (inB c 0 15) = 0 then (if isSizeB (a + 2) (b + 2) = true then ⟨0, a + 2, b + 2, paint (a + 2) (b + 2) (borH a b f c)⟩ else noPic 3) else noPic (codeB (okPic a b f) (inB c 0 15))
theorem bor_cases (a b : Int) (f : Nat → Int) (c : Int) :
    (okPic a b f = true ∧ inB c 0 15 = true ∧ isSizeB (a + 2) (b + 2) = true ∧ borA a b f c = ⟨0, a + 2, b + 2, paint (a + 2) (b + 2) (borH a b f c)⟩) ∨
    (okPic a b f = true ∧ inB c 0 15 = true ∧ isSizeB (a + 2) (b + 2) = false ∧ borA a b f c = noPic 3) ∨
    (okPic a b f = true ∧ inB c 0 15 = false ∧ borA a b f c = noPic 2) ∨
    (okPic a b f = false ∧ borA a b f c = noPic 1) := by
  unfold borA
  cases okPic a b f <;> cases inB c 0 15 <;> cases isSizeB (a + 2) (b + 2) <;> simp [codeB]
theorem upd_upd (f : Nat → Int) (i : Nat) (u v : Int) : upd (upd f i u) i v = upd f i v := by
  funext j
  unfold upd
  by_cases h : j = i
  · rw [if_pos h, if_pos h]
  · rw [if_neg h, if_neg h, if_neg h]
theorem isSizeB_t {a b : Int} (h : isSizeB a b = true) : (1 ≤ a ∧ a ≤ 12) ∧ (1 ≤ b ∧ b ≤ 12) := by
  unfold isSizeB at h
  rw [Bool.and_eq_true] at h
  exact ⟨inB_t.1 h.1, inB_t.1 h.2⟩
theorem isSizeB_f {a b : Int} (ha : 1 ≤ a) (hb : 1 ≤ b) (h : isSizeB a b = false) : 12 < a ∨ 12 < b := by
  unfold isSizeB at h
  rw [Bool.and_eq_false_iff] at h
  rcases h with h | h
  · have := inB_f.1 h; omega
  · have := inB_f.1 h; omega
set_option maxHeartbeats 2000000 in
set_option maxRecDepth 100000 in
theorem bor_spec (a b : Int) (f : Nat → Int) (c : Int) (ha : -128 ≤ a ∧ a ≤ 127) (hb : -128 ≤ b ∧ b ≤ 127) (hf : ∀ i, 0 ≤ f i ∧ f i ≤ 255) (w : World) :
    Calls Try.prog 37 #[.agg (pic 144 a b f), .int .i64 c] w fun e w' => e = .returned (.tuple #[.agg (pic 144 (borA a b f c).w (borA a b f c).h (borA a b f c).f), .int .i64 (borA a b f c).c]) ∧ New w w' := by
  rcases bor_cases a b f c with ⟨h1, h2, h3, hA⟩ | ⟨h1, h2, h3, hA⟩ | ⟨h1, h2, hA⟩ | ⟨h1, hA⟩
  rotate_left
  all_goals rw [hA]
  all_goals clear hA
  · have gd := okPic_dims h1
    have g3 := isSizeB_f (by omega) (by omega) h3
    by_cases g4 : 10 < a
    · go_enter Try.func37, Try.ntmps37
      go_wp2_with (fail)
      refine (l01Ok_any _ 27 a b f ha hb hf _ (by go_simp)).mono ?_
      rintro e w1 ⟨rfl, rfl⟩
      go_wp2_with (go_at_call 57; refine (l01Colour_any _ _).mono ?_; rintro e w' ⟨rfl, rfl⟩)
      refine ret_cell_tmp agg27 rfl rfl (c := pic 144 0 0 fun _ => 0) (t := 27) (fr := (0, 0)) (by go_simp) size_pic rfl ⟨?_, ?_⟩
      · rfl
      · repeat' (first | exact New.refl _ | refine New.alloc ?_ _ | refine New.drew ?_ | refine New.drewN ?_ _ | refine New.setRow ?_ (by omega) _ | refine New.setCell ?_ (by first | omega | (simp; done) | (simp; omega)) _)
    · have g5 : 10 < b := by omega
      go_enter Try.func37, Try.ntmps37
      go_wp2_with (fail)
      refine (l01Ok_any _ 27 a b f ha hb hf _ (by go_simp)).mono ?_
      rintro e w1 ⟨rfl, rfl⟩
      go_wp2_with (go_at_call 57; refine (l01Colour_any _ _).mono ?_; rintro e w' ⟨rfl, rfl⟩)
      refine ret_cell_tmp agg27 rfl rfl (c := pic 144 0 0 fun _ => 0) (t := 27) (fr := (0, 0)) (by go_simp) size_pic rfl ⟨?_, ?_⟩
      · rfl
      · repeat' (first | exact New.refl _ | refine New.alloc ?_ _ | refine New.drew ?_ | refine New.drewN ?_ _ | refine New.setRow ?_ (by omega) _ | refine New.setCell ?_ (by first | omega | (simp; done) | (simp; omega)) _)
  iterate 2
    · go_enter Try.func37, Try.ntmps37
      go_wp2_with (fail)
      refine (l01Ok_any _ 27 a b f ha hb hf _ (by go_simp)).mono ?_
      rintro e w1 ⟨rfl, rfl⟩
      go_wp2_with (go_at_call 57; refine (l01Colour_any _ _).mono ?_; rintro e w' ⟨rfl, rfl⟩)
      refine ret_cell_tmp agg27 rfl rfl (c := pic 144 0 0 fun _ => 0) (t := 27) (fr := (0, 0)) (by go_simp) size_pic rfl ⟨?_, ?_⟩
      · rfl
      · repeat' (first | exact New.refl _ | refine New.alloc ?_ _ | refine New.drew ?_ | refine New.drewN ?_ _ | refine New.setRow ?_ (by omega) _ | refine New.setCell ?_ (by first | omega | (simp; done) | (simp; omega)) _)
  have gd := okPic_dims h1
  have g2 := inB_t.1 h2
  have g3 := isSizeB_t h3
  go_enter Try.func37, Try.ntmps37
  go_wp2_with (fail)
  refine (l01Ok_any _ 27 a b f ha hb hf _ (by go_simp)).mono ?_
  rintro e w1 ⟨rfl, rfl⟩
  go_wp2_with (go_at_call 57; refine (l01Colour_any _ _).mono ?_; rintro e w' ⟨rfl, rfl⟩)
  clear h1 h2 h3
  go_loopw [7, 8, 9] (fun i _ _ wr => ∃ k : Nat, k ≤ 144 ∧ i = .int .i64 k ∧ Hid (obj wr w.heap.size = some (.cells (pic 144 a b f) 27)) ∧ Hid (obj wr (w.heap.size + 1) = some (.cells (pic 144 0 0 fun _ => 0) 27)) ∧ Hid (obj wr (w.heap.size + 1 + 1) = some (.cells (pic 144 (a + 2) (b + 2) (fold (fun _ => 0) (fun i => cellB i (a + 2) (b + 2)) (fun i => i) (borV a b f c) k)) 27)) ∧ New w wr ∧ w.heap.size + 3 ≤ wr.heap.size) (fun i _ _ _ => 144 - (intOf i).toNat)
  case atStart =>
    refine ⟨0, by omega, rfl, ?_, ?_, ?_, ?_, by simp⟩
    · show _ = _
      go_simp
    · show _ = _
      go_simp
    · show _ = _
      go_simp
      try rfl
    · repeat' (first | exact New.refl _ | refine New.alloc ?_ _ | refine New.drew ?_ | refine New.drewN ?_ _ | refine New.setRow ?_ (by omega) _ | refine New.setCell ?_ (by first | omega | (simp; done) | (simp; omega)) _)
  case round =>
    obtain ⟨k, hk, rfl, hp1, hz1, hq1, hn, hlw⟩ := hrel
    have hp := hp1.out
    have hz := hz1.out
    have hq := hq1.out
    have k0 : w.heap.size < wr.heap.size := by omega
    have k1 : w.heap.size + 1 < wr.heap.size := by omega
    have k2 : w.heap.size + 2 < wr.heap.size := by omega
    by_cases hlt : k < 144
    · cases hc : cellB k (a + 2) (b + 2)
      · go_wp2_with (fail)
        refine (l01Is_any _ 27 (a + 2) (b + 2) _ _ (by omega) (by omega) _ hq).mono ?_
        rintro e w1 ⟨rfl, rfl⟩
        go_wp2_with (fail)
        go_roundw
        case rel => exact ⟨k + 1, by omega, by go_num, hp1, hz1, by show _ = _; rw [hq]; simp [fold, hc], hn, hlw⟩
        case measure => simp [intOf]; omega
      have hin : Hid (inside (a + 2) (b + 2) k) := (cellB_t hlt).1 hc
      have z1 : w.heap.size ≠ w.heap.size + 1 + 1 := by omega
      have z2 : (w.heap.size = w.heap.size + 1 + 1) = False := by simp; omega
      cases c1 : inB ((k : Int) % 12 - 1) 0 (a - 1)
      · have hv : Hid (borV a b f c k = c) := by show _ = _; unfold borV borH isCellB; rw [c1]; rfl
        go_wp2_with (fail)
        refine (l01Is_any _ 27 (a + 2) (b + 2) _ _ (by omega) (by omega) _ hq).mono ?_
        rintro e w1 ⟨rfl, rfl⟩
        go_wp2_with (go_at_call 59; refine (l00In_any _ _ _ _).mono ?_; rintro e w' ⟨rfl, rfl⟩)
        go_roundw
        case rel =>
          refine ⟨k + 1, by omega, by go_num, ?_, ?_, ?_, ?_, ?_⟩
          · show _ = _
            rw [obj_setCell_other _ _ _ _ _ (by omega), hp]
          · show _ = _
            rw [obj_setCell_other _ _ _ _ _ (by omega), hz]
          · show _ = _
            rw [obj_set_pic hq _ (k) _ (by omega)]
            simp only [fold, hc, if_true, hv.out]
          · exact (hn.setCell (by show w.heap.size ≤ w.heap.size + 1 + 1; omega) _)
          · simp only [World.size_setCell]; omega
        case measure => simp [intOf]; omega
      cases c2 : inB ((k : Int) / 12 - 1) 0 (b - 1)
      · have hv : Hid (borV a b f c k = c) := by show _ = _; unfold borV borH isCellB; rw [c1, c2]; rfl
        go_wp2_with (fail)
        refine (l01Is_any _ 27 (a + 2) (b + 2) _ _ (by omega) (by omega) _ hq).mono ?_
        rintro e w1 ⟨rfl, rfl⟩
        go_wp2_with (go_at_call 59; refine (l00In_any _ _ _ _).mono ?_; rintro e w' ⟨rfl, rfl⟩)
        go_roundw
        case rel =>
          refine ⟨k + 1, by omega, by go_num, ?_, ?_, ?_, ?_, ?_⟩
          · show _ = _
            rw [obj_setCell_other _ _ _ _ _ (by omega), hp]
          · show _ = _
            rw [obj_setCell_other _ _ _ _ _ (by omega), hz]
          · show _ = _
            rw [obj_set_pic hq _ (k) _ (by omega)]
            simp only [fold, hc, if_true, hv.out]
          · exact (hn.setCell (by show w.heap.size ≤ w.heap.size + 1 + 1; omega) _)
          · simp only [World.size_setCell]; omega
        case measure => simp [intOf]; omega
      have b1 := inB_t.1 c1
      have b2 := inB_t.1 c2
      have hv : Hid (borV a b f c k = f ((k : Int) % 12 - 1 + 12 * ((k : Int) / 12 - 1)).toNat) := by show _ = _; unfold borV borH isCellB; rw [c1, c2]; rfl
      have q1 : 0 ≤ (k : Int) % 12 - 1 + 12 * ((k : Int) / 12 - 1) := by omega
      have q2 : (k : Int) % 12 - 1 + 12 * ((k : Int) / 12 - 1) < 144 := by omega
      have q3 : ((k : Int) % 12 - 1 + 12 * ((k : Int) / 12 - 1)).toNat < 144 := by omega
      go_wp2_with (fail)
      refine (l01Is_any _ 27 (a + 2) (b + 2) _ _ (by omega) (by omega) _ hq).mono ?_
      rintro e w1 ⟨rfl, rfl⟩
      go_wp2_with (go_at_call 59; refine (l00In_any _ _ _ _).mono ?_; rintro e w' ⟨rfl, rfl⟩)
      go_roundw
      case rel =>
        refine ⟨k + 1, by omega, by go_num, ?_, ?_, ?_, ?_, ?_⟩
        · show _ = _
          rw [obj_setCell_other _ _ _ _ _ (by omega), obj_setCell_other _ _ _ _ _ (by omega), hp]
        · show _ = _
          rw [obj_setCell_other _ _ _ _ _ (by omega), obj_setCell_other _ _ _ _ _ (by omega), hz]
        · show _ = _
          rw [obj_set_pic (obj_set_pic hq _ (k) _ (by omega)) _ (k) _ (by omega)]
          have e9 : (k % 12 - 1 + 12 * (k / 12 - 1)) = ((k : Int) % 12 - 1 + 12 * ((k : Int) / 12 - 1)).toNat := by omega
          simp only [upd_upd, fold, hc, if_true, hv.out, e9]
        · exact ((hn.setCell (by show w.heap.size ≤ w.heap.size + 1 + 1; omega) _).setCell (by show w.heap.size ≤ w.heap.size + 1 + 1; omega) _)
        · simp only [World.size_setCell]; omega
      case measure => simp [intOf]; omega
    · obtain rfl : k = 144 := by omega
      go_wp2_with (fail)
      refine ret_cell_tmp agg27 rfl rfl (c := pic 144 (a + 2) (b + 2) (fold (fun _ => 0) (fun i => cellB i (a + 2) (b + 2)) (fun i => i) (borV a b f c) 144)) (t := 27) (fr := (0, 0)) (by go_simp) size_pic rfl ⟨?_, ?_⟩
      · rw [pic_congr (fun j hj => id_end (a + 2) (b + 2) (by omega) (by omega) (borH a b f c) (borV a b f c) (fun i hi hin => rfl) j hj)]
        rfl
      · exact hn.setRow (by omega) _
end Go.Proofs.Ytbhajdcohhblfaa
