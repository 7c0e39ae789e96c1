/- The reference's plain pictures and parts of pictures; no condition. -/
import Derived.Test.YtbhajdcohhblfaaWithCol
set_option linter.unusedVariables false
namespace Go.Proofs.Ytbhajdcohhblfaa
open Go.BigFrame
open Go.RowKit Go.Arr
def plainQ (a b c : Int) : Bool := (inB a 1 12 && inB b 1 12) && inB c 0 15
def plainA (a b c : Int) : PicAns := if plainQ a b c = true then ⟨0, a, b, paint a b fun _ _ => c⟩ else noPic 2
set_option maxHeartbeats 2000000 in
set_option maxRecDepth 100000 in
theorem plain_spec (a b c : Int) (w : World) :
    Calls Try.prog 29 #[.int .i64 a, .int .i64 b, .int .i64 c] w fun e w' => e = .returned (.tuple #[.agg (pic 144 (plainA a b c).w (plainA a b c).h (plainA a b c).f), .int .i64 (plainA a b c).c]) ∧ New w w' := by
  cases h1 : inB a 1 12
  · have hA : plainA a b c = noPic 2 := by simp [plainA, plainQ, h1]
    rw [hA]
    clear hA
    go_enter Try.func29, Try.ntmps29
    go_wp2_with (go_at_call 59; refine (l00In_any _ _ _ _).mono ?_; rintro e w' ⟨rfl, rfl⟩)
    refine ret_cell_tmp agg27 rfl rfl (c := pic 144 0 0 fun _ => 0) (t := 27) (fr := (0, 0)) (by go_simp) size_pic rfl ⟨?_, ?_⟩
    · rfl
    · repeat' (first | exact New.refl _ | refine New.alloc ?_ _ | refine New.drew ?_ | refine New.drewN ?_ _ | refine New.setRow ?_ (by omega) _ | refine New.setCell ?_ (by first | omega | (simp; done) | (simp; omega)) _)
  cases h2 : inB b 1 12
  · have hA : plainA a b c = noPic 2 := by simp [plainA, plainQ, h1, h2]
    rw [hA]
    clear hA
    go_enter Try.func29, Try.ntmps29
    go_wp2_with (go_at_call 59; refine (l00In_any _ _ _ _).mono ?_; rintro e w' ⟨rfl, rfl⟩)
    refine ret_cell_tmp agg27 rfl rfl (c := pic 144 0 0 fun _ => 0) (t := 27) (fr := (0, 0)) (by go_simp) size_pic rfl ⟨?_, ?_⟩
    · rfl
    · repeat' (first | exact New.refl _ | refine New.alloc ?_ _ | refine New.drew ?_ | refine New.drewN ?_ _ | refine New.setRow ?_ (by omega) _ | refine New.setCell ?_ (by first | omega | (simp; done) | (simp; omega)) _)
  cases h3 : inB c 0 15
  · have hA : plainA a b c = noPic 2 := by simp [plainA, plainQ, h1, h2, h3]
    rw [hA]
    clear hA
    go_enter Try.func29, Try.ntmps29
    go_wp2_with (first | (go_at_call 59; refine (l00In_any _ _ _ _).mono ?_; rintro e w' ⟨rfl, rfl⟩) | (go_at_call 57; refine (l01Colour_any _ _).mono ?_; rintro e w' ⟨rfl, rfl⟩))
    refine ret_cell_tmp agg27 rfl rfl (c := pic 144 0 0 fun _ => 0) (t := 27) (fr := (0, 0)) (by go_simp) size_pic rfl ⟨?_, ?_⟩
    · rfl
    · repeat' (first | exact New.refl _ | refine New.alloc ?_ _ | refine New.drew ?_ | refine New.drewN ?_ _ | refine New.setRow ?_ (by omega) _ | refine New.setCell ?_ (by first | omega | (simp; done) | (simp; omega)) _)
  have hA : plainA a b c = ⟨0, a, b, paint a b fun _ _ => c⟩ := by simp [plainA, plainQ, h1, h2, h3]
  rw [hA]
  clear hA
  have ga := inB_t.1 h1
  have gb := inB_t.1 h2
  have gc := inB_t.1 h3
  go_enter Try.func29, Try.ntmps29
  go_wp2_with (first | (go_at_call 59; refine (l00In_any _ _ _ _).mono ?_; rintro e w' ⟨rfl, rfl⟩) | (go_at_call 57; refine (l01Colour_any _ _).mono ?_; rintro e w' ⟨rfl, rfl⟩))
  clear h1 h2 h3
  go_loopw [9] (fun i wr => ∃ k : Nat, k ≤ 144 ∧ i = .int .i64 k ∧ Hid (obj wr w.heap.size = some (.cells (pic 144 0 0 fun _ => 0) 27)) ∧ Hid (obj wr (w.heap.size + 1) = some (.cells (pic 144 a b (fold (fun _ => 0) (fun i => cellB i a b) (fun i => i) (fun _ => c) k)) 27)) ∧ New w wr ∧ w.heap.size + 2 ≤ wr.heap.size) (fun i _ => 144 - (intOf i).toNat)
  case atStart =>
    refine ⟨0, by omega, rfl, ?_, ?_, ?_, by simp⟩
    · show _ = _
      go_simp
    · show _ = _
      go_simp
      try rfl
    · repeat' (first | exact New.refl _ | refine New.alloc ?_ _ | refine New.drew ?_ | refine New.drewN ?_ _ | refine New.setRow ?_ (by omega) _ | refine New.setCell ?_ (by first | omega | (simp; done) | (simp; omega)) _)
  case round =>
    obtain ⟨k, hk, rfl, hz1, hq1, hn, hlw⟩ := hrel
    have hz := hz1.out
    have hq := hq1.out
    have k0 : w.heap.size < wr.heap.size := by omega
    have k1 : w.heap.size + 1 < wr.heap.size := by omega
    by_cases hlt : k < 144
    · cases hc : cellB k a b
      · go_wp2_with (fail)
        refine (l01Is_any _ 27 a b _ _ (by omega) (by omega) _ hq).mono ?_
        rintro e w1 ⟨rfl, rfl⟩
        go_wp2_with (fail)
        go_roundw
        case rel => exact ⟨k + 1, by omega, by go_num, hz1, by show _ = _; rw [hq]; simp [fold, hc], hn, hlw⟩
        case measure => simp [intOf]; omega
      · go_wp2_with (fail)
        refine (l01Is_any _ 27 a b _ _ (by omega) (by omega) _ hq).mono ?_
        rintro e w1 ⟨rfl, rfl⟩
        go_wp2_with (fail)
        go_roundw
        case rel =>
          refine ⟨k + 1, by omega, by go_num, ?_, ?_, ?_, ?_⟩
          · show _ = _
            rw [obj_setCell_other _ _ _ _ _ (by omega), hz]
          · show _ = _
            rw [obj_set_pic hq _ (k) _ (by omega)]
            simp only [fold, hc, if_true]
          · exact (hn.setCell (by show w.heap.size ≤ w.heap.size + 1; omega) _)
          · simp only [World.size_setCell]; omega
        case measure => simp [intOf]; omega
    · obtain rfl : k = 144 := by omega
      go_wp2_with (fail)
      refine ret_cell_tmp agg27 rfl rfl (c := pic 144 a b (fold (fun _ => 0) (fun i => cellB i a b) (fun i => i) (fun _ => c) 144)) (t := 27) (fr := (0, 0)) (by go_simp) size_pic rfl ⟨?_, ?_⟩
      · rw [pic_congr (fun j hj => id_end a b ga gb (fun _ _ => c) (fun _ => c) (fun i _ _ => rfl) j hj)]
        rfl
      · exact hn.setRow (by omega) _
def cutQ (a b x y c d : Int) : Bool := (isCellB x y a b && inB c 1 (a - x)) && inB d 1 (b - y)
def cutH (f : Nat → Int) (x y : Int) (u v : Int) : Int := f (x + u + 12 * (y + v)).toNat
def cutV (f : Nat → Int) (x y : Int) (i : Nat) : Int := f ((i : Int) + x + 12 * y).toNat
def cutA (a b : Int) (f : Nat → Int) (x y c d : Int) : PicAns := if codeB (okPic a b f) (cutQ a b x y c d) = 0 then ⟨0, c, d, paint c d (cutH f x y)⟩ else noPic (codeB (okPic a b f) (cutQ a b x y c d))
theorem cut_cases (a b : Int) (f : Nat → Int) (x y c d : Int) :
    (okPic a b f = true ∧ isCellB x y a b = true ∧ inB c 1 (a - x) = true ∧ inB d 1 (b - y) = true ∧ cutA a b f x y c d = ⟨0, c, d, paint c d (cutH f x y)⟩ ∧ codeB (okPic a b f) (isCellB x y a b) = 0) ∨
    (okPic a b f = true ∧ isCellB x y a b = true ∧ inB c 1 (a - x) = true ∧ inB d 1 (b - y) = false ∧ cutA a b f x y c d = noPic 2 ∧ codeB (okPic a b f) (isCellB x y a b) = 0) ∨
    (okPic a b f = true ∧ isCellB x y a b = true ∧ inB c 1 (a - x) = false ∧ cutA a b f x y c d = noPic 2 ∧ codeB (okPic a b f) (isCellB x y a b) = 0) ∨
    (okPic a b f = true ∧ isCellB x y a b = false ∧ cutA a b f x y c d = noPic 2 ∧ codeB (okPic a b f) (isCellB x y a b) = 2) ∨
    (okPic a b f = false ∧ cutA a b f x y c d = noPic 1 ∧ codeB (okPic a b f) (isCellB x y a b) = 1) := by
  unfold cutA cutQ
  cases okPic a b f <;> cases isCellB x y a b <;> cases inB c 1 (a - x) <;> cases inB d 1 (b - y) <;> simp [codeB]
set_option maxHeartbeats 2000000 in
set_option maxRecDepth 100000 in
theorem cut_spec (a b : Int) (f : Nat → Int) (x y c d : Int) (ha : -128 ≤ a ∧ a ≤ 127) (hb : -128 ≤ b ∧ b ≤ 127) (hf : ∀ i, 0 ≤ f i ∧ f i ≤ 255) (w : World) :
    Calls Try.prog 31 #[.agg (pic 144 a b f), .int .i64 x, .int .i64 y, .int .i64 c, .int .i64 d] w fun e w' => e = .returned (.tuple #[.agg (pic 144 (cutA a b f x y c d).w (cutA a b f x y c d).h (cutA a b f x y c d).f), .int .i64 (cutA a b f x y c d).c]) ∧ New w w' := by
  rcases cut_cases a b f x y c d with ⟨h1, h2, h3, h4, hA, h5⟩ | ⟨h1, h2, h3, h4, hA, h5⟩ | ⟨h1, h2, h3, hA, h5⟩ | ⟨h1, h2, hA, h5⟩ | ⟨h1, hA, h5⟩
  rotate_left
  all_goals (try have gd := okPic_dims h1)
  all_goals (try have gc := isCellB_t h2)
  all_goals (clear h1; try clear h2)
  all_goals rw [hA]
  all_goals clear hA
  iterate 4
    · go_enter Try.func31, Try.ntmps31
      go_wp2_with (fail)
      refine (l01Place_any _ 27 a b f x y ha hb hf _ (by go_simp)).mono ?_
      rintro e w1 ⟨rfl, rfl⟩
      go_wp2_with (go_at_call 59; refine (l00In_any _ _ _ _).mono ?_; rintro e w' ⟨rfl, rfl⟩)
      refine ret_cell_tmp agg27 rfl rfl (c := pic 144 0 0 fun _ => 0) (t := 27) (fr := (0, 0)) (by go_simp) size_pic rfl ⟨?_, ?_⟩
      · rfl
      · repeat' (first | exact New.refl _ | refine New.alloc ?_ _ | refine New.drew ?_ | refine New.drewN ?_ _ | refine New.setRow ?_ (by omega) _ | refine New.setCell ?_ (by first | omega | (simp; done) | (simp; omega)) _)
  have gw := inB_t.1 h3
  have gh := inB_t.1 h4
  go_enter Try.func31, Try.ntmps31
  go_wp2_with (fail)
  refine (l01Place_any _ 27 a b f x y ha hb hf _ (by go_simp)).mono ?_
  rintro e w1 ⟨rfl, rfl⟩
  go_wp2_with (go_at_call 59; refine (l00In_any _ _ _ _).mono ?_; rintro e w' ⟨rfl, rfl⟩)
  clear h3 h4 h5
  go_loopw [14] (fun i wr => ∃ k : Nat, k ≤ 144 ∧ i = .int .i64 k ∧ Hid (obj wr w.heap.size = some (.cells (pic 144 a b f) 27)) ∧ Hid (obj wr (w.heap.size + 1) = some (.cells (pic 144 0 0 fun _ => 0) 27)) ∧ Hid (obj wr (w.heap.size + 1 + 1) = some (.cells (pic 144 c d (fold (fun _ => 0) (fun i => cellB i c d) (fun i => i) (cutV f x y) k)) 27)) ∧ New w wr ∧ w.heap.size + 3 ≤ wr.heap.size) (fun i _ => 144 - (intOf i).toNat)
  case atStart =>
    refine ⟨0, by omega, rfl, ?_, ?_, ?_, ?_, by simp⟩
    · show _ = _
      go_simp
    · show _ = _
      go_simp
    · show _ = _
      go_simp
      try rfl
    · repeat' (first | exact New.refl _ | refine New.alloc ?_ _ | refine New.drew ?_ | refine New.drewN ?_ _ | refine New.setRow ?_ (by omega) _ | refine New.setCell ?_ (by first | omega | (simp; done) | (simp; omega)) _)
  case round =>
    obtain ⟨k, hk, rfl, hp1, hz1, hq1, hn, hlw⟩ := hrel
    have hp := hp1.out
    have hz := hz1.out
    have hq := hq1.out
    have k0 : w.heap.size < wr.heap.size := by omega
    have k1 : w.heap.size + 1 < wr.heap.size := by omega
    have k2 : w.heap.size + 2 < wr.heap.size := by omega
    by_cases hlt : k < 144
    · cases hc : cellB k c d
      · go_wp2_with (fail)
        refine (l01Is_any _ 27 c d _ _ (by omega) (by omega) _ hq).mono ?_
        rintro e w1 ⟨rfl, rfl⟩
        go_wp2_with (fail)
        go_roundw
        case rel => exact ⟨k + 1, by omega, by go_num, hp1, hz1, by show _ = _; rw [hq]; simp [fold, hc], hn, hlw⟩
        case measure => simp [intOf]; omega
      · have hin : Hid (inside c d k) := (cellB_t hlt).1 hc
        have q1 : 0 ≤ (k : Int) + x + 12 * y := by omega
        have q2 : (k : Int) + x + 12 * y < 144 := by have := hin.out; unfold inside at this; omega
        have q3 : ((k : Int) + x + 12 * y).toNat < 144 := by omega
        go_wp2_with (fail)
        refine (l01Is_any _ 27 c d _ _ (by omega) (by omega) _ hq).mono ?_
        rintro e w1 ⟨rfl, rfl⟩
        go_wp2_with (fail)
        go_roundw
        case rel =>
          refine ⟨k + 1, by omega, by go_num, ?_, ?_, ?_, ?_, ?_⟩
          · show _ = _
            rw [obj_setCell_other _ _ _ _ _ (by omega), hp]
          · show _ = _
            rw [obj_setCell_other _ _ _ _ _ (by omega), hz]
          · show _ = _
            rw [obj_set_pic hq _ (k) _ (by omega)]
            simp only [fold, hc, if_true, cutV]
          · exact (hn.setCell (by show w.heap.size ≤ w.heap.size + 1 + 1; omega) _)
          · simp only [World.size_setCell]; omega
        case measure => simp [intOf]; omega
    · obtain rfl : k = 144 := by omega
      go_wp2_with (fail)
      refine ret_cell_tmp agg27 rfl rfl (c := pic 144 c d (fold (fun _ => 0) (fun i => cellB i c d) (fun i => i) (cutV f x y) 144)) (t := 27) (fr := (0, 0)) (by go_simp) size_pic rfl ⟨?_, ?_⟩
      · rw [pic_congr (fun j hj => id_end c d (by omega) (by omega) (cutH f x y) (cutV f x y) (fun i hi hin => by unfold cutH cutV; congr 1; omega) j hj)]
        rfl
      · exact hn.setRow (by omega) _
end Go.Proofs.Ytbhajdcohhblfaa
