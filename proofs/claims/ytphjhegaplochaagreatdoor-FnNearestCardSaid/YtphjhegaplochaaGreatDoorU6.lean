/- Which pictures are valid: the reference and the program answer alike; no condition. -/
import Derived.Test.YtphjhegaplochaaGreatDoorU3
import Derived.Test.YtphjhegaplochaaGreatDoorU2
import Derived.Test.YtphjhegaplochaaGreatDoorU1
set_option linter.unusedVariables false
namespace Go.Proofs.YtphjhegaplochaaGreatDoor
open Go.BigFrame
open Go.RowKit Go.Arr
def cellB (i : Int) (a b : Int) : Bool := inB i 0 143 && (decide (i % 12 < a) && decide (i / 12 < b))
def goodAt (a b : Int) (f : Nat → Int) (i : Nat) : Bool := decide (f i < 16) && (cellB i a b || decide (f i = 0))
def goodUpto (a b : Int) (f : Nat → Int) (n : Nat) : Prop := ∀ j, j < n → goodAt a b f j = true
def okPic (a b : Int) (f : Nat → Int) : Bool := isSizeB a b && (List.range 144).all (goodAt a b f)
theorem okPic_of (a b : Int) (f : Nat → Int) (h1 : isSizeB a b = true) (h2 : goodUpto a b f 144) : okPic a b f = true := by
  unfold okPic
  rw [h1, Bool.true_and, List.all_eq_true]
  intro i hi
  exact h2 i (by simpa using hi)
theorem okPic_not (a b : Int) (f : Nat → Int) (i : Nat) (hi : i < 144) (h : goodAt a b f i = false) : okPic a b f = false := by
  unfold okPic
  have : (List.range 144).all (goodAt a b f) = false := by
    rw [List.all_eq_false]
    exact ⟨i, by simpa using hi, by simp [h]⟩
  rw [this, Bool.and_false]
theorem okPic_size (a b : Int) (f : Nat → Int) (h : isSizeB a b = false) : okPic a b f = false := by
  unfold okPic; rw [h, Bool.false_and]
theorem goodUpto_succ {a b : Int} {f : Nat → Int} {k : Nat} (h : goodUpto a b f k) (hk : goodAt a b f k = true) : goodUpto a b f (k + 1) := by
  intro j hj
  rcases Nat.lt_succ_iff_lt_or_eq.1 hj with h1 | rfl
  · exact h j h1
  · exact hk
theorem cell_isCell (k : Nat) (hk : k < 144) (a b : Int) : isCellB ((k : Int) % 12) ((k : Int) / 12) a b = cellB k a b := by
  unfold isCellB cellB
  have e1 : inB ((k : Int) % 12) 0 (a - 1) = decide ((k : Int) % 12 < a) := by unfold inB; rw [decide_eq_decide]; omega
  have e2 : inB ((k : Int) / 12) 0 (b - 1) = decide ((k : Int) / 12 < b) := by unfold inB; rw [decide_eq_decide]; omega
  have e3 : inB k 0 143 = true := inB_t.2 (by omega)
  rw [e1, e2, e3, Bool.true_and]
set_option maxHeartbeats 400000 in
set_option maxRecDepth 100000 in
theorem l01Is_any (g : Nat) (t : TypeId) (a b : Int) (f : Nat → Int) (i : Int) (ha : -128 ≤ a ∧ a ≤ 127) (hb : -128 ≤ b ∧ b ≤ 127) (w : World) (ho : obj w g = some (.cells (pic 144 a b f) t)) :
    Calls Tryz.prog 64 #[.pointer (some ⟨g, 0, none⟩), .int .i64 i] w fun e w' => e = .returned (.bool (cellB i a b)) ∧ w = w' := by
  cases h : inB i 0 143
  · go_enter Tryz.func64, Tryz.ntmps64
    go_wp2_with (go_at_call 56; refine (l00In_any _ _ _ _).mono ?_; rintro e w' ⟨rfl, rfl⟩)
    go_ret
    exact ⟨ret_b (by simp [cellB, h]), rfl⟩
  · have h2 := inB_t.1 h
    have h3 := h2.1
    have h4 := h2.2
    by_cases h5 : i % 12 < a
    all_goals
      go_enter Tryz.func64, Tryz.ntmps64
      go_wp2_with (go_at_call 56; refine (l00In_any _ _ _ _).mono ?_; rintro e w' ⟨rfl, rfl⟩)
      go_ret
      exact ⟨ret_b (by first | (simp [cellB, h, h5]; done) | (simp [cellB, h]; omega)), rfl⟩
set_option maxHeartbeats 400000 in
set_option maxRecDepth 100000 in
theorem has_any (a b : Int) (f : Nat → Int) (x y : Int) (ha : -128 ≤ a ∧ a ≤ 127) (hb : -128 ≤ b ∧ b ≤ 127) (w : World) :
    Calls Tryz.prog 63 #[.agg (pic 144 a b f), .int .i64 x, .int .i64 y] w fun e w' => e = .returned (.bool (isCellB x y a b)) ∧ New w w' := by
  go_enter Tryz.func63, Tryz.ntmps63
  go_wp2_with (go_at_call 50; refine (isCell_any _ _ _ _ ha hb _).mono ?_; rintro e w' ⟨rfl, rfl⟩)
  go_ret
  exact ⟨rfl, (New.refl w).alloc _⟩
set_option maxHeartbeats 1000000 in
set_option maxRecDepth 100000 in
theorem l01Ok_any (g : Nat) (t : TypeId) (a b : Int) (f : Nat → Int) (ha : -128 ≤ a ∧ a ≤ 127) (hb : -128 ≤ b ∧ b ≤ 127) (hf : ∀ i, 0 ≤ f i ∧ f i ≤ 255) (w : World) (ho : obj w g = some (.cells (pic 144 a b f) t)) :
    Calls Tryz.prog 90 #[.pointer (some ⟨g, 0, none⟩)] w fun e w' => e = .returned (.bool (okPic a b f)) ∧ w = w' := by
  cases h1 : inB a 1 12
  · go_enter Tryz.func90, Tryz.ntmps90
    go_wp2_with (go_at_call 56; refine (l00In_any _ _ _ _).mono ?_; rintro e w' ⟨rfl, rfl⟩)
    go_ret
    exact ⟨ret_b (okPic_size a b f (by simp [isSizeB, h1])).symm, rfl⟩
  cases h2 : inB b 1 12
  · go_enter Tryz.func90, Tryz.ntmps90
    go_wp2_with (go_at_call 56; refine (l00In_any _ _ _ _).mono ?_; rintro e w' ⟨rfl, rfl⟩)
    go_ret
    exact ⟨ret_b (okPic_size a b f (by simp [isSizeB, h1, h2])).symm, rfl⟩
  have hsz : Hid (isSizeB a b = true) := by show _ = _; simp [isSizeB, h1, h2]
  go_enter Tryz.func90, Tryz.ntmps90
  go_wp2_with (go_at_call 56; refine (l00In_any _ _ _ _).mono ?_; rintro e w' ⟨rfl, rfl⟩)
  go_loop [3] (fun i => ∃ k : Nat, k ≤ 144 ∧ i = .int .i64 k ∧ Hid (goodUpto a b f k)) (fun i => 144 - (intOf i).toNat)
  case atStart => exact ⟨0, by omega, rfl, fun j hj => absurd hj (by omega)⟩
  case round =>
    obtain ⟨k, hk, rfl, hg⟩ := hrel
    by_cases hlt : k < 144
    · have hfk := hf k
      by_cases h16 : f k < 16
      · cases hc : cellB k a b
        · by_cases hz : f k = 0
          · have hgk : Hid (goodAt a b f k = true) := by show _ = _; simp [goodAt, hz]
            have hz1 : (f k != 0) = false := by simp [hz]
            clear hz
            go_wp2_with (go_at_call 64; refine (l01Is_any g t a b f _ ha hb _ ho).mono ?_; rintro e w' ⟨rfl, rfl⟩)
            go_round
            case rel => exact ⟨k + 1, by omega, by go_num, goodUpto_succ hg.out hgk.out⟩
            case measure => simp [intOf]; omega
          · have hgk : Hid (okPic a b f = false) := okPic_not a b f k hlt (by simp [goodAt, hc, hz])
            have hz1 : (f k != 0) = true := by simp [hz]
            clear hz
            go_wp2_with (go_at_call 64; refine (l01Is_any g t a b f _ ha hb _ ho).mono ?_; rintro e w' ⟨rfl, rfl⟩)
            go_ret
            exact ⟨ret_b hgk.out.symm, rfl⟩
        · have hgk : Hid (goodAt a b f k = true) := by show _ = _; simp [goodAt, h16, hc]
          go_wp2_with (go_at_call 64; refine (l01Is_any g t a b f _ ha hb _ ho).mono ?_; rintro e w' ⟨rfl, rfl⟩)
          go_round
          case rel => exact ⟨k + 1, by omega, by go_num, goodUpto_succ hg.out hgk.out⟩
          case measure => simp [intOf]; omega
      · have hgk : Hid (okPic a b f = false) := okPic_not a b f k hlt (by simp [goodAt, h16])
        go_wp2_with (go_at_call 64; refine (l01Is_any g t a b f _ ha hb _ ho).mono ?_; rintro e w' ⟨rfl, rfl⟩)
        go_ret
        exact ⟨ret_b hgk.out.symm, rfl⟩
    · obtain rfl : k = 144 := by omega
      go_wp2_with (fail)
      go_ret
      exact ⟨ret_b (okPic_of a b f hsz.out hg.out).symm, rfl⟩
set_option maxHeartbeats 1000000 in
set_option maxRecDepth 100000 in
theorem validPicture_impl (a b : Int) (f : Nat → Int) (ha : -128 ≤ a ∧ a ≤ 127) (hb : -128 ≤ b ∧ b ≤ 127) (hf : ∀ i, 0 ≤ f i ∧ f i ≤ 255) (w : World) :
    Calls Tryz.prog 19 #[.agg (pic 144 a b f)] w fun e w' => e = .returned (.bool (okPic a b f)) ∧ New w w' := by
  cases hs : isSizeB a b
  · go_enter Tryz.func19, Tryz.ntmps19
    go_wp2_with (go_at_call 62; refine (isSize_any _ _ _).mono ?_; rintro e w' ⟨rfl, rfl⟩)
    go_ret
    exact ⟨ret_b (okPic_size a b f hs).symm, (New.refl w).alloc _⟩
  have hsz : Hid (isSizeB a b = true) := hs
  go_enter Tryz.func19, Tryz.ntmps19
  go_wp2_with (go_at_call 62; refine (isSize_any _ _ _).mono ?_; rintro e w' ⟨rfl, rfl⟩)
  clear hs
  go_loopw [15] (fun i wr => ∃ k : Nat, k ≤ 144 ∧ i = .int .i64 k ∧ Hid (goodUpto a b f k) ∧ Hid (obj wr w.heap.size = some (.cells (pic 144 a b f) 39)) ∧ New w wr ∧ w.heap.size < wr.heap.size) (fun i _ => 144 - (intOf i).toNat)
  case atStart => exact ⟨0, by omega, rfl, fun j hj => absurd hj (by omega), by show _ = _; go_simp, (New.refl w).alloc _, by simp⟩
  case round =>
    obtain ⟨k, hk, rfl, hg, ho1, hn, hlw⟩ := hrel
    have ho := ho1.out
    by_cases hlt : k < 144
    · have hfk := hf k
      have hcc : isCellB ((k : Int) % 12) ((k : Int) / 12) a b = cellB k a b := cell_isCell k hlt a b
      have fin : ∀ w1, New wr w1 → Hid (obj w1 w.heap.size = some (.cells (pic 144 a b f) 39)) ∧ New w w1 ∧ w.heap.size < w1.heap.size := fun w1 h1 => ⟨(h1.objs _ hlw).trans ho, hn.trans h1, Nat.lt_of_lt_of_le hlw h1.le⟩
      have hF := hide fin
      clear fin
      by_cases h16 : f k < 16
      · cases hc : cellB k a b
        · by_cases hz : f k = 0
          · have hgk : Hid (goodAt a b f k = true) := by show _ = _; simp [goodAt, hz]
            have hz1 : (f k != 0) = false := by simp [hz]
            clear hz
            go_wp2_with (fail)
            refine (has_any a b f _ _ ha hb _).mono ?_
            rintro e w1 ⟨rfl, hn1⟩
            go_wp2_with (fail)
            go_roundw
            case rel => exact ⟨k + 1, by omega, by go_num, goodUpto_succ hg.out hgk.out, hF.out w1 hn1⟩
            case measure => simp [intOf]; omega
          · have hgk : Hid (okPic a b f = false) := okPic_not a b f k hlt (by simp [goodAt, hc, hz])
            have hz1 : (f k != 0) = true := by simp [hz]
            clear hz
            go_wp2_with (fail)
            refine (has_any a b f _ _ ha hb _).mono ?_
            rintro e w1 ⟨rfl, hn1⟩
            go_wp2_with (fail)
            go_ret
            exact ⟨ret_b hgk.out.symm, hn.trans hn1⟩
        · have hgk : Hid (goodAt a b f k = true) := by show _ = _; simp [goodAt, h16, hc]
          go_wp2_with (fail)
          refine (has_any a b f _ _ ha hb _).mono ?_
          rintro e w1 ⟨rfl, hn1⟩
          go_wp2_with (fail)
          go_roundw
          case rel => exact ⟨k + 1, by omega, by go_num, goodUpto_succ hg.out hgk.out, hF.out w1 hn1⟩
          case measure => simp [intOf]; omega
      · have hgk : Hid (okPic a b f = false) := okPic_not a b f k hlt (by simp [goodAt, h16])
        go_wp2_with (fail)
        refine (has_any a b f _ _ ha hb _).mono ?_
        rintro e w1 ⟨rfl, hn1⟩
        go_wp2_with (fail)
        all_goals go_ret
        all_goals exact ⟨ret_b hgk.out.symm, hn.trans hn1⟩
    · obtain rfl : k = 144 := by omega
      go_wp2_with (fail)
      go_ret
      exact ⟨ret_b (okPic_of a b f hsz.out hg.out).symm, hn⟩
end Go.Proofs.YtphjhegaplochaaGreatDoor
/- Images: copied; which are valid; no condition. -/
set_option linter.unusedVariables false
namespace Go.Proofs.YtphjhegaplochaaGreatDoor
open Go.BigFrame
open Go.RowKit Go.Arr
theorem run_index_arr3 {P : Program} {n : Nat} {f : Nat → Int} (t e u : TypeId) (ht : P.underlying t = some (.array n e)) (he : P.underlying e = some (.array 3 u)) (hsz : ∀ w, (sizeOf e).run P w = .ok 3 w) (ik : IntKind) (i : Int) (h0 : 0 ≤ i) (h1 : i < n) (w : World) :
    (Instr.index t (.agg (arr (n * 3) .u8 f)) (.int ik i)).run P w = .ok (.agg #[.int .u8 (f (i.toNat * 3)), .int .u8 (f (i.toNat * 3 + 1)), .int .u8 (f (i.toNat * 3 + 2))]) w := by
  have hlt : i.toNat < n := by omega
  have hx : (arr (n * 3) .u8 f).extract (i.toNat * 3) (i.toNat * 3 + 3) = #[.int .u8 (f (i.toNat * 3)), .int .u8 (f (i.toNat * 3 + 1)), .int .u8 (f (i.toNat * 3 + 2))] :=
    ext3 (by rw [get_arr, if_pos (by omega)]) (by rw [get_arr, if_pos (by omega)]) (by rw [get_arr, if_pos (by omega)]) rfl
  have hp : (part e (arr (n * 3) .u8 f) (i.toNat * 3)).run P w = .ok (.agg #[.int .u8 (f (i.toNat * 3)), .int .u8 (f (i.toNat * 3 + 1)), .int .u8 (f (i.toNat * 3 + 2))]) w := by
    simp [part, isAgg, run_underlying he, hsz, hx]
  simp [Instr.index, asIntOf, run_underlying ht, h0, h1, hsz, hp]
theorem sizeTone (w : World) : (sizeOf 26).run Tryz.prog w = .ok 3 w := by kernel_rfl
theorem ixTones (f : Nat → Int) (ik : IntKind) (i : Int) (h0 : 0 ≤ i) (h1 : i < 144) (w : World) : (Instr.index 27 (.agg (arr 432 .u8 f)) (.int ik i)).run Tryz.prog w = .ok (.agg #[.int .u8 (f (i.toNat * 3)), .int .u8 (f (i.toNat * 3 + 1)), .int .u8 (f (i.toNat * 3 + 2))]) w := run_index_arr3 (n := 144) 27 26 5 Tryz.underlying27 Tryz.underlying26 sizeTone ik i h0 (by omega) w
attribute [go_sem high] ixTones
theorem pic3 {n o p : Nat} {a b : Int} {f : Nat → Int} (ho : o + 3 ≤ n) (hp : p = 2 + o + 3) : (pic n a b f).extract (2 + o) p = #[.int .u8 (f o), .int .u8 (f (o + 1)), .int .u8 (f (o + 2))] :=
  ext3 (by rw [get_pic', if_pos (by omega)]) (by rw [Nat.add_assoc, get_pic', if_pos (by omega)]) (by rw [Nat.add_assoc, get_pic', if_pos (by omega)]) hp
theorem arr3 {n o p : Nat} {f : Nat → Int} (ho : o + 3 ≤ n) (hp : p = o + 3) : (arr n .u8 f).extract o p = #[.int .u8 (f o), .int .u8 (f (o + 1)), .int .u8 (f (o + 2))] :=
  ext3 (by rw [get_arr, if_pos (by omega)]) (by rw [get_arr, if_pos (by omega)]) (by rw [get_arr, if_pos (by omega)]) hp
def goodTone (a b : Int) (f : Nat → Int) (i : Nat) : Bool := cellB i a b || eq3 (f (i * 3)) (f (i * 3 + 1)) (f (i * 3 + 2)) 0 0 0
def okImg (a b : Int) (f : Nat → Int) : Bool := isSizeB a b && (List.range 144).all (goodTone a b f)
theorem okImg_of (a b : Int) (f : Nat → Int) (h1 : isSizeB a b = true) (h2 : ∀ j, j < 144 → goodTone a b f j = true) : okImg a b f = true := by
  unfold okImg
  rw [h1, Bool.true_and, List.all_eq_true]
  intro i hi
  exact h2 i (by simpa using hi)
theorem okImg_not (a b : Int) (f : Nat → Int) (i : Nat) (hi : i < 144) (h : goodTone a b f i = false) : okImg a b f = false := by
  unfold okImg
  have : (List.range 144).all (goodTone a b f) = false := by
    rw [List.all_eq_false]
    exact ⟨i, by simpa using hi, by simp [h]⟩
  rw [this, Bool.and_false]
theorem okImg_size (a b : Int) (f : Nat → Int) (h : isSizeB a b = false) : okImg a b f = false := by
  unfold okImg; rw [h, Bool.false_and]
theorem upto_succ {p : Nat → Bool} {k : Nat} (h : ∀ j, j < k → p j = true) (hk : p k = true) : ∀ j, j < k + 1 → p j = true := by
  intro j hj
  rcases Nat.lt_succ_iff_lt_or_eq.1 hj with h1 | rfl
  · exact h j h1
  · exact hk
set_option maxHeartbeats 400000 in
set_option maxRecDepth 100000 in
theorem l02Cell_any (g : Nat) (t : TypeId) (a b : Int) (f : Nat → Int) (i : Int) (ha : -128 ≤ a ∧ a ≤ 127) (hb : -128 ≤ b ∧ b ≤ 127) (w : World) (ho : obj w g = some (.cells (pic 432 a b f) t)) :
    Calls Tryz.prog 52 #[.pointer (some ⟨g, 0, none⟩), .int .i64 i] w fun e w' => e = .returned (.bool (cellB i a b)) ∧ w = w' := by
  cases h : inB i 0 143
  · go_enter Tryz.func52, Tryz.ntmps52
    go_wp2_with (go_at_call 56; refine (l00In_any _ _ _ _).mono ?_; rintro e w' ⟨rfl, rfl⟩)
    go_ret
    exact ⟨ret_b (by simp [cellB, h]), rfl⟩
  · have h2 := inB_t.1 h
    have h3 := h2.1
    have h4 := h2.2
    by_cases h5 : i % 12 < a
    all_goals
      go_enter Tryz.func52, Tryz.ntmps52
      go_wp2_with (go_at_call 56; refine (l00In_any _ _ _ _).mono ?_; rintro e w' ⟨rfl, rfl⟩)
      go_ret
      exact ⟨ret_b (by first | (simp [cellB, h, h5]; done) | (simp [cellB, h]; omega)), rfl⟩
set_option maxHeartbeats 1000000 in
set_option maxRecDepth 100000 in
theorem l02Image_any (g : Nat) (t : TypeId) (a b : Int) (f : Nat → Int) (ha : -128 ≤ a ∧ a ≤ 127) (hb : -128 ≤ b ∧ b ≤ 127) (w : World) (ho : obj w g = some (.cells (pic 432 a b f) t)) :
    Calls Tryz.prog 48 #[.pointer (some ⟨g, 0, none⟩)] w fun e w' => e = .returned (.bool (okImg a b f)) ∧ w = w' := by
  cases h1 : inB a 1 12
  · go_enter Tryz.func48, Tryz.ntmps48
    go_wp2_with (go_at_call 56; refine (l00In_any _ _ _ _).mono ?_; rintro e w' ⟨rfl, rfl⟩)
    go_ret
    exact ⟨ret_b (okImg_size a b f (by simp [isSizeB, h1])).symm, rfl⟩
  cases h2 : inB b 1 12
  · go_enter Tryz.func48, Tryz.ntmps48
    go_wp2_with (go_at_call 56; refine (l00In_any _ _ _ _).mono ?_; rintro e w' ⟨rfl, rfl⟩)
    go_ret
    exact ⟨ret_b (okImg_size a b f (by simp [isSizeB, h1, h2])).symm, rfl⟩
  have hsz : Hid (isSizeB a b = true) := by show _ = _; simp [isSizeB, h1, h2]
  go_enter Tryz.func48, Tryz.ntmps48
  go_wp2_with (go_at_call 56; refine (l00In_any _ _ _ _).mono ?_; rintro e w' ⟨rfl, rfl⟩)
  clear h1 h2
  go_loop [3] (fun i => ∃ k : Nat, k ≤ 144 ∧ i = .int .i64 k ∧ Hid (∀ j, j < k → goodTone a b f j = true)) (fun i => 144 - (intOf i).toNat)
  case atStart => exact ⟨0, by omega, rfl, fun j hj => absurd hj (by omega)⟩
  case round =>
    obtain ⟨k, hk, rfl, hg⟩ := hrel
    by_cases hlt : k < 144
    · cases hc : cellB k a b
      · have hx : (pic 432 a b f).extract (2 + k * 3) (2 + k * 3 + 3) = #[.int .u8 (f (k * 3)), .int .u8 (f (k * 3 + 1)), .int .u8 (f (k * 3 + 2))] := pic3 (by omega) rfl
        have l1 : 2 + k * 3 + 3 ≤ 434 := by omega
        cases he : eq3 (f (k * 3)) (f (k * 3 + 1)) (f (k * 3 + 2)) 0 0 0
        · have hgk : Hid (okImg a b f = false) := okImg_not a b f k hlt (by simp [goodTone, hc, he])
          go_wp2_with (go_at_call 52; refine (l02Cell_any g t a b f _ ha hb _ ho).mono ?_; rintro e w' ⟨rfl, rfl⟩)
          go_ret
          exact ⟨ret_b hgk.out.symm, rfl⟩
        · have hgk : Hid (goodTone a b f k = true) := by show _ = _; simp [goodTone, he]
          go_wp2_with (go_at_call 52; refine (l02Cell_any g t a b f _ ha hb _ ho).mono ?_; rintro e w' ⟨rfl, rfl⟩)
          go_round
          case rel => exact ⟨k + 1, by omega, by go_num, upto_succ hg.out hgk.out⟩
          case measure => simp [intOf]; omega
      · have hgk : Hid (goodTone a b f k = true) := by show _ = _; simp [goodTone, hc]
        go_wp2_with (go_at_call 52; refine (l02Cell_any g t a b f _ ha hb _ ho).mono ?_; rintro e w' ⟨rfl, rfl⟩)
        go_round
        case rel => exact ⟨k + 1, by omega, by go_num, upto_succ hg.out hgk.out⟩
        case measure => simp [intOf]; omega
    · obtain rfl : k = 144 := by omega
      go_wp2_with (fail)
      go_ret
      exact ⟨ret_b (okImg_of a b f hsz.out hg.out).symm, rfl⟩
set_option maxHeartbeats 1000000 in
set_option maxRecDepth 100000 in
theorem validImage_impl (a b : Int) (f : Nat → Int) (ha : -128 ≤ a ∧ a ≤ 127) (hb : -128 ≤ b ∧ b ≤ 127) (w : World) :
    Calls Tryz.prog 18 #[.agg (pic 432 a b f)] w fun e w' => e = .returned (.bool (okImg a b f)) ∧ New w w' := by
  cases hs : isSizeB a b
  · go_enter Tryz.func18, Tryz.ntmps18
    go_wp2_with (go_at_call 62; refine (isSize_any _ _ _).mono ?_; rintro e w' ⟨rfl, rfl⟩)
    go_ret
    exact ⟨ret_b (okImg_size a b f hs).symm, (New.refl w).alloc _⟩
  have hsz : Hid (isSizeB a b = true) := hs
  go_enter Tryz.func18, Tryz.ntmps18
  go_wp2_with (go_at_call 62; refine (isSize_any _ _ _).mono ?_; rintro e w' ⟨rfl, rfl⟩)
  clear hs
  go_loopw [15] (fun i wr => ∃ k : Nat, k ≤ 144 ∧ i = .int .i64 k ∧ Hid (∀ j, j < k → goodTone a b f j = true) ∧ Hid (obj wr w.heap.size = some (.cells (pic 432 a b f) 29)) ∧ New w wr ∧ w.heap.size < wr.heap.size) (fun i _ => 144 - (intOf i).toNat)
  case atStart => exact ⟨0, by omega, rfl, fun j hj => absurd hj (by omega), by show _ = _; go_simp, (New.refl w).alloc _, by simp⟩
  case round =>
    obtain ⟨k, hk, rfl, hg, ho1, hn, hlw⟩ := hrel
    have ho := ho1.out
    by_cases hlt : k < 144
    · have hcc : isCellB ((k : Int) % 12) ((k : Int) / 12) a b = cellB k a b := cell_isCell k hlt a b
      have fin : ∀ o : Obj, Hid (obj (wr.alloc o) w.heap.size = some (.cells (pic 432 a b f) 29)) ∧ New w (wr.alloc o) ∧ w.heap.size < (wr.alloc o).heap.size := fun o => ⟨(obj_alloc_past _ _ _ hlw).trans ho, hn.alloc _, by simp; omega⟩
      have hF := hide fin
      clear fin
      cases hc : cellB k a b
      · cases he : eq3 (f (k * 3)) (f (k * 3 + 1)) (f (k * 3 + 2)) 0 0 0
        · have hgk : Hid (okImg a b f = false) := okImg_not a b f k hlt (by simp [goodTone, hc, he])
          go_wp2_with (go_at_call 50; refine (isCell_any _ _ _ _ ha hb _).mono ?_; rintro e w' ⟨rfl, rfl⟩)
          go_ret
          exact ⟨ret_b hgk.out.symm, hn.alloc _⟩
        · have hgk : Hid (goodTone a b f k = true) := by show _ = _; simp [goodTone, he]
          go_wp2_with (go_at_call 50; refine (isCell_any _ _ _ _ ha hb _).mono ?_; rintro e w' ⟨rfl, rfl⟩)
          go_roundw
          case rel => exact ⟨k + 1, by omega, by go_num, upto_succ hg.out hgk.out, hF.out _⟩
          case measure => simp [intOf]; omega
      · have hgk : Hid (goodTone a b f k = true) := by show _ = _; simp [goodTone, hc]
        go_wp2_with (go_at_call 50; refine (isCell_any _ _ _ _ ha hb _).mono ?_; rintro e w' ⟨rfl, rfl⟩)
        go_roundw
        case rel => exact ⟨k + 1, by omega, by go_num, upto_succ hg.out hgk.out, hF.out _⟩
        case measure => simp [intOf]; omega
    · obtain rfl : k = 144 := by omega
      go_wp2_with (fail)
      go_ret
      exact ⟨ret_b (okImg_of a b f hsz.out hg.out).symm, hn⟩
end Go.Proofs.YtphjhegaplochaaGreatDoor
/- Slices of numbers that a call has made: held against each other, marked, read again; no condition. -/
set_option linter.unusedVariables false
namespace Go.Proofs.YtphjhegaplochaaGreatDoor
open Go.BigFrame
open Go.RowKit Go.Arr
theorem slInts : SlTy Tryz.prog 54 2 (.int .i64 0) 1 8 := ⟨Tryz.underlying54, by kernel_rfl, rfl, by omega⟩
/-- a row of numbers of the call's own -/
def Row (W : World) (base : Nat) (v : Value) (n : Nat) (f : Nat → Int) : Prop := W.ownsRow base 2 1 v n (irow n .i64 f)
/-- the numbers behind a slice's address -/
def Reads (W : World) (a : Option Addr) (n : Nat) (f : Nat → Int) : Prop := ∀ j, j < n → ∃ g cur, a = some ⟨g, 0, none⟩ ∧ obj W g = some (.cells cur 2) ∧ cur[j]? = some (.int .i64 (f j))
section
variable {W W' : World} {base : Nat} {v : Value} {n : Nat} {f f' : Nat → Int}
theorem Row.shape (h : Row W base v n f) : (v = .slice none 0 0 ∧ n = 0) ∨ ∃ g cap cur, v = .slice (some ⟨g, 0, none⟩) n cap ∧ base ≤ g ∧ g < W.heap.size ∧ obj W g = some (.cells cur 2) ∧ n ≤ cap ∧ cap ≤ maxLen ∧ cur.size = cap ∧ ∀ j, j < n → cur[j]? = some (.int .i64 (f j)) := by
  obtain ⟨hl, h | ⟨g, cap, cur, h1, h2, h3, h4, h5, h6, h7⟩⟩ := h
  · exact .inl h
  · refine .inr ⟨g, cap, cur, h1, h2, obj_lt h3, h3, h4, h5, by omega, fun j hj => ?_⟩
    have h8 := congrArg (fun l => l[j]?) h7
    simp only [Nat.mul_one] at h8
    rw [List.getElem?_take, if_pos hj, Array.getElem?_toList, get_irow j hj] at h8
    exact h8
theorem Row.of {g cap : Nat} {cur : Array Value} (h : obj W g = some (.cells cur 2)) (hb : base ≤ g) (hn : n ≤ cap) (hc : cap ≤ maxLen) (hs : cur.size = cap) (hf : ∀ j, j < n → cur[j]? = some (.int .i64 (f j))) : Row W base (.slice (some ⟨g, 0, none⟩) n cap) n f := by
  refine ⟨by simp, .inr ⟨g, cap, cur, rfl, hb, h, hn, hc, by omega, ?_⟩⟩
  apply List.ext_getElem?
  intro j
  simp only [Nat.mul_one]
  rw [List.getElem?_take]
  by_cases hj : j < n
  · rw [if_pos hj, Array.getElem?_toList, get_irow j hj]; exact hf j hj
  · rw [if_neg hj, List.getElem?_eq_none (by simp; omega)]
theorem Row.nil : Row W base (.slice none 0 0) 0 f := ⟨by simp, .inl ⟨rfl, rfl⟩⟩
theorem Row.reads (h : Row W base v n f) : ∃ a cap, v = .slice a n cap ∧ Reads W a n f := by
  rcases h.shape with ⟨rfl, rfl⟩ | ⟨g, cap, cur, rfl, _, _, ho, _, _, _, hc⟩
  · exact ⟨none, 0, rfl, fun j hj => absurd hj (by omega)⟩
  · exact ⟨_, cap, rfl, fun j hj => ⟨g, cur, rfl, ho, hc j hj⟩⟩
theorem Row.reads' {a : Option Addr} {c : Nat} (h : Row W base (.slice a n c) n f) : Reads W a n f := by
  obtain ⟨a', c', h1, h2⟩ := h.reads
  simp only [Value.slice.injEq] at h1
  rw [h1.1]
  exact h2
theorem Row.new (h : Row W base v n f) (hn : New W W') : Row W' base v n f := own_new h hn
theorem Row.lower {b : Nat} (h : Row W base v n f) (hb : b ≤ base) : Row W b v n f := own_lower h hb
theorem Row.same (h : Row W base v n f) (hs : ∀ b, v.ownBlock = some b → obj W' b = obj W b) : Row W' base v n f := by
  rcases h.shape with ⟨rfl, rfl⟩ | ⟨g, cap, cur, rfl, hb, _, ho, h4, h5, h6, hc⟩
  · exact Row.nil
  · exact Row.of ((hs g rfl).trans ho) hb h4 h5 h6 hc
theorem Row.block (h : Row W base v n f) : ∀ b, v.ownBlock = some b → base ≤ b ∧ b < W.heap.size := by
  rcases h.shape with ⟨rfl, rfl⟩ | ⟨g, cap, cur, rfl, hb, hl, _⟩
  · intro b hb; simp [Value.ownBlock] at hb
  · intro b hb2; simp [Value.ownBlock] at hb2; omega
theorem Row.congr (h : Row W base v n f) (hf : ∀ j, j < n → f j = f' j) : Row W base v n f' := by
  unfold Row at *
  rw [← irow_congr hf]
  exact h
end
end Go.Proofs.YtphjhegaplochaaGreatDoor
/- The cells of an image as a list; a loop over the list and a loop over all cells come to the same; no condition. -/
set_option linter.unusedVariables false
namespace Go.Proofs.YtphjhegaplochaaGreatDoor
open Go.BigFrame
open Go.RowKit Go.Arr
def selN (p : Nat → Bool) : Nat → Nat
  | 0 => 0
  | k + 1 => if p k = true then selN p k + 1 else selN p k
def selG (p : Nat → Bool) : Nat → Nat → Nat
  | 0 => fun _ => 0
  | k + 1 => if p k = true then (fun j => if j = selN p k then k else selG p k j) else selG p k
section
variable {p : Nat → Bool}
theorem selN_t {k : Nat} (h : p k = true) : selN p (k + 1) = selN p k + 1 := by rw [selN, if_pos h]
theorem selN_f {k : Nat} (h : p k = false) : selN p (k + 1) = selN p k := by rw [selN, if_neg (by simp [h])]
theorem selG_t {k : Nat} (h : p k = true) : selG p (k + 1) = fun j => if j = selN p k then k else selG p k j := by rw [selG, if_pos h]
theorem selG_f {k : Nat} (h : p k = false) : selG p (k + 1) = selG p k := by rw [selG, if_neg (by simp [h])]
theorem selN_le (k : Nat) : selN p k ≤ k := by
  induction k with
  | zero => simp [selN]
  | succ k ih => unfold selN; split <;> omega
theorem selN_mono {k m : Nat} : selN p k ≤ selN p (k + m) := by
  induction m with
  | zero => exact Nat.le_refl _
  | succ m ih => rw [← Nat.add_assoc, selN]; split <;> omega
theorem selG_lt (k : Nat) : ∀ j, j < selN p k → selG p k j < k ∧ p (selG p k j) = true := by
  induction k with
  | zero => intro j hj; simp [selN] at hj
  | succ k ih =>
    intro j hj
    cases h : p k
    · rw [selN_f h] at hj
      rw [selG_f h]
      have := ih j hj
      exact ⟨by omega, this.2⟩
    · rw [selN_t h] at hj
      rw [selG_t h]
      dsimp only
      by_cases e : j = selN p k
      · rw [if_pos e]; exact ⟨by omega, h⟩
      · rw [if_neg e]
        have := ih j (by omega)
        exact ⟨by omega, this.2⟩
theorem selG_keep (k m : Nat) : ∀ j, j < selN p k → selG p (k + m) j = selG p k j := by
  induction m with
  | zero => intro j _; rfl
  | succ m ih =>
    intro j hj
    have h1 := selN_mono (p := p) (k := k) (m := m)
    rw [← Nat.add_assoc]
    cases h : p (k + m)
    · rw [selG_f h]; exact ih j hj
    · rw [selG_t h]; dsimp only; rw [if_neg (by omega)]; exact ih j hj
theorem selG_at {k K : Nat} (hk : k < K) (hp : p k = true) : selG p K (selN p k) = k := by
  obtain ⟨m, rfl⟩ : ∃ m, K = k + 1 + m := ⟨K - k - 1, by omega⟩
  rw [selG_keep (k + 1) m _ (by rw [selN_t hp]; omega), selG_t hp]
  exact if_pos rfl
end
def recT {σ : Type} (step : σ → Nat → σ) (s0 : σ) (G : Nat → Nat) : Nat → σ
  | 0 => s0
  | j + 1 => step (recT step s0 G j) (G j)
def recS {σ : Type} (step : σ → Nat → σ) (s0 : σ) (p : Nat → Bool) : Nat → σ
  | 0 => s0
  | k + 1 => if p k = true then step (recS step s0 p k) k else recS step s0 p k
section
variable {σ : Type} {step : σ → Nat → σ} {s0 : σ} {p : Nat → Bool}
theorem recS_t {k : Nat} (h : p k = true) : recS step s0 p (k + 1) = step (recS step s0 p k) k := by rw [recS, if_pos h]
theorem recS_f {k : Nat} (h : p k = false) : recS step s0 p (k + 1) = recS step s0 p k := by rw [recS, if_neg (by simp [h])]
theorem rec_eq {k K : Nat} (h : k ≤ K) : recT step s0 (selG p K) (selN p k) = recS step s0 p k := by
  induction k with
  | zero => rfl
  | succ k ih =>
    cases hp : p k
    · rw [selN_f hp, recS_f hp]; exact ih (by omega)
    · rw [selN_t hp, recS_t hp, recT, ih (by omega), selG_at (by omega) hp]
end
def cellN (a b : Int) (k : Nat) : Bool := cellB k a b
theorem Row.sl {W : World} {base : Nat} {v : Value} {n : Nat} {f : Nat → Int} (h : Row W base v n f) : Sl W v n 1 .i64 f := by
  rcases h.shape with ⟨rfl, rfl⟩ | ⟨g, cap, cur, rfl, _, _, ho, _, _, _, hc⟩
  · exact ⟨none, 0, rfl, fun h => absurd h (by omega)⟩
  · exact Sl.of ho fun i hi => by rw [Nat.zero_add]; exact hc i (by omega)
theorem row_app2 {w' : World} {base n g cap : Nat} {f : Nat → Int} {x : Int} (h : w'.ownsRow base 2 1 (.slice (some ⟨g, 0, none⟩) (n + 1) cap) (n + 1) (irow n .i64 f ++ [.int .i64 x])) : Row w' base (.slice (some ⟨g, 0, none⟩) (n + 1) cap) (n + 1) (upd f n x) := by
  unfold Row
  rw [← irow_snoc]
  exact h
theorem row_empty2 {W : World} {base g : Nat} {f : Nat → Int} (h : obj W g = some (.cells #[] 2)) (hb : base ≤ g) : Row W base (.slice (some ⟨g, 0, none⟩) 0 0) 0 f :=
  Row.of h hb (Nat.le_refl _) (by unfold maxLen; omega) rfl fun j hj => absurd hj (by omega)
end Go.Proofs.YtphjhegaplochaaGreatDoor
/- Rows of numbers: copied, held against each other; no condition. -/
set_option linter.unusedVariables false
namespace Go.Proofs.YtphjhegaplochaaGreatDoor
open Go.BigFrame
open Go.RowKit Go.Arr
theorem elInts {W : World} {a : Option Addr} {n c : Nat} {f : Nat → Int} (h : Sl W (.slice a n c) n 1 .i64 f) (hn : 0 < n) : ∃ g off cur t fr, a = some ⟨g, off, none⟩ ∧ obj W g = some (.cells cur t fr) ∧ ∀ j, j < n → ∃ l : off + j < cur.size, cur[off + j] = .int .i64 (f j) := by
  obtain ⟨g, off, cur, t, fr, rfl, ho, hc⟩ := h.at hn
  exact ⟨g, off, cur, t, fr, rfl, ho, fun j hj => Array.getElem?_eq_some_iff.1 (hc j (by omega))⟩
def Ints (W : World) (g n : Nat) (f : Nat → Int) : Prop := obj W g = some (.cells (arr n .i64 f) 2)
theorem Ints.new {W W' : World} {g n : Nat} {f : Nat → Int} (h : Ints W g n f) (hn : New W W') : Ints W' g n f := (hn.objs _ (obj_lt h)).trans h
theorem Ints.sl {W : World} {g n c : Nat} {f : Nat → Int} (h : Ints W g n f) : Sl W (.slice (some ⟨g, 0, none⟩) n c) n 1 .i64 f := Sl.arr h (by omega)
end Go.Proofs.YtphjhegaplochaaGreatDoor
