/- Which pictures are valid: the reference and the program answer alike; no condition. -/
import Derived.Test.YtmmckoemkpfgbaaSmall
set_option linter.unusedVariables false
namespace Go.Proofs.Ytmmckoemkpfgbaa
open Go.BigFrame
open Go.RowKit Go.Arr
def cellB (i : Int) (a b : Int) : Bool := inB i 0 143 && (decide (i % 12 < a) && decide (i / 12 < b))
def goodAt (a b : Int) (f : Nat → Int) (i : Nat) : Bool := decide (f i < 16) && (cellB i a b || decide (f i = 0))
def goodUpto (a b : Int) (f : Nat → Int) (n : Nat) : Prop := ∀ j, j < n → goodAt a b f j = true
def okPic (a b : Int) (f : Nat → Int) : Bool := isSizeB a b && (List.range 144).all (goodAt a b f)
theorem okPic_of (a b : Int) (f : Nat → Int) (h1 : isSizeB a b = true) (h2 : goodUpto a b f 144) : okPic a b f = true := by
  unfold okPic
  rw [h1, Bool.true_and, List.all_eq_true]
  intro i hi
  exact h2 i (by simpa using hi)
theorem okPic_not (a b : Int) (f : Nat → Int) (i : Nat) (hi : i < 144) (h : goodAt a b f i = false) : okPic a b f = false := by
  unfold okPic
  have : (List.range 144).all (goodAt a b f) = false := by
    rw [List.all_eq_false]
    exact ⟨i, by simpa using hi, by simp [h]⟩
  rw [this, Bool.and_false]
theorem okPic_size (a b : Int) (f : Nat → Int) (h : isSizeB a b = false) : okPic a b f = false := by
  unfold okPic; rw [h, Bool.false_and]
theorem goodUpto_succ {a b : Int} {f : Nat → Int} {k : Nat} (h : goodUpto a b f k) (hk : goodAt a b f k = true) : goodUpto a b f (k + 1) := by
  intro j hj
  rcases Nat.lt_succ_iff_lt_or_eq.1 hj with h1 | rfl
  · exact h j h1
  · exact hk
theorem cell_isCell (k : Nat) (hk : k < 144) (a b : Int) : isCellB ((k : Int) % 12) ((k : Int) / 12) a b = cellB k a b := by
  unfold isCellB cellB
  have e1 : inB ((k : Int) % 12) 0 (a - 1) = decide ((k : Int) % 12 < a) := by unfold inB; rw [decide_eq_decide]; omega
  have e2 : inB ((k : Int) / 12) 0 (b - 1) = decide ((k : Int) / 12 < b) := by unfold inB; rw [decide_eq_decide]; omega
  have e3 : inB k 0 143 = true := inB_t.2 (by omega)
  rw [e1, e2, e3, Bool.true_and]
set_option maxHeartbeats 400000 in
set_option maxRecDepth 100000 in
theorem l01Is_any (g : Nat) (t : TypeId) (a b : Int) (f : Nat → Int) (i : Int) (ha : -128 ≤ a ∧ a ≤ 127) (hb : -128 ≤ b ∧ b ≤ 127) (w : World) (ho : obj w g = some (.cells (pic 144 a b f) t)) :
    Calls Try.prog 30 #[.pointer (some ⟨g, 0, none⟩), .int .i64 i] w fun e w' => e = .returned (.bool (cellB i a b)) ∧ w = w' := by
  cases h : inB i 0 143
  · go_enter Try.func30, Try.ntmps30
    go_wp2_with (go_at_call 47; refine (l00In_any _ _ _ _).mono ?_; rintro e w' ⟨rfl, rfl⟩)
    go_ret
    exact ⟨ret_b (by simp [cellB, h]), rfl⟩
  · have h2 := inB_t.1 h
    have h3 := h2.1
    have h4 := h2.2
    by_cases h5 : i % 12 < a
    all_goals
      go_enter Try.func30, Try.ntmps30
      go_wp2_with (go_at_call 47; refine (l00In_any _ _ _ _).mono ?_; rintro e w' ⟨rfl, rfl⟩)
      go_ret
      exact ⟨ret_b (by first | (simp [cellB, h, h5]; done) | (simp [cellB, h]; omega)), rfl⟩
set_option maxHeartbeats 400000 in
set_option maxRecDepth 100000 in
theorem has_any (a b : Int) (f : Nat → Int) (x y : Int) (ha : -128 ≤ a ∧ a ≤ 127) (hb : -128 ≤ b ∧ b ≤ 127) (w : World) :
    Calls Try.prog 32 #[.agg (pic 144 a b f), .int .i64 x, .int .i64 y] w fun e w' => e = .returned (.bool (isCellB x y a b)) ∧ New w w' := by
  go_enter Try.func32, Try.ntmps32
  go_wp2_with (go_at_call 48; refine (isCell_any _ _ _ _ ha hb _).mono ?_; rintro e w' ⟨rfl, rfl⟩)
  go_ret
  exact ⟨rfl, (New.refl w).alloc _⟩
set_option maxHeartbeats 1000000 in
set_option maxRecDepth 100000 in
theorem l01Ok_any (g : Nat) (t : TypeId) (a b : Int) (f : Nat → Int) (ha : -128 ≤ a ∧ a ≤ 127) (hb : -128 ≤ b ∧ b ≤ 127) (hf : ∀ i, 0 ≤ f i ∧ f i ≤ 255) (w : World) (ho : obj w g = some (.cells (pic 144 a b f) t)) :
    Calls Try.prog 27 #[.pointer (some ⟨g, 0, none⟩)] w fun e w' => e = .returned (.bool (okPic a b f)) ∧ w = w' := by
  cases h1 : inB a 1 12
  · go_enter Try.func27, Try.ntmps27
    go_wp2_with (go_at_call 47; refine (l00In_any _ _ _ _).mono ?_; rintro e w' ⟨rfl, rfl⟩)
    go_ret
    exact ⟨ret_b (okPic_size a b f (by simp [isSizeB, h1])).symm, rfl⟩
  cases h2 : inB b 1 12
  · go_enter Try.func27, Try.ntmps27
    go_wp2_with (go_at_call 47; refine (l00In_any _ _ _ _).mono ?_; rintro e w' ⟨rfl, rfl⟩)
    go_ret
    exact ⟨ret_b (okPic_size a b f (by simp [isSizeB, h1, h2])).symm, rfl⟩
  have hsz : Hid (isSizeB a b = true) := by show _ = _; simp [isSizeB, h1, h2]
  go_enter Try.func27, Try.ntmps27
  go_wp2_with (go_at_call 47; refine (l00In_any _ _ _ _).mono ?_; rintro e w' ⟨rfl, rfl⟩)
  go_loop [3] (fun i => ∃ k : Nat, k ≤ 144 ∧ i = .int .i64 k ∧ Hid (goodUpto a b f k)) (fun i => 144 - (intOf i).toNat)
  case atStart => exact ⟨0, by omega, rfl, fun j hj => absurd hj (by omega)⟩
  case round =>
    obtain ⟨k, hk, rfl, hg⟩ := hrel
    by_cases hlt : k < 144
    · have hfk := hf k
      by_cases h16 : f k < 16
      · cases hc : cellB k a b
        · by_cases hz : f k = 0
          · have hgk : Hid (goodAt a b f k = true) := by show _ = _; simp [goodAt, hz]
            have hz1 : (f k != 0) = false := by simp [hz]
            clear hz
            go_wp2_with (go_at_call 30; refine (l01Is_any g t a b f _ ha hb _ ho).mono ?_; rintro e w' ⟨rfl, rfl⟩)
            go_round
            case rel => exact ⟨k + 1, by omega, by go_num, goodUpto_succ hg.out hgk.out⟩
            case measure => simp [intOf]; omega
          · have hgk : Hid (okPic a b f = false) := okPic_not a b f k hlt (by simp [goodAt, hc, hz])
            have hz1 : (f k != 0) = true := by simp [hz]
            clear hz
            go_wp2_with (go_at_call 30; refine (l01Is_any g t a b f _ ha hb _ ho).mono ?_; rintro e w' ⟨rfl, rfl⟩)
            go_ret
            exact ⟨ret_b hgk.out.symm, rfl⟩
        · have hgk : Hid (goodAt a b f k = true) := by show _ = _; simp [goodAt, h16, hc]
          go_wp2_with (go_at_call 30; refine (l01Is_any g t a b f _ ha hb _ ho).mono ?_; rintro e w' ⟨rfl, rfl⟩)
          go_round
          case rel => exact ⟨k + 1, by omega, by go_num, goodUpto_succ hg.out hgk.out⟩
          case measure => simp [intOf]; omega
      · have hgk : Hid (okPic a b f = false) := okPic_not a b f k hlt (by simp [goodAt, h16])
        go_wp2_with (go_at_call 30; refine (l01Is_any g t a b f _ ha hb _ ho).mono ?_; rintro e w' ⟨rfl, rfl⟩)
        go_ret
        exact ⟨ret_b hgk.out.symm, rfl⟩
    · obtain rfl : k = 144 := by omega
      go_wp2_with (fail)
      go_ret
      exact ⟨ret_b (okPic_of a b f hsz.out hg.out).symm, rfl⟩
set_option maxHeartbeats 1000000 in
set_option maxRecDepth 100000 in
theorem validPicture_impl (a b : Int) (f : Nat → Int) (ha : -128 ≤ a ∧ a ≤ 127) (hb : -128 ≤ b ∧ b ≤ 127) (hf : ∀ i, 0 ≤ f i ∧ f i ≤ 255) (w : World) :
    Calls Try.prog 25 #[.agg (pic 144 a b f)] w fun e w' => e = .returned (.bool (okPic a b f)) ∧ New w w' := by
  cases hs : isSizeB a b
  · go_enter Try.func25, Try.ntmps25
    go_wp2_with (go_at_call 42; refine (isSize_any _ _ _).mono ?_; rintro e w' ⟨rfl, rfl⟩)
    go_ret
    exact ⟨ret_b (okPic_size a b f hs).symm, (New.refl w).alloc _⟩
  have hsz : Hid (isSizeB a b = true) := hs
  go_enter Try.func25, Try.ntmps25
  go_wp2_with (go_at_call 42; refine (isSize_any _ _ _).mono ?_; rintro e w' ⟨rfl, rfl⟩)
  clear hs
  go_loopw [15] (fun i wr => ∃ k : Nat, k ≤ 144 ∧ i = .int .i64 k ∧ Hid (goodUpto a b f k) ∧ Hid (obj wr w.heap.size = some (.cells (pic 144 a b f) 27)) ∧ New w wr ∧ w.heap.size < wr.heap.size) (fun i _ => 144 - (intOf i).toNat)
  case atStart => exact ⟨0, by omega, rfl, fun j hj => absurd hj (by omega), by show _ = _; go_simp, (New.refl w).alloc _, by simp⟩
  case round =>
    obtain ⟨k, hk, rfl, hg, ho1, hn, hlw⟩ := hrel
    have ho := ho1.out
    by_cases hlt : k < 144
    · have hfk := hf k
      have hcc : isCellB ((k : Int) % 12) ((k : Int) / 12) a b = cellB k a b := cell_isCell k hlt a b
      have fin : ∀ w1, New wr w1 → Hid (obj w1 w.heap.size = some (.cells (pic 144 a b f) 27)) ∧ New w w1 ∧ w.heap.size < w1.heap.size := fun w1 h1 => ⟨(h1.objs _ hlw).trans ho, hn.trans h1, Nat.lt_of_lt_of_le hlw h1.le⟩
      have hF := hide fin
      clear fin
      by_cases h16 : f k < 16
      · cases hc : cellB k a b
        · by_cases hz : f k = 0
          · have hgk : Hid (goodAt a b f k = true) := by show _ = _; simp [goodAt, hz]
            have hz1 : (f k != 0) = false := by simp [hz]
            clear hz
            go_wp2_with (fail)
            refine (has_any a b f _ _ ha hb _).mono ?_
            rintro e w1 ⟨rfl, hn1⟩
            go_wp2_with (fail)
            go_roundw
            case rel => exact ⟨k + 1, by omega, by go_num, goodUpto_succ hg.out hgk.out, hF.out w1 hn1⟩
            case measure => simp [intOf]; omega
          · have hgk : Hid (okPic a b f = false) := okPic_not a b f k hlt (by simp [goodAt, hc, hz])
            have hz1 : (f k != 0) = true := by simp [hz]
            clear hz
            go_wp2_with (fail)
            refine (has_any a b f _ _ ha hb _).mono ?_
            rintro e w1 ⟨rfl, hn1⟩
            go_wp2_with (fail)
            go_ret
            exact ⟨ret_b hgk.out.symm, hn.trans hn1⟩
        · have hgk : Hid (goodAt a b f k = true) := by show _ = _; simp [goodAt, h16, hc]
          go_wp2_with (fail)
          refine (has_any a b f _ _ ha hb _).mono ?_
          rintro e w1 ⟨rfl, hn1⟩
          go_wp2_with (fail)
          go_roundw
          case rel => exact ⟨k + 1, by omega, by go_num, goodUpto_succ hg.out hgk.out, hF.out w1 hn1⟩
          case measure => simp [intOf]; omega
      · have hgk : Hid (okPic a b f = false) := okPic_not a b f k hlt (by simp [goodAt, h16])
        go_wp2_with (fail)
        refine (has_any a b f _ _ ha hb _).mono ?_
        rintro e w1 ⟨rfl, hn1⟩
        go_wp2_with (fail)
        all_goals go_ret
        all_goals exact ⟨ret_b hgk.out.symm, hn.trans hn1⟩
    · obtain rfl : k = 144 := by omega
      go_wp2_with (fail)
      go_ret
      exact ⟨ret_b (okPic_of a b f hsz.out hg.out).symm, hn⟩
end Go.Proofs.Ytmmckoemkpfgbaa
