/- Images: copied; which are valid; no condition. -/
import Derived.Test.YtpofhbdnjecfjaaTy
import Derived.Test.YtpofhbdnjecfjaaSli
import Derived.Test.YtpofhbdnjecfjaaTone
import Derived.Test.YtpofhbdnjecfjaaValid
set_option linter.unusedVariables false
namespace Go.Proofs.Ytpofhbdnjecfjaa
open Go.BigFrame
open Go.RowKit Go.Arr
theorem run_index_arr3 {P : Program} {n : Nat} {f : Nat → Int} (t e u : TypeId) (ht : P.underlying t = some (.array n e)) (he : P.underlying e = some (.array 3 u)) (hsz : ∀ w, (sizeOf e).run P w = .ok 3 w) (ik : IntKind) (i : Int) (h0 : 0 ≤ i) (h1 : i < n) (w : World) :
    (Instr.index t (.agg (arr (n * 3) .u8 f)) (.int ik i)).run P w = .ok (.agg #[.int .u8 (f (i.toNat * 3)), .int .u8 (f (i.toNat * 3 + 1)), .int .u8 (f (i.toNat * 3 + 2))]) w := by
  have hlt : i.toNat < n := by omega
  have hx : (arr (n * 3) .u8 f).extract (i.toNat * 3) (i.toNat * 3 + 3) = #[.int .u8 (f (i.toNat * 3)), .int .u8 (f (i.toNat * 3 + 1)), .int .u8 (f (i.toNat * 3 + 2))] :=
    ext3 (by rw [get_arr, if_pos (by omega)]) (by rw [get_arr, if_pos (by omega)]) (by rw [get_arr, if_pos (by omega)]) rfl
  have hp : (part e (arr (n * 3) .u8 f) (i.toNat * 3)).run P w = .ok (.agg #[.int .u8 (f (i.toNat * 3)), .int .u8 (f (i.toNat * 3 + 1)), .int .u8 (f (i.toNat * 3 + 2))]) w := by
    simp [part, isAgg, run_underlying he, hsz, hx]
  simp [Instr.index, asIntOf, run_underlying ht, h0, h1, hsz, hp]
theorem sizeTone (w : World) : (sizeOf 34).run Try.prog w = .ok 3 w := by kernel_rfl
theorem ixTones (f : Nat → Int) (ik : IntKind) (i : Int) (h0 : 0 ≤ i) (h1 : i < 144) (w : World) : (Instr.index 35 (.agg (arr 432 .u8 f)) (.int ik i)).run Try.prog w = .ok (.agg #[.int .u8 (f (i.toNat * 3)), .int .u8 (f (i.toNat * 3 + 1)), .int .u8 (f (i.toNat * 3 + 2))]) w := run_index_arr3 (n := 144) 35 34 5 Try.underlying35 Try.underlying34 sizeTone ik i h0 (by omega) w
attribute [go_sem high] ixTones
theorem pic3 {n o p : Nat} {a b : Int} {f : Nat → Int} (ho : o + 3 ≤ n) (hp : p = 2 + o + 3) : (pic n a b f).extract (2 + o) p = #[.int .u8 (f o), .int .u8 (f (o + 1)), .int .u8 (f (o + 2))] :=
  ext3 (by rw [get_pic', if_pos (by omega)]) (by rw [Nat.add_assoc, get_pic', if_pos (by omega)]) (by rw [Nat.add_assoc, get_pic', if_pos (by omega)]) hp
theorem arr3 {n o p : Nat} {f : Nat → Int} (ho : o + 3 ≤ n) (hp : p = o + 3) : (arr n .u8 f).extract o p = #[.int .u8 (f o), .int .u8 (f (o + 1)), .int .u8 (f (o + 2))] :=
  ext3 (by rw [get_arr, if_pos (by omega)]) (by rw [get_arr, if_pos (by omega)]) (by rw [get_arr, if_pos (by omega)]) hp
set_option maxHeartbeats 1000000 in
set_option maxRecDepth 100000 in
theorem toTones_any (f : Nat → Int) (w : World) :
    Calls Try.prog 25 #[.agg (arr 432 .u8 f)] w fun e w' => e = .returned (.agg (arr 432 .u8 f)) ∧ New w w' := by
  go_enter Try.func25, Try.ntmps25
  go_wp2_with (fail)
  go_loopw [4] (fun i wr => ∃ k : Nat, k ≤ 144 ∧ i = .int .i64 k ∧ Hid (obj wr w.heap.size = some (.cells (arr 432 .u8 f) 24)) ∧ Hid (obj wr (w.heap.size + 1) = some (.cells (arr 432 .u8 fun _ => 0) 35)) ∧ Hid (obj wr (w.heap.size + 1 + 1) = some (.cells (arr 432 .u8 fun j => if j < k * 3 then f j else 0) 35)) ∧ New w wr ∧ w.heap.size + 2 < wr.heap.size) (fun i _ => 144 - (intOf i).toNat)
  case atStart => exact ⟨0, by omega, rfl, by show _ = _; go_simp, by show _ = _; go_simp, by show _ = _; go_simp, (((New.refl w).alloc _).alloc _).alloc _, by simp⟩
  case round =>
    obtain ⟨k, hk, rfl, hs1, hz1, ho1, hnw, hlw⟩ := hrel
    have ho := ho1.out
    have hs := hs1.out
    have hz := hz1.out
    by_cases hlt : k < 144
    · have hx : (arr 432 .u8 f).extract (k * 3) (k * 3 + 3) = #[.int .u8 (f (k * 3)), .int .u8 (f (k * 3 + 1)), .int .u8 (f (k * 3 + 2))] := arr3 (by omega) rfl
      have l1 : k * 3 + 3 ≤ 432 := by omega
      clear ho1 hs1 hz1
      go_wp2_with (fail)
      refine (toTone_any _ _ _ _).mono ?_
      rintro e1 w1 ⟨rfl, hn1⟩
      have q1 : obj w1 (w.heap.size + 1 + 1) = _ := (hn1.objs _ (by omega)).trans ho
      have q2 : obj w1 w.heap.size = _ := (hn1.objs _ (by omega)).trans hs
      have q3 : obj w1 (w.heap.size + 1) = _ := (hn1.objs _ (by omega)).trans hz
      go_wp2_with (fail)
      go_roundw
      case rel =>
        refine ⟨k + 1, by omega, by go_num, ?_, ?_, ?_, (hnw.trans hn1).setRow (by omega) _, by rw [size_setRow]; have := hn1.le; omega⟩
        · show _ = _
          rw [obj_setRow_other _ _ _ _ (by omega), q2]
        · show _ = _
          rw [obj_setRow_other _ _ _ _ (by omega), q3]
        show _ = _
        rw [obj_setRow_same, q1]
        simp only [Option.map_some, reCells_cells]
        rw [seg_arr3 (G := fun j => if j < (k + 1) * 3 then f j else 0)]
        · omega
        · rw [if_pos (by omega)]
        · rw [if_pos (by omega)]
        · rw [if_pos (by omega)]
        · intro i hi h
          by_cases h1 : i < k * 3
          · rw [if_pos h1, if_pos (by omega)]
          · rw [if_neg h1, if_neg (by omega)]
      case measure => simp [intOf]; omega
    · obtain rfl : k = 144 := by omega
      go_wp2_with (fail)
      refine ret_cell agg35 rfl rfl (c := arr 432 .u8 fun j => if j < 144 * 3 then f j else 0) (t := 35) (fr := (0, 0)) (by rw [obj_setRow_same, hz]; simp only [Option.map_some, reCells_cells]) (size_arr) rfl ⟨?_, ?_⟩
      · rw [arr_congr (fun i hi => if_pos hi)]
      · exact hnw.setRow (by omega) _
set_option maxHeartbeats 400000 in
set_option maxRecDepth 100000 in
theorem toImage_any (a b : Int) (f : Nat → Int) (w : World) :
    Calls Try.prog 7 #[.agg (pic 432 a b f)] w fun e w' => e = .returned (.agg (pic 432 a b f)) ∧ New w w' := by
  go_enter Try.func7, Try.ntmps7
  go_wp2_with (first | (go_at_call 25; refine (toTones_any _ _).mono ?_; rintro e w1 ⟨rfl, hn1⟩; obtain ⟨ho1, hz1⟩ := hn1.old))
  refine ret_cell agg37 rfl rfl (c := pic 432 a b f) (t := 37) (fr := (0, 0)) (by go_simp) size_pic rfl ⟨rfl, ?_⟩
  repeat' (first | exact New.refl _ | refine New.alloc ?_ _ | refine New.drew ?_ | refine New.drewN ?_ _ | refine New.setRow ?_ (by omega) _ | refine New.trans ?_ hn1)
def goodTone (a b : Int) (f : Nat → Int) (i : Nat) : Bool := cellB i a b || eq3 (f (i * 3)) (f (i * 3 + 1)) (f (i * 3 + 2)) 0 0 0
def okImg (a b : Int) (f : Nat → Int) : Bool := isSizeB a b && (List.range 144).all (goodTone a b f)
theorem okImg_of (a b : Int) (f : Nat → Int) (h1 : isSizeB a b = true) (h2 : ∀ j, j < 144 → goodTone a b f j = true) : okImg a b f = true := by
  unfold okImg
  rw [h1, Bool.true_and, List.all_eq_true]
  intro i hi
  exact h2 i (by simpa using hi)
theorem okImg_not (a b : Int) (f : Nat → Int) (i : Nat) (hi : i < 144) (h : goodTone a b f i = false) : okImg a b f = false := by
  unfold okImg
  have : (List.range 144).all (goodTone a b f) = false := by
    rw [List.all_eq_false]
    exact ⟨i, by simpa using hi, by simp [h]⟩
  rw [this, Bool.and_false]
theorem okImg_size (a b : Int) (f : Nat → Int) (h : isSizeB a b = false) : okImg a b f = false := by
  unfold okImg; rw [h, Bool.false_and]
theorem upto_succ {p : Nat → Bool} {k : Nat} (h : ∀ j, j < k → p j = true) (hk : p k = true) : ∀ j, j < k + 1 → p j = true := by
  intro j hj
  rcases Nat.lt_succ_iff_lt_or_eq.1 hj with h1 | rfl
  · exact h j h1
  · exact hk
set_option maxHeartbeats 400000 in
set_option maxRecDepth 100000 in
theorem l02Cell_any (g : Nat) (t : TypeId) (a b : Int) (f : Nat → Int) (i : Int) (ha : -128 ≤ a ∧ a ≤ 127) (hb : -128 ≤ b ∧ b ≤ 127) (w : World) (ho : obj w g = some (.cells (pic 432 a b f) t)) :
    Calls Try.prog 19 #[.pointer (some ⟨g, 0, none⟩), .int .i64 i] w fun e w' => e = .returned (.bool (cellB i a b)) ∧ w = w' := by
  cases h : inB i 0 143
  · go_enter Try.func19, Try.ntmps19
    go_wp2_with (go_at_call 23; refine (l00In_any _ _ _ _).mono ?_; rintro e w' ⟨rfl, rfl⟩)
    go_ret
    exact ⟨ret_b (by simp [cellB, h]), rfl⟩
  · have h2 := inB_t.1 h
    have h3 := h2.1
    have h4 := h2.2
    by_cases h5 : i % 12 < a
    all_goals
      go_enter Try.func19, Try.ntmps19
      go_wp2_with (go_at_call 23; refine (l00In_any _ _ _ _).mono ?_; rintro e w' ⟨rfl, rfl⟩)
      go_ret
      exact ⟨ret_b (by first | (simp [cellB, h, h5]; done) | (simp [cellB, h]; omega)), rfl⟩
set_option maxHeartbeats 1000000 in
set_option maxRecDepth 100000 in
theorem l02Image_any (g : Nat) (t : TypeId) (a b : Int) (f : Nat → Int) (ha : -128 ≤ a ∧ a ≤ 127) (hb : -128 ≤ b ∧ b ≤ 127) (w : World) (ho : obj w g = some (.cells (pic 432 a b f) t)) :
    Calls Try.prog 42 #[.pointer (some ⟨g, 0, none⟩)] w fun e w' => e = .returned (.bool (okImg a b f)) ∧ w = w' := by
  cases h1 : inB a 1 12
  · go_enter Try.func42, Try.ntmps42
    go_wp2_with (go_at_call 23; refine (l00In_any _ _ _ _).mono ?_; rintro e w' ⟨rfl, rfl⟩)
    go_ret
    exact ⟨ret_b (okImg_size a b f (by simp [isSizeB, h1])).symm, rfl⟩
  cases h2 : inB b 1 12
  · go_enter Try.func42, Try.ntmps42
    go_wp2_with (go_at_call 23; refine (l00In_any _ _ _ _).mono ?_; rintro e w' ⟨rfl, rfl⟩)
    go_ret
    exact ⟨ret_b (okImg_size a b f (by simp [isSizeB, h1, h2])).symm, rfl⟩
  have hsz : Hid (isSizeB a b = true) := by show _ = _; simp [isSizeB, h1, h2]
  go_enter Try.func42, Try.ntmps42
  go_wp2_with (go_at_call 23; refine (l00In_any _ _ _ _).mono ?_; rintro e w' ⟨rfl, rfl⟩)
  clear h1 h2
  go_loop [3] (fun i => ∃ k : Nat, k ≤ 144 ∧ i = .int .i64 k ∧ Hid (∀ j, j < k → goodTone a b f j = true)) (fun i => 144 - (intOf i).toNat)
  case atStart => exact ⟨0, by omega, rfl, fun j hj => absurd hj (by omega)⟩
  case round =>
    obtain ⟨k, hk, rfl, hg⟩ := hrel
    by_cases hlt : k < 144
    · cases hc : cellB k a b
      · have hx : (pic 432 a b f).extract (2 + k * 3) (2 + k * 3 + 3) = #[.int .u8 (f (k * 3)), .int .u8 (f (k * 3 + 1)), .int .u8 (f (k * 3 + 2))] := pic3 (by omega) rfl
        have l1 : 2 + k * 3 + 3 ≤ 434 := by omega
        cases he : eq3 (f (k * 3)) (f (k * 3 + 1)) (f (k * 3 + 2)) 0 0 0
        · have hgk : Hid (okImg a b f = false) := okImg_not a b f k hlt (by simp [goodTone, hc, he])
          go_wp2_with (go_at_call 19; refine (l02Cell_any g t a b f _ ha hb _ ho).mono ?_; rintro e w' ⟨rfl, rfl⟩)
          go_ret
          exact ⟨ret_b hgk.out.symm, rfl⟩
        · have hgk : Hid (goodTone a b f k = true) := by show _ = _; simp [goodTone, he]
          go_wp2_with (go_at_call 19; refine (l02Cell_any g t a b f _ ha hb _ ho).mono ?_; rintro e w' ⟨rfl, rfl⟩)
          go_round
          case rel => exact ⟨k + 1, by omega, by go_num, upto_succ hg.out hgk.out⟩
          case measure => simp [intOf]; omega
      · have hgk : Hid (goodTone a b f k = true) := by show _ = _; simp [goodTone, hc]
        go_wp2_with (go_at_call 19; refine (l02Cell_any g t a b f _ ha hb _ ho).mono ?_; rintro e w' ⟨rfl, rfl⟩)
        go_round
        case rel => exact ⟨k + 1, by omega, by go_num, upto_succ hg.out hgk.out⟩
        case measure => simp [intOf]; omega
    · obtain rfl : k = 144 := by omega
      go_wp2_with (fail)
      go_ret
      exact ⟨ret_b (okImg_of a b f hsz.out hg.out).symm, rfl⟩
set_option maxHeartbeats 1000000 in
set_option maxRecDepth 100000 in
theorem validImage_impl (a b : Int) (f : Nat → Int) (ha : -128 ≤ a ∧ a ≤ 127) (hb : -128 ≤ b ∧ b ≤ 127) (w : World) :
    Calls Try.prog 27 #[.agg (pic 432 a b f)] w fun e w' => e = .returned (.bool (okImg a b f)) ∧ New w w' := by
  cases hs : isSizeB a b
  · go_enter Try.func27, Try.ntmps27
    go_wp2_with (go_at_call 45; refine (isSize_any _ _ _).mono ?_; rintro e w' ⟨rfl, rfl⟩)
    go_ret
    exact ⟨ret_b (okImg_size a b f hs).symm, (New.refl w).alloc _⟩
  have hsz : Hid (isSizeB a b = true) := hs
  go_enter Try.func27, Try.ntmps27
  go_wp2_with (go_at_call 45; refine (isSize_any _ _ _).mono ?_; rintro e w' ⟨rfl, rfl⟩)
  clear hs
  go_loopw [15] (fun i wr => ∃ k : Nat, k ≤ 144 ∧ i = .int .i64 k ∧ Hid (∀ j, j < k → goodTone a b f j = true) ∧ Hid (obj wr w.heap.size = some (.cells (pic 432 a b f) 37)) ∧ New w wr ∧ w.heap.size < wr.heap.size) (fun i _ => 144 - (intOf i).toNat)
  case atStart => exact ⟨0, by omega, rfl, fun j hj => absurd hj (by omega), by show _ = _; go_simp, (New.refl w).alloc _, by simp⟩
  case round =>
    obtain ⟨k, hk, rfl, hg, ho1, hn, hlw⟩ := hrel
    have ho := ho1.out
    by_cases hlt : k < 144
    · have hcc : isCellB ((k : Int) % 12) ((k : Int) / 12) a b = cellB k a b := cell_isCell k hlt a b
      have fin : ∀ o : Obj, Hid (obj (wr.alloc o) w.heap.size = some (.cells (pic 432 a b f) 37)) ∧ New w (wr.alloc o) ∧ w.heap.size < (wr.alloc o).heap.size := fun o => ⟨(obj_alloc_past _ _ _ hlw).trans ho, hn.alloc _, by simp; omega⟩
      have hF := hide fin
      clear fin
      cases hc : cellB k a b
      · cases he : eq3 (f (k * 3)) (f (k * 3 + 1)) (f (k * 3 + 2)) 0 0 0
        · have hgk : Hid (okImg a b f = false) := okImg_not a b f k hlt (by simp [goodTone, hc, he])
          go_wp2_with (go_at_call 31; refine (isCell_any _ _ _ _ ha hb _).mono ?_; rintro e w' ⟨rfl, rfl⟩)
          go_ret
          exact ⟨ret_b hgk.out.symm, hn.alloc _⟩
        · have hgk : Hid (goodTone a b f k = true) := by show _ = _; simp [goodTone, he]
          go_wp2_with (go_at_call 31; refine (isCell_any _ _ _ _ ha hb _).mono ?_; rintro e w' ⟨rfl, rfl⟩)
          go_roundw
          case rel => exact ⟨k + 1, by omega, by go_num, upto_succ hg.out hgk.out, hF.out _⟩
          case measure => simp [intOf]; omega
      · have hgk : Hid (goodTone a b f k = true) := by show _ = _; simp [goodTone, hc]
        go_wp2_with (go_at_call 31; refine (isCell_any _ _ _ _ ha hb _).mono ?_; rintro e w' ⟨rfl, rfl⟩)
        go_roundw
        case rel => exact ⟨k + 1, by omega, by go_num, upto_succ hg.out hgk.out, hF.out _⟩
        case measure => simp [intOf]; omega
    · obtain rfl : k = 144 := by omega
      go_wp2_with (fail)
      go_ret
      exact ⟨ret_b (okImg_of a b f hsz.out hg.out).symm, hn⟩
end Go.Proofs.Ytpofhbdnjecfjaa
