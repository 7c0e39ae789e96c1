/- A picture that is painted cell by cell by a function, and two pictures that are equal; no condition. -/
import Derived.Test.YtomfjicjejoakaaDoorU2
set_option linter.unusedVariables false
namespace Go.Proofs.YtomfjicjejoakaaDoor
open Go.BigFrame
open Go.RowKit Go.Arr
def inside (a b : Int) (i : Nat) : Prop := (i : Int) % 12 < a ∧ (i : Int) / 12 < b
instance (a b : Int) (i : Nat) : Decidable (inside a b i) := by unfold inside; infer_instance
/-- the cells that a function of the place paints -/
def paint (a b : Int) (h : Int → Int → Int) (i : Nat) : Int := if inside a b i then h ((i : Int) % 12) ((i : Int) / 12) else 0
def paintU (a b : Int) (h : Int → Int → Int) (y x : Nat) (i : Nat) : Int := if inside a b i ∧ ((i : Int) / 12 < y ∨ (i : Int) / 12 = y ∧ (i : Int) % 12 < x) then h ((i : Int) % 12) ((i : Int) / 12) else 0
theorem paintU_zero (a b : Int) (h : Int → Int → Int) (i : Nat) : paintU a b h 0 0 i = 0 := by
  unfold paintU
  rw [if_neg]
  omega
theorem paintU_row (a b : Int) (h : Int → Int → Int) (y : Nat) (x : Nat) (hx : (x : Int) = a) (i : Nat) : paintU a b h y x i = paintU a b h (y + 1) 0 i := by
  unfold paintU inside
  have e : ((i : Int) % 12 < a ∧ (i : Int) / 12 < b) ∧ ((i : Int) / 12 < y ∨ (i : Int) / 12 = y ∧ (i : Int) % 12 < x) ↔ ((i : Int) % 12 < a ∧ (i : Int) / 12 < b) ∧ ((i : Int) / 12 < (y + 1 : Nat) ∨ (i : Int) / 12 = (y + 1 : Nat) ∧ (i : Int) % 12 < (0 : Nat)) := by omega
  by_cases h1 : ((i : Int) % 12 < a ∧ (i : Int) / 12 < b) ∧ ((i : Int) / 12 < y ∨ (i : Int) / 12 = y ∧ (i : Int) % 12 < x)
  · rw [if_pos h1, if_pos (e.1 h1)]
  · rw [if_neg h1, if_neg (fun h2 => h1 (e.2 h2))]
theorem paintU_step (a b : Int) (h : Int → Int → Int) (y x : Nat) (ha : a ≤ 12) (hx : (x : Int) < a) (hy : (y : Int) < b) : upd (paintU a b h y x) (x + 12 * y) (h x y) = paintU a b h y (x + 1) := by
  funext i
  unfold upd paintU inside
  by_cases hi : i = x + 12 * y
  · subst hi
    have e1 : (((x + 12 * y : Nat) : Int)) % 12 = x := by omega
    have e2 : (((x + 12 * y : Nat) : Int)) / 12 = y := by omega
    rw [if_pos rfl, if_pos (by rw [e1, e2]; omega), e1, e2]
  · rw [if_neg hi]
    have e : ((i : Int) % 12 < a ∧ (i : Int) / 12 < b) ∧ ((i : Int) / 12 < y ∨ (i : Int) / 12 = y ∧ (i : Int) % 12 < x) ↔ ((i : Int) % 12 < a ∧ (i : Int) / 12 < b) ∧ ((i : Int) / 12 < y ∨ (i : Int) / 12 = y ∧ (i : Int) % 12 < (x + 1 : Nat)) := by omega
    by_cases h1 : ((i : Int) % 12 < a ∧ (i : Int) / 12 < b) ∧ ((i : Int) / 12 < y ∨ (i : Int) / 12 = y ∧ (i : Int) % 12 < x)
    · rw [if_pos h1, if_pos (e.1 h1)]
    · rw [if_neg h1, if_neg (fun h2 => h1 (e.2 h2))]
theorem paintU_all (a b : Int) (h : Int → Int → Int) (y : Nat) (hy : (y : Int) = b) (i : Nat) : paintU a b h y 0 i = paint a b h i := by
  unfold paintU paint
  by_cases h1 : inside a b i
  · rw [if_pos h1, if_pos ⟨h1, by have h2 := h1; unfold inside at h2; omega⟩]
  · rw [if_neg h1, if_neg (fun h2 => h1 h2.1)]
set_option maxHeartbeats 1000000 in
set_option maxRecDepth 100000 in
theorem painted_any (a b : Int) (ha : 1 ≤ a ∧ a ≤ 12) (hb : 1 ≤ b ∧ b ≤ 12) (F : FuncId) (cap : Array Value) (how : Int → Int → Int) (w : World)
    (hE : ∀ (args : Array Value) (W : World), (callFunc F args).run Tryd.prog W = .ok (.enter F args) W)
    (hF : ∀ (W : World) (x y : Nat), New w W → (x : Int) < a → (y : Int) < b → Calls Tryd.prog F (#[.int .i64 x, .int .i64 y] ++ cap) W fun e w' => e = .returned (.int .u8 (how x y)) ∧ New W w') :
    Calls Tryd.prog 47 #[.int .i64 a, .int .i64 b, .func (.func F) #[] cap] w fun e w' => e = .returned (.agg (pic 144 a b (paint a b how))) ∧ New w w' := by
  have HF := hide hF
  clear hF
  go_enter Tryd.func47, Tryd.ntmps47
  go_wp2_with (fail)
  go_loopw [16] (fun i wr => ∃ y : Nat, (y : Int) ≤ b ∧ i = .int .i64 y ∧ Hid (∃ z, obj wr w.heap.size = some (.cells (pic 144 0 0 z) 27)) ∧ Hid (obj wr (w.heap.size + 1) = some (.cells (pic 144 a b (paintU a b how y 0)) 27)) ∧ New w wr ∧ w.heap.size + 2 ≤ wr.heap.size) (fun i _ => b.toNat - (intOf i).toNat)
  case atStart =>
    refine ⟨0, by omega, rfl, ⟨fun _ => 0, by go_simp⟩, ?_, ((New.refl w).alloc _).alloc _, by simp⟩
    show _ = _
    go_simp
    rw [pic_congr (fun i _ => (paintU_zero a b how i).symm)]
  case round =>
    obtain ⟨y, hy, rfl, hz, ho, hn, hlw⟩ := hrel
    obtain ⟨wo, rfl⟩ : ∃ wo : World, wo = wr := ⟨_, rfl⟩
    by_cases hlt : (y : Int) < b
    · go_wp2_with (fail)
      go_loopw [9, 20] (fun _ i wr => ∃ x : Nat, (x : Int) ≤ a ∧ i = .int .i64 x ∧ Hid (∃ z, obj wr w.heap.size = some (.cells (pic 144 0 0 z) 27)) ∧ Hid (obj wr (w.heap.size + 1) = some (.cells (pic 144 a b (paintU a b how y x)) 27)) ∧ New w wr ∧ w.heap.size + 2 ≤ wr.heap.size) (fun _ i _ => a.toNat - (intOf i).toNat)
      case atStart => exact ⟨0, by omega, rfl, hz, ho, hn, hlw⟩
      case round =>
        clear hz ho hn hlw
        obtain ⟨x, hx, rfl, hz, ho, hn, hlw⟩ := hrel
        by_cases hlx : (x : Int) < a
        · have k0 : w.heap.size < wr.heap.size := by omega
          have k1 : w.heap.size + 1 < wr.heap.size := by omega
          have o1 := ho.out
          go_wp2_with (fail)
          refine (HF.out wr x y hn hlx hlt).mono ?_
          rintro e w1 ⟨rfl, hn1⟩
          have o2 : obj w1 (w.heap.size + 1) = some (.cells (pic 144 a b (paintU a b how y x)) 27) := (hn1.objs _ k1).trans o1
          clear o1
          have hz1 := hn1.le
          have k3 : w.heap.size + 1 < w1.heap.size := by omega
          go_wp2_with (fail)
          go_roundw
          case rel =>
            refine ⟨x + 1, by omega, by go_num, ?_, ?_, ?_, ?_⟩
            · obtain ⟨z, hz2⟩ := hz.out
              exact ⟨z, by rw [obj_setCell_other _ _ _ _ _ (by omega), hn1.objs _ k0, hz2]⟩
            · show _ = _
              rw [obj_setCell_same, o2]
              simp only [Option.map_some, reCell_cells, set_pic', paintU_step a b how y x (by omega) hlx hlt]
            · exact (hn.trans hn1).setCell (by show w.heap.size ≤ w.heap.size + 1; omega) _
            · rw [World.size_setCell]; omega
          case measure => simp [intOf]; omega
        · have hxa : (x : Int) = a := by omega
          go_wp2_with (fail)
          go_roundw
          case rel =>
            refine ⟨y + 1, by omega, by go_num, hz, ?_, hn, hlw⟩
            show _ = _
            rw [ho.out, pic_congr (fun i _ => paintU_row a b how y x hxa i)]
          case measure => simp [intOf]; omega
    · have hyb : (y : Int) = b := by omega
      obtain ⟨z, hz2⟩ := hz.out
      have o1 := ho.out
      have k0 : w.heap.size < wo.heap.size := by omega
      have k1 : w.heap.size + 1 < wo.heap.size := by omega
      clear hz
      go_wp2_with (fail)
      refine ret_cell agg27 rfl rfl (c := pic 144 a b (paintU a b how y 0)) (t := 27) (fr := (0, 0)) (by go_simp) size_pic rfl ⟨?_, ?_⟩
      · rw [pic_congr (fun i _ => paintU_all a b how y hyb i)]
      · exact hn.setRow (by omega) _
end Go.Proofs.YtomfjicjejoakaaDoor
/- The reference's pictures in other places; no condition. -/
set_option linter.unusedVariables false
namespace Go.Proofs.YtomfjicjejoakaaDoor
open Go.BigFrame
open Go.RowKit Go.Arr
theorem cellB_t {i : Nat} {a b : Int} (hi : i < 144) : cellB i a b = true ↔ inside a b i := by
  unfold cellB inside
  have : inB i 0 143 = true := inB_t.2 (by omega)
  rw [this, Bool.true_and, Bool.and_eq_true, decide_eq_true_iff, decide_eq_true_iff]
/-- what is painted in the end, out of what is filled cell by cell -/
theorem fold_paint (a b : Int) (ha : 1 ≤ a ∧ a ≤ 12) (hb : 1 ≤ b ∧ b ≤ 12) (dst src : Nat → Nat) (val : Nat → Int) (h : Int → Int → Int) (a' b' : Int)
    (H1 : ∀ i, i < 144 → inside a b i → inside a' b' (dst i) ∧ dst i < 144 ∧ src (dst i) = i ∧ val i = h ((dst i : Int) % 12) ((dst i : Int) / 12))
    (H2 : ∀ j, j < 144 → inside a' b' j → inside a b (src j) ∧ src j < 144 ∧ dst (src j) = j) (j : Nat) (hj : j < 144) :
    fold (fun _ => 0) (fun i => cellB i a b) dst val 144 j = paint a' b' h j := by
  rw [fold_at _ _ dst src val 144 (fun i hi ht => (H1 i hi ((cellB_t hi).1 ht)).2.2.1)]
  unfold paint
  by_cases hc : inside a' b' j
  · obtain ⟨h1, h2, h3⟩ := H2 j hj hc
    obtain ⟨_, _, _, h7⟩ := H1 (src j) h2 h1
    rw [if_pos ⟨h2, (cellB_t h2).2 h1, h3⟩, if_pos hc, h7, h3]
  · rw [if_neg hc, if_neg]
    rintro ⟨h1, h2, h3⟩
    have h4 := (H1 (src j) h1 ((cellB_t h1).1 h2)).1
    rw [h3] at h4
    exact hc h4
def mirH (a : Int) (f : Nat → Int) (x y : Int) : Int := f (a - 1 - x + 12 * y).toNat
def mirD (a : Int) (i : Nat) : Nat := ((i : Int) - 2 * ((i : Int) % 12) + a).toNat - 1
theorem mir_end (a b : Int) (f : Nat → Int) (ha : 1 ≤ a ∧ a ≤ 12) (hb : 1 ≤ b ∧ b ≤ 12) (j : Nat) (hj : j < 144) :
    fold (fun _ => 0) (fun i => cellB i a b) (mirD a) f 144 j = paint a b (mirH a f) j := by
  refine fold_paint a b ha hb (mirD a) (mirD a) f (mirH a f) a b ?_ ?_ j hj
  · intro i hi hin
    unfold inside at hin ⊢
    unfold mirD mirH
    refine ⟨by omega, by omega, by omega, ?_⟩
    congr 1
    omega
  · intro i hi hin
    unfold inside at hin ⊢
    unfold mirD
    refine ⟨by omega, by omega, by omega⟩
set_option maxHeartbeats 2000000 in
set_option maxRecDepth 100000 in
theorem l01Mirror_any (g : Nat) (t : TypeId) (a b : Int) (f : Nat → Int) (ha : 1 ≤ a ∧ a ≤ 12) (hb : 1 ≤ b ∧ b ≤ 12) (w : World) (ho : obj w g = some (.cells (pic 144 a b f) t)) :
    Calls Tryd.prog 38 #[.pointer (some ⟨g, 0, none⟩)] w fun e w' => e = .returned (.agg (pic 144 a b (paint a b (mirH a f)))) ∧ New w w' := by
  have hg := obj_lt ho
  have hg1 : g < w.heap.size + 1 := by omega
  go_enter Tryd.func38, Tryd.ntmps38
  go_wp2_with (fail)
  go_region
  go_wp2_with (fail)
  go_loopw [4] (fun i wr => ∃ k : Nat, k ≤ 144 ∧ i = .int .i64 k ∧ Hid (obj wr g = some (.cells (pic 144 a b f) t)) ∧ Hid (∃ z, obj wr w.heap.size = some (.cells (pic 144 0 0 z) 27)) ∧ Hid (obj wr (w.heap.size + 1) = some (.cells (pic 144 a b (fold (fun _ => 0) (fun i => cellB i a b) (mirD a) f k)) 27)) ∧ New w wr ∧ w.heap.size + 2 ≤ wr.heap.size) (fun i _ => 144 - (intOf i).toNat)
  case atStart =>
    refine ⟨0, by omega, rfl, ?_, ⟨fun _ => 0, by go_simp⟩, ?_, ?_, by simp⟩
    · show _ = _
      go_simp
    · show _ = _
      go_simp
      rfl
    · repeat' (first | exact New.refl _ | refine New.alloc ?_ _ | refine New.drew ?_ | refine New.drewN ?_ _ | refine New.setRow ?_ (by omega) _ | refine New.setCell ?_ (by first | omega | (simp; done) | (simp; omega)) _)
  case round =>
    obtain ⟨k, hk, rfl, hp1, hz, hq1, hn, hlw⟩ := hrel
    have hp := hp1.out
    have hq := hq1.out
    have k0 : w.heap.size < wr.heap.size := by omega
    have k1 : w.heap.size + 1 < wr.heap.size := by omega
    by_cases hlt : k < 144
    · cases hc : cellB k a b
      · go_wp2_with (fail)
        refine (l01Is_any g t a b f _ (by omega) (by omega) _ hp).mono ?_
        rintro e w1 ⟨rfl, rfl⟩
        go_wp2_with (fail)
        go_roundw
        case rel => exact ⟨k + 1, by omega, by go_num, hp1, hz, by show _ = _; rw [hq]; simp [fold, hc], hn, hlw⟩
        case measure => simp [intOf]; omega
      · have hin : Hid (inside a b k) := (cellB_t hlt).1 hc
        have q1 : 0 ≤ (k : Int) - 2 * ((k : Int) % 12) + a - 1 := by have := hin.out; unfold inside at this; omega
        have q2 : (k : Int) - 2 * ((k : Int) % 12) + a - 1 < 144 := by have := hin.out; unfold inside at this; omega
        go_wp2_with (fail)
        refine (l01Is_any g t a b f _ (by omega) (by omega) _ hp).mono ?_
        rintro e w1 ⟨rfl, rfl⟩
        go_wp2_with (fail)
        go_region
        go_wp2_with (fail)
        go_roundw
        case rel =>
          refine ⟨k + 1, by omega, by go_num, ?_, ?_, ?_, ?_, ?_⟩
          · show _ = _
            rw [obj_drew, obj_setCell_other _ _ _ _ _ (by omega), hp]
          · obtain ⟨z, hz2⟩ := hz.out
            exact ⟨z, by rw [obj_drew, obj_setCell_other _ _ _ _ _ (by omega), hz2]⟩
          · show _ = _
            rw [obj_drew, obj_set_pic hq _ (mirD a k) _ (by have := hin.out; unfold inside at this; unfold mirD; omega)]
            simp only [fold, hc, if_true]
          · exact (hn.setCell (by show w.heap.size ≤ w.heap.size + 1; omega) _).drew
          · show _ ≤ (World.setCell _ _ _).heap.size
            rw [World.size_setCell]; omega
        case measure => simp [intOf]; omega
    · obtain rfl : k = 144 := by omega
      obtain ⟨z, hz2⟩ := hz.out
      clear hz
      go_wp2_with (fail)
      refine ret_cell agg27 rfl rfl (c := pic 144 a b (fold (fun _ => 0) (fun i => cellB i a b) (mirD a) f 144)) (t := 27) (fr := (0, 0)) (by go_simp) size_pic rfl ⟨?_, ?_⟩
      · rw [pic_congr (fun j hj => mir_end a b f ha hb j hj)]
      · exact hn.setRow (by omega) _
def flipH (b : Int) (f : Nat → Int) (x y : Int) : Int := f (x + 12 * (b - 1 - y)).toNat
def flipD (b : Int) (i : Nat) : Nat := ((i : Int) % 12 + 12 * (b - 1 - (i : Int) / 12)).toNat
theorem flip_end (a b : Int) (f : Nat → Int) (ha : 1 ≤ a ∧ a ≤ 12) (hb : 1 ≤ b ∧ b ≤ 12) (j : Nat) (hj : j < 144) :
    fold (fun _ => 0) (fun i => cellB i a b) (flipD b) f 144 j = paint a b (flipH b f) j := by
  refine fold_paint a b ha hb (flipD b) (flipD b) f (flipH b f) a b ?_ ?_ j hj
  · intro i hi hin
    unfold inside at hin ⊢
    unfold flipD flipH
    refine ⟨by omega, by omega, by omega, ?_⟩
    congr 1
    omega
  · intro i hi hin
    unfold inside at hin ⊢
    unfold flipD
    refine ⟨by omega, by omega, by omega⟩
set_option maxHeartbeats 2000000 in
set_option maxRecDepth 100000 in
theorem l01Flip_any (g : Nat) (t : TypeId) (a b : Int) (f : Nat → Int) (ha : 1 ≤ a ∧ a ≤ 12) (hb : 1 ≤ b ∧ b ≤ 12) (w : World) (ho : obj w g = some (.cells (pic 144 a b f) t)) :
    Calls Tryd.prog 40 #[.pointer (some ⟨g, 0, none⟩)] w fun e w' => e = .returned (.agg (pic 144 a b (paint a b (flipH b f)))) ∧ New w w' := by
  have hg := obj_lt ho
  have hg1 : g < w.heap.size + 1 := by omega
  go_enter Tryd.func40, Tryd.ntmps40
  go_wp2_with (fail)
  go_region
  go_wp2_with (fail)
  go_loopw [4] (fun i wr => ∃ k : Nat, k ≤ 144 ∧ i = .int .i64 k ∧ Hid (obj wr g = some (.cells (pic 144 a b f) t)) ∧ Hid (∃ z, obj wr w.heap.size = some (.cells (pic 144 0 0 z) 27)) ∧ Hid (obj wr (w.heap.size + 1) = some (.cells (pic 144 a b (fold (fun _ => 0) (fun i => cellB i a b) (flipD b) f k)) 27)) ∧ New w wr ∧ w.heap.size + 2 ≤ wr.heap.size) (fun i _ => 144 - (intOf i).toNat)
  case atStart =>
    refine ⟨0, by omega, rfl, ?_, ⟨fun _ => 0, by go_simp⟩, ?_, ?_, by simp⟩
    · show _ = _
      go_simp
    · show _ = _
      go_simp
      rfl
    · repeat' (first | exact New.refl _ | refine New.alloc ?_ _ | refine New.drew ?_ | refine New.drewN ?_ _ | refine New.setRow ?_ (by omega) _ | refine New.setCell ?_ (by first | omega | (simp; done) | (simp; omega)) _)
  case round =>
    obtain ⟨k, hk, rfl, hp1, hz, hq1, hn, hlw⟩ := hrel
    have hp := hp1.out
    have hq := hq1.out
    have k0 : w.heap.size < wr.heap.size := by omega
    have k1 : w.heap.size + 1 < wr.heap.size := by omega
    by_cases hlt : k < 144
    · cases hc : cellB k a b
      · go_wp2_with (fail)
        refine (l01Is_any g t a b f _ (by omega) (by omega) _ hp).mono ?_
        rintro e w1 ⟨rfl, rfl⟩
        go_wp2_with (fail)
        go_roundw
        case rel => exact ⟨k + 1, by omega, by go_num, hp1, hz, by show _ = _; rw [hq]; simp [fold, hc], hn, hlw⟩
        case measure => simp [intOf]; omega
      · have hin : Hid (inside a b k) := (cellB_t hlt).1 hc
        have q1 : 0 ≤ (k : Int) % 12 + 12 * (b - 1 - (k : Int) / 12) := by have := hin.out; unfold inside at this; omega
        have q2 : (k : Int) % 12 + 12 * (b - 1 - (k : Int) / 12) < 144 := by have := hin.out; unfold inside at this; omega
        go_wp2_with (fail)
        refine (l01Is_any g t a b f _ (by omega) (by omega) _ hp).mono ?_
        rintro e w1 ⟨rfl, rfl⟩
        go_wp2_with (fail)
        go_region
        go_wp2_with (fail)
        go_roundw
        case rel =>
          refine ⟨k + 1, by omega, by go_num, ?_, ?_, ?_, ?_, ?_⟩
          · show _ = _
            rw [obj_drew, obj_setCell_other _ _ _ _ _ (by omega), hp]
          · obtain ⟨z, hz2⟩ := hz.out
            exact ⟨z, by rw [obj_drew, obj_setCell_other _ _ _ _ _ (by omega), hz2]⟩
          · show _ = _
            rw [obj_drew, obj_set_pic hq _ (flipD b k) _ (by have := hin.out; unfold inside at this; unfold flipD; omega)]
            simp only [fold, hc, if_true]
          · exact (hn.setCell (by show w.heap.size ≤ w.heap.size + 1; omega) _).drew
          · show _ ≤ (World.setCell _ _ _).heap.size
            rw [World.size_setCell]; omega
        case measure => simp [intOf]; omega
    · obtain rfl : k = 144 := by omega
      obtain ⟨z, hz2⟩ := hz.out
      clear hz
      go_wp2_with (fail)
      refine ret_cell agg27 rfl rfl (c := pic 144 a b (fold (fun _ => 0) (fun i => cellB i a b) (flipD b) f 144)) (t := 27) (fr := (0, 0)) (by go_simp) size_pic rfl ⟨?_, ?_⟩
      · rw [pic_congr (fun j hj => flip_end a b f ha hb j hj)]
      · exact hn.setRow (by omega) _
end Go.Proofs.YtomfjicjejoakaaDoor
/- The reference's turned picture, and what it answers for pictures that are mirrored, flipped or turned; no condition. -/
set_option linter.unusedVariables false
namespace Go.Proofs.YtomfjicjejoakaaDoor
open Go.BigFrame
open Go.RowKit Go.Arr
def turnH (b : Int) (f : Nat → Int) (x y : Int) : Int := f (y + 12 * (b - 1 - x)).toNat
def turnV (b : Int) (f : Nat → Int) (i : Nat) : Int := turnH b f ((i : Int) % 12) ((i : Int) / 12)
theorem id_end (a b : Int) (ha : 1 ≤ a ∧ a ≤ 12) (hb : 1 ≤ b ∧ b ≤ 12) (h : Int → Int → Int) (val : Nat → Int) (hv : ∀ i, i < 144 → inside a b i → val i = h ((i : Int) % 12) ((i : Int) / 12)) (j : Nat) (hj : j < 144) :
    fold (fun _ => 0) (fun i => cellB i a b) (fun i => i) val 144 j = paint a b h j :=
  fold_paint a b ha hb (fun i => i) (fun i => i) val h a b (fun i hi hin => ⟨hin, hi, rfl, hv i hi hin⟩) (fun i hi hin => ⟨hin, hi, rfl⟩) j hj
set_option maxHeartbeats 2000000 in
set_option maxRecDepth 100000 in
theorem l01Turn_any (g : Nat) (t : TypeId) (a b : Int) (f : Nat → Int) (ha : 1 ≤ a ∧ a ≤ 12) (hb : 1 ≤ b ∧ b ≤ 12) (w : World) (ho : obj w g = some (.cells (pic 144 a b f) t)) :
    Calls Tryd.prog 43 #[.pointer (some ⟨g, 0, none⟩)] w fun e w' => e = .returned (.agg (pic 144 b a (paint b a (turnH b f)))) ∧ New w w' := by
  have hg := obj_lt ho
  have hg1 : g < w.heap.size + 1 := by omega
  go_enter Tryd.func43, Tryd.ntmps43
  go_wp2_with (fail)
  go_region
  go_wp2_with (fail)
  go_loopw [4, 5, 6] (fun i _ _ wr => ∃ k : Nat, k ≤ 144 ∧ i = .int .i64 k ∧ Hid (obj wr g = some (.cells (pic 144 a b f) t)) ∧ Hid (∃ z, obj wr w.heap.size = some (.cells (pic 144 0 0 z) 27)) ∧ Hid (obj wr (w.heap.size + 1) = some (.cells (pic 144 b a (fold (fun _ => 0) (fun i => cellB i b a) (fun i => i) (turnV b f) k)) 27)) ∧ New w wr ∧ w.heap.size + 2 ≤ wr.heap.size) (fun i _ _ _ => 144 - (intOf i).toNat)
  case atStart =>
    refine ⟨0, by omega, rfl, ?_, ⟨fun _ => 0, by go_simp⟩, ?_, ?_, by simp⟩
    · show _ = _
      go_simp
    · show _ = _
      go_simp
      rfl
    · repeat' (first | exact New.refl _ | refine New.alloc ?_ _ | refine New.drew ?_ | refine New.drewN ?_ _ | refine New.setRow ?_ (by omega) _ | refine New.setCell ?_ (by first | omega | (simp; done) | (simp; omega)) _)
  case round =>
    obtain ⟨k, hk, rfl, hp1, hz, hq1, hn, hlw⟩ := hrel
    have hp := hp1.out
    have hq := hq1.out
    have k0 : w.heap.size < wr.heap.size := by omega
    have k1 : w.heap.size + 1 < wr.heap.size := by omega
    by_cases hlt : k < 144
    · cases hc : cellB k b a
      · go_wp2_with (fail)
        refine (l01Is_any _ 27 b a _ _ (by omega) (by omega) _ hq).mono ?_
        rintro e w1 ⟨rfl, rfl⟩
        go_wp2_with (fail)
        go_roundw
        case rel => exact ⟨k + 1, by omega, by go_num, hp1, hz, by show _ = _; rw [hq]; simp [fold, hc], hn, hlw⟩
        case measure => simp [intOf]; omega
      · have hin : Hid (inside b a k) := (cellB_t hlt).1 hc
        have q1 : 0 ≤ (k : Int) / 12 + 12 * (b - 1 - (k : Int) % 12) := by have := hin.out; unfold inside at this; omega
        have q2 : (k : Int) / 12 + 12 * (b - 1 - (k : Int) % 12) < 144 := by have := hin.out; unfold inside at this; omega
        go_wp2_with (fail)
        refine (l01Is_any _ 27 b a _ _ (by omega) (by omega) _ hq).mono ?_
        rintro e w1 ⟨rfl, rfl⟩
        go_wp2_with (fail)
        go_region
        go_wp2_with (fail)
        go_roundw
        case rel =>
          refine ⟨k + 1, by omega, by go_num, ?_, ?_, ?_, ?_, ?_⟩
          · show _ = _
            rw [obj_drew, obj_setCell_other _ _ _ _ _ (by omega), hp]
          · obtain ⟨z, hz2⟩ := hz.out
            exact ⟨z, by rw [obj_drew, obj_setCell_other _ _ _ _ _ (by omega), hz2]⟩
          · show _ = _
            rw [obj_drew, obj_set_pic hq _ k _ (by omega)]
            simp only [fold, hc, if_true, turnV, turnH]
          · exact (hn.setCell (by show w.heap.size ≤ w.heap.size + 1; omega) _).drew
          · show _ ≤ (World.setCell _ _ _).heap.size
            rw [World.size_setCell]; omega
        case measure => simp [intOf]; omega
    · obtain rfl : k = 144 := by omega
      obtain ⟨z, hz2⟩ := hz.out
      clear hz
      go_wp2_with (fail)
      refine ret_cell agg27 rfl rfl (c := pic 144 b a (fold (fun _ => 0) (fun i => cellB i b a) (fun i => i) (turnV b f) 144)) (t := 27) (fr := (0, 0)) (by go_simp) size_pic rfl ⟨?_, ?_⟩
      · rw [pic_congr (fun j hj => id_end b a hb ha (turnH b f) (turnV b f) (fun i _ _ => rfl) j hj)]
      · exact hn.setRow (by omega) _
/-- a picture and a code -/
structure PicAns where
  c : Int
  w : Int
  h : Int
  f : Nat → Int
def noPic (c : Int) : PicAns := ⟨c, 0, 0, fun _ => 0⟩
def mirA (a b : Int) (f : Nat → Int) : PicAns := if okPic a b f = true then ⟨0, a, b, paint a b (mirH a f)⟩ else noPic 1
def flipA (a b : Int) (f : Nat → Int) : PicAns := if okPic a b f = true then ⟨0, a, b, paint a b (flipH b f)⟩ else noPic 1
def turnA (a b : Int) (f : Nat → Int) : PicAns := if okPic a b f = true then ⟨0, b, a, paint b a (turnH b f)⟩ else noPic 1
theorem okPic_dims {a b : Int} {f : Nat → Int} (h : okPic a b f = true) : (1 ≤ a ∧ a ≤ 12) ∧ (1 ≤ b ∧ b ≤ 12) := by
  unfold okPic isSizeB at h
  simp only [Bool.and_eq_true] at h
  exact ⟨inB_t.1 h.1.1, inB_t.1 h.1.2⟩
theorem okPic_cell {a b : Int} {f : Nat → Int} (h : okPic a b f = true) (i : Nat) (hi : i < 144) : f i < 16 ∧ (inside a b i ∨ f i = 0) := by
  unfold okPic at h
  simp only [Bool.and_eq_true, List.all_eq_true] at h
  have h2 := h.2 i (by simpa using hi)
  unfold goodAt at h2
  simp only [Bool.and_eq_true, Bool.or_eq_true, decide_eq_true_iff] at h2
  exact ⟨h2.1, h2.2.imp (cellB_t hi).1 id⟩
set_option maxHeartbeats 1000000 in
set_option maxRecDepth 100000 in
theorem mirror_spec (a b : Int) (f : Nat → Int) (ha : -128 ≤ a ∧ a ≤ 127) (hb : -128 ≤ b ∧ b ≤ 127) (hf : ∀ i, 0 ≤ f i ∧ f i ≤ 255) (w : World) :
    Calls Tryd.prog 9 #[.agg (pic 144 a b f)] w fun e w' => e = .returned (.tuple #[.agg (pic 144 (mirA a b f).w (mirA a b f).h (mirA a b f).f), .int .i64 (mirA a b f).c]) ∧ New w w' := by
  cases hok : okPic a b f
  · have hA : Hid (mirA a b f = noPic 1) := by show _ = _; simp [mirA, hok]
    go_enter Tryd.func9, Tryd.ntmps9
    go_wp2_with (fail)
    refine (l01Ok_any _ 27 a b f ha hb hf _ (by go_simp)).mono ?_
    rintro e w1 ⟨rfl, rfl⟩
    go_wp2_with (fail)
    refine ret_cell_tmp agg27 rfl rfl (c := pic 144 0 0 fun _ => 0) (t := 27) (fr := (0, 0)) (by go_simp) size_pic rfl ⟨?_, ?_⟩
    · rw [hA.out]; rfl
    · repeat' (first | exact New.refl _ | refine New.alloc ?_ _ | refine New.drew ?_ | refine New.drewN ?_ _ | refine New.setRow ?_ (by omega) _ | refine New.setCell ?_ (by first | omega | (simp; done) | (simp; omega)) _)
  · have hd := okPic_dims hok
    have hA : Hid (mirA a b f = ⟨0, a, b, paint a b (mirH a f)⟩) := by show _ = _; rw [mirA, if_pos hok]
    go_enter Tryd.func9, Tryd.ntmps9
    go_wp2_with (fail)
    refine (l01Ok_any _ 27 a b f ha hb hf _ (by go_simp)).mono ?_
    rintro e w1 ⟨rfl, rfl⟩
    go_wp2_with (fail)
    refine (l01Mirror_any _ 27 a b f hd.1 hd.2 _ (by go_simp)).mono ?_
    rintro e w1 ⟨rfl, hn1⟩
    have ho1 := hn1.objs
    have hz1 := hn1.le
    simp at hz1
    have k1 : w.heap.size < w1.heap.size := by omega
    have k2 : w.heap.size + 1 < w1.heap.size := by omega
    go_wp2_with (fail)
    refine ret_cell_tmp agg27 rfl rfl (c := pic 144 a b (paint a b (mirH a f))) (t := 27) (fr := (0, 0)) (by go_simp) size_pic rfl ⟨?_, ?_⟩
    · rw [hA.out]; rfl
    · refine New.setRow ((((New.refl w).alloc _).alloc _).trans hn1) (by omega) _
set_option maxHeartbeats 1000000 in
set_option maxRecDepth 100000 in
theorem flip_spec (a b : Int) (f : Nat → Int) (ha : -128 ≤ a ∧ a ≤ 127) (hb : -128 ≤ b ∧ b ≤ 127) (hf : ∀ i, 0 ≤ f i ∧ f i ≤ 255) (w : World) :
    Calls Tryd.prog 11 #[.agg (pic 144 a b f)] w fun e w' => e = .returned (.tuple #[.agg (pic 144 (flipA a b f).w (flipA a b f).h (flipA a b f).f), .int .i64 (flipA a b f).c]) ∧ New w w' := by
  cases hok : okPic a b f
  · have hA : Hid (flipA a b f = noPic 1) := by show _ = _; simp [flipA, hok]
    go_enter Tryd.func11, Tryd.ntmps11
    go_wp2_with (fail)
    refine (l01Ok_any _ 27 a b f ha hb hf _ (by go_simp)).mono ?_
    rintro e w1 ⟨rfl, rfl⟩
    go_wp2_with (fail)
    refine ret_cell_tmp agg27 rfl rfl (c := pic 144 0 0 fun _ => 0) (t := 27) (fr := (0, 0)) (by go_simp) size_pic rfl ⟨?_, ?_⟩
    · rw [hA.out]; rfl
    · repeat' (first | exact New.refl _ | refine New.alloc ?_ _ | refine New.drew ?_ | refine New.drewN ?_ _ | refine New.setRow ?_ (by omega) _ | refine New.setCell ?_ (by first | omega | (simp; done) | (simp; omega)) _)
  · have hd := okPic_dims hok
    have hA : Hid (flipA a b f = ⟨0, a, b, paint a b (flipH b f)⟩) := by show _ = _; rw [flipA, if_pos hok]
    go_enter Tryd.func11, Tryd.ntmps11
    go_wp2_with (fail)
    refine (l01Ok_any _ 27 a b f ha hb hf _ (by go_simp)).mono ?_
    rintro e w1 ⟨rfl, rfl⟩
    go_wp2_with (fail)
    refine (l01Flip_any _ 27 a b f hd.1 hd.2 _ (by go_simp)).mono ?_
    rintro e w1 ⟨rfl, hn1⟩
    have ho1 := hn1.objs
    have hz1 := hn1.le
    simp at hz1
    have k1 : w.heap.size < w1.heap.size := by omega
    have k2 : w.heap.size + 1 < w1.heap.size := by omega
    go_wp2_with (fail)
    refine ret_cell_tmp agg27 rfl rfl (c := pic 144 a b (paint a b (flipH b f))) (t := 27) (fr := (0, 0)) (by go_simp) size_pic rfl ⟨?_, ?_⟩
    · rw [hA.out]; rfl
    · refine New.setRow ((((New.refl w).alloc _).alloc _).trans hn1) (by omega) _
set_option maxHeartbeats 1000000 in
set_option maxRecDepth 100000 in
theorem turn_spec (a b : Int) (f : Nat → Int) (ha : -128 ≤ a ∧ a ≤ 127) (hb : -128 ≤ b ∧ b ≤ 127) (hf : ∀ i, 0 ≤ f i ∧ f i ≤ 255) (w : World) :
    Calls Tryd.prog 15 #[.agg (pic 144 a b f)] w fun e w' => e = .returned (.tuple #[.agg (pic 144 (turnA a b f).w (turnA a b f).h (turnA a b f).f), .int .i64 (turnA a b f).c]) ∧ New w w' := by
  cases hok : okPic a b f
  · have hA : Hid (turnA a b f = noPic 1) := by show _ = _; simp [turnA, hok]
    go_enter Tryd.func15, Tryd.ntmps15
    go_wp2_with (fail)
    refine (l01Ok_any _ 27 a b f ha hb hf _ (by go_simp)).mono ?_
    rintro e w1 ⟨rfl, rfl⟩
    go_wp2_with (fail)
    refine ret_cell_tmp agg27 rfl rfl (c := pic 144 0 0 fun _ => 0) (t := 27) (fr := (0, 0)) (by go_simp) size_pic rfl ⟨?_, ?_⟩
    · rw [hA.out]; rfl
    · repeat' (first | exact New.refl _ | refine New.alloc ?_ _ | refine New.drew ?_ | refine New.drewN ?_ _ | refine New.setRow ?_ (by omega) _ | refine New.setCell ?_ (by first | omega | (simp; done) | (simp; omega)) _)
  · have hd := okPic_dims hok
    have hA : Hid (turnA a b f = ⟨0, b, a, paint b a (turnH b f)⟩) := by show _ = _; rw [turnA, if_pos hok]
    go_enter Tryd.func15, Tryd.ntmps15
    go_wp2_with (fail)
    refine (l01Ok_any _ 27 a b f ha hb hf _ (by go_simp)).mono ?_
    rintro e w1 ⟨rfl, rfl⟩
    go_wp2_with (fail)
    refine (l01Turn_any _ 27 a b f hd.1 hd.2 _ (by go_simp)).mono ?_
    rintro e w1 ⟨rfl, hn1⟩
    have ho1 := hn1.objs
    have hz1 := hn1.le
    simp at hz1
    have k1 : w.heap.size < w1.heap.size := by omega
    have k2 : w.heap.size + 1 < w1.heap.size := by omega
    go_wp2_with (fail)
    refine ret_cell_tmp agg27 rfl rfl (c := pic 144 b a (paint b a (turnH b f))) (t := 27) (fr := (0, 0)) (by go_simp) size_pic rfl ⟨?_, ?_⟩
    · rw [hA.out]; rfl
    · refine New.setRow ((((New.refl w).alloc _).alloc _).trans hn1) (by omega) _
end Go.Proofs.YtomfjicjejoakaaDoor
