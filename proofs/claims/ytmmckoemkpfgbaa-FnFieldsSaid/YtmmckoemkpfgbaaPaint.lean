/- A picture that is painted cell by cell by a function, and two pictures that are equal; no condition. -/
import Derived.Test.YtmmckoemkpfgbaaSmall
import Derived.Test.YtmmckoemkpfgbaaPic
set_option linter.unusedVariables false
namespace Go.Proofs.Ytmmckoemkpfgbaa
open Go.BigFrame
open Go.RowKit Go.Arr
def inside (a b : Int) (i : Nat) : Prop := (i : Int) % 12 < a ∧ (i : Int) / 12 < b
instance (a b : Int) (i : Nat) : Decidable (inside a b i) := by unfold inside; infer_instance
/-- the cells that a function of the place paints -/
def paint (a b : Int) (h : Int → Int → Int) (i : Nat) : Int := if inside a b i then h ((i : Int) % 12) ((i : Int) / 12) else 0
def paintU (a b : Int) (h : Int → Int → Int) (y x : Nat) (i : Nat) : Int := if inside a b i ∧ ((i : Int) / 12 < y ∨ (i : Int) / 12 = y ∧ (i : Int) % 12 < x) then h ((i : Int) % 12) ((i : Int) / 12) else 0
theorem paintU_zero (a b : Int) (h : Int → Int → Int) (i : Nat) : paintU a b h 0 0 i = 0 := by
  unfold paintU
  rw [if_neg]
  omega
theorem paintU_row (a b : Int) (h : Int → Int → Int) (y : Nat) (x : Nat) (hx : (x : Int) = a) (i : Nat) : paintU a b h y x i = paintU a b h (y + 1) 0 i := by
  unfold paintU inside
  have e : ((i : Int) % 12 < a ∧ (i : Int) / 12 < b) ∧ ((i : Int) / 12 < y ∨ (i : Int) / 12 = y ∧ (i : Int) % 12 < x) ↔ ((i : Int) % 12 < a ∧ (i : Int) / 12 < b) ∧ ((i : Int) / 12 < (y + 1 : Nat) ∨ (i : Int) / 12 = (y + 1 : Nat) ∧ (i : Int) % 12 < (0 : Nat)) := by omega
  by_cases h1 : ((i : Int) % 12 < a ∧ (i : Int) / 12 < b) ∧ ((i : Int) / 12 < y ∨ (i : Int) / 12 = y ∧ (i : Int) % 12 < x)
  · rw [if_pos h1, if_pos (e.1 h1)]
  · rw [if_neg h1, if_neg (fun h2 => h1 (e.2 h2))]
theorem paintU_step (a b : Int) (h : Int → Int → Int) (y x : Nat) (ha : a ≤ 12) (hx : (x : Int) < a) (hy : (y : Int) < b) : upd (paintU a b h y x) (x + 12 * y) (h x y) = paintU a b h y (x + 1) := by
  funext i
  unfold upd paintU inside
  by_cases hi : i = x + 12 * y
  · subst hi
    have e1 : (((x + 12 * y : Nat) : Int)) % 12 = x := by omega
    have e2 : (((x + 12 * y : Nat) : Int)) / 12 = y := by omega
    rw [if_pos rfl, if_pos (by rw [e1, e2]; omega), e1, e2]
  · rw [if_neg hi]
    have e : ((i : Int) % 12 < a ∧ (i : Int) / 12 < b) ∧ ((i : Int) / 12 < y ∨ (i : Int) / 12 = y ∧ (i : Int) % 12 < x) ↔ ((i : Int) % 12 < a ∧ (i : Int) / 12 < b) ∧ ((i : Int) / 12 < y ∨ (i : Int) / 12 = y ∧ (i : Int) % 12 < (x + 1 : Nat)) := by omega
    by_cases h1 : ((i : Int) % 12 < a ∧ (i : Int) / 12 < b) ∧ ((i : Int) / 12 < y ∨ (i : Int) / 12 = y ∧ (i : Int) % 12 < x)
    · rw [if_pos h1, if_pos (e.1 h1)]
    · rw [if_neg h1, if_neg (fun h2 => h1 (e.2 h2))]
theorem paintU_all (a b : Int) (h : Int → Int → Int) (y : Nat) (hy : (y : Int) = b) (i : Nat) : paintU a b h y 0 i = paint a b h i := by
  unfold paintU paint
  by_cases h1 : inside a b i
  · rw [if_pos h1, if_pos ⟨h1, by have h2 := h1; unfold inside at h2; omega⟩]
  · rw [if_neg h1, if_neg (fun h2 => h1 h2.1)]
set_option maxHeartbeats 1000000 in
set_option maxRecDepth 100000 in
theorem painted_any (a b : Int) (ha : 1 ≤ a ∧ a ≤ 12) (hb : 1 ≤ b ∧ b ≤ 12) (F : FuncId) (cap : Array Value) (how : Int → Int → Int) (w : World)
    (hE : ∀ (args : Array Value) (W : World), (callFunc F args).run Try.prog W = .ok (.enter F args) W)
    (hF : ∀ (W : World) (x y : Nat), New w W → (x : Int) < a → (y : Int) < b → Calls Try.prog F (#[.int .i64 x, .int .i64 y] ++ cap) W fun e w' => e = .returned (.int .u8 (how x y)) ∧ New W w') :
    Calls Try.prog 43 #[.int .i64 a, .int .i64 b, .func (.func F) #[] cap] w fun e w' => e = .returned (.agg (pic 144 a b (paint a b how))) ∧ New w w' := by
  have HF := hide hF
  clear hF
  go_enter Try.func43, Try.ntmps43
  go_wp2_with (fail)
  go_loopw [16] (fun i wr => ∃ y : Nat, (y : Int) ≤ b ∧ i = .int .i64 y ∧ Hid (∃ z, obj wr w.heap.size = some (.cells (pic 144 0 0 z) 27)) ∧ Hid (obj wr (w.heap.size + 1) = some (.cells (pic 144 a b (paintU a b how y 0)) 27)) ∧ New w wr ∧ w.heap.size + 2 ≤ wr.heap.size) (fun i _ => b.toNat - (intOf i).toNat)
  case atStart =>
    refine ⟨0, by omega, rfl, ⟨fun _ => 0, by go_simp⟩, ?_, ((New.refl w).alloc _).alloc _, by simp⟩
    show _ = _
    go_simp
    rw [pic_congr (fun i _ => (paintU_zero a b how i).symm)]
  case round =>
    obtain ⟨y, hy, rfl, hz, ho, hn, hlw⟩ := hrel
    obtain ⟨wo, rfl⟩ : ∃ wo : World, wo = wr := ⟨_, rfl⟩
    by_cases hlt : (y : Int) < b
    · go_wp2_with (fail)
      go_loopw [9, 20] (fun _ i wr => ∃ x : Nat, (x : Int) ≤ a ∧ i = .int .i64 x ∧ Hid (∃ z, obj wr w.heap.size = some (.cells (pic 144 0 0 z) 27)) ∧ Hid (obj wr (w.heap.size + 1) = some (.cells (pic 144 a b (paintU a b how y x)) 27)) ∧ New w wr ∧ w.heap.size + 2 ≤ wr.heap.size) (fun _ i _ => a.toNat - (intOf i).toNat)
      case atStart => exact ⟨0, by omega, rfl, hz, ho, hn, hlw⟩
      case round =>
        clear hz ho hn hlw
        obtain ⟨x, hx, rfl, hz, ho, hn, hlw⟩ := hrel
        by_cases hlx : (x : Int) < a
        · have k0 : w.heap.size < wr.heap.size := by omega
          have k1 : w.heap.size + 1 < wr.heap.size := by omega
          have o1 := ho.out
          go_wp2_with (fail)
          refine (HF.out wr x y hn hlx hlt).mono ?_
          rintro e w1 ⟨rfl, hn1⟩
          have o2 : obj w1 (w.heap.size + 1) = some (.cells (pic 144 a b (paintU a b how y x)) 27) := (hn1.objs _ k1).trans o1
          clear o1
          have hz1 := hn1.le
          have k3 : w.heap.size + 1 < w1.heap.size := by omega
          go_wp2_with (fail)
          go_roundw
          case rel =>
            refine ⟨x + 1, by omega, by go_num, ?_, ?_, ?_, ?_⟩
            · obtain ⟨z, hz2⟩ := hz.out
              exact ⟨z, by rw [obj_setCell_other _ _ _ _ _ (by omega), hn1.objs _ k0, hz2]⟩
            · show _ = _
              rw [obj_setCell_same, o2]
              simp only [Option.map_some, reCell_cells, set_pic', paintU_step a b how y x (by omega) hlx hlt]
            · exact (hn.trans hn1).setCell (by show w.heap.size ≤ w.heap.size + 1; omega) _
            · rw [World.size_setCell]; omega
          case measure => simp [intOf]; omega
        · have hxa : (x : Int) = a := by omega
          go_wp2_with (fail)
          go_roundw
          case rel =>
            refine ⟨y + 1, by omega, by go_num, hz, ?_, hn, hlw⟩
            show _ = _
            rw [ho.out, pic_congr (fun i _ => paintU_row a b how y x hxa i)]
          case measure => simp [intOf]; omega
    · have hyb : (y : Int) = b := by omega
      obtain ⟨z, hz2⟩ := hz.out
      have o1 := ho.out
      have k0 : w.heap.size < wo.heap.size := by omega
      have k1 : w.heap.size + 1 < wo.heap.size := by omega
      clear hz
      go_wp2_with (fail)
      refine ret_cell agg27 rfl rfl (c := pic 144 a b (paintU a b how y 0)) (t := 27) (fr := (0, 0)) (by go_simp) size_pic rfl ⟨?_, ?_⟩
      · rw [pic_congr (fun i _ => paintU_all a b how y hyb i)]
      · exact hn.setRow (by omega) _
end Go.Proofs.Ytmmckoemkpfgbaa
