/- A picture read from its text: the reference, walked; no condition. -/
import Derived.Test.YtnaecghpahbojaaDoorRpcP
import Derived.Test.YtnaecghpahbojaaDoorEqP
import Derived.Test.YtnaecghpahbojaaDoorSel
set_option linter.unusedVariables false
namespace Go.Proofs.YtnaecghpahbojaaDoor
open Go.BigFrame
open Go.RowKit Go.Arr
theorem l00In_k2 {k : Bool} {n lo hi : Int} (h : inB n lo hi = k) (w : World) : Calls Tryd.prog 14 #[.int .i64 n, .int .i64 lo, .int .i64 hi] w fun e w' => e = .returned (.bool k) ∧ w = w' := by
  subst h
  exact l00In_any n lo hi w
set_option maxHeartbeats 1000000 in
set_option maxRecDepth 100000 in
theorem readPic_spec (s : ByteArray) (hs : s.size ≤ 1048576) (W : World) :
    Calls Tryd.prog 5 #[.string s] W fun e w' => e = .returned (.tuple #[.agg (rdA s), .int .i64 (rdC s)]) ∧ New W w' := by
  have hlf := hide (fun h => lines_f (s := s) h)
  have hlt := hide (fun h => lines_t (s := s) h)
  have hcnt : (pcs 10 s.data.toList).length ≤ 1048577 := by
    rw [pcs_len]
    have h1 : s.data.toList.count 10 ≤ s.data.toList.length := List.count_le_length
    have h2 : s.data.toList.length = s.size := by simp
    omega
  have hp0 := pcs_pos 10 s.data.toList
  go_enter Tryd.func5, Tryd.ntmps5
  go_wp2_with (fail)
  refine (l01Split_any 10 s hs _).mono ?_
  rintro e w1 ⟨v1, rfl, hws, hn0⟩
  have c2 : obj w1 W.heap.size = some (.cells (pic 144 0 0 fun _ => 0) 25) := (hn0.objs _ (by simp)).trans (obj_alloc_at _ _ _ rfl)
  have hn1 : New W w1 := ((New.refl W).alloc _).trans hn0
  clear hn0
  generalize pcs 10 s.data.toList = L at hws hlf hlt hcnt hp0
  obtain ⟨H, hH⟩ : ∃ H, L.length = H + 1 := ⟨L.length - 1, by omega⟩
  obtain ⟨x3, y3, rfl⟩ := hws.form
  obtain ⟨gs, cur, rfl, os, ls0, es0⟩ := hws.slot (j := 0) (by omega)
  obtain ⟨gs', cur', he, os', lsH, esH⟩ := hws.slot (j := H) (by omega)
  simp only [Option.some.injEq, Addr.mk.injEq, and_true] at he
  subst he
  rw [os] at os'
  simp only [Option.some.injEq, Obj.cells.injEq, and_true] at os'
  subst os'
  have lgs := obj_lt os
  obtain ⟨z0, hz0⟩ : ∃ z : ByteArray, Hid (z = ⟨L[0].toArray⟩) := ⟨⟨L[0].toArray⟩, (rfl : (⟨L[0].toArray⟩ : ByteArray) = ⟨L[0].toArray⟩)⟩
  obtain ⟨zH, hzH⟩ : ∃ z : ByteArray, Hid (z = ⟨L[H].toArray⟩) := ⟨⟨L[H].toArray⟩, (rfl : (⟨L[H].toArray⟩ : ByteArray) = ⟨L[H].toArray⟩)⟩
  replace es0 : cur[0] = .string z0 := by rw [hz0.out]; exact es0
  replace esH : cur[H] = .string zH := by rw [hzH.out]; exact esH
  have hws' := hide hws
  have hzHe : zH.toList = [] ↔ L[H] = [] := by rw [Lib.toList_data, hzH.out]
  have hH2 : H ≤ 1048576 := by omega
  replace hzHe := hide hzHe
  rw [hH]
  cases hE : endB s
  · have hR := rdO_end hE
    have hA := hide (rdA_f hR)
    have hC := hide (rdC_f hR)
    have hor : Hid (zH.toList = [] → H = 0) := fun hz => by
      rcases hlf.out hE with h | ⟨v, ls, h1, h2⟩
      · omega
      · have h3 := hzHe.out.1 hz
        have h4 : ls.length = H := by rw [h1, List.length_append, List.length_singleton] at hH; omega
        have h5 : L[H]? = some v := by rw [h1, ← h4]; simp
        rw [List.getElem?_eq_getElem (by omega), h3] at h5
        exact absurd (Option.some.inj h5).symm h2
    clear hR hE hlf hlt hzHe hz0 hzH
    by_cases hz : zH.toList = []
    · have hH0 := hor.out hz
      have hin : inB (H : Int) 1 12 = false := inB_f.2 (Or.inl (by omega))
      have hze : zH.toList.isEmpty = true := by rw [hz]; rfl
      replace hH0 := hide hH0
      go_wp2_with (go_at_call 14; refine (l00In_k2 hin _).mono ?_; rintro e wz ⟨rfl, rfl⟩)
      refine ret_cell_tmp agg25 rfl rfl (c := pic 144 0 0 fun _ => 0) (t := 25) (fr := (0, 0)) (by rw [obj_setRow_same, c2]; simp only [Option.map_some, reCells_cells]) size_pic rfl ⟨by rw [hA.out, hC.out]; rfl, (hn1).setRow (by omega) _⟩
    · have hze : zH.toList.isEmpty = false := by cases h : zH.toList with | nil => exact absurd h hz | cons _ _ => rfl
      go_wp2_with (fail)
      refine ret_cell_tmp agg25 rfl rfl (c := pic 144 0 0 fun _ => 0) (t := 25) (fr := (0, 0)) (by rw [obj_setRow_same, c2]; simp only [Option.map_some, reCells_cells]) size_pic rfl ⟨by rw [hA.out, hC.out]; rfl, (hn1).setRow (by omega) _⟩
  have hLR := hlt.out hE
  have hHR : H = (rwS s).length := by rw [hLR, List.length_append, List.length_singleton] at hH; omega
  have hLy : ∀ y, y < (rwS s).length → L[y]? = some ((rwS s).getD y []) := fun y h => by
    rw [hLR, List.getElem?_append_left h, List.getD_eq_getElem?_getD, List.getElem?_eq_getElem h]
    rfl
  have hz : zH.toList = [] := hzHe.out.2 (by
    have h1 : L[H]? = some [] := by rw [hLR, hHR]; simp
    rw [List.getElem?_eq_getElem (by omega)] at h1
    exact Option.some.inj h1)
  have hze : zH.toList.isEmpty = true := by rw [hz]; rfl
  have hOs := hide (fun h => rdO_size (s := s) h)
  have hOr := hide (fun y hy h => rdO_row (s := s) (y := y) hy h)
  have hOk := hide (fun h h2 => rdO_ok (s := s) hE h h2)
  have hAf := hide (fun h => rdA_f (s := s) h)
  have hCf := hide (fun h => rdC_f (s := s) h)
  have hAt := hide (fun h => rdA_t (s := s) h)
  have hCt := hide (fun h => rdC_t (s := s) h)
  replace hLy := hide hLy
  clear hlf hlt hzHe hE
  cases hin : inB (H : Int) 1 12
  · have hR : rdO s = false := hOs.out (by unfold isSizeB; rw [← hHR, hin, Bool.and_false])
    have hA := hide (hAf.out hR)
    have hC := hide (hCf.out hR)
    clear hR hLR hHR hOr hOk
    go_wp2_with (go_at_call 14; refine (l00In_k2 hin _).mono ?_; rintro e wz ⟨rfl, rfl⟩)
    refine ret_cell_tmp agg25 rfl rfl (c := pic 144 0 0 fun _ => 0) (t := 25) (fr := (0, 0)) (by rw [obj_setRow_same, c2]; simp only [Option.map_some, reCells_cells]) size_pic rfl ⟨by rw [hA.out, hC.out]; rfl, (hn1).setRow (by omega) _⟩
  have hHb := inB_t.1 hin
  have hwd : z0.size = widN s := by
    rw [hz0.out]
    show L[0].toArray.size = _
    unfold widN
    have h1 := hLy.out 0 (by omega)
    rw [List.getElem?_eq_getElem (by omega)] at h1
    rw [List.size_toArray, Option.some.inj h1]
  obtain ⟨w, hwe⟩ : ∃ w, Hid (widN s = w) := ⟨_, rfl⟩
  rw [hwe.out] at hwd hOs hOr hOk hAt
  cases hin2 : inB (w : Int) 1 12
  · have hR : rdO s = false := hOs.out (by unfold isSizeB; rw [hin2]; rfl)
    have hA := hide (hAf.out hR)
    have hC := hide (hCf.out hR)
    clear hR hLR hHR hOr hOk
    go_wp2_with (go_at_call 14; refine (l00In_any _ _ _ _).mono ?_; rintro e wz ⟨rfl, rfl⟩; (first | rw [hin] | rw [hin2]))
    refine ret_cell_tmp agg25 rfl rfl (c := pic 144 0 0 fun _ => 0) (t := 25) (fr := (0, 0)) (by rw [obj_setRow_same, c2]; simp only [Option.map_some, reCells_cells]) size_pic rfl ⟨by rw [hA.out, hC.out]; rfl, (hn1).setRow (by omega) _⟩
  have hwb := inB_t.1 hin2
  have hsz : isSizeB (w : Int) (rwS s).length = true := by unfold isSizeB; rw [← hHR, hin, hin2]; rfl
  obtain ⟨R, hRe⟩ : ∃ R, Hid (rwS s = R) := ⟨_, rfl⟩
  rw [hRe.out] at hHR hLy hOr hOk hAt hsz
  have hok2 := hide (hOk.out hsz)
  have hw8 : IntKind.i8.wrap (w : Int) = w := by simp [IntKind.wrap, IntKind.bits, IntKind.signed]; omega
  have hH8 : IntKind.i8.wrap (H : Int) = H := by simp [IntKind.wrap, IntKind.bits, IntKind.signed]; omega
  rw [← hHR] at hLy hOr hok2 hAt
  replace hHR := hide hHR
  clear hsz hOk hOs hLR hz0 hzH
  go_wp2_with (go_at_call 14; refine (l00In_any _ _ _ _).mono ?_; rintro e wz ⟨rfl, rfl⟩; (first | rw [hin] | rw [hin2]))
  have ho0 : obj (w1.alloc (Obj.cells (pic 144 (w : Int) (H : Int) fun _ => 0) 25)) w1.heap.size = some (.cells (pic 144 w H (rdU R w 0 0)) 25) := by
    rw [obj_alloc_at _ _ _ rfl]
    exact congrArg (fun c => some (Obj.cells c 25)) (pic_congr fun j hj => by unfold rdU; rw [if_neg (by omega)])
  have hno : New w1 (w1.alloc (Obj.cells (pic 144 (w : Int) (H : Int) fun _ => 0) 25)) := (New.refl _).alloc _
  obtain ⟨gp, hgp⟩ : ∃ gp, Hid (w1.heap.size = gp) := ⟨_, rfl⟩
  rw [hgp.out] at ho0 ⊢
  have lgs2 : gs < gp := by rw [← hgp.out]; exact lgs
  have lWp : W.heap.size < gp := by rw [← hgp.out]; exact obj_lt c2
  have hcur : Hid (∀ y, y < H → ∃ l : y < cur.size, cur[y] = .string ⟨(R.getD y []).toArray⟩) := fun y hy => by
    obtain ⟨g2, cur2, he2, os2, l2, e2⟩ := hws'.out.slot (j := y) (by omega)
    simp only [Option.some.injEq, Addr.mk.injEq, and_true] at he2
    subst he2
    rw [os] at os2
    simp only [Option.some.injEq, Obj.cells.injEq, and_true] at os2
    subst os2
    have h1 := hLy.out y hy
    rw [List.getElem?_eq_getElem (by omega)] at h1
    rw [Option.some.inj h1] at e2
    exact ⟨l2, e2⟩
  clear hws' es0 esH lsH ls0
  go_loopw [8] (fun x wr => ∃ y : Nat, y ≤ H ∧ x = .int .i64 (y : Nat) ∧ Hid (obj wr gp = some (.cells (pic 144 w H (rdU R w y 0)) 25)) ∧ Hid (∀ q, q < y → okRow R w q = true) ∧ New w1 wr) (fun x _ => H - (intOf x).toNat)
  case atStart => exact ⟨0, by omega, rfl, ho0, fun q hq => absurd hq (by omega), hno⟩
  case round =>
    obtain ⟨y, hy, rfl, hop, hal, hnw⟩ := hrel
    by_cases hly : y < H
    · obtain ⟨ly, ey⟩ := hcur.out y hly
      have hrl : Hid (∀ x, x < (R.getD y []).length → bAt ⟨(R.getD y []).toArray⟩ x = bAt ⟨(R.getD y []).toArray⟩ x) := fun _ _ => rfl
      have hbt : Hid (∀ x, x < 12 → bAt ⟨(R.getD y []).toArray⟩ x = rbt R (x + 12 * y)) := fun x hx => by
        unfold rbt
        rw [show (x + 12 * y) / 12 = y by omega, show (x + 12 * y) % 12 = x by omega]
      have hzs : (⟨(R.getD y []).toArray⟩ : ByteArray).size = (R.getD y []).length := by show (R.getD y []).toArray.size = _; simp
      have hRl := hide (fun h => okRow_len (R := R) (w := w) (y := y) h)
      have hRb := hide (fun x hx h => okRow_bt (R := R) (w := w) (y := y) (x := x) hx h)
      have hRt := hide (fun h1 h => okRow_t (R := R) (w := w) (y := y) h1 h)
      generalize (⟨(R.getD y []).toArray⟩ : ByteArray) = z at ey hbt hzs
      generalize (R.getD y []).length = ln at hzs hRl hRt
      have ow := (hnw.objs _ lgs).trans os
      have lw := obj_lt ow
      have op := hop.out
      have lp := obj_lt op
      have c3 := (hnw.objs _ (obj_lt c2)).trans c2
      clear hrl
      by_cases hln : ln = w
      rotate_left
      · have hR := hOr.out y hly (hRl.out hln)
        have hA := hide (hAf.out hR)
        have hC := hide (hCf.out hR)
        have hd : ((ln : Int) != (w : Int)) = true := by simp; omega
        clear hR hop
        go_wp2_with (fail)
        refine ret_cell_tmp agg25 rfl rfl (c := pic 144 0 0 fun _ => 0) (t := 25) (fr := (0, 0)) (by rw [obj_setRow_same, c3]; simp only [Option.map_some, reCells_cells]) size_pic rfl ⟨by rw [hA.out, hC.out]; rfl, (hn1.trans hnw).setRow (by omega) _⟩
      · subst hln
        have hd : ((ln : Int) != (ln : Int)) = false := by simp
        clear hop hRl
        go_wp2_with (fail)
        go_loopw [9] (fun x wq => ∃ k : Nat, k ≤ ln ∧ x = .int .i64 (k : Nat) ∧ Hid (obj wq gp = some (.cells (pic 144 ln H (rdU R ln y k)) 25)) ∧ Hid (∀ q, q < k → 0 ≤ letV (rbt R (q + 12 * y))) ∧ New w1 wq) (fun x _ => ln - (intOf x).toNat)
        case atStart => exact ⟨0, by omega, rfl, op, fun q hq => absurd hq (by omega), hnw⟩
        case round =>
          obtain ⟨k, hk, rfl, hop, hlet, hnq⟩ := hrel
          clear op lp c3 ow lw
          have ow := (hnq.objs _ lgs).trans os
          have lw := obj_lt ow
          have op := hop.out
          have lp := obj_lt op
          have c3 := (hnq.objs _ (obj_lt c2)).trans c2
          by_cases hlk : k < ln
          · have hkz : k < z.size := by omega
            have hb1 := bAt_get z k hkz
            have hb2 := hbt.out k (by omega)
            have hb3 := bAt_b z k
            rw [hb2] at hb1 hb3
            have hU1 := hide (fun h => rdU_dot (R := R) (w := ln) (y := y) (x := k) (by omega) h)
            have hU2 := hide (fun kk h => rdU_put (R := R) (w := ln) (y := y) (x := k) (by omega) (k := kk) h)
            have hal2 := hide (fun (h : 0 ≤ letV (rbt R (k + 12 * y))) => (fun q (hq : q < k + 1) => by
              by_cases e : q = k
              · rw [e]; exact h
              · exact hlet.out q (by omega) : ∀ q, q < k + 1 → 0 ≤ letV (rbt R (q + 12 * y))))
            have hRbk := hide (hRb.out k hlk)
            have hky : k + 12 * y < 144 := by omega
            generalize rbt R (k + 12 * y) = b at hb1 hb3 hU1 hU2 hal2 hRbk
            clear hop hb2
            by_cases h46 : b = 46
            · have hl0 : letV b = 0 := if_pos h46
              have hd1 : (b == 46) = true := by simp [h46]
              have hU := hide (hU1.out hl0)
              have hA2 := hide (hal2.out (by omega))
              subst h46
              clear hU1 hU2 hal2 hRbk hl0
              go_wp2_with (fail)
              go_roundw
              case rel => exact ⟨k + 1, by omega, by go_num, by show _ = _; rw [op, pic_congr fun j _ => hU.out j], hA2, hnq⟩
              case measure => simp [intOf]; omega
            · have hd1 : (b == 46) = false := by simp [h46]
              by_cases h97 : 97 ≤ b ∧ b ≤ 111
              · have hl0 : letV b = b - 96 := by unfold letV; rw [if_neg h46, if_pos h97]
                have hU := hide (hU2.out _ hl0)
                have hA2 := hide (hal2.out (by omega))
                have h97a := h97.1
                have h97b := h97.2
                have hw1 : IntKind.u8.wrap (b - 97) = b - 97 := by simp [IntKind.wrap, IntKind.bits, IntKind.signed]; omega
                have hw2 : IntKind.u8.wrap (b - 97 + 1) = b - 97 + 1 := by simp [IntKind.wrap, IntKind.bits, IntKind.signed]; omega
                clear hU1 hU2 hal2 hRbk hl0 h97
                go_wp2_with (fail)
                go_roundw
                case rel =>
                  refine ⟨k + 1, by omega, by go_num, ?_, hA2, hnq.setCell (Nat.le_of_eq hgp.out) _⟩
                  show _ = _
                  rw [obj_set_pic op _ _ _ rfl, show b - 97 + 1 = b - 96 by omega, pic_congr fun j _ => hU.out j]
                case measure => simp [intOf]; omega
              · have hl0 : letV b = -1 := by unfold letV; rw [if_neg h46, if_neg h97]
                have hR := hOr.out y hly (hRbk.out (by omega))
                have hA := hide (hAf.out hR)
                have hC := hide (hCf.out hR)
                clear hR hU1 hU2 hal2 hRbk hl0
                have hor : b < 97 ∨ 111 < b := by omega
                clear h97
                rcases hor with h97 | h97
                · go_wp2_with (fail)
                  refine ret_cell_tmp agg25 rfl rfl (c := pic 144 0 0 fun _ => 0) (t := 25) (fr := (0, 0)) (by rw [obj_setRow_same, c3]; simp only [Option.map_some, reCells_cells]) size_pic rfl ⟨by rw [hA.out, hC.out]; rfl, (hn1.trans hnq).setRow (by omega) _⟩
                · have h98 : 97 ≤ b := by omega
                  go_wp2_with (fail)
                  refine ret_cell_tmp agg25 rfl rfl (c := pic 144 0 0 fun _ => 0) (t := 25) (fr := (0, 0)) (by rw [obj_setRow_same, c3]; simp only [Option.map_some, reCells_cells]) size_pic rfl ⟨by rw [hA.out, hC.out]; rfl, (hn1.trans hnq).setRow (by omega) _⟩
          · have hke : k = ln := by omega
            have hokr := hide (hRt.out trivial (by rw [← hke]; exact hlet.out))
            have op2 : obj wr gp = some (.cells (pic 144 ln H (rdU R ln (y + 1) 0)) 25) := by rw [op, hke, pic_congr fun j _ => rdU_row]
            have hal3 : Hid (∀ q, q < y + 1 → okRow R ln q = true) := fun q hq => by
              by_cases e : q = y
              · rw [e]; exact hokr.out
              · exact hal.out q (by omega)
            clear hke op hop
            go_wp2_with (fail)
            go_roundw
            case rel => exact ⟨y + 1, by omega, by go_num, op2, hal3, hnq⟩
            case measure => simp [intOf]; omega
    · have hye : y = H := by omega
      have hR := hok2.out (by rw [← hye]; exact hal.out)
      have op : obj wr gp = some (.cells (pic 144 w H (rdU R w H 0)) 25) := by rw [hop.out, hye]
      have hA := hide (hAt.out hR)
      have hC := hide (hCt.out hR)
      have c3 := (hnw.objs _ (obj_lt c2)).trans c2
      clear hR hye hop
      go_wp2_with (fail)
      refine ret_cell_tmp agg25 rfl rfl (c := pic 144 w H (rdU R w H 0)) (t := 25) (fr := (0, 0)) (by rw [obj_setRow_same, c3]; simp only [Option.map_some, reCells_cells]) size_pic rfl ⟨by rw [hA.out, hC.out]; rfl, (hn1.trans hnw).setRow (by omega) _⟩
end Go.Proofs.YtnaecghpahbojaaDoor
