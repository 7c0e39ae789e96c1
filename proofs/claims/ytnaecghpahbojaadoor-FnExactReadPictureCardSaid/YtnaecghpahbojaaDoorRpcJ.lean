/- A picture read from its text: the program, walked; no condition. -/
import Derived.Test.YtnaecghpahbojaaDoorRpcI
import Derived.Test.YtnaecghpahbojaaDoorSel
set_option linter.unusedVariables false
namespace Go.Proofs.YtnaecghpahbojaaDoor
open Go.BigFrame
open Go.RowKit Go.Arr
theorem rdO_e {s : ByteArray} (h : rdO s = true) {y : Nat} (hy : y < (rwS s).length) : okRow (rwS s) (widN s) y = true := by
  cases h2 : okRow (rwS s) (widN s) y
  · rw [rdO_row hy h2] at h; cases h
  · rfl
theorem okRow_e {R : List (List UInt8)} {w y : Nat} (h : okRow R w y = true) : (R.getD y []).length = w := by
  by_cases e : (R.getD y []).length = w
  · exact e
  · rw [okRow_len e] at h; cases h
theorem rdO_bad {s : ByteArray} (h : badR (rwS s) (widN s) = true) : rdO s = false := by
  cases h2 : rdO s
  · rfl
  · rw [badR_f fun y hy => okRow_e (rdO_e h2 hy)] at h; cases h
/-- where a range over a text stands -/
def iterAt (w : World) (g : Nat) : Nat := match obj w g with
  | some (.stringIter _ p) => p
  | _ => 0
theorem iterAt_e {w : World} {g : Nat} {s : ByteArray} {p : Nat} (h : obj w g = some (.stringIter s p)) : iterAt w g = p := by
  unfold iterAt
  rw [h]
set_option maxHeartbeats 1000000 in
set_option maxRecDepth 100000 in
theorem readPic_impl (s : ByteArray) (hs : s.size ≤ 1048576) (m : Int) (W : World) (hm : W.cell? ⟨Tryd.laysM146_ren.g 1, 0, none⟩ = some (.int .i64 m)) :
    Calls Tryd.prog 6 #[.string s] W fun e w' => e = .returned (.tuple #[.agg (rdA s), .int .i64 (rdC s)]) ∧ New W w' := by
  have hgl := World.block_lt_of_cell? _ _ hm
  have hcnt := pcs_cnt 10 (restB s) (size_restB s hs)
  have hpos := pcs_pos 10 (restB s).data.toList
  go_enter Tryd.func6, Tryd.ntmps6
  go_wp2_with (fail)
  have hm0 : (W.alloc (Obj.cells (pic 144 0 0 fun _ => 0) 25)).cell? ⟨Tryd.laysM146_ren.g 1, 0, none⟩ = some (.int .i64 m) := by rw [((New.refl W).alloc _).cells _ _ hgl]; exact hm
  refine (rowsOf_any s hs m _ hm0).mono ?_
  rintro e w1 ⟨v1, R, rfl, hws, hR, hn0⟩
  have c2 : obj w1 W.heap.size = some (.cells (pic 144 0 0 fun _ => 0) 25) := (hn0.objs _ (by simp)).trans (obj_alloc_at _ _ _ rfl)
  have hn1 : New W w1 := ((New.refl W).alloc _).trans hn0
  rw [← hR] at hcnt hpos
  obtain ⟨x3, y3, rfl⟩ := hws.form
  have hws' := hide hws
  clear hn0 hws hm hm0 hgl
  cases hE : endB s
  · have hA := hide (rdA_f (rdO_end hE))
    have hC := hide (rdC_f (rdO_end hE))
    clear hE hR
    go_wp2_with (fail)
    refine ret_cell_tmp agg25 rfl rfl (c := pic 144 0 0 fun _ => 0) (t := 25) (fr := (0, 0)) (by rw [obj_setRow_same, c2]; simp only [Option.map_some, reCells_cells]) size_pic rfl ⟨by rw [hA.out, hC.out]; rfl, (hn1).setRow (by omega) _⟩
  have hRe : rwS s = R := by rw [hR, rest_rows hE]
  clear hR
  have hAf := hide (fun h => rdA_f (s := s) h)
  have hCf := hide (fun h => rdC_f (s := s) h)
  have hAt := hide (fun h => rdA_t (s := s) h)
  have hCt := hide (fun h => rdC_t (s := s) h)
  have hOs := hide (fun h => rdO_size (s := s) h)
  have hOr := hide (fun y hy h => rdO_row (s := s) (y := y) hy h)
  have hOk := hide (fun h h2 => rdO_ok (s := s) hE h h2)
  have hOb := hide (fun h => rdO_bad (s := s) h)
  obtain ⟨w, hwe⟩ : ∃ w, Hid (widN s = w) := ⟨_, rfl⟩
  have hw0 : (R.getD 0 []).length = w := by rw [← hRe]; exact hwe.out
  rw [hwe.out, hRe] at hAt hOs hOr hOk hOb
  rw [hw0]
  clear hE hw0
  cases hb : badR R w
  rotate_left
  · have hR := hOb.out hb
    have hA := hide (hAf.out hR)
    have hC := hide (hCf.out hR)
    clear hR hOr hOk hRe
    go_wp2_with (fail)
    refine ret_cell_tmp agg25 rfl rfl (c := pic 144 0 0 fun _ => 0) (t := 25) (fr := (0, 0)) (by rw [obj_setRow_same, c2]; simp only [Option.map_some, reCells_cells]) size_pic rfl ⟨by rw [hA.out, hC.out]; rfl, (hn1).setRow (by omega) _⟩
  cases hsz : isSizeB (w : Int) (R.length : Int)
  · have hR := hOs.out hsz
    have hA := hide (hAf.out hR)
    have hC := hide (hCf.out hR)
    clear hR hOr hOk hRe
    go_wp2_with (go_at_call 16; refine (isSize_any _ _ _).mono ?_; rintro e wz ⟨rfl, rfl⟩; rw [hsz])
    refine ret_cell_tmp agg25 rfl rfl (c := pic 144 0 0 fun _ => 0) (t := 25) (fr := (0, 0)) (by rw [obj_setRow_same, c2]; simp only [Option.map_some, reCells_cells]) size_pic rfl ⟨by rw [hA.out, hC.out]; rfl, (hn1).setRow (by omega) _⟩
  have hok2 := hide (hOk.out hsz)
  have hsz2 := hsz
  unfold isSizeB at hsz2
  rw [Bool.and_eq_true] at hsz2
  have hwb := inB_t.1 hsz2.1
  have hHb := inB_t.1 hsz2.2
  have hle := hide (fun y hy => badR_e (R := R) (w := w) (y := y) hb hy)
  obtain ⟨gs, cur, rfl, os, ls0, es0⟩ := hws'.out.slot (j := 0) hpos
  have lgs := obj_lt os
  have hcur : Hid (∀ y, y < R.length → ∃ l : y < cur.size, cur[y] = .string ⟨(R.getD y []).toArray⟩) := fun y hy => by
    obtain ⟨g2, cur2, he2, os2, l2, e2⟩ := hws'.out.slot (j := y) hy
    simp only [Option.some.injEq, Addr.mk.injEq, and_true] at he2
    subst he2
    rw [os] at os2
    simp only [Option.some.injEq, Obj.cells.injEq, and_true] at os2
    subst os2
    rw [getD_at2 hy]
    exact ⟨l2, e2⟩
  obtain ⟨H, hH⟩ : ∃ H, Hid (R.length = H) := ⟨_, rfl⟩
  rw [hH.out] at hcur hle hok2 hOr hHb hAt hcnt hsz ⊢
  have hw8 : IntKind.i8.wrap (w : Int) = w := by simp [IntKind.wrap, IntKind.bits, IntKind.signed]; omega
  have hH8 : IntKind.i8.wrap (H : Int) = H := by simp [IntKind.wrap, IntKind.bits, IntKind.signed]; omega
  clear hsz2 hOk hOs hOb hb ls0 es0 hws' hRe
  go_wp2_with (go_at_call 16; refine (isSize_any _ _ _).mono ?_; rintro e wz ⟨rfl, rfl⟩; rw [hsz])
  have ho0 : obj (w1.alloc (Obj.cells (pic 144 (w : Int) (H : Int) fun _ => 0) 25)) w1.heap.size = some (.cells (pic 144 w H (rdU R w 0 0)) 25) := by
    rw [obj_alloc_at _ _ _ rfl]
    exact congrArg (fun c => some (Obj.cells c 25)) (pic_congr fun j hj => by unfold rdU; rw [if_neg (by omega)])
  have hno : New w1 (w1.alloc (Obj.cells (pic 144 (w : Int) (H : Int) fun _ => 0) 25)) := (New.refl _).alloc _
  obtain ⟨gp, hgp⟩ : ∃ gp, Hid (w1.heap.size = gp) := ⟨_, rfl⟩
  rw [hgp.out] at ho0 ⊢
  have lgs2 : gs < gp := by rw [← hgp.out]; exact lgs
  have lWp : W.heap.size < gp := by rw [← hgp.out]; exact obj_lt c2
  clear hsz
  go_loopw [36] (fun x wr => ∃ y : Nat, y ≤ H ∧ x = .int .i64 (y : Nat) ∧ Hid (obj wr gp = some (.cells (pic 144 w H (rdU R w y 0)) 25)) ∧ Hid (∀ q, q < y → okRow R w q = true) ∧ New w1 wr) (fun x _ => H - (intOf x).toNat)
  case atStart => exact ⟨0, by omega, rfl, ho0, fun q hq => absurd hq (by omega), hno⟩
  case round =>
    obtain ⟨y, hy, rfl, hop, hal, hnw⟩ := hrel
    by_cases hly : y < H
    · obtain ⟨ly, ey⟩ := hcur.out y hly
      have hbt : Hid (∀ x, x < 12 → bAt ⟨(R.getD y []).toArray⟩ x = rbt R (x + 12 * y)) := fun x hx => by
        unfold rbt
        rw [show (x + 12 * y) / 12 = y by omega, show (x + 12 * y) % 12 = x by omega]
      have hln := hle.out y hly
      have hzs : (⟨(R.getD y []).toArray⟩ : ByteArray).size = w := by rw [← hln]; show (R.getD y []).toArray.size = _; simp
      have hRb := hide (fun x hx h => okRow_bt (R := R) (w := w) (y := y) (x := x) hx h)
      have hRt := hide (fun h => okRow_t (R := R) (w := w) (y := y) hln h)
      generalize (⟨(R.getD y []).toArray⟩ : ByteArray) = z at ey hbt hzs
      have ow := (hnw.objs _ lgs).trans os
      have lw := obj_lt ow
      have op := hop.out
      have lp := obj_lt op
      clear hop hln
      go_wp2_with (fail)
      generalize hw2 : wr.iter z 0 = w2
      have oi : obj w2 wr.heap.size = some (.stringIter z 0) := by rw [← hw2]; exact World.iter_heap _ _ _
      have hn2 : New wr w2 := by rw [← hw2]; exact (New.refl _).alloc _
      have op2 := (hn2.objs _ lp).trans op
      obtain ⟨gI, hgI⟩ : ∃ gI, Hid (wr.heap.size = gI) := ⟨_, rfl⟩
      rw [hgI.out] at oi lp lw ⊢
      have hN2 := hnw.trans hn2
      clear hw2 op ow hn2
      have lI : gI < w2.heap.size := obj_lt oi
      have hgw : w1.heap.size ≤ gI := by rw [hgp.out]; omega
      go_loopw [10] (fun x wq => ∃ k : Nat, k ≤ w ∧ Hid (obj wq gI = some (.stringIter z k)) ∧ Hid (obj wq gp = some (.cells (pic 144 w H (rdU R w y k)) 25)) ∧ Hid (∀ q, q < k → 0 ≤ letV (rbt R (q + 12 * y))) ∧ New w1 wq) (fun _ wq => w - iterAt wq gI)
      case atStart => exact ⟨0, by omega, oi, op2, fun q hq => absurd hq (by omega), hN2⟩
      case round =>
        obtain ⟨k, hk, hoi, hop, hlet, hnq⟩ := hrel
        clear oi op2 hN2 lI
        have oi := hoi.out
        have lI := obj_lt oi
        have hit := iterAt_e oi
        have op := hop.out
        have lp := obj_lt op
        have c3 := (hnq.objs _ (obj_lt c2)).trans c2
        by_cases hlk : k < w
        · have hkz : k < z.size := by omega
          have hb1 := bAt_get z k hkz
          have hb2 := hbt.out k (by omega)
          have hb3 := bAt_b z k
          rw [hb2] at hb1 hb3
          have hU2 := hide (fun kk h => rdU_put (R := R) (w := w) (y := y) (x := k) (by omega) (k := kk) h)
          have hal2 := hide (fun (h : 0 ≤ letV (rbt R (k + 12 * y))) => (fun q (hq : q < k + 1) => by
            by_cases e : q = k
            · rw [e]; exact h
            · exact hlet.out q (by omega) : ∀ q, q < k + 1 → 0 ≤ letV (rbt R (q + 12 * y))))
          have hRbk := hide (hRb.out k hlk)
          have hky : k + 12 * y < 144 := by omega
          have hlb := letV_b (rbt R (k + 12 * y))
          have hnx := fun ty => run_next_at (P := Tryd.prog) ty oi hkz
          have hasc : 0 ≤ letV (rbt R (k + 12 * y)) → Utf8.decode z k = ((z[k]'hkz).toNat, 1) := fun h => decode_ascii z k hkz (by
            unfold letV at h
            split at h
            · omega
            · split at h <;> omega)
          generalize rbt R (k + 12 * y) = b at hb1 hb3 hU2 hal2 hRbk hlb hasc
          clear hop hb2 hoi
          by_cases hpos2 : 0 ≤ letV b
          · have hU := hide (hU2.out _ rfl)
            have hA2 := hide (hal2.out hpos2)
            rw [hasc hpos2] at hnx
            have op3 : obj (putIter wr gI z (k + 1)) gp = _ := (obj_putIter_other (by omega)).trans op
            have oi3 : obj (putIter wr gI z (k + 1)) gI = _ := obj_putIter lI
            have hnq3 : New w1 (putIter wr gI z (k + 1)) := New.putIter hnq hgw
            have hwu : IntKind.u8.wrap (letV b) = letV b := by simp [IntKind.wrap, IntKind.bits, IntKind.signed]; omega
            clear hU2 hal2 hRbk hasc
            go_wp2_with (go_at_call 17; refine (letIndex_any _ hb3 _).mono ?_; rintro e wz ⟨rfl, rfl⟩)
            go_roundw
            case rel =>
              refine ⟨k + 1, by omega, ?_, ?_, hA2, hnq3.setCell (Nat.le_of_eq hgp.out) _⟩
              · show _ = _
                rw [obj_setCell_other _ _ _ _ _ (by omega)]
                exact oi3
              · show _ = _
                rw [obj_set_pic op3 _ _ _ rfl, pic_congr fun j _ => hU.out j]
            case measure =>
              rw [hit, iterAt_e (w := World.setCell (putIter wr gI z (k + 1)) _ _) ((obj_setCell_other _ _ _ _ _ (by omega)).trans oi3)]
              omega
          · have hR := hOr.out y hly (hRbk.out (by omega))
            have hA := hide (hAf.out hR)
            have hC := hide (hCf.out hR)
            clear hR hU2 hal2 hRbk hasc
            generalize Utf8.decode z k = D at hnx
            have c4 : obj (putIter wr gI z (k + D.2)) W.heap.size = _ := (obj_putIter_other (by omega)).trans c3
            have hnq4 : New w1 (putIter wr gI z (k + D.2)) := New.putIter hnq hgw
            have hln : letV b < 0 := by omega
            go_wp2_with (go_at_call 17; refine (letIndex_any _ hb3 _).mono ?_; rintro e wz ⟨rfl, rfl⟩)
            refine ret_cell_tmp agg25 rfl rfl (c := pic 144 0 0 fun _ => 0) (t := 25) (fr := (0, 0)) (by rw [obj_setRow_same, c4]; simp only [Option.map_some, reCells_cells]) size_pic rfl ⟨by rw [hA.out, hC.out]; rfl, (hn1.trans hnq4).setRow (by omega) _⟩
        · have hke : k = w := by omega
          have hnx := fun ty => run_next_fin (P := Tryd.prog) ty oi (show ¬ k < z.size by omega)
          have hokr := hide (hRt.out (by rw [← hke]; exact hlet.out))
          have op3 : obj wr gp = some (.cells (pic 144 w H (rdU R w (y + 1) 0)) 25) := by rw [op, hke, pic_congr fun j _ => rdU_row]
          have hal3 : Hid (∀ q, q < y + 1 → okRow R w q = true) := fun q hq => by
            by_cases e : q = y
            · rw [e]; exact hokr.out
            · exact hal.out q (by omega)
          clear hke op hop hoi hit
          go_wp2_with (fail)
          go_roundw
          case rel => exact ⟨y + 1, by omega, by go_num, op3, hal3, hnq⟩
          case measure => simp [intOf]; omega
    · have hye : y = H := by omega
      have hR := hok2.out (by rw [← hye]; exact hal.out)
      have op : obj wr gp = some (.cells (pic 144 w H (rdU R w H 0)) 25) := by rw [hop.out, hye]
      have hA := hide (hAt.out hR)
      have hC := hide (hCt.out hR)
      have c3 := (hnw.objs _ (obj_lt c2)).trans c2
      clear hR hye hop
      go_wp2_with (fail)
      refine ret_cell_tmp agg25 rfl rfl (c := pic 144 w H (rdU R w H 0)) (t := 25) (fr := (0, 0)) (by rw [obj_setRow_same, c3]; simp only [Option.map_some, reCells_cells]) size_pic rfl ⟨by rw [hA.out, hC.out]; rfl, (hn1.trans hnw).setRow (by omega) _⟩
end Go.Proofs.YtnaecghpahbojaaDoor
