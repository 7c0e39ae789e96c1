/- Pictures whose errors are spread: what the program returns; no condition. -/
import Derived.Test.YtphjhegaplochaaGreatDoorU20
set_option linter.unusedVariables false
namespace Go.Proofs.YtphjhegaplochaaGreatDoor
open Go.BigFrame
open Go.RowKit Go.Arr
attribute [local go_sem ↓] lvSums svSums
attribute [local go_sem] ldSums stSums
attribute [local go_sem high] ixSums ixTone ixParts
theorem p_eq (j : Nat) (hj : j < 12) : upd (upd (upd (upd (upd (upd (upd (upd (upd (upd (upd (upd (fun _ => 0) 0 1) 1 0) 2 7) 3 (-1)) 4 1) 5 3) 6 0) 7 1) 8 5) 9 1) 10 1) 11 1 j = pD j := by
  have h : j = 0 ∨ j = 1 ∨ j = 2 ∨ j = 3 ∨ j = 4 ∨ j = 5 ∨ j = 6 ∨ j = 7 ∨ j = 8 ∨ j = 9 ∨ j = 10 ∨ j = 11 := by omega
  rcases h with rfl | rfl | rfl | rfl | rfl | rfl | rfl | rfl | rfl | rfl | rfl | rfl <;> rfl
theorem cl_if (x : Int) : (if (if 255 < x then 255 else x) < 0 then 0 else if 255 < x then 255 else x) = clD x := by
  unfold clD
  repeat' split
  all_goals omega
theorem cl_mm (x : Int) : max (min x 255) 0 = clD x := by
  unfold clD
  split
  · omega
  · split <;> omega
set_option maxHeartbeats 2000000 in
set_option maxRecDepth 1000000 in
theorem spread_impl (a b : Int) (fm : Nat → Int) (ha : -128 ≤ a ∧ a ≤ 127) (hb : -128 ≤ b ∧ b ≤ 127) (hfm : ∀ i, 0 ≤ fm i ∧ fm i ≤ 255) (ad : Option Addr) (n cp : Nat) (fp : Nat → Int) (hfp : ∀ i, 0 ≤ fp i ∧ fp i ≤ 255) (hn : n ≤ 1048576) (hcp : n ≤ cp) (W : World) (hs : Sl W (.slice ad n cp) n 3 .u8 fp) :
    Calls Tryz.prog 13 #[.agg (pic 432 a b fm), .slice ad n cp] W fun e w' => e = .returned (.tuple #[.agg (sprA a b fm n fp), .int .i64 (sprC a b fm n fp)]) ∧ New W w' := by
  go_enter Tryz.func13, Tryz.ntmps13
  go_wp2_with (fail)
  generalize hw0 : ((W.alloc (Obj.cells (pic 432 a b fm) 29)).alloc (Obj.cells (pic 144 0 0 fun _ => 0) 39)) = w0
  have b1 : obj w0 W.heap.size = some (.cells (pic 432 a b fm) 29) := by subst hw0; go_simp
  have b2 : obj w0 (W.heap.size + 1) = some (.cells (pic 144 0 0 fun _ => 0) 39) := by subst hw0; go_simp
  have hn0 : New W w0 := by subst hw0; exact ((New.refl W).alloc _).alloc _
  have hs0 := hs.new hn0
  clear hw0 hs
  refine (validImage_impl a b fm ha hb _).mono ?_
  rintro e wA ⟨rfl, hn1⟩
  have c1 := (hn1.objs _ (obj_lt b1)).trans b1
  have c2 := (hn1.objs _ (obj_lt b2)).trans b2
  have hs1 := hs0.new hn1
  have hN1 := hn0.trans hn1
  clear b1 b2 hs0 hn0 hn1
  cases h1 : okImg a b fm
  · have hok : askOk a b fm n fp = false := by unfold askOk; rw [h1]; rfl
    have hC : sprC a b fm n fp = 1 := if_neg (by rw [hok]; simp)
    have hA : sprA a b fm n fp = pic 144 0 0 fun _ => 0 := if_neg (by rw [hok]; simp)
    go_wp2_with (fail)
    refine ret_cell_tmp agg39 rfl rfl (c := pic 144 0 0 fun _ => 0) (t := 39) (fr := (0, 0)) (by rw [obj_setRow_same, c2]; simp only [Option.map_some, reCells_cells]) size_pic rfl ⟨by rw [hA, hC]; rfl, hN1.setRow (by omega) _⟩
  go_wp2_with (fail)
  refine (validPal_impl _ n _ fp hn hcp _ hs1).mono ?_
  rintro e wB ⟨rfl, hn2⟩
  have d1 := (hn2.objs _ (obj_lt c1)).trans c1
  have d2 := (hn2.objs _ (obj_lt c2)).trans c2
  have hs2 := hs1.new hn2
  have hN2 := hN1.trans hn2
  clear c1 c2 hs1 hN1 hn2
  cases h2 : okPal n fp
  · have hok : askOk a b fm n fp = false := by unfold askOk; rw [h1, h2]; rfl
    have hC : sprC a b fm n fp = 1 := if_neg (by rw [hok]; simp)
    have hA : sprA a b fm n fp = pic 144 0 0 fun _ => 0 := if_neg (by rw [hok]; simp)
    go_wp2_with (fail)
    refine ret_cell_tmp agg39 rfl rfl (c := pic 144 0 0 fun _ => 0) (t := 39) (fr := (0, 0)) (by rw [obj_setRow_same, d2]; simp only [Option.map_some, reCells_cells]) size_pic rfl ⟨by rw [hA, hC]; rfl, hN2.setRow (by omega) _⟩
  have hok : askOk a b fm n fp = true := by unfold askOk; rw [h1, h2]; rfl
  have hab := okImg_ab h1
  have hpos := okPal_pos h2
  have hC : sprC a b fm n fp = 0 := if_pos hok
  have hA : sprA a b fm n fp = pic 144 a b (spD n a b fm fp 144).2 := if_pos hok
  rw [← spT_end] at hA
  replace hA := hide hA
  replace hC := hide hC
  clear h1 h2 hok
  have c1 := hide d1
  have c2 := hide d2
  have hs1 := hide hs2
  have lt1 := obj_lt d1
  have lt2 := obj_lt d2
  clear hs2 d2
  go_wp2_with (fail)
  go_loopw [37] (fun i wr => ∃ k : Nat, k ≤ 144 ∧ i = .int .i64 k ∧ Hid (obj wr wB.heap.size = some (.cells (arr 432 .i64 fun j => if j < k * 3 then fm j else 0) 84)) ∧ New wB wr ∧ wB.heap.size < wr.heap.size) (fun i _ => 144 - (intOf i).toNat)
  case atStart => exact ⟨0, by omega, rfl, by show _ = _; go_simp, ((New.refl _).alloc _), by simp⟩
  case round =>
    obtain ⟨k, hk, rfl, ho, hnw, hlw⟩ := hrel
    by_cases hlt : k < 144
    · have o1 := ho.out
      clear ho
      go_wp2_with (fail)
      try simp only [show decide ((k : Int) < 144) = true from decide_eq_true (by omega)]
      rw [show (#[.int .u8 (fm (k * 3)), .int .u8 (fm (k * 3 + 1)), .int .u8 (fm (k * 3 + 2))] : Array Value) = arr 3 .u8 (fun j => fm (k * 3 + j)) from rfl]
      go_loopw [42] (fun i wq => ∃ q : Nat, q ≤ 3 ∧ i = .int .i64 q ∧ Hid (obj wq wB.heap.size = some (.cells (arr 432 .i64 fun j => if j < k * 3 + q then fm j else 0) 84)) ∧ New wB wq ∧ wB.heap.size < wq.heap.size) (fun i _ => 3 - (intOf i).toNat)
      case atStart => exact ⟨0, by omega, rfl, by show _ = _; exact (obj_alloc_past _ _ _ hlw).trans o1, hnw.alloc _, by simp; omega⟩
      case round =>
        obtain ⟨q, hq, rfl, ho, hnw, hlw⟩ := hrel
        by_cases hlq : q < 3
        · have o2 := ho.out
          have hfq := hfm (k * 3 + q)
          have hkq : k * 3 + q < 432 := by omega
          have hwr : IntKind.i64.wrap (fm (k * 3 + q)) = fm (k * 3 + q) := wrap_i (by omega)
          clear ho o1
          go_wp2_with (fail)
          go_roundw
          case rel =>
            refine ⟨q + 1, by omega, by go_num, ?_, hnw.setCell (Nat.le_refl _) _, by simp only [World.size_setCell]; omega⟩
            show _ = _
            rw [obj_set_arr o2 _ (k * 3 + q) _ rfl]
            congr 2
            refine arr_congr fun j hj => ?_
            unfold upd
            by_cases e : j = k * 3 + q
            · subst e; simp
            · rw [if_neg e]; dsimp only
              by_cases e2 : j < k * 3 + q
              · rw [if_pos e2, if_pos (by omega)]
              · rw [if_neg e2, if_neg (by omega)]
          case measure => simp [intOf]; omega
        · have hq0 : q = 3 := by omega
          have o3 : obj wr wB.heap.size = some (.cells (arr 432 .i64 fun j => if j < (k + 1) * 3 then fm j else 0) 84) := by
            rw [ho.out, hq0, show (k + 1) * 3 = k * 3 + 3 by omega]
          clear hq0 ho o1
          go_wp2_with (fail)
          go_roundw
          case rel => exact ⟨k + 1, by omega, by go_num, o3, hnw, hlw⟩
          case measure => simp [intOf]; omega
    · have hk0 : k = 144 := by omega
      have oa : obj wr wB.heap.size = some (.cells (arr 432 .i64 (spT n a b fm fp 0).1) 84) := by
        rw [ho.out, arr_congr (g := fm) fun j hj => if_pos (show j < k * 3 by omega)]
        rfl
      clear hk0
      rename_i k0 _
      have om := (hnw.objs _ lt1).trans c1.out
      have lo := obj_lt om
      go_wp2_with (fail)
      have og : obj (wr.alloc (Obj.cells (pic 144 a b fun _ => 0) 39)) wr.heap.size = some (.cells (pic 144 a b (spT n a b fm fp 0).2) 39) := obj_alloc_at _ _ _ rfl
      obtain ⟨B, hB⟩ : ∃ B, Hid (wr.heap.size = B) := ⟨_, rfl⟩
      rw [hB.out] at og hlw lo ⊢
      generalize hw5 : wr.alloc (Obj.cells (pic 144 a b fun _ => 0) 39) = w5 at og ⊢
      have oa5 : obj w5 wB.heap.size = some (.cells (arr 432 .i64 (spT n a b fm fp 0).1) 84) := by rw [← hw5]; exact (obj_alloc_past _ _ _ (obj_lt oa)).trans oa
      have om5 : obj w5 W.heap.size = some (.cells (pic 432 a b fm) 29) := by rw [← hw5]; exact (obj_alloc_past _ _ _ (obj_lt om)).trans om
      have hN5 : New wB w5 := by rw [← hw5]; exact hnw.alloc _
      have hz5 : w5.heap.size = B + 1 := by rw [← hw5, World.size_alloc, hB.out]
      clear hw5 oa om hnw hB ho
      refine (cells_any a b fm ha hb _).mono ?_
      rintro e w6 ⟨v, rfl, hrow, hn6⟩
      obtain ⟨x1, y1, rfl, _⟩ := hrow.reads
      have oa6 := (hn6.objs _ (obj_lt oa5)).trans oa5
      have og6 := (hn6.objs _ (obj_lt og)).trans og
      have hN6 := hN5.trans hn6
      have hle := selN_le (p := cellN a b) 144
      have hsel := hide (selG_lt (p := cellN a b) 144)
      have hsp := hide (fun t => spT_s n a b fm fp t)
      clear oa5 og om5 hN5 hn6
      go_wp2_with (fail)
      replace hA := hA.out
      generalize selN (cellN a b) 144 = N at hrow hle hsel hA ⊢
      replace hA := hide hA
      obtain ⟨S, hS⟩ : ∃ S, Hid (S = spT n a b fm fp) := ⟨_, rfl⟩
      rw [← hS.out] at oa6 og6 hsp
      replace hA := hA.out
      rw [← hS.out] at hA
      replace hA := hide hA
      clear hS
      go_loopw [62] (fun i wq => ∃ t : Nat, t ≤ N ∧ i = .int .i64 t ∧ Hid (obj wq wB.heap.size = some (.cells (arr 432 .i64 (S t).1) 84)) ∧ Hid (obj wq B = some (.cells (pic 144 a b (S t).2) 39)) ∧ Row wq w5.heap.size (.slice x1 N y1) N (fun j => (selG (cellN a b) 144 j : Int)) ∧ New wB wq) (fun i _ => N - (intOf i).toNat)
      case atStart => exact ⟨0, by omega, rfl, oa6, og6, hrow, hN6⟩
      case round =>
        obtain ⟨t, ht, rfl, hoa, hog, hrw, hN⟩ := hrel
        obtain ⟨wR, hwR⟩ : ∃ x, x = wr := ⟨_, rfl⟩
        subst hwR
        clear oa6 og6 hrow hN6
        by_cases hlt : t < N
        · have oa := hoa.out
          have og := hog.out
          have hq := hide (hsp.out t)
          have la := obj_lt oa
          have lg := obj_lt og
          obtain ⟨hi1, hi2⟩ := hsel.out t hlt
          obtain ⟨gl, offl, curl, tl, frl, rfl, ol, hel2⟩ := elInts hrw.sl (by omega)
          obtain ⟨ll, el⟩ := hel2 t hlt
          try dsimp only at el
          have hbk := hide hrw.block
          generalize hk' : selG (cellN a b) 144 t = k at hi1 hi2 hq el
          clear hk' hel2 hi2
          generalize hS' : S (t + 1) = S' at hq
          have hS2 := hide hS'
          clear hS'
          generalize S t = S0 at hoa hog oa og hq
          obtain ⟨F, G⟩ := S0
          dsimp only at oa og
          clear hoa hog
          have hx1 : (arr 432 .i64 F).extract (k * 3) (k * 3 + 3) = arr 3 .i64 fun j => F (k * 3 + j) := arrX (by omega) rfl
          have hk3 : k * 3 + 3 ≤ 432 := by omega
          obtain ⟨gT, hgT⟩ : ∃ gT, Hid (wR.heap.size = gT) := ⟨_, rfl⟩
          go_wp2_with (fail)
          rw [hgT.out] at la lg ⊢
          go_loopw [70] (fun i wq => ∃ q : Nat, q ≤ 3 ∧ i = .int .i64 q ∧ Hid (obj wq gT = some (.cells (arr 3 .u8 fun j => if j < q then clD (F (k * 3 + j)) else 0) 26)) ∧ New wR wq ∧ gT < wq.heap.size) (fun i _ => 3 - (intOf i).toNat)
          case atStart => exact ⟨0, by omega, rfl, by show _ = _; rw [← hgT.out]; exact obj_alloc_at _ _ _ rfl, (New.refl _).alloc _, by simp [← hgT.out]⟩
          case round =>
            obtain ⟨q, hq3, rfl, hoT, hnq, hlT⟩ := hrel
            have oT := hoT.out
            by_cases hlq : q < 3
            · have hwu : IntKind.u8.wrap (clD (F (k * 3 + q))) = clD (F (k * 3 + q)) := wrap_u (clD_b _)
              clear hoT
              go_wp2_with (fail)
              go_roundw
              case rel =>
                refine ⟨q + 1, by omega, by go_num, ?_, hnq.setCell (Nat.le_of_eq hgT.out) _, by rw [World.size_setCell]; exact hlT⟩
                show _ = _
                first | rw [cl_if] | rw [cl_mm]
                rw [obj_set_arr oT _ q _ rfl]
                congr 2
                refine arr_congr fun j hj => ?_
                unfold upd
                by_cases e : j = q
                · subst e; simp
                · rw [if_neg e]; dsimp only
                  by_cases e2 : j < q
                  · rw [if_pos e2, if_pos (by omega)]
                  · rw [if_neg e2, if_neg (by omega)]
              case measure => simp [intOf]; omega
            · have oT3 : obj wr gT = some (.cells #[.int .u8 (clD (F (k * 3))), .int .u8 (clD (F (k * 3 + 1))), .int .u8 (clD (F (k * 3 + 2)))] 26) := by
                have h3 : q = 3 := by omega
                subst h3
                exact oT
              have hs6 := hs1.out.new (hN.trans hnq)
              have oa3 := (hnq.objs _ (by rw [hgT.out]; exact la)).trans oa
              have og3 := (hnq.objs _ (by rw [hgT.out]; exact lg)).trans og
              have hN3 := hN.trans hnq
              clear hoT oT oa og hx1 ol
              go_wp2_with (fail)
              refine (nearest_any ad n cp fp _ _ _ (clD_b _) (clD_b _) (clD_b _) hfp hn hpos.1 _ hs6).mono ?_
              rintro e w8 ⟨rfl, hn8⟩
              have oa := (hn8.objs _ (obj_lt oa3)).trans oa3
              have og := (hn8.objs _ (obj_lt og3)).trans og3
              have hN8 := hN3.trans hn8
              have hn68 := hide (hnq.trans hn8)
              have hcn : Hid (nrD n F fp k = (nearK fp (clD (F (k * 3))) (clD (F (k * 3 + 1))) (clD (F (k * 3 + 2))) n).1) := rfl
              have hcl : nrD n F fp k < n := by
                obtain ⟨m, hm⟩ : ∃ m, n = m + 1 := ⟨n - 1, by omega⟩
                unfold nrD
                rw [hm]
                have := nearK_lt fp (clD (F (k * 3))) (clD (F (k * 3 + 1))) (clD (F (k * 3 + 2))) m
                omega
              rw [← hcn.out]
              generalize (nearK fp (clD (F (k * 3))) (clD (F (k * 3 + 1))) (clD (F (k * 3 + 2))) n).2 = E
              have hst : Hid (stD n a b fp (F, G) k = (spS (fun _ _ => true) a b k F (erD F fp k (nrD n F fp k)), upd G k ((nrD n F fp k : Nat) + 1))) := rfl
              generalize nrD n F fp k = c at hcl hst ⊢
              have hwc : IntKind.u8.wrap ((c : Int) + 1) = (c : Int) + 1 := wrap_u (by omega)
              clear oa3 og3 hnq hn8 hN3 oT3 hs6 hcn
              go_wp2_with (fail)
              rw [arr_congr fun j hj => p_eq j hj]
              have hz8 : wR.heap.size ≤ w8.heap.size := hn68.out.le
              have ho8 : ∀ q, q < wR.heap.size → obj w8 q = obj wR q := hn68.out.objs
              generalize hw9 : w8.setCell ⟨B, 2 + k, none⟩ (.int .u8 ((c : Int) + 1)) = w9
              have oa9 : obj w9 wB.heap.size = some (.cells (arr 432 .i64 F) 84) := by rw [← hw9, obj_setCell_other _ _ _ _ _ (by omega)]; exact oa
              have og9 : obj w9 B = some (.cells (pic 144 a b (upd G k ((c : Int) + 1))) 39) := by rw [← hw9]; exact obj_set_pic og _ _ _ rfl
              have hN9 : New wB w9 := by rw [← hw9]; exact hN8.setCell (show wB.heap.size ≤ B by omega) _
              have ho9 : Hid (∀ q, q < wR.heap.size → q ≠ B → obj w9 q = obj wR q) := fun q h1 h2 => by rw [← hw9, obj_setCell_other _ _ _ _ _ h2]; exact ho8 q h1
              have hz9 : wR.heap.size ≤ w9.heap.size := by rw [← hw9, World.size_setCell]; exact hz8
              clear hw9 oa og hN8 ho8 hn68
              have he : Hid (∀ K, erD F fp k c K = wrap64 (F (k * 3 + K) - fp (c * 3 + K))) := fun _ => rfl
              generalize erD F fp k c = e at hst he
              refine parts_loopI a b fm hab k c hi1 F _ ad n cp fp hfp hcl e he _ _ B wB w9 lt1 c1 hs1 (Nat.le_refl _) (by omega) oa9 og9 hN9 _ _ _ _ _ _ _ _ _ _ _ _ _ _ _ _ _ _ _ _ _ _ _ _ _ _ _ _ _ _ _ _ _ _ _ _ _ _ _ _ _ _ _ _ _ _ _ _ _ _ _ _ _ _ _ _ _ _ _ _ _ _ _ _ _ _ _ _ _ _ _ _ _ _ _ _ _ _ _ _ _ _ _ _ _ _ _ _ _ _ _ _ _ _ _ _ _ _ _ _ _ _ _ _ _ _ _ _ _ _ _ _ _ _ _ _ _ _ _ _ _ _ _ _ _ _ _ _ _ _ _ _ _ _ _ _ _ _ _ _ _ _ _ _ _ _ _ _ ?_
              intros
              rename_i wq hfq hgq hNq hgg
              have hfin : obj wq wB.heap.size = some (.cells (arr 432 .i64 (S (t + 1)).1) 84) := by rw [hS2.out, hq.out, hst.out]; exact hfq
              have hfin2 : obj wq B = some (.cells (pic 144 a b (S (t + 1)).2) 39) := by rw [hS2.out, hq.out, hst.out]; exact hgq
              have hrow2 : Row wq w5.heap.size (.slice (some ⟨gl, offl, none⟩) N y1) N (fun j => (selG (cellN a b) 144 j : Int)) := hrw.same fun b hb => by
                have h5 := hbk.out b hb
                rw [grown_step hgg (by omega) (by omega)]
                exact ho9.out b (by omega) (by omega)
              clear hfq hgq hgg oa9 og9 hN9 hrw
              go_wp2_with (fail)
              go_roundw
              case rel => exact ⟨t + 1, by omega, by go_num, hfin, hfin2, hrow2, hNq⟩
              case measure => simp [intOf]; omega
        · have ht0 : t = N := by omega
          have og := hog.out
          rw [ht0] at og
          have o4 := (hN.objs _ lt2).trans c2.out
          clear ht0 hog hoa hrw
          go_wp2_with (fail)
          refine ret_cell_tmp agg39 rfl rfl (c := pic 144 a b (S N).2) (t := 39) (fr := (0, 0)) (by rw [obj_setRow_same, o4]; simp only [Option.map_some, reCells_cells]) size_pic rfl ⟨by rw [hA.out, hC.out]; rfl, (hN2.trans hN).setRow (by omega) _⟩
end Go.Proofs.YtphjhegaplochaaGreatDoor
/- Pictures whose errors are spread: what the reference returns; no condition. -/
set_option linter.unusedVariables false
namespace Go.Proofs.YtphjhegaplochaaGreatDoor
open Go.BigFrame
open Go.RowKit Go.Arr
set_option maxHeartbeats 8000000 in
set_option maxRecDepth 100000 in
theorem spread_spec (a b : Int) (fm : Nat → Int) (ha : -128 ≤ a ∧ a ≤ 127) (hb : -128 ≤ b ∧ b ≤ 127) (hfm : ∀ i, 0 ≤ fm i ∧ fm i ≤ 255) (ad : Option Addr) (n cp : Nat) (fp : Nat → Int) (hfp : ∀ i, 0 ≤ fp i ∧ fp i ≤ 255) (hn : n ≤ 1048576) (W : World) (hs : Sl W (.slice ad n cp) n 3 .u8 fp) :
    Calls Tryz.prog 14 #[.agg (pic 432 a b fm), .slice ad n cp] W fun e w' => e = .returned (.tuple #[.agg (sprA a b fm n fp), .int .i64 (sprC a b fm n fp)]) ∧ New W w' := by
  cases hok : askOk a b fm n fp
  · have hC : sprC a b fm n fp = 1 := if_neg (by rw [hok]; simp)
    have hA : sprA a b fm n fp = pic 144 0 0 fun _ => 0 := if_neg (by rw [hok]; simp)
    rw [hC, hA]
    go_enter Tryz.func14, Tryz.ntmps14
    go_wp2_with (fail)
    generalize hw0 : ((W.alloc (Obj.cells (pic 432 a b fm) 29)).alloc (Obj.cells (pic 144 0 0 fun _ => 0) 39)) = w0
    have b1 : obj w0 W.heap.size = some (.cells (pic 432 a b fm) 29) := by subst hw0; go_simp
    have b2 : obj w0 (W.heap.size + 1) = some (.cells (pic 144 0 0 fun _ => 0) 39) := by subst hw0; go_simp
    have hn0 : New W w0 := by subst hw0; exact ((New.refl W).alloc _).alloc _
    have hs0 := hs.new hn0
    clear hw0 hs
    refine (l02Asked_any _ 29 a b fm ha hb ad n cp fp hn _ b1 hs0).mono ?_
    rintro e wB ⟨rfl, hn1⟩
    rw [hok]
    have c2 := (hn1.objs _ (obj_lt b2)).trans b2
    go_wp2_with (fail)
    refine ret_cell_tmp agg39 rfl rfl (c := pic 144 0 0 fun _ => 0) (t := 39) (fr := (0, 0)) (by rw [obj_setRow_same, c2]; simp only [Option.map_some, reCells_cells]) size_pic rfl ⟨rfl, (hn0.trans hn1).setRow (by omega) _⟩
  have hpos := okPal_pos (askOk_e hok).2
  have hC : sprC a b fm n fp = 0 := if_pos hok
  have hA : sprA a b fm n fp = pic 144 a b (spD n a b fm fp 144).2 := if_pos hok
  rw [hC, hA]
  go_enter Tryz.func14, Tryz.ntmps14
  go_wp2_with (fail)
  generalize hw0 : ((W.alloc (Obj.cells (pic 432 a b fm) 29)).alloc (Obj.cells (pic 144 0 0 fun _ => 0) 39)) = w0
  have b1 : obj w0 W.heap.size = some (.cells (pic 432 a b fm) 29) := by subst hw0; go_simp
  have b2 : obj w0 (W.heap.size + 1) = some (.cells (pic 144 0 0 fun _ => 0) 39) := by subst hw0; go_simp
  have hn0 : New W w0 := by subst hw0; exact ((New.refl W).alloc _).alloc _
  have hs0 := hs.new hn0
  clear hw0 hs
  refine (l02Asked_any _ 29 a b fm ha hb ad n cp fp hn _ b1 hs0).mono ?_
  rintro e wB ⟨rfl, hn1⟩
  rw [hok]
  have c1 := hide ((hn1.objs _ (obj_lt b1)).trans b1)
  have c2 := hide ((hn1.objs _ (obj_lt b2)).trans b2)
  have hs1 := hide (hs0.new hn1)
  have hN1 := hn0.trans hn1
  have lt1 := obj_lt c1.out
  have lt2 := obj_lt c2.out
  clear hs0 b1 b2 hn0 hn1
  go_wp2_with (fail)
  go_loopw [8] (fun i wr => ∃ k : Nat, k ≤ 144 ∧ i = .int .i64 k ∧ Hid (obj wr wB.heap.size = some (.cells (arr 432 .i64 fun j => if j < k * 3 then fm j else 0) 84)) ∧ New wB wr ∧ wB.heap.size < wr.heap.size) (fun i _ => 144 - (intOf i).toNat)
  case atStart => exact ⟨0, by omega, rfl, by show _ = _; go_simp, ((New.refl _).alloc _), by simp⟩
  case round =>
    obtain ⟨k, hk, rfl, ho, hnw, hlw⟩ := hrel
    by_cases hlt : k < 144
    · go_wp2_with (fail)
      try simp only [show decide ((k : Int) < 144) = true from decide_eq_true (by omega)]
      go_loopw [9] (fun i wq => ∃ q : Nat, q ≤ 3 ∧ i = .int .i64 q ∧ Hid (obj wq wB.heap.size = some (.cells (arr 432 .i64 fun j => if j < k * 3 + q then fm j else 0) 84)) ∧ New wB wq ∧ wB.heap.size < wq.heap.size) (fun i _ => 3 - (intOf i).toNat)
      case atStart => exact ⟨0, by omega, rfl, ho, hnw, hlw⟩
      case round =>
        obtain ⟨q, hq, rfl, ho, hnw, hlw⟩ := hrel
        by_cases hlq : q < 3
        · have o1 := ho.out
          have om := (hnw.objs _ lt1).trans c1.out
          have lo := obj_lt om
          have hfq := hfm (k * 3 + q)
          have hkq : k * 3 + q < 432 := by omega
          have ip : (pic 432 a b fm)[2 + k * 3 + q]? = some (.int .u8 (fm (k * 3 + q))) := by rw [Nat.add_assoc, get_pic', if_pos hkq]
          have hwr : IntKind.i64.wrap (fm (k * 3 + q)) = fm (k * 3 + q) := wrap_i (by omega)
          clear ho
          go_wp2_with (fail)
          go_region_law (fail)
          all_goals
            go_wp2_with (fail)
            go_roundw
            case rel =>
              refine ⟨q + 1, by omega, by go_num, ?_, (hnw.setCell (Nat.le_refl _) _).drew, by simp only [World.size_drew, World.size_setCell]; omega⟩
              show _ = _
              rw [obj_drew, obj_set_arr o1 _ (k * 3 + q) _ rfl]
              congr 2
              refine arr_congr fun j hj => ?_
              unfold upd
              by_cases e : j = k * 3 + q
              · subst e; simp
              · rw [if_neg e]; dsimp only
                by_cases e2 : j < k * 3 + q
                · rw [if_pos e2, if_pos (by omega)]
                · rw [if_neg e2, if_neg (by omega)]
            case measure => simp [intOf]; omega
        · obtain rfl : q = 3 := by omega
          go_wp2_with (fail)
          go_roundw
          case rel => exact ⟨k + 1, by omega, by go_num, by rw [show (k + 1) * 3 = k * 3 + 3 by omega]; exact ho, hnw, hlw⟩
          case measure => simp [intOf]; omega
    · have hk0 : k = 144 := by omega
      have oa : obj wr wB.heap.size = some (.cells (arr 432 .i64 (spD n a b fm fp 0).1) 84) := by
        rw [ho.out, arr_congr (g := fm) fun j hj => if_pos (show j < k * 3 by omega)]
        rfl
      clear hk0
      rename_i k0 _
      have om := (hnw.objs _ lt1).trans c1.out
      have lo := obj_lt om
      go_wp2_with (fail)
      have og : obj (wr.alloc (Obj.cells (pic 144 a b fun _ => 0) 39)) wr.heap.size = some (.cells (pic 144 a b (spD n a b fm fp 0).2) 39) := obj_alloc_at _ _ _ rfl
      obtain ⟨B, hB⟩ : ∃ B, Hid (wr.heap.size = B) := ⟨_, rfl⟩
      rw [hB.out] at og hlw lo ⊢
      have hsp := hide (fun k => (show spD n a b fm fp (k + 1) = if cellN a b k = true then stD n a b fp (spD n a b fm fp k) k else spD n a b fm fp k by rfl))
      go_loopw [11] (fun i wq => ∃ k : Nat, k ≤ 144 ∧ i = .int .i64 k ∧ Hid (obj wq wB.heap.size = some (.cells (arr 432 .i64 (spD n a b fm fp k).1) 84)) ∧ Hid (obj wq B = some (.cells (pic 144 a b (spD n a b fm fp k).2) 39)) ∧ New wB wq) (fun i _ => 144 - (intOf i).toNat)
      case atStart => exact ⟨0, by omega, rfl, (obj_alloc_past _ _ _ (obj_lt oa)).trans oa, og, hnw.alloc _⟩
      case round =>
        obtain ⟨k, hk, rfl, hoa, hog, hnw⟩ := hrel
        have om := (hnw.objs _ lt1).trans c1.out
        have lm := obj_lt om
        have oa := hoa.out
        have og := hog.out
        have la := obj_lt oa
        have lg := obj_lt og
        by_cases hlt : k < 144
        · cases hc : cellB k a b
          · have hq : Hid (spD n a b fm fp (k + 1) = spD n a b fm fp k) := by have := hsp.out k; rwa [if_neg (by show ¬ cellB k a b = true; rw [hc]; simp)] at this
            go_wp2_with (go_at_call 52; refine (l02Cell_any _ 29 a b fm _ ha hb _ om).mono ?_; rintro e w' ⟨rfl, rfl⟩; rw [hc])
            go_roundw
            case rel => exact ⟨k + 1, by omega, by go_num, by rw [hq.out]; exact hoa, by rw [hq.out]; exact hog, hnw⟩
            case measure => simp [intOf]; omega
          · have hq : Hid (spD n a b fm fp (k + 1) = stD n a b fp (spD n a b fm fp k) k) := by have := hsp.out k; rwa [if_pos (show cellN a b k = true from hc)] at this
            generalize spD n a b fm fp k = S at hoa hog oa og hq
            obtain ⟨F, G⟩ := S
            dsimp only at hoa hog oa og
            go_wp2_with (go_at_call 52; refine (l02Cell_any _ 29 a b fm _ ha hb _ om).mono ?_; rintro e w' ⟨rfl, rfl⟩; rw [hc])
            obtain ⟨gT, hgT⟩ : ∃ gT, Hid (wr.heap.size = gT) := ⟨_, rfl⟩
            rw [hgT.out] at la lg lm ⊢
            go_loopw [13] (fun i wq => ∃ q : Nat, q ≤ 3 ∧ i = .int .i64 q ∧ Hid (obj wq gT = some (.cells (arr 3 .u8 fun j => if j < q then clD (F (k * 3 + j)) else 0) 26)) ∧ New wr wq ∧ gT < wq.heap.size) (fun i _ => 3 - (intOf i).toNat)
            case atStart => exact ⟨0, by omega, rfl, by show _ = _; rw [← hgT.out]; exact obj_alloc_at _ _ _ rfl, (New.refl _).alloc _, by simp [← hgT.out]⟩
            case round =>
              obtain ⟨q, hq3, rfl, hoT, hnq, hlT⟩ := hrel
              have oT := hoT.out
              by_cases hlq : q < 3
              · have oa2 := (hnq.objs _ (by rw [hgT.out]; exact la)).trans oa
                have la2 := obj_lt oa2
                have hkq : k * 3 + q < 432 := by omega
                have ia : (arr 432 .i64 F)[k * 3 + q]? = some (.int .i64 (F (k * 3 + q))) := by rw [get_arr, if_pos hkq]
                have hwu : IntKind.u8.wrap (clD (F (k * 3 + q))) = clD (F (k * 3 + q)) := wrap_u (clD_b _)
                clear hoT
                go_wp2_with (first | (go_at_call 54; refine (min_any _ _ _).mono ?_; rintro e w' ⟨rfl, rfl⟩) | (go_at_call 53; refine (max_any _ _ _).mono ?_; rintro e w' ⟨rfl, rfl⟩; rw [mx_mn]))
                go_roundw
                case rel =>
                  refine ⟨q + 1, by omega, by go_num, ?_, hnq.setCell (Nat.le_of_eq hgT.out) _, by rw [World.size_setCell]; exact hlT⟩
                  show _ = _
                  rw [obj_set_arr oT _ q _ rfl]
                  congr 2
                  refine arr_congr fun j hj => ?_
                  unfold upd
                  by_cases e : j = q
                  · subst e; simp
                  · rw [if_neg e]; dsimp only
                    by_cases e2 : j < q
                    · rw [if_pos e2, if_pos (by omega)]
                    · rw [if_neg e2, if_neg (by omega)]
                case measure => simp [intOf]; omega
              · have oT3 : obj wr gT = some (.cells #[.int .u8 (clD (F (k * 3))), .int .u8 (clD (F (k * 3 + 1))), .int .u8 (clD (F (k * 3 + 2)))] 26) := by
                  have h3 : q = 3 := by omega
                  subst h3
                  exact oT
                have hs6 := hs1.out.new (hnw.trans hnq)
                have oa3 := (hnq.objs _ (by rw [hgT.out]; exact la)).trans oa
                have og3 := (hnq.objs _ (by rw [hgT.out]; exact lg)).trans og
                have om3 := (hnq.objs _ (by rw [hgT.out]; exact lm)).trans om
                have hN3 := hnw.trans hnq
                clear hoT oT oa og om hoa hog
                go_wp2_with (fail)
                refine (l02Nearest_any ad n cp fp _ _ _ (clD_b _) (clD_b _) (clD_b _) hfp hn hpos.1 _ hs6).mono ?_
                rintro e w6 ⟨rfl, hn6⟩
                have oa := (hn6.objs _ (obj_lt oa3)).trans oa3
                have og := (hn6.objs _ (obj_lt og3)).trans og3
                have om := (hn6.objs _ (obj_lt om3)).trans om3
                have hN6 := hN3.trans hn6
                have hcn : Hid (nrD n F fp k = (nearK fp (clD (F (k * 3))) (clD (F (k * 3 + 1))) (clD (F (k * 3 + 2))) n).1) := rfl
                have hcl : nrD n F fp k < n := by
                  obtain ⟨m, hm⟩ : ∃ m, n = m + 1 := ⟨n - 1, by omega⟩
                  unfold nrD
                  rw [hm]
                  have := nearK_lt fp (clD (F (k * 3))) (clD (F (k * 3 + 1))) (clD (F (k * 3 + 2))) m
                  omega
                rw [← hcn.out]
                generalize (nearK fp (clD (F (k * 3))) (clD (F (k * 3 + 1))) (clD (F (k * 3 + 2))) n).2 = E
                have hst : Hid (stD n a b fp (F, G) k = (spS (fun _ _ => true) a b k F (erD F fp k (nrD n F fp k)), upd G k ((nrD n F fp k : Nat) + 1))) := rfl
                generalize nrD n F fp k = c at hcl hst ⊢
                have hwc : IntKind.u8.wrap ((c : Int) + 1) = (c : Int) + 1 := wrap_u (by omega)
                have la := obj_lt oa
                have lg := obj_lt og
                have lm := obj_lt om
                clear oa3 og3 om3 hnq hN3 hn6 oT3 hs6
                go_wp2_with (fail)
                generalize hw7 : w6.setCell ⟨B, 2 + k, none⟩ (.int .u8 ((c : Int) + 1)) = w7
                have oa7 : obj w7 wB.heap.size = some (.cells (arr 432 .i64 F) 84) := by rw [← hw7, obj_setCell_other _ _ _ _ _ (by omega)]; exact oa
                have og7 : obj w7 B = some (.cells (pic 144 a b (upd G k ((c : Int) + 1))) 39) := by rw [← hw7]; exact obj_set_pic og _ _ _ rfl
                have hN7 : New wB w7 := by rw [← hw7]; exact hN6.setCell (show wB.heap.size ≤ B by omega) _
                clear hw7 oa og om la lg lm hN6
                have hst1 := hide (congrArg Prod.fst hst.out)
                have hst2 := hide (congrArg Prod.snd hst.out)
                dsimp only at hst1 hst2
                have he : Hid (∀ K, erD F fp k c K = wrap64 (F (k * 3 + K) - fp (c * 3 + K))) := fun _ => rfl
                generalize erD F fp k c = e at hst1 he
                have lBw := obj_lt og7
                go_loopw [18] (fun i wq => ∃ K : Nat, K ≤ 3 ∧ i = .int .i64 K ∧ Hid (obj wq wB.heap.size = some (.cells (arr 432 .i64 (spS (fun _ k' => decide (k' < K)) a b k F e)) 84)) ∧ Hid (obj wq B = some (.cells (pic 144 a b (upd G k ((c : Int) + 1))) 39)) ∧ New wB wq) (fun i _ => 3 - (intOf i).toNat)
                case atStart => exact ⟨0, by omega, rfl, by show _ = _; rw [oa7]; congr 2; exact arr_congr fun j _ => (spS_0 (fun _ k' => by simp) j).symm, og7, hN7⟩
                case round =>
                  obtain ⟨K, hK, rfl, hoa, hog, hN⟩ := hrel
                  by_cases hlK : K < 3
                  · have oa := hoa.out
                    have la := obj_lt oa
                    have om := (hN.objs _ lt1).trans c1.out
                    have lm := obj_lt om
                    obtain ⟨gs, off, cur, tp, frp, hgs, os, hcs⟩ := (hs1.out.new hN).at hpos.1
                    have ls := obj_lt os
                    have iP : cur[off + c * 3 + K]? = some (.int .u8 (fp (c * 3 + K))) := by rw [Nat.add_assoc]; exact hcs _ (by omega)
                    have hkK : k * 3 + K < 432 := by omega
                    have iF : (arr 432 .i64 (spS (fun _ k' => decide (k' < K)) a b k F e))[k * 3 + K]? = some (.int .i64 (F (k * 3 + K))) := by rw [get_arr, if_pos hkK, spS_far (by omega)]
                    have hwf : IntKind.i64.wrap (fp (c * 3 + K)) = fp (c * 3 + K) := wrap_i (by have := hfp (c * 3 + K); omega)
                    have hek : Hid (wrap64 (spS (fun _ k' => decide (k' < K)) a b k F e (k * 3 + K) - fp (c * 3 + K)) = e K) := by show _ = _; rw [spS_far (by omega), ← he.out K]
                    subst hgs
                    clear hcs hoa
                    go_wp2_with (fail)
                    go_quiet (fail)
                    rw [hek.out]
                    have hN8 := hN.drewN nq
                    have oa8 : obj (wr.drewN nq) wB.heap.size = _ := oa
                    have og8 : obj (wr.drewN nq) B = _ := hog.out
                    clear iP iF hwf os ls oa la hog hN om lm
                    generalize wr.drewN nq = w8 at hN8 oa8 og8 ⊢
                    have la8 := obj_lt oa8
                    have lg8 := obj_lt og8
                    go_wp2_with (fail)
                    obtain ⟨ek, hek2⟩ : ∃ ek, Hid (e K = ek) := ⟨_, rfl⟩
                    rw [hek2.out]
                    obtain ⟨gQ, hgQ⟩ : ∃ gQ, Hid (w8.heap.size = gQ) := ⟨_, rfl⟩
                    have oQ : obj (w8.alloc (Obj.cells (arr 12 .i64 (qD k)) 85)) gQ = some (.cells (arr 12 .i64 (qD k)) 85) := by rw [← hgQ.out]; exact obj_alloc_at _ _ _ rfl
                    rw [arr_congr fun j hj => q_eq k j hj, hgQ.out]
                    rw [hgQ.out] at la8 lg8
                    have oa9 := (obj_alloc_past w8 (Obj.cells (arr 12 .i64 (qD k)) 85) _ (by rw [hgQ.out]; exact la8)).trans oa8
                    have og9 := (obj_alloc_past w8 (Obj.cells (arr 12 .i64 (qD k)) 85) _ (by rw [hgQ.out]; exact lg8)).trans og8
                    have hN9 : New wB (w8.alloc (Obj.cells (arr 12 .i64 (qD k)) 85)) := hN8.alloc _
                    generalize w8.alloc (Obj.cells (arr 12 .i64 (qD k)) 85) = w9 at oQ oa9 og9 hN9 ⊢
                    clear oa8 og8 hN8
                    have hab := okImg_ab (askOk_e hok).1
                    refine parts_loop a b fm hab k K hlt hlK F _ e ek hek2 _ _ B gQ wB w9 lt1 c1 (Nat.le_refl _) (by omega) (by omega) oa9 og9 oQ hN9 _ _ _ _ _ _ _ _ _ _ _ _ _ _ _ _ _ _ _ _ _ _ _ _ _ _ _ _ _ _ _ _ _ _ _ _ _ _ _ _ _ _ _ _ _ _ _ _ _ _ _ _ _ _ _ _ _ _ _ _ _ _ _ _ _ _ _ _ _ _ _ _ _ _ _ _ _ _ _ _ _ _ _ _ _ _ _ _ _ _ _ _ _ _ _ _ _ _ _ _ _ _ _ _ _ _ _ _ _ _ _ _ _ _ _ _ _ _ _ _ _ _ _ _ _ _ _ _ _ _ _ _ _ _ _ _ _ _ _ _ _ _ _ _ _ _ _ _ _ _ _ _ _ _ _ _ _ _ _ _ _ _ _ _ _ _ _ _ _ _ _ _ ?_
                    intros
                    rename_i wq hfq hgq hNq
                    go_wp2_with (fail)
                    go_roundw
                    case rel => exact ⟨K + 1, by omega, by go_num, hfq, hgq, hNq⟩
                    case measure => simp [intOf]; omega
                  · have hK3 : K = 3 := by omega
                    have hfin : obj wr wB.heap.size = some (.cells (arr 432 .i64 (spD n a b fm fp (k + 1)).1) 84) := by
                      rw [hoa.out, hq.out, hst1.out]
                      congr 2
                      exact arr_congr fun j _ => spS_congr (fun d k' _ hk' _ => decide_eq_true (by omega)) j
                    have hfg : obj wr B = some (.cells (pic 144 a b (spD n a b fm fp (k + 1)).2) 39) := by rw [hog.out, hq.out, hst2.out]
                    clear hK3 hoa
                    go_wp2_with (fail)
                    go_roundw
                    case rel => exact ⟨k + 1, by omega, by go_num, hfin, hfg, hN⟩
                    case measure => simp [intOf]; omega
        · obtain rfl : k = 144 := by omega
          have o4 := (hnw.objs _ lt2).trans c2.out
          go_wp2_with (fail)
          refine ret_cell_tmp agg39 rfl rfl (c := pic 144 a b (spD n a b fm fp 144).2) (t := 39) (fr := (0, 0)) (by rw [obj_setRow_same, o4]; simp only [Option.map_some, reCells_cells]) size_pic rfl ⟨rfl, (hN1.trans hnw).setRow (by omega) _⟩
end Go.Proofs.YtphjhegaplochaaGreatDoor
