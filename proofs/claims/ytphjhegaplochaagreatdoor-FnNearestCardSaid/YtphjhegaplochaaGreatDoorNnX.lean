/- The great law on nearest tones, walked; no condition. -/
import Derived.Test.YtphjhegaplochaaGreatDoorU17
import Derived.Test.YtphjhegaplochaaGreatDoorU18
import Derived.Test.YtphjhegaplochaaGreatDoorU19
import Derived.Test.YtphjhegaplochaaGreatDoorNnK
set_option linter.unusedVariables false
namespace Go.Proofs.YtphjhegaplochaaGreatDoor
open Go.BigFrame
open Go.RowKit Go.Arr
set_option maxHeartbeats 8000000 in
set_option maxRecDepth 1000000 in
theorem FnNearest_law (v0 : Value) (n0 : Nat) (f0 : Nat → Int) (hm0 : n0 ≤ maxLen) (hf0 : ∀ i, 0 ≤ f0 i ∧ f0 i ≤ 255) (v1 : Value) (n1 : Nat) (f1 : Nat → Int) (hm1 : n1 ≤ maxLen) (hf1 : ∀ i, 0 ≤ f1 i ∧ f1 i ≤ 255) (m : Int) (w : World)
    (hs0 : Sl w v0 n0 1 .u8 f0) (hl0 : ∀ a n c, v0 = .slice (some a) n c → a.block < w.heap.size) (hs1 : Sl w v1 n1 1 .u8 f1) (hl1 : ∀ a n c, v1 = .slice (some a) n c → a.block < w.heap.size)
    (hmx : w.cell? ⟨Tryz.laysM146_ren.g 1, 0, none⟩ = some (.int .i64 m)) :
    Calls Tryz.prog 3 #[v0, v1] w fun e w' => e = .returned (.bool true) ∧ New w w' := by
  obtain ⟨a0, c0, rfl, t0⟩ := hs0
  have hs0 : Sl w (.slice a0 n0 c0) n0 1 .u8 f0 := ⟨a0, c0, rfl, t0⟩
  obtain ⟨a1, c1, rfl, t1⟩ := hs1
  have hs1 : Sl w (.slice a1 n1 c1) n1 1 .u8 f1 := ⟨a1, c1, rfl, t1⟩
  have had : Hid (∀ a, a0 = some a → a.block < w.heap.size) := fun a e => hl0 a n0 c0 (by rw [e])
  have had1 : Hid (∀ a, a1 = some a → a.block < w.heap.size) := fun a e => hl1 a n1 c1 (by rw [e])
  clear t0 t1 hl0 hl1
  have hgl := World.block_lt_of_cell? _ _ hmx
  have hmn : Hid (∀ w', New w w' → w'.cell? ⟨Tryz.laysM146_ren.g 1, 0, none⟩ = some (.int .i64 m)) := fun w' h => by rw [h.cells _ _ hgl]; exact hmx
  clear hmx hgl
  cases hlong : (decide (3000 < n0) || decide (3000 < n1))
  rotate_left
  · go_enter Tryz.func3, Tryz.ntmps3
    go_wp2_with (fail)
    refine (a2Long_any a0 a1 n0 c0 n1 c1 _).mono ?_
    rintro e w1 ⟨rfl, rfl⟩
    rw [hlong]
    go_wp2_with (fail)
    go_ret
    exact ⟨rfl, New.refl w⟩
  have hn0 : n0 ≤ 3000 := by simp at hlong; omega
  have hn1 : n1 ≤ 3000 := by simp at hlong; omega
  replace hlong := hide hlong
  replace hs1 := hide hs1
  go_enter Tryz.func3, Tryz.ntmps3
  go_wp2_with (fail)
  refine (a2Long_any a0 a1 n0 c0 n1 c1 _).mono ?_
  rintro e w1 ⟨rfl, rfl⟩
  rw [hlong.out]
  go_wp2_with (fail)
  refine (a2Image_any a0 n0 c0 f0 (by omega) hf0 _ hs0 had.out).mono ?_
  rintro e w1 ⟨a, b, fm, rfl, ha5, hb4, hI, hn1⟩
  replace hs1 := hide (hs1.out.new hn1)
  have N1 := hn1
  have had2 : Hid (∀ a, a1 = some a → a.block < w1.heap.size) := fun a e => Nat.lt_of_lt_of_le (had1.out a e) hn1.le
  clear hn1 had had1 hs0 hlong
  have ha : 1 ≤ a ∧ a ≤ 12 := by omega
  have hb : 1 ≤ b ∧ b ≤ 12 := by omega
  have hfm := hide hI.1
  have hok := hide (hI.ok ha hb)
  clear hI
  go_wp2_with (fail)
  have hsz1 : w1.heap.size ≤ (World.alloc w1 (Obj.cells (pic 432 a b fm) 29)).heap.size := by simp
  generalize hw2 : World.alloc w1 (Obj.cells (pic 432 a b fm) 29) = w2 at hsz1 ⊢
  obtain ⟨gM, hgM⟩ : ∃ gM, Hid (w1.heap.size = gM) := ⟨_, rfl⟩
  have oM2 : obj w2 gM = some (.cells (pic 432 a b fm) 29) := by rw [← hw2, ← hgM.out]; exact obj_alloc_at _ _ _ rfl
  have hn2 : New w1 w2 := by rw [← hw2]; exact (New.refl _).alloc _
  replace hs1 := hide (hs1.out.new hn2)
  have N2 := N1.trans hn2
  clear N1
  have qM2 := obj_lt oM2
  rw [hgM.out]
  clear hw2 hgM hn2
  have had3 : Hid (∀ a, a1 = some a → a.block < w2.heap.size) := fun a e => Nat.lt_of_lt_of_le (had2.out a e) hsz1
  clear had2 hsz1
  refine (a2Palette_any a1 n1 c1 f1 (by omega) hf1 _ hs1.out had3.out).mono ?_
  rintro e w3 ⟨gp, cp, n, p, rfl, hrp0, hn5, hop, hpb, hn3⟩
  have oM3 := (hn3.objs _ qM2).trans oM2
  have qM3 := obj_lt oM3
  clear oM2 qM2
  replace hs1 := hide (hs1.out.new hn3)
  have N3 := N2.trans hn3
  clear N2
  clear hn3
  obtain ⟨_, cp2, hcpe, hcp⟩ := hrp0.form3
  simp only [Value.slice.injEq] at hcpe
  obtain ⟨rfl, _, rfl⟩ := hcpe
  clear had3
  have hrp := hide hrp0
  clear hrp0
  have hn15 : n ≤ 15 := by omega
  have hn0 : 0 < n := by omega
  have hpos := okPal_pos hop
  obtain ⟨s, X⟩ : ∃ s, NnTxt n p s := ⟨_, nn_txt hpb hop⟩
  have hRo := nn_rough (fm := fm) ha hb hok.out hop
  have hDu := nn_due (fm := fm) ha hb hok.out hop
  have hgq := picS_good p fm (a := a) (b := b) hpos
  have hQc : ∀ i, cellN a b i = true → picS n p fm a b 144 i = nearC n p fm i := fun i h => picS_c h
  have hQr : ∀ i, cellN a b i = true → 1 ≤ picS n p fm a b 144 i ∧ picS n p fm a b 144 i ≤ n := fun i h => by rw [picS_c h]; exact nearC_in p fm i hn0
  have hpo := pof_t (show askOk a b fm n p = true by unfold askOk; rw [hok.out, hop]; rfl)
  generalize picS n p fm a b 144 = Q at hRo hDu hgq hQc hQr hpo
  have hIm := nn_im ha hb hpb hop hgq hQr
  generalize imS Q p 0 0 0 a b 144 = I at hIm
  obtain ⟨R, V, U, Ro⟩ := hRo
  generalize stockF a b Q = C at hDu
  have hSr := nn_srt hpb hop
  generalize srtO n p = O at hSr
  generalize srtF n p = S at hSr
  have hSm := nn_some (fm := fm) ha hb hok.out hop (st := fun i => atV f1 n1 i 9) (fun j => by have := atV_b (f := f1) (n := n1) (i := j) (m := 9) (by omega); omega)
  have hopH := hide hop
  have hpbH := hide hpb
  have hQb := hide hgq.by2
  have hpo1 := hide hpo.1
  have hpo2 := hide hpo.2
  have hRb := hide Ro.good.by2
  have hRok := hide (Ro.good.ok ha hb)
  have hRc := hide Ro.cell
  have hUV := Ro.less
  replace X := hide X
  replace Ro := hide Ro
  replace hDu := hide hDu
  replace hQc := hide hQc
  replace hIm := hide hIm
  replace hSr := hide hSr
  replace hSm := hide hSm
  clear hop hpb hgq hQr hpo hpos
  go_wp2_with (fail)
  refine (ptext_ik X.out (some ⟨gp, 0, none⟩) cp hpbH.out (by omega) hcp _ hrp.out.sl).mono ?_
  rintro e w4 ⟨rfl, hn4⟩
  have oM4 := (hn4.objs _ qM3).trans oM3
  have qM4 := obj_lt oM4
  clear oM3 qM3
  replace hs1 := hide (hs1.out.new hn4)
  replace hrp := hide (hrp.out.new hn4)
  have N4 := N3.trans hn4
  clear N3
  clear hn4
  go_wp2_with (fail)
  refine (rpal_ik X.out m _ (hmn.out _ N4)).mono ?_
  rintro e w5 ⟨vb, rfl, rbk, hn5⟩
  have oM5 := (hn5.objs _ qM4).trans oM4
  have qM5 := obj_lt oM5
  clear oM4 qM4
  replace hs1 := hide (hs1.out.new hn5)
  replace hrp := hide (hrp.out.new hn5)
  have N5 := N4.trans hn5
  clear N4
  clear hn5
  have hbk := hide rbk
  clear rbk hmn X
  obtain ⟨xb, yb, rfl, lb⟩ := hbk.out.form3
  go_wp2_with (fail)
  refine (pofi hpo1.out hpo2.out ⟨by omega, by omega⟩ ⟨by omega, by omega⟩ hfm.out (some ⟨gp, 0, none⟩) cp hpbH.out (by omega) hcp _ hrp.out.sl).mono ?_
  rintro e w6 ⟨rfl, hn6⟩
  have oM6 := (hn6.objs _ qM5).trans oM5
  have qM6 := obj_lt oM6
  clear oM5 qM5
  replace hs1 := hide (hs1.out.new hn6)
  replace hrp := hide (hrp.out.new hn6)
  replace hbk := hide (hbk.out.new hn6)
  have N6 := N5.trans hn6
  clear N5
  clear hn6
  go_wp2_with (fail)
  generalize hw7 : World.alloc w6 (Obj.cells (pic 144 a b Q) 39) = w7
  obtain ⟨gY, hgY⟩ : ∃ gY, Hid (w6.heap.size = gY) := ⟨_, rfl⟩
  have oY7 : obj w7 gY = some (.cells (pic 144 a b Q) 39) := by rw [← hw7, ← hgY.out]; exact obj_alloc_at _ _ _ rfl
  have oM7 := (show obj w7 gM = obj w6 gM by rw [← hw7]; exact obj_alloc_past _ _ _ qM6).trans oM6
  have qM7 := obj_lt oM7
  clear oM6 qM6
  have hn7 : New w6 w7 := by rw [← hw7]; exact (New.refl _).alloc _
  replace hs1 := hide (hs1.out.new hn7)
  replace hrp := hide (hrp.out.new hn7)
  replace hbk := hide (hbk.out.new hn7)
  have N7 := N6.trans hn7
  clear N6
  have qY7 := obj_lt oY7
  rw [hgY.out]
  clear hw7 hgY hn7
  refine (pofs hpo1.out hpo2.out ⟨by omega, by omega⟩ ⟨by omega, by omega⟩ hfm.out (some ⟨gp, 0, none⟩) cp hpbH.out (by omega) _ hrp.out.sl).mono ?_
  rintro e w8 ⟨rfl, hn8⟩
  have oM8 := (hn8.objs _ qM7).trans oM7
  have qM8 := obj_lt oM8
  clear oM7 qM7
  have oY8 := (hn8.objs _ qY7).trans oY7
  have qY8 := obj_lt oY8
  clear oY7 qY7
  replace hs1 := hide (hs1.out.new hn8)
  replace hrp := hide (hrp.out.new hn8)
  replace hbk := hide (hbk.out.new hn8)
  have N8 := N7.trans hn8
  clear N7
  clear hn8
  clear hpo1 hpo2
  go_wp2_with (fail)
  generalize hw9 : World.alloc w8 (Obj.cells (pic 144 a b Q) 39) = w9
  obtain ⟨gD, hgD⟩ : ∃ gD, Hid (w8.heap.size = gD) := ⟨_, rfl⟩
  have oD9 : obj w9 gD = some (.cells (pic 144 a b Q) 39) := by rw [← hw9, ← hgD.out]; exact obj_alloc_at _ _ _ rfl
  have oM9 := (show obj w9 gM = obj w8 gM by rw [← hw9]; exact obj_alloc_past _ _ _ qM8).trans oM8
  have qM9 := obj_lt oM9
  clear oM8 qM8
  have oY9 := (show obj w9 gY = obj w8 gY by rw [← hw9]; exact obj_alloc_past _ _ _ qY8).trans oY8
  have qY9 := obj_lt oY9
  clear oY8 qY8
  have hn9 : New w8 w9 := by rw [← hw9]; exact (New.refl _).alloc _
  replace hs1 := hide (hs1.out.new hn9)
  replace hrp := hide (hrp.out.new hn9)
  replace hbk := hide (hbk.out.new hn9)
  have N9 := N8.trans hn9
  clear N8
  have qD9 := obj_lt oD9
  rw [hgD.out]
  clear hw9 hgD hn9
  refine (costi Ro.out.qc Ro.out.qv ⟨by omega, by omega⟩ ⟨by omega, by omega⟩ hfm.out hQb.out (some ⟨gp, 0, none⟩) cp hpbH.out (by omega) hcp _ hrp.out.sl).mono ?_
  rintro e w10 ⟨rfl, hn10⟩
  have oM10 := (hn10.objs _ qM9).trans oM9
  have qM10 := obj_lt oM10
  clear oM9 qM9
  have oY10 := (hn10.objs _ qY9).trans oY9
  have qY10 := obj_lt oY10
  clear oY9 qY9
  have oD10 := (hn10.objs _ qD9).trans oD9
  have qD10 := obj_lt oD10
  clear oD9 qD9
  replace hs1 := hide (hs1.out.new hn10)
  replace hrp := hide (hrp.out.new hn10)
  replace hbk := hide (hbk.out.new hn10)
  have N10 := N9.trans hn10
  clear N9
  clear hn10
  go_wp2_with (fail)
  refine (costs Ro.out.qc Ro.out.qv ⟨by omega, by omega⟩ ⟨by omega, by omega⟩ hfm.out hQb.out (some ⟨gp, 0, none⟩) cp hpbH.out (by omega) _ hrp.out.sl).mono ?_
  rintro e w11 ⟨rfl, hn11⟩
  have oM11 := (hn11.objs _ qM10).trans oM10
  have qM11 := obj_lt oM11
  clear oM10 qM10
  have oY11 := (hn11.objs _ qY10).trans oY10
  have qY11 := obj_lt oY11
  clear oY10 qY10
  have oD11 := (hn11.objs _ qD10).trans oD10
  have qD11 := obj_lt oD11
  clear oD10 qD10
  replace hs1 := hide (hs1.out.new hn11)
  replace hrp := hide (hrp.out.new hn11)
  replace hbk := hide (hbk.out.new hn11)
  have N11 := N10.trans hn11
  clear N10
  clear hn11
  go_wp2_with (fail)
  refine (spri Ro.out.pict Ro.out.code ⟨by omega, by omega⟩ ⟨by omega, by omega⟩ hfm.out (some ⟨gp, 0, none⟩) cp hpbH.out (by omega) hcp _ hrp.out.sl).mono ?_
  rintro e w12 ⟨rfl, hn12⟩
  have oM12 := (hn12.objs _ qM11).trans oM11
  have qM12 := obj_lt oM12
  clear oM11 qM11
  have oY12 := (hn12.objs _ qY11).trans oY11
  have qY12 := obj_lt oY12
  clear oY11 qY11
  have oD12 := (hn12.objs _ qD11).trans oD11
  have qD12 := obj_lt oD12
  clear oD11 qD11
  replace hs1 := hide (hs1.out.new hn12)
  replace hrp := hide (hrp.out.new hn12)
  replace hbk := hide (hbk.out.new hn12)
  have N12 := N11.trans hn12
  clear N11
  clear hn12
  go_wp2_with (fail)
  generalize hw13 : World.alloc w12 (Obj.cells (pic 144 a b R) 39) = w13
  obtain ⟨gZ, hgZ⟩ : ∃ gZ, Hid (w12.heap.size = gZ) := ⟨_, rfl⟩
  have oZ13 : obj w13 gZ = some (.cells (pic 144 a b R) 39) := by rw [← hw13, ← hgZ.out]; exact obj_alloc_at _ _ _ rfl
  have oM13 := (show obj w13 gM = obj w12 gM by rw [← hw13]; exact obj_alloc_past _ _ _ qM12).trans oM12
  have qM13 := obj_lt oM13
  clear oM12 qM12
  have oY13 := (show obj w13 gY = obj w12 gY by rw [← hw13]; exact obj_alloc_past _ _ _ qY12).trans oY12
  have qY13 := obj_lt oY13
  clear oY12 qY12
  have oD13 := (show obj w13 gD = obj w12 gD by rw [← hw13]; exact obj_alloc_past _ _ _ qD12).trans oD12
  have qD13 := obj_lt oD13
  clear oD12 qD12
  have hn13 : New w12 w13 := by rw [← hw13]; exact (New.refl _).alloc _
  replace hs1 := hide (hs1.out.new hn13)
  replace hrp := hide (hrp.out.new hn13)
  replace hbk := hide (hbk.out.new hn13)
  have N13 := N12.trans hn13
  clear N12
  have qZ13 := obj_lt oZ13
  rw [hgZ.out]
  clear hw13 hgZ hn13
  refine (sprs Ro.out.pict Ro.out.code ⟨by omega, by omega⟩ ⟨by omega, by omega⟩ hfm.out (some ⟨gp, 0, none⟩) cp hpbH.out (by omega) _ hrp.out.sl).mono ?_
  rintro e w14 ⟨rfl, hn14⟩
  have oM14 := (hn14.objs _ qM13).trans oM13
  have qM14 := obj_lt oM14
  clear oM13 qM13
  have oY14 := (hn14.objs _ qY13).trans oY13
  have qY14 := obj_lt oY14
  clear oY13 qY13
  have oD14 := (hn14.objs _ qD13).trans oD13
  have qD14 := obj_lt oD14
  clear oD13 qD13
  have oZ14 := (hn14.objs _ qZ13).trans oZ13
  have qZ14 := obj_lt oZ14
  clear oZ13 qZ13
  replace hs1 := hide (hs1.out.new hn14)
  replace hrp := hide (hrp.out.new hn14)
  replace hbk := hide (hbk.out.new hn14)
  have N14 := N13.trans hn14
  clear N13
  clear hn14
  go_wp2_with (fail)
  generalize hw15 : World.alloc w14 (Obj.cells (pic 144 a b R) 39) = w15
  obtain ⟨gR, hgR⟩ : ∃ gR, Hid (w14.heap.size = gR) := ⟨_, rfl⟩
  have oR15 : obj w15 gR = some (.cells (pic 144 a b R) 39) := by rw [← hw15, ← hgR.out]; exact obj_alloc_at _ _ _ rfl
  have oM15 := (show obj w15 gM = obj w14 gM by rw [← hw15]; exact obj_alloc_past _ _ _ qM14).trans oM14
  have qM15 := obj_lt oM15
  clear oM14 qM14
  have oY15 := (show obj w15 gY = obj w14 gY by rw [← hw15]; exact obj_alloc_past _ _ _ qY14).trans oY14
  have qY15 := obj_lt oY15
  clear oY14 qY14
  have oD15 := (show obj w15 gD = obj w14 gD by rw [← hw15]; exact obj_alloc_past _ _ _ qD14).trans oD14
  have qD15 := obj_lt oD15
  clear oD14 qD14
  have oZ15 := (show obj w15 gZ = obj w14 gZ by rw [← hw15]; exact obj_alloc_past _ _ _ qZ14).trans oZ14
  have qZ15 := obj_lt oZ15
  clear oZ14 qZ14
  have hn15 : New w14 w15 := by rw [← hw15]; exact (New.refl _).alloc _
  replace hs1 := hide (hs1.out.new hn15)
  replace hrp := hide (hrp.out.new hn15)
  replace hbk := hide (hbk.out.new hn15)
  have N15 := N14.trans hn15
  clear N14
  have qR15 := obj_lt oR15
  rw [hgR.out]
  clear hw15 hgR hn15
  refine (costi Ro.out.cc Ro.out.cv ⟨by omega, by omega⟩ ⟨by omega, by omega⟩ hfm.out hRb.out (some ⟨gp, 0, none⟩) cp hpbH.out (by omega) hcp _ hrp.out.sl).mono ?_
  rintro e w16 ⟨rfl, hn16⟩
  have oM16 := (hn16.objs _ qM15).trans oM15
  have qM16 := obj_lt oM16
  clear oM15 qM15
  have oY16 := (hn16.objs _ qY15).trans oY15
  have qY16 := obj_lt oY16
  clear oY15 qY15
  have oD16 := (hn16.objs _ qD15).trans oD15
  have qD16 := obj_lt oD16
  clear oD15 qD15
  have oZ16 := (hn16.objs _ qZ15).trans oZ15
  have qZ16 := obj_lt oZ16
  clear oZ15 qZ15
  have oR16 := (hn16.objs _ qR15).trans oR15
  have qR16 := obj_lt oR16
  clear oR15 qR15
  replace hs1 := hide (hs1.out.new hn16)
  replace hrp := hide (hrp.out.new hn16)
  replace hbk := hide (hbk.out.new hn16)
  have N16 := N15.trans hn16
  clear N15
  clear hn16
  have hUVd : decide (U < V) = false := decide_eq_false (by omega)
  have hEQ := eqPicS a b Q
  have hER := eqPicS a b R
  clear hUV
  go_wp2_with (fail)
  refine (spi xb (some ⟨gp, 0, none⟩) n yb cp p (by omega) _ hbk.out.sl hrp.out.sl).mono ?_
  rintro e w17 ⟨rfl, hn17⟩
  have oM17 := (hn17.objs _ qM16).trans oM16
  have qM17 := obj_lt oM17
  clear oM16 qM16
  have oY17 := (hn17.objs _ qY16).trans oY16
  have qY17 := obj_lt oY17
  clear oY16 qY16
  have oD17 := (hn17.objs _ qD16).trans oD16
  have qD17 := obj_lt oD17
  clear oD16 qD16
  have oZ17 := (hn17.objs _ qZ16).trans oZ16
  have qZ17 := obj_lt oZ17
  clear oZ16 qZ16
  have oR17 := (hn17.objs _ qR16).trans oR16
  have qR17 := obj_lt oR17
  clear oR16 qR16
  replace hs1 := hide (hs1.out.new hn17)
  replace hrp := hide (hrp.out.new hn17)
  replace hbk := hide (hbk.out.new hn17)
  have N17 := N16.trans hn17
  clear N16
  clear hn17
  go_wp2_with (fail)
  refine (sps xb (some ⟨gp, 0, none⟩) n yb cp p (by omega) _ hbk.out.sl hrp.out.sl).mono ?_
  rintro e w18 ⟨rfl, hn18⟩
  have oM18 := (hn18.objs _ qM17).trans oM17
  have qM18 := obj_lt oM18
  clear oM17 qM17
  have oY18 := (hn18.objs _ qY17).trans oY17
  have qY18 := obj_lt oY18
  clear oY17 qY17
  have oD18 := (hn18.objs _ qD17).trans oD17
  have qD18 := obj_lt oD18
  clear oD17 qD17
  have oZ18 := (hn18.objs _ qZ17).trans oZ17
  have qZ18 := obj_lt oZ18
  clear oZ17 qZ17
  have oR18 := (hn18.objs _ qR17).trans oR17
  have qR18 := obj_lt oR18
  clear oR17 qR17
  replace hs1 := hide (hs1.out.new hn18)
  replace hrp := hide (hrp.out.new hn18)
  replace hbk := hide (hbk.out.new hn18)
  have N18 := N17.trans hn18
  clear N17
  clear hn18
  clear hbk
  go_wp2_with (fail)
  refine (validPal_k (some ⟨gp, 0, none⟩) n cp p (by omega) hcp hopH.out _ hrp.out.sl).mono ?_
  rintro e w19 ⟨rfl, hn19⟩
  have oM19 := (hn19.objs _ qM18).trans oM18
  have qM19 := obj_lt oM19
  clear oM18 qM18
  have oY19 := (hn19.objs _ qY18).trans oY18
  have qY19 := obj_lt oY19
  clear oY18 qY18
  have oD19 := (hn19.objs _ qD18).trans oD18
  have qD19 := obj_lt oD19
  clear oD18 qD18
  have oZ19 := (hn19.objs _ qZ18).trans oZ18
  have qZ19 := obj_lt oZ19
  clear oZ18 qZ18
  have oR19 := (hn19.objs _ qR18).trans oR18
  have qR19 := obj_lt oR19
  clear oR18 qR18
  replace hs1 := hide (hs1.out.new hn19)
  replace hrp := hide (hrp.out.new hn19)
  have N19 := N18.trans hn19
  clear N18
  clear hn19
  go_wp2_with (fail)
  refine (vimg hok.out ⟨by omega, by omega⟩ ⟨by omega, by omega⟩ _).mono ?_
  rintro e w20 ⟨rfl, hn20⟩
  have oM20 := (hn20.objs _ qM19).trans oM19
  have qM20 := obj_lt oM20
  clear oM19 qM19
  have oY20 := (hn20.objs _ qY19).trans oY19
  have qY20 := obj_lt oY20
  clear oY19 qY19
  have oD20 := (hn20.objs _ qD19).trans oD19
  have qD20 := obj_lt oD20
  clear oD19 qD19
  have oZ20 := (hn20.objs _ qZ19).trans oZ19
  have qZ20 := obj_lt oZ20
  clear oZ19 qZ19
  have oR20 := (hn20.objs _ qR19).trans oR19
  have qR20 := obj_lt oR20
  clear oR19 qR19
  replace hs1 := hide (hs1.out.new hn20)
  replace hrp := hide (hrp.out.new hn20)
  have N20 := N19.trans hn20
  clear N19
  clear hn20
  go_wp2_with (fail)
  refine (validP_k a b R ⟨by omega, by omega⟩ ⟨by omega, by omega⟩ hRb.out hRok.out _).mono ?_
  rintro e w21 ⟨rfl, hn21⟩
  have oM21 := (hn21.objs _ qM20).trans oM20
  have qM21 := obj_lt oM21
  clear oM20 qM20
  have oY21 := (hn21.objs _ qY20).trans oY20
  have qY21 := obj_lt oY21
  clear oY20 qY20
  have oD21 := (hn21.objs _ qD20).trans oD20
  have qD21 := obj_lt oD21
  clear oD20 qD20
  have oZ21 := (hn21.objs _ qZ20).trans oZ20
  have qZ21 := obj_lt oZ21
  clear oZ20 qZ20
  have oR21 := (hn21.objs _ qR20).trans oR20
  have qR21 := obj_lt oR21
  clear oR20 qR20
  replace hs1 := hide (hs1.out.new hn21)
  replace hrp := hide (hrp.out.new hn21)
  have N21 := N20.trans hn21
  clear N20
  clear hn21
  go_wp2_with (fail)
  clear hUVd hER
  clear oY21 qY21
  clear oZ21 qZ21
  refine nnL1 a b fm n p Q R gM gp cp gD gR w21 w21 ha hb hfm hpbH hopH hcp hn15 hn0 hQc hRc (hide oM21) (hide oD21) (hide oR21) (hide hrp.out.sl) (New.refl _) _ _ _ _ _ _ _ _ _ _ _ _ _ _ _ _ _ _ _ _ _ _ _ _ _ _ _ _ _ _ _ _ _ _ _ _ _ _ _ _ _ _ _ _ _ _ _ _ _ _ _ _ _ _ _ _ _ _ _ _ _ _ _ _ _ _ _ _ _ _ _ _ _ _ _ _ _ _ _ _ _ _ _ _ _ _ _ _ _ _ _ _ _ _ _ _ _ _ _ _ _ _ _ _ _ _ _ _ _ _ _ _ _ _ _ _ _ _ _ _ _ _ _ _ _ _ _ _ _ _ _ _ _ _ _ _ _ _ _ _ _ _ _ _ _ _ _ _ _ _ _ _ _ _ _ _ _ _ _ _ _ _ _ _ _ _ _ _ _ _ _ _ _ _ _ _ _ _ _ _ _ _ _ _ _ _ _ _ _ _ _ _ _ _ _ _ _ _ _ _ _ _ _ _ _ _ _ _ _ _ _ _ _ _ _ _ _ _ _ _ _ _ _ _ _ _ _ _ _ _ _ _ _ _ _ _ _ _ _ _ _ _ _ _ _ _ _ _ _ _ _ _ _ _ _ _ _ _ _ _ _ _ _ _ _ _ _ _ _ _ _ _ _ _ _ _ _ _ _ _ _ _ _ _ _ _ _ _ _ _ _ _ _ _ _ _ _ _ _ _ _ _ _ _ _ _ _ _ _ _ _ _ _ _ _ _ _ _ _ _ _ _ _ _ _ _ _ _ _ _ _ _ _ _ _ _ _ _ _ _ _ _ _ _ _ _ _ _ _ _ _ _ _ _ _ _ _ _ _ _ _ _ _ _ _ _ _ _ _ _ _ _ _ _ _ _ _ _ _ _ _ _ _ _ _ _ _ _ _ _ _ _ _ _ _ _ _ _ _ _ _ _ _ _ _ _ _ _ _ _ _ _ _ _ _ _ _ _ _ _ _ _ _ _ _ _ _ _ _ _ _ _ _ _ _ _ _ _ _ _ _ _ _ _ _ _ _ _ _ _ _ _ _ _ _ _ _ _ _ _ _ _ _ _ _ _ _ _ _ _ _ _ _ _ _ _ _ _ _ _ _ _ _ _ _ _ _ _ _ _ _ _ _ _ _ _ _ _ _ _ _ _ _ _ _ _ _ _ _ _ _ _ _ _ _ _ _ _ _ _ _ _ _ _ _ _ _ _ _ _ _ _ _ _ _ _ _ _ _ _ _ _ _ _ _ _ _ _ _ _ _ _ _ _ _ _ _ _ ?_
  intros
  rename_i wl hnl
  clear oR21 qR21
  clear hRc hRok hRb hQc hok Ro lb
  have oM22 := (hnl.objs _ qM21).trans oM21
  have qM22 := obj_lt oM22
  clear oM21 qM21
  have oD22 := (hnl.objs _ qD21).trans oD21
  have qD22 := obj_lt oD22
  clear oD21 qD21
  replace hs1 := hide (hs1.out.new hnl)
  replace hrp := hide (hrp.out.new hnl)
  have N22 := N21.trans hnl
  clear N21
  clear hnl
  go_wp2_with (fail)
  refine (imi hIm.out ⟨by omega, by omega⟩ ⟨by omega, by omega⟩ hQb.out (some ⟨gp, 0, none⟩) cp hpbH.out (by omega) hcp _ hrp.out.sl).mono ?_
  rintro e w23 ⟨rfl, hn23⟩
  have oM23 := (hn23.objs _ qM22).trans oM22
  have qM23 := obj_lt oM23
  clear oM22 qM22
  have oD23 := (hn23.objs _ qD22).trans oD22
  have qD23 := obj_lt oD23
  clear oD22 qD22
  replace hs1 := hide (hs1.out.new hn23)
  replace hrp := hide (hrp.out.new hn23)
  have N23 := N22.trans hn23
  clear N22
  clear hn23
  go_wp2_with (fail)
  generalize hw24 : World.alloc w23 (Obj.cells (pic 432 a b I) 29) = w24
  obtain ⟨gJ, hgJ⟩ : ∃ gJ, Hid (w23.heap.size = gJ) := ⟨_, rfl⟩
  have oJ24 : obj w24 gJ = some (.cells (pic 432 a b I) 29) := by rw [← hw24, ← hgJ.out]; exact obj_alloc_at _ _ _ rfl
  have oM24 := (show obj w24 gM = obj w23 gM by rw [← hw24]; exact obj_alloc_past _ _ _ qM23).trans oM23
  have qM24 := obj_lt oM24
  clear oM23 qM23
  have oD24 := (show obj w24 gD = obj w23 gD by rw [← hw24]; exact obj_alloc_past _ _ _ qD23).trans oD23
  have qD24 := obj_lt oD24
  clear oD23 qD23
  have hn24 : New w23 w24 := by rw [← hw24]; exact (New.refl _).alloc _
  replace hs1 := hide (hs1.out.new hn24)
  replace hrp := hide (hrp.out.new hn24)
  have N24 := N23.trans hn24
  clear N23
  have qJ24 := obj_lt oJ24
  rw [hgJ.out]
  clear hw24 hgJ hn24
  refine (ims hIm.out ⟨by omega, by omega⟩ ⟨by omega, by omega⟩ hQb.out (some ⟨gp, 0, none⟩) cp hpbH.out (by omega) _ hrp.out.sl).mono ?_
  rintro e w25 ⟨rfl, hn25⟩
  have oM25 := (hn25.objs _ qM24).trans oM24
  have qM25 := obj_lt oM25
  clear oM24 qM24
  have oD25 := (hn25.objs _ qD24).trans oD24
  have qD25 := obj_lt oD25
  clear oD24 qD24
  have oJ25 := (hn25.objs _ qJ24).trans oJ24
  have qJ25 := obj_lt oJ25
  clear oJ24 qJ24
  replace hs1 := hide (hs1.out.new hn25)
  replace hrp := hide (hrp.out.new hn25)
  have N25 := N24.trans hn25
  clear N24
  clear hn25
  go_wp2_with (fail)
  generalize hw26 : World.alloc w25 (Obj.cells (pic 432 a b I) 29) = w26
  obtain ⟨gK, hgK⟩ : ∃ gK, Hid (w25.heap.size = gK) := ⟨_, rfl⟩
  have oK26 : obj w26 gK = some (.cells (pic 432 a b I) 29) := by rw [← hw26, ← hgK.out]; exact obj_alloc_at _ _ _ rfl
  have oM26 := (show obj w26 gM = obj w25 gM by rw [← hw26]; exact obj_alloc_past _ _ _ qM25).trans oM25
  have qM26 := obj_lt oM26
  clear oM25 qM25
  have oD26 := (show obj w26 gD = obj w25 gD by rw [← hw26]; exact obj_alloc_past _ _ _ qD25).trans oD25
  have qD26 := obj_lt oD26
  clear oD25 qD25
  have oJ26 := (show obj w26 gJ = obj w25 gJ by rw [← hw26]; exact obj_alloc_past _ _ _ qJ25).trans oJ25
  have qJ26 := obj_lt oJ26
  clear oJ25 qJ25
  have hn26 : New w25 w26 := by rw [← hw26]; exact (New.refl _).alloc _
  replace hs1 := hide (hs1.out.new hn26)
  replace hrp := hide (hrp.out.new hn26)
  have N26 := N25.trans hn26
  clear N25
  have qK26 := obj_lt oK26
  rw [hgK.out]
  clear hw26 hgK hn26
  refine (pofi hIm.out.pict hIm.out.pc ⟨by omega, by omega⟩ ⟨by omega, by omega⟩ hIm.out.byte (some ⟨gp, 0, none⟩) cp hpbH.out (by omega) hcp _ hrp.out.sl).mono ?_
  rintro e w27 ⟨rfl, hn27⟩
  have oM27 := (hn27.objs _ qM26).trans oM26
  have qM27 := obj_lt oM27
  clear oM26 qM26
  have oD27 := (hn27.objs _ qD26).trans oD26
  have qD27 := obj_lt oD27
  clear oD26 qD26
  have oJ27 := (hn27.objs _ qJ26).trans oJ26
  have qJ27 := obj_lt oJ27
  clear oJ26 qJ26
  have oK27 := (hn27.objs _ qK26).trans oK26
  have qK27 := obj_lt oK27
  clear oK26 qK26
  replace hs1 := hide (hs1.out.new hn27)
  replace hrp := hide (hrp.out.new hn27)
  have N27 := N26.trans hn27
  clear N26
  clear hn27
  go_wp2_with (fail)
  generalize hw28 : World.alloc w27 (Obj.cells (pic 144 a b Q) 39) = w28
  obtain ⟨gT, hgT⟩ : ∃ gT, Hid (w27.heap.size = gT) := ⟨_, rfl⟩
  have oT28 : obj w28 gT = some (.cells (pic 144 a b Q) 39) := by rw [← hw28, ← hgT.out]; exact obj_alloc_at _ _ _ rfl
  have oM28 := (show obj w28 gM = obj w27 gM by rw [← hw28]; exact obj_alloc_past _ _ _ qM27).trans oM27
  have qM28 := obj_lt oM28
  clear oM27 qM27
  have oD28 := (show obj w28 gD = obj w27 gD by rw [← hw28]; exact obj_alloc_past _ _ _ qD27).trans oD27
  have qD28 := obj_lt oD28
  clear oD27 qD27
  have oJ28 := (show obj w28 gJ = obj w27 gJ by rw [← hw28]; exact obj_alloc_past _ _ _ qJ27).trans oJ27
  have qJ28 := obj_lt oJ28
  clear oJ27 qJ27
  have oK28 := (show obj w28 gK = obj w27 gK by rw [← hw28]; exact obj_alloc_past _ _ _ qK27).trans oK27
  have qK28 := obj_lt oK28
  clear oK27 qK27
  have hn28 : New w27 w28 := by rw [← hw28]; exact (New.refl _).alloc _
  replace hs1 := hide (hs1.out.new hn28)
  replace hrp := hide (hrp.out.new hn28)
  have N28 := N27.trans hn28
  clear N27
  have qT28 := obj_lt oT28
  rw [hgT.out]
  clear hw28 hgT hn28
  refine (costi hIm.out.cc hIm.out.cv ⟨by omega, by omega⟩ ⟨by omega, by omega⟩ hIm.out.byte hQb.out (some ⟨gp, 0, none⟩) cp hpbH.out (by omega) hcp _ hrp.out.sl).mono ?_
  rintro e w29 ⟨rfl, hn29⟩
  have oM29 := (hn29.objs _ qM28).trans oM28
  have qM29 := obj_lt oM29
  clear oM28 qM28
  have oD29 := (hn29.objs _ qD28).trans oD28
  have qD29 := obj_lt oD29
  clear oD28 qD28
  have oJ29 := (hn29.objs _ qJ28).trans oJ28
  have qJ29 := obj_lt oJ29
  clear oJ28 qJ28
  have oK29 := (hn29.objs _ qK28).trans oK28
  have qK29 := obj_lt oK29
  clear oK28 qK28
  have oT29 := (hn29.objs _ qT28).trans oT28
  have qT29 := obj_lt oT29
  clear oT28 qT28
  replace hs1 := hide (hs1.out.new hn29)
  replace hrp := hide (hrp.out.new hn29)
  have N29 := N28.trans hn29
  clear N28
  clear hn29
  clear hIm
  go_wp2_with (fail)
  refine (stki hDu.out.has hDu.out.many hDu.out.is ⟨by omega, by omega⟩ ⟨by omega, by omega⟩ hQb.out (some ⟨gp, 0, none⟩) cp (by omega) hcp _ hrp.out.sl).mono ?_
  rintro e w30 ⟨va, rfl, ra, hn30⟩
  have oM30 := (hn30.objs _ qM29).trans oM29
  have qM30 := obj_lt oM30
  clear oM29 qM29
  have oD30 := (hn30.objs _ qD29).trans oD29
  have qD30 := obj_lt oD30
  clear oD29 qD29
  have oJ30 := (hn30.objs _ qJ29).trans oJ29
  have qJ30 := obj_lt oJ30
  clear oJ29 qJ29
  have oK30 := (hn30.objs _ qK29).trans oK29
  have qK30 := obj_lt oK30
  clear oK29 qK29
  have oT30 := (hn30.objs _ qT29).trans oT29
  have qT30 := obj_lt oT30
  clear oT29 qT29
  replace hs1 := hide (hs1.out.new hn30)
  replace hrp := hide (hrp.out.new hn30)
  have N30 := N29.trans hn30
  clear N29
  clear hn30
  have h1 := hide ra
  clear ra
  go_wp2_with (fail)
  refine (stks hDu.out.has hDu.out.many hDu.out.is ⟨by omega, by omega⟩ ⟨by omega, by omega⟩ hQb.out (some ⟨gp, 0, none⟩) cp (by omega) _ hrp.out.sl).mono ?_
  rintro e w31 ⟨vc, rfl, rc, hn31⟩
  have oM31 := (hn31.objs _ qM30).trans oM30
  have qM31 := obj_lt oM31
  clear oM30 qM30
  have oD31 := (hn31.objs _ qD30).trans oD30
  have qD31 := obj_lt oD31
  clear oD30 qD30
  have oJ31 := (hn31.objs _ qJ30).trans oJ30
  have qJ31 := obj_lt oJ31
  clear oJ30 qJ30
  have oK31 := (hn31.objs _ qK30).trans oK30
  have qK31 := obj_lt oK31
  clear oK30 qK30
  have oT31 := (hn31.objs _ qT30).trans oT30
  have qT31 := obj_lt oT31
  clear oT30 qT30
  replace hs1 := hide (hs1.out.new hn31)
  replace hrp := hide (hrp.out.new hn31)
  replace h1 := hide (h1.out.new hn31)
  have N31 := N30.trans hn31
  clear N30
  clear hn31
  have h2 := hide rc
  clear rc
  obtain ⟨x1, y1, rfl, zx⟩ := h1.out.reads
  clear zx
  obtain ⟨x2, y2, rfl, zx⟩ := h2.out.reads
  clear zx
  go_wp2_with (fail)
  refine (fsi hDu.out.pict hDu.out.code ⟨by omega, by omega⟩ ⟨by omega, by omega⟩ hfm.out (some ⟨gp, 0, none⟩) cp hpbH.out (by omega) hcp x2 y2 _ hrp.out.sl h2.out.sl).mono ?_
  rintro e w32 ⟨rfl, hn32⟩
  have oM32 := (hn32.objs _ qM31).trans oM31
  have qM32 := obj_lt oM32
  clear oM31 qM31
  have oD32 := (hn32.objs _ qD31).trans oD31
  have qD32 := obj_lt oD32
  clear oD31 qD31
  have oJ32 := (hn32.objs _ qJ31).trans oJ31
  have qJ32 := obj_lt oJ32
  clear oJ31 qJ31
  have oK32 := (hn32.objs _ qK31).trans oK31
  have qK32 := obj_lt oK32
  clear oK31 qK31
  have oT32 := (hn32.objs _ qT31).trans oT31
  have qT32 := obj_lt oT32
  clear oT31 qT31
  replace hs1 := hide (hs1.out.new hn32)
  replace hrp := hide (hrp.out.new hn32)
  replace h1 := hide (h1.out.new hn32)
  replace h2 := hide (h2.out.new hn32)
  have N32 := N31.trans hn32
  clear N31
  clear hn32
  clear hDu
  go_wp2_with (fail)
  generalize hw33 : World.alloc w32 (Obj.cells (pic 144 a b Q) 39) = w33
  obtain ⟨gY, hgY⟩ : ∃ gY, Hid (w32.heap.size = gY) := ⟨_, rfl⟩
  have oY33 : obj w33 gY = some (.cells (pic 144 a b Q) 39) := by rw [← hw33, ← hgY.out]; exact obj_alloc_at _ _ _ rfl
  have oM33 := (show obj w33 gM = obj w32 gM by rw [← hw33]; exact obj_alloc_past _ _ _ qM32).trans oM32
  have qM33 := obj_lt oM33
  clear oM32 qM32
  have oD33 := (show obj w33 gD = obj w32 gD by rw [← hw33]; exact obj_alloc_past _ _ _ qD32).trans oD32
  have qD33 := obj_lt oD33
  clear oD32 qD32
  have oJ33 := (show obj w33 gJ = obj w32 gJ by rw [← hw33]; exact obj_alloc_past _ _ _ qJ32).trans oJ32
  have qJ33 := obj_lt oJ33
  clear oJ32 qJ32
  have oK33 := (show obj w33 gK = obj w32 gK by rw [← hw33]; exact obj_alloc_past _ _ _ qK32).trans oK32
  have qK33 := obj_lt oK33
  clear oK32 qK32
  have oT33 := (show obj w33 gT = obj w32 gT by rw [← hw33]; exact obj_alloc_past _ _ _ qT32).trans oT32
  have qT33 := obj_lt oT33
  clear oT32 qT32
  have hn33 : New w32 w33 := by rw [← hw33]; exact (New.refl _).alloc _
  replace hs1 := hide (hs1.out.new hn33)
  replace hrp := hide (hrp.out.new hn33)
  replace h1 := hide (h1.out.new hn33)
  replace h2 := hide (h2.out.new hn33)
  have N33 := N32.trans hn33
  clear N32
  have qY33 := obj_lt oY33
  rw [hgY.out]
  clear hw33 hgY hn33
  refine (a2Same_refl x1 x2 n y1 y2 C (by omega) _ h1.out.reads' h2.out.reads').mono ?_
  rintro e w34 ⟨rfl, hn34⟩
  have oM34 := (hn34.objs _ qM33).trans oM33
  have qM34 := obj_lt oM34
  clear oM33 qM33
  have oD34 := (hn34.objs _ qD33).trans oD33
  have qD34 := obj_lt oD34
  clear oD33 qD33
  have oJ34 := (hn34.objs _ qJ33).trans oJ33
  have qJ34 := obj_lt oJ34
  clear oJ33 qJ33
  have oK34 := (hn34.objs _ qK33).trans oK33
  have qK34 := obj_lt oK34
  clear oK33 qK33
  have oT34 := (hn34.objs _ qT33).trans oT33
  have qT34 := obj_lt oT34
  clear oT33 qT33
  have oY34 := (hn34.objs _ qY33).trans oY33
  have qY34 := obj_lt oY34
  clear oY33 qY33
  replace hs1 := hide (hs1.out.new hn34)
  replace hrp := hide (hrp.out.new hn34)
  replace h1 := hide (h1.out.new hn34)
  replace h2 := hide (h2.out.new hn34)
  have N34 := N33.trans hn34
  clear N33
  clear hn34
  clear h1
  go_wp2_with (fail)
  clear hEQ
  clear oJ34 qJ34
  clear oK34 qK34
  clear oT34 qT34
  clear oY34 qY34
  clear oD34 qD34
  refine nnL2 n n1 c1 w34.heap.size y2 f1 a1 x2 w34 _ hn15 hn1 hf1 hs1 (row_empty2 (obj_alloc_at _ _ _ rfl) (Nat.le_refl _)) ((New.refl _).alloc _) _ _ _ _ _ _ _ _ _ _ _ _ _ _ _ _ _ _ _ _ _ _ _ _ _ _ _ _ _ _ _ _ _ _ _ _ _ _ _ _ _ _ _ _ _ _ _ _ _ _ _ _ _ _ _ _ _ _ _ _ _ _ _ _ _ _ _ _ _ _ _ _ _ _ _ _ _ _ _ _ _ _ _ _ _ _ _ _ _ _ _ _ _ _ _ _ _ _ _ _ _ _ _ _ _ _ _ _ _ _ _ _ _ _ _ _ _ _ _ _ _ _ _ _ _ _ _ _ _ _ _ _ _ _ _ _ _ _ _ _ _ _ _ _ _ _ _ _ _ _ _ _ _ _ _ _ _ _ _ _ _ _ _ _ _ _ _ _ _ _ _ _ _ _ _ _ _ _ _ _ _ _ _ _ _ _ _ _ _ _ _ _ _ _ _ _ _ _ _ _ _ _ _ _ _ _ _ _ _ _ _ _ _ _ _ _ _ _ _ _ _ _ _ _ _ _ _ _ _ _ _ _ _ _ _ _ _ _ _ _ _ _ _ _ _ _ _ _ _ _ _ _ _ _ _ _ _ _ _ _ _ _ _ _ _ _ _ _ _ _ _ _ _ _ _ _ _ _ _ _ _ _ _ _ _ _ _ _ _ _ _ _ _ _ _ _ _ _ _ _ _ _ _ _ _ _ _ _ _ _ _ _ _ _ _ _ _ _ _ _ _ _ _ _ _ _ _ _ _ _ _ _ _ _ _ _ _ _ _ _ _ _ _ _ _ _ _ _ _ _ _ _ _ _ _ _ _ _ _ _ _ _ _ _ _ _ _ _ _ _ _ _ _ _ _ _ _ _ _ _ _ _ _ _ _ _ _ _ _ _ _ _ _ _ _ _ _ _ _ _ _ _ _ _ _ _ _ _ _ _ _ _ _ _ _ _ _ _ _ _ _ _ _ _ _ _ _ _ _ _ _ _ _ _ _ _ _ _ _ _ _ _ _ _ _ _ _ _ _ _ _ _ _ _ _ _ _ _ _ _ _ _ _ _ _ _ _ _ _ _ _ _ _ _ _ _ _ _ _ _ _ _ _ _ _ _ _ _ _ _ _ _ _ _ _ _ _ _ _ _ _ _ _ _ _ _ _ _ _ _ _ _ _ _ _ _ _ _ _ _ _ _ _ _ _ _ _ _ _ _ _ _ _ _ _ _ _ _ _ _ _ _ _ _ _ _ _ _ _ _ _ _ _ _ _ _ _ _ _ ?_
  intros
  rename_i wl2 hlist hnl2
  clear h2
  clear hs1
  have oM35 := (hnl2.objs _ qM34).trans oM34
  have qM35 := obj_lt oM35
  clear oM34 qM34
  replace hrp := hide (hrp.out.new hnl2)
  have N35 := N34.trans hnl2
  clear N34
  clear hnl2
  obtain ⟨go, co, rfl, rl⟩ := hlist
  have hrl := hide rl
  clear rl
  have hSm2 := hSm.out
  clear hSm
  rcases hSm2 with ⟨hc6, hp6⟩ | ⟨q, hc0, hp0, So⟩
  · replace hc6 := hide hc6
    replace hp6 := hide hp6
    go_wp2_with (fail)
    refine (fsi hp6.out hc6.out ⟨by omega, by omega⟩ ⟨by omega, by omega⟩ hfm.out (some ⟨gp, 0, none⟩) cp hpbH.out (by omega) hcp (some ⟨go, 0, none⟩) co _ hrp.out.sl hrl.out.sl).mono ?_
    rintro e w36 ⟨rfl, hn36⟩
    have oM36 := (hn36.objs _ qM35).trans oM35
    have qM36 := obj_lt oM36
    clear oM35 qM35
    replace hrp := hide (hrp.out.new hn36)
    replace hrl := hide (hrl.out.new hn36)
    have N36 := N35.trans hn36
    clear N35
    clear hn36
    go_wp2_with (fail)
    generalize hw37 : World.alloc w36 (Obj.cells (pic 144 0 0 fun _ => 0) 39) = w37
    obtain ⟨gY, hgY⟩ : ∃ gY, Hid (w36.heap.size = gY) := ⟨_, rfl⟩
    have oY37 : obj w37 gY = some (.cells (pic 144 0 0 fun _ => 0) 39) := by rw [← hw37, ← hgY.out]; exact obj_alloc_at _ _ _ rfl
    have oM37 := (show obj w37 gM = obj w36 gM by rw [← hw37]; exact obj_alloc_past _ _ _ qM36).trans oM36
    have qM37 := obj_lt oM37
    clear oM36 qM36
    have hn37 : New w36 w37 := by rw [← hw37]; exact (New.refl _).alloc _
    replace hrp := hide (hrp.out.new hn37)
    replace hrl := hide (hrl.out.new hn37)
    have N37 := N36.trans hn37
    clear N36
    have qY37 := obj_lt oY37
    rw [hgY.out]
    clear hw37 hgY hn37
    refine (fss hp6.out hc6.out ⟨by omega, by omega⟩ ⟨by omega, by omega⟩ hfm.out (some ⟨gp, 0, none⟩) cp hpbH.out (by omega) (some ⟨go, 0, none⟩) co _ hrp.out.sl hrl.out.sl).mono ?_
    rintro e w38 ⟨rfl, hn38⟩
    have oM38 := (hn38.objs _ qM37).trans oM37
    have qM38 := obj_lt oM38
    clear oM37 qM37
    have oY38 := (hn38.objs _ qY37).trans oY37
    have qY38 := obj_lt oY38
    clear oY37 qY37
    replace hrp := hide (hrp.out.new hn38)
    replace hrl := hide (hrl.out.new hn38)
    have N38 := N37.trans hn38
    clear N37
    clear hn38
    have hE0 := eqPicS 0 0 fun _ => 0
    clear hc6 hp6
    clear hrl
    go_wp2_with (fail)
    generalize hw39 : World.alloc w38 (Obj.cells (pic 144 0 0 fun _ => 0) 39) = w39
    obtain ⟨gZ, hgZ⟩ : ∃ gZ, Hid (w38.heap.size = gZ) := ⟨_, rfl⟩
    have oZ39 : obj w39 gZ = some (.cells (pic 144 0 0 fun _ => 0) 39) := by rw [← hw39, ← hgZ.out]; exact obj_alloc_at _ _ _ rfl
    have oM39 := (show obj w39 gM = obj w38 gM by rw [← hw39]; exact obj_alloc_past _ _ _ qM38).trans oM38
    have qM39 := obj_lt oM39
    clear oM38 qM38
    have oY39 := (show obj w39 gY = obj w38 gY by rw [← hw39]; exact obj_alloc_past _ _ _ qY38).trans oY38
    have qY39 := obj_lt oY39
    clear oY38 qY38
    have hn39 : New w38 w39 := by rw [← hw39]; exact (New.refl _).alloc _
    replace hrp := hide (hrp.out.new hn39)
    have N39 := N38.trans hn39
    clear N38
    have qZ39 := obj_lt oZ39
    rw [hgZ.out]
    clear hw39 hgZ hn39
    clear oY39 qY39
    clear oZ39 qZ39
    clear oM39 qM39
    clear hE0
    refine (srti hSr.out (some ⟨gp, 0, none⟩) cp hpbH.out (by omega) hcp _ hrp.out.sl).mono ?_
    rintro e w40 ⟨vd, ud, rfl, rp4, ro4, hn40⟩
    replace hrp := hide (hrp.out.new hn40)
    have N40 := N39.trans hn40
    clear N39
    clear hn40
    have hp4 := hide rp4
    have ho4 := hide ro4
    clear rp4 ro4
    go_wp2_with (fail)
    refine (srts hSr.out (some ⟨gp, 0, none⟩) cp hpbH.out (by omega) _ hrp.out.sl).mono ?_
    rintro e w41 ⟨ve, ue, rfl, rp5, ro5, hn41⟩
    replace hrp := hide (hrp.out.new hn41)
    replace hp4 := hide (hp4.out.new hn41)
    replace ho4 := hide (ho4.out.new hn41)
    have N41 := N40.trans hn41
    clear N40
    clear hn41
    have hp5 := hide rp5
    have ho5 := hide ro5
    clear rp5 ro5
    obtain ⟨x4, y4, rfl, l4⟩ := hp4.out.form3
    obtain ⟨gS, cS, cuS, rfl, bS, tS⟩ := hp5.out.at hn0
    clear bS tS
    obtain ⟨x6, y6, rfl, zx⟩ := ho4.out.reads
    clear zx
    obtain ⟨x7, y7, rfl, zx⟩ := ho5.out.reads
    clear zx l4
    go_wp2_with (fail)
    refine (sps x4 (some ⟨gS, 0, none⟩) n y4 cS S (by omega) _ hp4.out.sl hp5.out.sl).mono ?_
    rintro e w42 ⟨rfl, hn42⟩
    replace hrp := hide (hrp.out.new hn42)
    replace hp4 := hide (hp4.out.new hn42)
    replace ho4 := hide (ho4.out.new hn42)
    replace hp5 := hide (hp5.out.new hn42)
    replace ho5 := hide (ho5.out.new hn42)
    have N42 := N41.trans hn42
    clear N41
    clear hn42
    clear hp4
    go_wp2_with (fail)
    refine (a2Same_refl x6 x7 n y6 y7 O (by omega) _ ho4.out.reads' ho5.out.reads').mono ?_
    rintro e w43 ⟨rfl, hn43⟩
    replace hrp := hide (hrp.out.new hn43)
    replace ho4 := hide (ho4.out.new hn43)
    replace hp5 := hide (hp5.out.new hn43)
    replace ho5 := hide (ho5.out.new hn43)
    have N43 := N42.trans hn43
    clear N42
    clear hn43
    clear ho4
    go_wp2_with (fail)
    refine nnL4 n gp cp gS cS y7 p O S x7 w43 w43 hn0 hn15 (hide hSr.out.byte) (hide hSr.out.inn) (hide hSr.out.at_) (hide hSr.out.rise) (hide hrp.out.sl) (hide hp5.out.sl) ho5.out.reads' (New.refl _) _ _ _ _ _ _ _ _ _ _ _ _ _ _ _ _ _ _ _ _ _ _ _ _ _ _ _ _ _ _ _ _ _ _ _ _ _ _ _ _ _ _ _ _ _ _ _ _ _ _ _ _ _ _ _ _ _ _ _ _ _ _ _ _ _ _ _ _ _ _ _ _ _ _ _ _ _ _ _ _ _ _ _ _ _ _ _ _ _ _ _ _ _ _ _ _ _ _ _ _ _ _ _ _ _ _ _ _ _ _ _ _ _ _ _ _ _ _ _ _ _ _ _ _ _ _ _ _ _ _ _ _ _ _ _ _ _ _ _ _ _ _ _ _ _ _ _ _ _ _ _ _ _ _ _ _ _ _ _ _ _ _ _ _ _ _ _ _ _ _ _ _ _ _ _ _ _ _ _ _ _ _ _ _ _ _ _ _ _ _ _ _ _ _ _ _ _ _ _ _ _ _ _ _ _ _ _ _ _ _ _ _ _ _ _ _ _ _ _ _ _ _ _ _ _ _ _ _ _ _ _ _ _ _ _ _ _ _ _ _ _ _ _ _ _ _ _ _ _ _ _ _ _ _ _ _ _ _ _ _ _ _ _ _ _ _ _ _ _ _ _ _ _ _ _ _ _ _ _ _ _ _ _ _ _ _ _ _ _ _ _ _ _ _ _ _ _ _ _ _ _ _ _ _ _ _ _ _ _ _ _ _ _ _ _ _ _ _ _ _ _ _ _ _ _ _ _ _ _ _ _ _ _ _ _ _ _ _ _ _ _ _ _ _ _ _ _ _ _ _ _ _ _ _ _ _ _ _ _ _ _ _ _ _ _ _ _ _ _ _ _ _ _ _ _ _ _ _ _ _ _ _ _ _ _ _ _ _ _ _ _ _ _ _ _ _ _ _ _ _ _ _ _ _ _ _ _ _ _ _ _ _ _ _ _ _ _ _ _ _ _ _ _ _ _ _ _ _ _ _ _ _ _ _ _ _ _ _ _ _ _ _ _ _ _ _ _ _ _ _ _ _ _ _ _ _ _ _ _ _ _ _ _ _ _ _ _ _ _ _ _ _ _ _ _ _ _ _ _ _ _ _ _ _ _ _ _ _ _ _ _ _ _ _ _ _ _ _ _ _ _ _ _ _ _ _ _ _ _ _ _ _ _ _ _ _ _ _ _ _ _ _ _ _ _ _ _ _ _ _ _ _ _ _ _ _ _ _ _ _ _ _ _ _ _ _ _ _ _ _ _ _ _ _ _ _ _ _ _ ?_
    intros
    rename_i wl4 hnl4
    clear hp5
    clear ho5
    clear hrp
    clear hSr
    have hNZ := N43.trans hnl4
    go_wp2_with (fail)
    go_ret
    exact ⟨rfl, hNZ⟩
  · replace hc0 := hide hc0
    replace hp0 := hide hp0
    have hqb := hide So.good.by2
    replace So := hide So
    go_wp2_with (fail)
    refine (fsi hp0.out hc0.out ⟨by omega, by omega⟩ ⟨by omega, by omega⟩ hfm.out (some ⟨gp, 0, none⟩) cp hpbH.out (by omega) hcp (some ⟨go, 0, none⟩) co _ hrp.out.sl hrl.out.sl).mono ?_
    rintro e w36 ⟨rfl, hn36⟩
    have oM36 := (hn36.objs _ qM35).trans oM35
    have qM36 := obj_lt oM36
    clear oM35 qM35
    replace hrp := hide (hrp.out.new hn36)
    replace hrl := hide (hrl.out.new hn36)
    have N36 := N35.trans hn36
    clear N35
    clear hn36
    go_wp2_with (fail)
    generalize hw37 : World.alloc w36 (Obj.cells (pic 144 a b q) 39) = w37
    obtain ⟨gY, hgY⟩ : ∃ gY, Hid (w36.heap.size = gY) := ⟨_, rfl⟩
    have oY37 : obj w37 gY = some (.cells (pic 144 a b q) 39) := by rw [← hw37, ← hgY.out]; exact obj_alloc_at _ _ _ rfl
    have oM37 := (show obj w37 gM = obj w36 gM by rw [← hw37]; exact obj_alloc_past _ _ _ qM36).trans oM36
    have qM37 := obj_lt oM37
    clear oM36 qM36
    have hn37 : New w36 w37 := by rw [← hw37]; exact (New.refl _).alloc _
    replace hrp := hide (hrp.out.new hn37)
    replace hrl := hide (hrl.out.new hn37)
    have N37 := N36.trans hn37
    clear N36
    have qY37 := obj_lt oY37
    rw [hgY.out]
    clear hw37 hgY hn37
    refine (fss hp0.out hc0.out ⟨by omega, by omega⟩ ⟨by omega, by omega⟩ hfm.out (some ⟨gp, 0, none⟩) cp hpbH.out (by omega) (some ⟨go, 0, none⟩) co _ hrp.out.sl hrl.out.sl).mono ?_
    rintro e w38 ⟨rfl, hn38⟩
    have oM38 := (hn38.objs _ qM37).trans oM37
    have qM38 := obj_lt oM38
    clear oM37 qM37
    have oY38 := (hn38.objs _ qY37).trans oY37
    have qY38 := obj_lt oY38
    clear oY37 qY37
    replace hrp := hide (hrp.out.new hn38)
    replace hrl := hide (hrl.out.new hn38)
    have N38 := N37.trans hn38
    clear N37
    clear hn38
    have hEq := eqPicS a b q
    clear hc0 hp0
    go_wp2_with (fail)
    generalize hw39 : World.alloc w38 (Obj.cells (pic 144 a b q) 39) = w39
    obtain ⟨gZ, hgZ⟩ : ∃ gZ, Hid (w38.heap.size = gZ) := ⟨_, rfl⟩
    have oZ39 : obj w39 gZ = some (.cells (pic 144 a b q) 39) := by rw [← hw39, ← hgZ.out]; exact obj_alloc_at _ _ _ rfl
    have oM39 := (show obj w39 gM = obj w38 gM by rw [← hw39]; exact obj_alloc_past _ _ _ qM38).trans oM38
    have qM39 := obj_lt oM39
    clear oM38 qM38
    have oY39 := (show obj w39 gY = obj w38 gY by rw [← hw39]; exact obj_alloc_past _ _ _ qY38).trans oY38
    have qY39 := obj_lt oY39
    clear oY38 qY38
    have hn39 : New w38 w39 := by rw [← hw39]; exact (New.refl _).alloc _
    replace hrp := hide (hrp.out.new hn39)
    replace hrl := hide (hrl.out.new hn39)
    have N39 := N38.trans hn39
    clear N38
    have qZ39 := obj_lt oZ39
    rw [hgZ.out]
    clear hw39 hgZ hn39
    clear oY39 qY39
    clear hEq
    refine (stki So.out.has So.out.many rfl ⟨by omega, by omega⟩ ⟨by omega, by omega⟩ hqb.out (some ⟨gp, 0, none⟩) cp (by omega) hcp _ hrp.out.sl).mono ?_
    rintro e w40 ⟨vf, rfl, rf3, hn40⟩
    have oM40 := (hn40.objs _ qM39).trans oM39
    have qM40 := obj_lt oM40
    clear oM39 qM39
    have oZ40 := (hn40.objs _ qZ39).trans oZ39
    have qZ40 := obj_lt oZ40
    clear oZ39 qZ39
    replace hrp := hide (hrp.out.new hn40)
    replace hrl := hide (hrl.out.new hn40)
    have N40 := N39.trans hn40
    clear N39
    clear hn40
    have h3 := hide rf3
    clear rf3
    obtain ⟨x3, y3, rfl, zx⟩ := h3.out.reads
    clear zx
    clear oZ40 qZ40
    clear oM40 qM40
    go_wp2_with (fail)
    refine nnL3 n y3 co (stockF a b q) (fun i => atV f1 n1 i 9) x3 (some ⟨go, 0, none⟩) w40 w40 hn15 (hide So.out.less) h3.out.reads' hrl.out.reads' (New.refl _) _ _ _ _ _ _ _ _ _ _ _ _ _ _ _ _ _ _ _ _ _ _ _ _ _ _ _ _ _ _ _ _ _ _ _ _ _ _ _ _ _ _ _ _ _ _ _ _ _ _ _ _ _ _ _ _ _ _ _ _ _ _ _ _ _ _ _ _ _ _ _ _ _ _ _ _ _ _ _ _ _ _ _ _ _ _ _ _ _ _ _ _ _ _ _ _ _ _ _ _ _ _ _ _ _ _ _ _ _ _ _ _ _ _ _ _ _ _ _ _ _ _ _ _ _ _ _ _ _ _ _ _ _ _ _ _ _ _ _ _ _ _ _ _ _ _ _ _ _ _ _ _ _ _ _ _ _ _ _ _ _ _ _ _ _ _ _ _ _ _ _ _ _ _ _ _ _ _ _ _ _ _ _ _ _ _ _ _ _ _ _ _ _ _ _ _ _ _ _ _ _ _ _ _ _ _ _ _ _ _ _ _ _ _ _ _ _ _ _ _ _ _ _ _ _ _ _ _ _ _ _ _ _ _ _ _ _ _ _ _ _ _ _ _ _ _ _ _ _ _ _ _ _ _ _ _ _ _ _ _ _ _ _ _ _ _ _ _ _ _ _ _ _ _ _ _ _ _ _ _ _ _ _ _ _ _ _ _ _ _ _ _ _ _ _ _ _ _ _ _ _ _ _ _ _ _ _ _ _ _ _ _ _ _ _ _ _ _ _ _ _ _ _ _ _ _ _ _ _ _ _ _ _ _ _ _ _ _ _ _ _ _ _ _ _ _ _ _ _ _ _ _ _ _ _ _ _ _ _ _ _ _ _ _ _ _ _ _ _ _ _ _ _ _ _ _ _ _ _ _ _ _ _ _ _ _ _ _ _ _ _ _ _ _ _ _ _ _ _ _ _ _ _ _ _ _ _ _ _ _ _ _ _ _ _ _ _ _ _ _ _ _ _ _ _ _ _ _ _ _ _ _ _ _ _ _ _ _ _ _ _ _ _ _ _ _ _ _ _ _ _ _ _ _ _ _ _ _ _ _ _ _ _ _ _ _ _ _ _ _ _ _ _ _ _ _ _ _ _ _ _ _ _ _ _ _ _ _ _ _ _ _ _ _ _ _ _ _ _ _ _ _ _ _ _ _ _ _ _ _ _ _ _ _ _ _ _ _ _ _ _ _ _ _ _ _ _ _ _ _ _ _ _ _ _ _ _ _ _ _ _ _ _ _ _ _ _ _ _ _ _ _ _ _ _ _ _ _ _ _ ?_
    intros
    rename_i wl3 hnl3
    clear h3
    clear hrl
    clear So hqb
    replace hrp := hide (hrp.out.new hnl3)
    have N41 := N40.trans hnl3
    clear N40
    clear hnl3
    go_wp2_with (fail)
    refine (srti hSr.out (some ⟨gp, 0, none⟩) cp hpbH.out (by omega) hcp _ hrp.out.sl).mono ?_
    rintro e w42 ⟨vd, ud, rfl, rp4, ro4, hn42⟩
    replace hrp := hide (hrp.out.new hn42)
    have N42 := N41.trans hn42
    clear N41
    clear hn42
    have hp4 := hide rp4
    have ho4 := hide ro4
    clear rp4 ro4
    go_wp2_with (fail)
    refine (srts hSr.out (some ⟨gp, 0, none⟩) cp hpbH.out (by omega) _ hrp.out.sl).mono ?_
    rintro e w43 ⟨ve, ue, rfl, rp5, ro5, hn43⟩
    replace hrp := hide (hrp.out.new hn43)
    replace hp4 := hide (hp4.out.new hn43)
    replace ho4 := hide (ho4.out.new hn43)
    have N43 := N42.trans hn43
    clear N42
    clear hn43
    have hp5 := hide rp5
    have ho5 := hide ro5
    clear rp5 ro5
    obtain ⟨x4, y4, rfl, l4⟩ := hp4.out.form3
    obtain ⟨gS, cS, cuS, rfl, bS, tS⟩ := hp5.out.at hn0
    clear bS tS
    obtain ⟨x6, y6, rfl, zx⟩ := ho4.out.reads
    clear zx
    obtain ⟨x7, y7, rfl, zx⟩ := ho5.out.reads
    clear zx l4
    go_wp2_with (fail)
    refine (sps x4 (some ⟨gS, 0, none⟩) n y4 cS S (by omega) _ hp4.out.sl hp5.out.sl).mono ?_
    rintro e w44 ⟨rfl, hn44⟩
    replace hrp := hide (hrp.out.new hn44)
    replace hp4 := hide (hp4.out.new hn44)
    replace ho4 := hide (ho4.out.new hn44)
    replace hp5 := hide (hp5.out.new hn44)
    replace ho5 := hide (ho5.out.new hn44)
    have N44 := N43.trans hn44
    clear N43
    clear hn44
    clear hp4
    go_wp2_with (fail)
    refine (a2Same_refl x6 x7 n y6 y7 O (by omega) _ ho4.out.reads' ho5.out.reads').mono ?_
    rintro e w45 ⟨rfl, hn45⟩
    replace hrp := hide (hrp.out.new hn45)
    replace ho4 := hide (ho4.out.new hn45)
    replace hp5 := hide (hp5.out.new hn45)
    replace ho5 := hide (ho5.out.new hn45)
    have N45 := N44.trans hn45
    clear N44
    clear hn45
    clear ho4
    go_wp2_with (fail)
    refine nnL4 n gp cp gS cS y7 p O S x7 w45 w45 hn0 hn15 (hide hSr.out.byte) (hide hSr.out.inn) (hide hSr.out.at_) (hide hSr.out.rise) (hide hrp.out.sl) (hide hp5.out.sl) ho5.out.reads' (New.refl _) _ _ _ _ _ _ _ _ _ _ _ _ _ _ _ _ _ _ _ _ _ _ _ _ _ _ _ _ _ _ _ _ _ _ _ _ _ _ _ _ _ _ _ _ _ _ _ _ _ _ _ _ _ _ _ _ _ _ _ _ _ _ _ _ _ _ _ _ _ _ _ _ _ _ _ _ _ _ _ _ _ _ _ _ _ _ _ _ _ _ _ _ _ _ _ _ _ _ _ _ _ _ _ _ _ _ _ _ _ _ _ _ _ _ _ _ _ _ _ _ _ _ _ _ _ _ _ _ _ _ _ _ _ _ _ _ _ _ _ _ _ _ _ _ _ _ _ _ _ _ _ _ _ _ _ _ _ _ _ _ _ _ _ _ _ _ _ _ _ _ _ _ _ _ _ _ _ _ _ _ _ _ _ _ _ _ _ _ _ _ _ _ _ _ _ _ _ _ _ _ _ _ _ _ _ _ _ _ _ _ _ _ _ _ _ _ _ _ _ _ _ _ _ _ _ _ _ _ _ _ _ _ _ _ _ _ _ _ _ _ _ _ _ _ _ _ _ _ _ _ _ _ _ _ _ _ _ _ _ _ _ _ _ _ _ _ _ _ _ _ _ _ _ _ _ _ _ _ _ _ _ _ _ _ _ _ _ _ _ _ _ _ _ _ _ _ _ _ _ _ _ _ _ _ _ _ _ _ _ _ _ _ _ _ _ _ _ _ _ _ _ _ _ _ _ _ _ _ _ _ _ _ _ _ _ _ _ _ _ _ _ _ _ _ _ _ _ _ _ _ _ _ _ _ _ _ _ _ _ _ _ _ _ _ _ _ _ _ _ _ _ _ _ _ _ _ _ _ _ _ _ _ _ _ _ _ _ _ _ _ _ _ _ _ _ _ _ _ _ _ _ _ _ _ _ _ _ _ _ _ _ _ _ _ _ _ _ _ _ _ _ _ _ _ _ _ _ _ _ _ _ _ _ _ _ _ _ _ _ _ _ _ _ _ _ _ _ _ _ _ _ _ _ _ _ _ _ _ _ _ _ _ _ _ _ _ _ _ _ _ _ _ _ _ _ _ _ _ _ _ _ _ _ _ _ _ _ _ _ _ _ _ _ _ _ _ _ _ _ _ _ _ _ _ _ _ _ _ _ _ _ _ _ _ _ _ _ _ _ _ _ _ _ _ _ _ _ _ _ _ _ _ _ _ _ _ _ _ _ _ _ _ _ _ _ _ _ _ _ _ _ _ _ _ _ _ _ _ _ ?_
    intros
    rename_i wl4 hnl4
    clear hp5
    clear ho5
    clear hrp
    clear hSr
    have hNZ := N45.trans hnl4
    go_wp2_with (fail)
    go_ret
    exact ⟨rfl, hNZ⟩
end Go.Proofs.YtphjhegaplochaaGreatDoor
