/- The great law on pictures, walked; no condition. -/
import Derived.Test.YtomfjicjejoakaaDoorU11
import Derived.Test.YtomfjicjejoakaaDoorPpLp
import Derived.Test.YtomfjicjejoakaaDoorU8
import Derived.Test.YtomfjicjejoakaaDoorU3
import Derived.Test.YtomfjicjejoakaaDoorU5
import Derived.Test.YtomfjicjejoakaaDoorU6
set_option linter.unusedVariables false
namespace Go.Proofs.YtomfjicjejoakaaDoor
open Go.BigFrame
open Go.RowKit Go.Arr
theorem a2At_0 (ad : Option Addr) (n c : Nat) (f : Nat → Int) (hf : ∀ i, 0 ≤ f i ∧ f i ≤ 255) (m : Int) (hm : 1 ≤ m ∧ m ≤ 1000) (hn : n ≤ 3000) (w : World) (hs : Sl w (.slice ad n c) n 1 .u8 f) :
    Calls Tryd.prog 17 #[.slice ad n c, .int .i64 0, .int .i64 m] w fun e w' => e = .returned (.int .i64 (atV f n 0 m)) ∧ w = w' := a2At_any ad n c f hf 0 m (by omega) hm hn w hs
theorem a2At_1 (ad : Option Addr) (n c : Nat) (f : Nat → Int) (hf : ∀ i, 0 ≤ f i ∧ f i ≤ 255) (m : Int) (hm : 1 ≤ m ∧ m ≤ 1000) (hn : n ≤ 3000) (w : World) (hs : Sl w (.slice ad n c) n 1 .u8 f) :
    Calls Tryd.prog 17 #[.slice ad n c, .int .i64 1, .int .i64 m] w fun e w' => e = .returned (.int .i64 (atV f n 1 m)) ∧ w = w' := a2At_any ad n c f hf 1 m (by omega) hm hn w hs
theorem a2At_2 (ad : Option Addr) (n c : Nat) (f : Nat → Int) (hf : ∀ i, 0 ≤ f i ∧ f i ≤ 255) (m : Int) (hm : 1 ≤ m ∧ m ≤ 1000) (hn : n ≤ 3000) (w : World) (hs : Sl w (.slice ad n c) n 1 .u8 f) :
    Calls Tryd.prog 17 #[.slice ad n c, .int .i64 2, .int .i64 m] w fun e w' => e = .returned (.int .i64 (atV f n 2 m)) ∧ w = w' := a2At_any ad n c f hf 2 m (by omega) hm hn w hs
set_option maxHeartbeats 8000000 in
set_option maxRecDepth 1000000 in
theorem FnPictures_law (v0 : Value) (n0 : Nat) (f0 : Nat → Int) (hm0 : n0 ≤ maxLen) (hf0 : ∀ i, 0 ≤ f0 i ∧ f0 i ≤ 255) (v1 : Value) (n1 : Nat) (f1 : Nat → Int) (hm1 : n1 ≤ maxLen) (hf1 : ∀ i, 0 ≤ f1 i ∧ f1 i ≤ 255) (m : Int) (w : World)
    (hs0 : Sl w v0 n0 1 .u8 f0) (hl0 : ∀ a n c, v0 = .slice (some a) n c → a.block < w.heap.size) (hs1 : Sl w v1 n1 1 .u8 f1) (hl1 : ∀ a n c, v1 = .slice (some a) n c → a.block < w.heap.size)
    (hmx : w.cell? ⟨Tryd.laysM146_ren.g 1, 0, none⟩ = some (.int .i64 m)) :
    Calls Tryd.prog 3 #[v0, v1] w fun e w' => e = .returned (.bool true) ∧ New w w' := by
  obtain ⟨a0, c0, rfl, t0⟩ := hs0
  have hs0 : Sl w (.slice a0 n0 c0) n0 1 .u8 f0 := ⟨a0, c0, rfl, t0⟩
  obtain ⟨a1, c1, rfl, t1⟩ := hs1
  have hs1 : Sl w (.slice a1 n1 c1) n1 1 .u8 f1 := ⟨a1, c1, rfl, t1⟩
  have had : Hid (∀ a, a0 = some a → a.block < w.heap.size) := fun a e => hl0 a n0 c0 (by rw [e])
  have had1 : Hid (∀ a, a1 = some a → a.block < w.heap.size) := fun a e => hl1 a n1 c1 (by rw [e])
  clear t0 t1 hl0 hl1
  have hgl := World.block_lt_of_cell? _ _ hmx
  have hmn : Hid (∀ w', New w w' → w'.cell? ⟨Tryd.laysM146_ren.g 1, 0, none⟩ = some (.int .i64 m)) := fun w' h => by rw [h.cells _ _ hgl]; exact hmx
  clear hmx hgl
  cases hlong : (decide (3000 < n0) || decide (3000 < n1))
  rotate_left
  · go_enter Tryd.func3, Tryd.ntmps3
    go_wp2_with (fail)
    refine (a2Long_any a0 a1 n0 c0 n1 c1 _).mono ?_
    rintro e w1 ⟨rfl, rfl⟩
    rw [hlong]
    go_wp2_with (fail)
    go_ret
    exact ⟨rfl, New.refl w⟩
  have hn0 : n0 ≤ 3000 := by simp at hlong; omega
  have hn1 : n1 ≤ 3000 := by simp at hlong; omega
  replace hlong := hide hlong
  replace hs1 := hide hs1
  go_enter Tryd.func3, Tryd.ntmps3
  go_wp2_with (fail)
  refine (a2Long_any a0 a1 n0 c0 n1 c1 _).mono ?_
  rintro e w1 ⟨rfl, rfl⟩
  rw [hlong.out]
  go_wp2_with (fail)
  refine (a2Picture_any a0 n0 c0 f0 (by omega) hf0 _ hs0 had.out).mono ?_
  rintro e w1 ⟨a, b, q, rfl, ha6, hb6, hq, hn1⟩
  replace hs1 := hide (hs1.out.new hn1)
  have N1 := hn1
  clear hn1
  clear had hs0 hlong
  have ha : 1 ≤ a ∧ a ≤ 12 := by omega
  have hb : 1 ≤ b ∧ b ≤ 12 := by omega
  have hqb := hide hq.by
  have hok := hide (hq.ok ha hb)
  obtain ⟨M, F, T1, T2, T3, E, hCnt⟩ : ∃ M F T1 T2 T3, PpSym a b q M F T1 T2 T3 ∧ ∀ z : Nat, z < 9 → ∃ R C D, PpCnt a b q T1 z R C D := ⟨_, _, _, _, _, pp_sym ha hb hq, fun z hz => ⟨_, _, _, pp_cnt ha hb hq hz⟩⟩
  obtain ⟨s, X⟩ : ∃ s, PpTxt a b q s := ⟨_, pp_txt ha hb hq⟩
  obtain ⟨Wd, Bd⟩ : ∃ Wd, PpBor a b q Wd := ⟨_, pp_bor ⟨by omega, by omega⟩ ⟨by omega, by omega⟩ hq⟩
  obtain ⟨L1, L2, L3, L4, hL⟩ := lists_are (pic 144 b a T1) (pic 144 a b T2) (pic 144 b a T3) (pic 144 a b q) size_pic size_pic size_pic size_pic
  replace E := hide E
  replace hCnt := hide hCnt
  replace X := hide X
  replace Bd := hide Bd
  replace hL := hide hL
  have hg := hide hq
  clear hq
  go_wp2_with (fail)
  generalize hw2 : World.alloc w1 (Obj.cells (pic 144 a b q) 27) = w2
  obtain ⟨gP, hgP⟩ : ∃ gP, Hid (w1.heap.size = gP) := ⟨_, rfl⟩
  have oP2 : obj w2 gP = some (.cells (pic 144 a b q) 27) := by rw [← hw2, ← hgP.out]; exact obj_alloc_at _ _ _ rfl
  have hn2 : New w1 w2 := by rw [← hw2]; exact (New.refl _).alloc _
  replace hs1 := hide (hs1.out.new hn2)
  have N2 := N1.trans hn2
  clear N1
  have qP2 := obj_lt oP2
  rw [hgP.out]
  clear hw2 hgP hn2
  refine (txt_ik X.out ⟨by omega, by omega⟩ ⟨by omega, by omega⟩ hqb.out _).mono ?_
  rintro e w3 ⟨rfl, hn3⟩
  have oP3 := (hn3.objs _ qP2).trans oP2
  have qP3 := obj_lt oP3
  clear oP2 qP2
  replace hs1 := hide (hs1.out.new hn3)
  have N3 := N2.trans hn3
  clear N2
  clear hn3
  go_wp2_with (fail)
  refine (rd_ik X.out m _ (hmn.out _ N3)).mono ?_
  rintro e w4 ⟨rfl, hn4⟩
  have oP4 := (hn4.objs _ qP3).trans oP3
  have qP4 := obj_lt oP4
  clear oP3 qP3
  replace hs1 := hide (hs1.out.new hn4)
  have N4 := N3.trans hn4
  clear N3
  clear hn4
  clear hmn X
  go_wp2_with (fail)
  generalize hw5 : World.alloc w4 (Obj.cells (pic 144 a b q) 27) = w5
  obtain ⟨gB, hgB⟩ : ∃ gB, Hid (w4.heap.size = gB) := ⟨_, rfl⟩
  have oB5 : obj w5 gB = some (.cells (pic 144 a b q) 27) := by rw [← hw5, ← hgB.out]; exact obj_alloc_at _ _ _ rfl
  have oP5 := (show obj w5 gP = obj w4 gP by rw [← hw5]; exact obj_alloc_past _ _ _ qP4).trans oP4
  have qP5 := obj_lt oP5
  clear oP4 qP4
  have hn5 : New w4 w5 := by rw [← hw5]; exact (New.refl _).alloc _
  replace hs1 := hide (hs1.out.new hn5)
  have N5 := N4.trans hn5
  clear N4
  have qB5 := obj_lt oB5
  rw [hgB.out]
  clear hw5 hgB hn5
  refine (E.out.m1.calls (mirror_impl a b q ⟨by omega, by omega⟩ ⟨by omega, by omega⟩ hqb.out _)).mono ?_
  rintro e w6 ⟨rfl, hn6⟩
  have oP6 := (hn6.objs _ qP5).trans oP5
  have qP6 := obj_lt oP6
  clear oP5 qP5
  have oB6 := (hn6.objs _ qB5).trans oB5
  have qB6 := obj_lt oB6
  clear oB5 qB5
  replace hs1 := hide (hs1.out.new hn6)
  have N6 := N5.trans hn6
  clear N5
  clear hn6
  go_wp2_with (fail)
  generalize hw7 : World.alloc w6 (Obj.cells (pic 144 a b M) 27) = w7
  obtain ⟨gU, hgU⟩ : ∃ gU, Hid (w6.heap.size = gU) := ⟨_, rfl⟩
  have oU7 : obj w7 gU = some (.cells (pic 144 a b M) 27) := by rw [← hw7, ← hgU.out]; exact obj_alloc_at _ _ _ rfl
  have oP7 := (show obj w7 gP = obj w6 gP by rw [← hw7]; exact obj_alloc_past _ _ _ qP6).trans oP6
  have qP7 := obj_lt oP7
  clear oP6 qP6
  have oB7 := (show obj w7 gB = obj w6 gB by rw [← hw7]; exact obj_alloc_past _ _ _ qB6).trans oB6
  have qB7 := obj_lt oB7
  clear oB6 qB6
  have hn7 : New w6 w7 := by rw [← hw7]; exact (New.refl _).alloc _
  replace hs1 := hide (hs1.out.new hn7)
  have N7 := N6.trans hn7
  clear N6
  have qU7 := obj_lt oU7
  rw [hgU.out]
  clear hw7 hgU hn7
  refine (E.out.m1.calls (mirror_spec a b q ⟨by omega, by omega⟩ ⟨by omega, by omega⟩ hqb.out _)).mono ?_
  rintro e w8 ⟨rfl, hn8⟩
  have oP8 := (hn8.objs _ qP7).trans oP7
  have qP8 := obj_lt oP8
  clear oP7 qP7
  have oB8 := (hn8.objs _ qB7).trans oB7
  have qB8 := obj_lt oB8
  clear oB7 qB7
  have oU8 := (hn8.objs _ qU7).trans oU7
  have qU8 := obj_lt oU8
  clear oU7 qU7
  replace hs1 := hide (hs1.out.new hn8)
  have N8 := N7.trans hn8
  clear N7
  clear hn8
  go_wp2_with (fail)
  generalize hw9 : World.alloc w8 (Obj.cells (pic 144 a b M) 27) = w9
  obtain ⟨gD, hgD⟩ : ∃ gD, Hid (w8.heap.size = gD) := ⟨_, rfl⟩
  have oD9 : obj w9 gD = some (.cells (pic 144 a b M) 27) := by rw [← hw9, ← hgD.out]; exact obj_alloc_at _ _ _ rfl
  have oP9 := (show obj w9 gP = obj w8 gP by rw [← hw9]; exact obj_alloc_past _ _ _ qP8).trans oP8
  have qP9 := obj_lt oP9
  clear oP8 qP8
  have oB9 := (show obj w9 gB = obj w8 gB by rw [← hw9]; exact obj_alloc_past _ _ _ qB8).trans oB8
  have qB9 := obj_lt oB9
  clear oB8 qB8
  have oU9 := (show obj w9 gU = obj w8 gU by rw [← hw9]; exact obj_alloc_past _ _ _ qU8).trans oU8
  have qU9 := obj_lt oU9
  clear oU8 qU8
  have hn9 : New w8 w9 := by rw [← hw9]; exact (New.refl _).alloc _
  replace hs1 := hide (hs1.out.new hn9)
  have N9 := N8.trans hn9
  clear N8
  have qD9 := obj_lt oD9
  rw [hgD.out]
  clear hw9 hgD hn9
  refine (E.out.m2.calls (mirror_impl a b M ⟨by omega, by omega⟩ ⟨by omega, by omega⟩ E.out.gM.by _)).mono ?_
  rintro e w10 ⟨rfl, hn10⟩
  have oP10 := (hn10.objs _ qP9).trans oP9
  have qP10 := obj_lt oP10
  clear oP9 qP9
  have oB10 := (hn10.objs _ qB9).trans oB9
  have qB10 := obj_lt oB10
  clear oB9 qB9
  have oU10 := (hn10.objs _ qU9).trans oU9
  have qU10 := obj_lt oU10
  clear oU9 qU9
  have oD10 := (hn10.objs _ qD9).trans oD9
  have qD10 := obj_lt oD10
  clear oD9 qD9
  replace hs1 := hide (hs1.out.new hn10)
  have N10 := N9.trans hn10
  clear N9
  clear hn10
  go_wp2_with (fail)
  generalize hw11 : World.alloc w10 (Obj.cells (pic 144 a b q) 27) = w11
  obtain ⟨gV, hgV⟩ : ∃ gV, Hid (w10.heap.size = gV) := ⟨_, rfl⟩
  have oV11 : obj w11 gV = some (.cells (pic 144 a b q) 27) := by rw [← hw11, ← hgV.out]; exact obj_alloc_at _ _ _ rfl
  have oP11 := (show obj w11 gP = obj w10 gP by rw [← hw11]; exact obj_alloc_past _ _ _ qP10).trans oP10
  have qP11 := obj_lt oP11
  clear oP10 qP10
  have oB11 := (show obj w11 gB = obj w10 gB by rw [← hw11]; exact obj_alloc_past _ _ _ qB10).trans oB10
  have qB11 := obj_lt oB11
  clear oB10 qB10
  have oU11 := (show obj w11 gU = obj w10 gU by rw [← hw11]; exact obj_alloc_past _ _ _ qU10).trans oU10
  have qU11 := obj_lt oU11
  clear oU10 qU10
  have oD11 := (show obj w11 gD = obj w10 gD by rw [← hw11]; exact obj_alloc_past _ _ _ qD10).trans oD10
  have qD11 := obj_lt oD11
  clear oD10 qD10
  have hn11 : New w10 w11 := by rw [← hw11]; exact (New.refl _).alloc _
  replace hs1 := hide (hs1.out.new hn11)
  have N11 := N10.trans hn11
  clear N10
  have qV11 := obj_lt oV11
  rw [hgV.out]
  clear hw11 hgV hn11
  refine (E.out.f1.calls (flip_impl a b q ⟨by omega, by omega⟩ ⟨by omega, by omega⟩ hqb.out _)).mono ?_
  rintro e w12 ⟨rfl, hn12⟩
  have oP12 := (hn12.objs _ qP11).trans oP11
  have qP12 := obj_lt oP12
  clear oP11 qP11
  have oB12 := (hn12.objs _ qB11).trans oB11
  have qB12 := obj_lt oB12
  clear oB11 qB11
  have oU12 := (hn12.objs _ qU11).trans oU11
  have qU12 := obj_lt oU12
  clear oU11 qU11
  have oD12 := (hn12.objs _ qD11).trans oD11
  have qD12 := obj_lt oD12
  clear oD11 qD11
  have oV12 := (hn12.objs _ qV11).trans oV11
  have qV12 := obj_lt oV12
  clear oV11 qV11
  replace hs1 := hide (hs1.out.new hn12)
  have N12 := N11.trans hn12
  clear N11
  clear hn12
  go_wp2_with (fail)
  generalize hw13 : World.alloc w12 (Obj.cells (pic 144 a b F) 27) = w13
  obtain ⟨gY, hgY⟩ : ∃ gY, Hid (w12.heap.size = gY) := ⟨_, rfl⟩
  have oY13 : obj w13 gY = some (.cells (pic 144 a b F) 27) := by rw [← hw13, ← hgY.out]; exact obj_alloc_at _ _ _ rfl
  have oP13 := (show obj w13 gP = obj w12 gP by rw [← hw13]; exact obj_alloc_past _ _ _ qP12).trans oP12
  have qP13 := obj_lt oP13
  clear oP12 qP12
  have oB13 := (show obj w13 gB = obj w12 gB by rw [← hw13]; exact obj_alloc_past _ _ _ qB12).trans oB12
  have qB13 := obj_lt oB13
  clear oB12 qB12
  have oU13 := (show obj w13 gU = obj w12 gU by rw [← hw13]; exact obj_alloc_past _ _ _ qU12).trans oU12
  have qU13 := obj_lt oU13
  clear oU12 qU12
  have oD13 := (show obj w13 gD = obj w12 gD by rw [← hw13]; exact obj_alloc_past _ _ _ qD12).trans oD12
  have qD13 := obj_lt oD13
  clear oD12 qD12
  have oV13 := (show obj w13 gV = obj w12 gV by rw [← hw13]; exact obj_alloc_past _ _ _ qV12).trans oV12
  have qV13 := obj_lt oV13
  clear oV12 qV12
  have hn13 : New w12 w13 := by rw [← hw13]; exact (New.refl _).alloc _
  replace hs1 := hide (hs1.out.new hn13)
  have N13 := N12.trans hn13
  clear N12
  have qY13 := obj_lt oY13
  rw [hgY.out]
  clear hw13 hgY hn13
  refine (E.out.f1.calls (flip_spec a b q ⟨by omega, by omega⟩ ⟨by omega, by omega⟩ hqb.out _)).mono ?_
  rintro e w14 ⟨rfl, hn14⟩
  have oP14 := (hn14.objs _ qP13).trans oP13
  have qP14 := obj_lt oP14
  clear oP13 qP13
  have oB14 := (hn14.objs _ qB13).trans oB13
  have qB14 := obj_lt oB14
  clear oB13 qB13
  have oU14 := (hn14.objs _ qU13).trans oU13
  have qU14 := obj_lt oU14
  clear oU13 qU13
  have oD14 := (hn14.objs _ qD13).trans oD13
  have qD14 := obj_lt oD14
  clear oD13 qD13
  have oV14 := (hn14.objs _ qV13).trans oV13
  have qV14 := obj_lt oV14
  clear oV13 qV13
  have oY14 := (hn14.objs _ qY13).trans oY13
  have qY14 := obj_lt oY14
  clear oY13 qY13
  replace hs1 := hide (hs1.out.new hn14)
  have N14 := N13.trans hn14
  clear N13
  clear hn14
  go_wp2_with (fail)
  generalize hw15 : World.alloc w14 (Obj.cells (pic 144 a b F) 27) = w15
  obtain ⟨gZ, hgZ⟩ : ∃ gZ, Hid (w14.heap.size = gZ) := ⟨_, rfl⟩
  have oZ15 : obj w15 gZ = some (.cells (pic 144 a b F) 27) := by rw [← hw15, ← hgZ.out]; exact obj_alloc_at _ _ _ rfl
  have oP15 := (show obj w15 gP = obj w14 gP by rw [← hw15]; exact obj_alloc_past _ _ _ qP14).trans oP14
  have qP15 := obj_lt oP15
  clear oP14 qP14
  have oB15 := (show obj w15 gB = obj w14 gB by rw [← hw15]; exact obj_alloc_past _ _ _ qB14).trans oB14
  have qB15 := obj_lt oB15
  clear oB14 qB14
  have oU15 := (show obj w15 gU = obj w14 gU by rw [← hw15]; exact obj_alloc_past _ _ _ qU14).trans oU14
  have qU15 := obj_lt oU15
  clear oU14 qU14
  have oD15 := (show obj w15 gD = obj w14 gD by rw [← hw15]; exact obj_alloc_past _ _ _ qD14).trans oD14
  have qD15 := obj_lt oD15
  clear oD14 qD14
  have oV15 := (show obj w15 gV = obj w14 gV by rw [← hw15]; exact obj_alloc_past _ _ _ qV14).trans oV14
  have qV15 := obj_lt oV15
  clear oV14 qV14
  have oY15 := (show obj w15 gY = obj w14 gY by rw [← hw15]; exact obj_alloc_past _ _ _ qY14).trans oY14
  have qY15 := obj_lt oY15
  clear oY14 qY14
  have hn15 : New w14 w15 := by rw [← hw15]; exact (New.refl _).alloc _
  replace hs1 := hide (hs1.out.new hn15)
  have N15 := N14.trans hn15
  clear N14
  have qZ15 := obj_lt oZ15
  rw [hgZ.out]
  clear hw15 hgZ hn15
  refine (E.out.f2.calls (flip_impl a b F ⟨by omega, by omega⟩ ⟨by omega, by omega⟩ E.out.gF.by _)).mono ?_
  rintro e w16 ⟨rfl, hn16⟩
  have oP16 := (hn16.objs _ qP15).trans oP15
  have qP16 := obj_lt oP16
  clear oP15 qP15
  have oB16 := (hn16.objs _ qB15).trans oB15
  have qB16 := obj_lt oB16
  clear oB15 qB15
  have oU16 := (hn16.objs _ qU15).trans oU15
  have qU16 := obj_lt oU16
  clear oU15 qU15
  have oD16 := (hn16.objs _ qD15).trans oD15
  have qD16 := obj_lt oD16
  clear oD15 qD15
  have oV16 := (hn16.objs _ qV15).trans oV15
  have qV16 := obj_lt oV16
  clear oV15 qV15
  have oY16 := (hn16.objs _ qY15).trans oY15
  have qY16 := obj_lt oY16
  clear oY15 qY15
  have oZ16 := (hn16.objs _ qZ15).trans oZ15
  have qZ16 := obj_lt oZ16
  clear oZ15 qZ15
  replace hs1 := hide (hs1.out.new hn16)
  have N16 := N15.trans hn16
  clear N15
  clear hn16
  have hEq := eqPic_self a b q
  have hEM := eqPic_self a b M
  have hEF := eqPic_self a b F
  go_wp2_with (fail)
  generalize hw17 : World.alloc w16 (Obj.cells (pic 144 a b q) 27) = w17
  obtain ⟨gH, hgH⟩ : ∃ gH, Hid (w16.heap.size = gH) := ⟨_, rfl⟩
  have oH17 : obj w17 gH = some (.cells (pic 144 a b q) 27) := by rw [← hw17, ← hgH.out]; exact obj_alloc_at _ _ _ rfl
  have oP17 := (show obj w17 gP = obj w16 gP by rw [← hw17]; exact obj_alloc_past _ _ _ qP16).trans oP16
  have qP17 := obj_lt oP17
  clear oP16 qP16
  have oB17 := (show obj w17 gB = obj w16 gB by rw [← hw17]; exact obj_alloc_past _ _ _ qB16).trans oB16
  have qB17 := obj_lt oB17
  clear oB16 qB16
  have oU17 := (show obj w17 gU = obj w16 gU by rw [← hw17]; exact obj_alloc_past _ _ _ qU16).trans oU16
  have qU17 := obj_lt oU17
  clear oU16 qU16
  have oD17 := (show obj w17 gD = obj w16 gD by rw [← hw17]; exact obj_alloc_past _ _ _ qD16).trans oD16
  have qD17 := obj_lt oD17
  clear oD16 qD16
  have oV17 := (show obj w17 gV = obj w16 gV by rw [← hw17]; exact obj_alloc_past _ _ _ qV16).trans oV16
  have qV17 := obj_lt oV17
  clear oV16 qV16
  have oY17 := (show obj w17 gY = obj w16 gY by rw [← hw17]; exact obj_alloc_past _ _ _ qY16).trans oY16
  have qY17 := obj_lt oY17
  clear oY16 qY16
  have oZ17 := (show obj w17 gZ = obj w16 gZ by rw [← hw17]; exact obj_alloc_past _ _ _ qZ16).trans oZ16
  have qZ17 := obj_lt oZ17
  clear oZ16 qZ16
  have hn17 : New w16 w17 := by rw [← hw17]; exact (New.refl _).alloc _
  replace hs1 := hide (hs1.out.new hn17)
  have N17 := N16.trans hn17
  clear N16
  have qH17 := obj_lt oH17
  rw [hgH.out]
  clear hw17 hgH hn17
  refine (valid_ik hok.out ⟨by omega, by omega⟩ ⟨by omega, by omega⟩ hqb.out _).mono ?_
  rintro e w18 ⟨rfl, hn18⟩
  have oP18 := (hn18.objs _ qP17).trans oP17
  have qP18 := obj_lt oP18
  clear oP17 qP17
  have oB18 := (hn18.objs _ qB17).trans oB17
  have qB18 := obj_lt oB18
  clear oB17 qB17
  have oU18 := (hn18.objs _ qU17).trans oU17
  have qU18 := obj_lt oU18
  clear oU17 qU17
  have oD18 := (hn18.objs _ qD17).trans oD17
  have qD18 := obj_lt oD18
  clear oD17 qD17
  have oV18 := (hn18.objs _ qV17).trans oV17
  have qV18 := obj_lt oV18
  clear oV17 qV17
  have oY18 := (hn18.objs _ qY17).trans oY17
  have qY18 := obj_lt oY18
  clear oY17 qY17
  have oZ18 := (hn18.objs _ qZ17).trans oZ17
  have qZ18 := obj_lt oZ18
  clear oZ17 qZ17
  have oH18 := (hn18.objs _ qH17).trans oH17
  have qH18 := obj_lt oH18
  clear oH17 qH17
  replace hs1 := hide (hs1.out.new hn18)
  have N18 := N17.trans hn18
  clear N17
  clear hn18
  go_wp2_with (fail)
  refine (same_ik a b q _).mono ?_
  rintro e w19 ⟨rfl, hn19⟩
  have oP19 := (hn19.objs _ qP18).trans oP18
  have qP19 := obj_lt oP19
  clear oP18 qP18
  have oB19 := (hn19.objs _ qB18).trans oB18
  have qB19 := obj_lt oB19
  clear oB18 qB18
  have oU19 := (hn19.objs _ qU18).trans oU18
  have qU19 := obj_lt oU19
  clear oU18 qU18
  have oD19 := (hn19.objs _ qD18).trans oD18
  have qD19 := obj_lt oD19
  clear oD18 qD18
  have oV19 := (hn19.objs _ qV18).trans oV18
  have qV19 := obj_lt oV19
  clear oV18 qV18
  have oY19 := (hn19.objs _ qY18).trans oY18
  have qY19 := obj_lt oY19
  clear oY18 qY18
  have oZ19 := (hn19.objs _ qZ18).trans oZ18
  have qZ19 := obj_lt oZ19
  clear oZ18 qZ18
  have oH19 := (hn19.objs _ qH18).trans oH18
  have qH19 := obj_lt oH19
  clear oH18 qH18
  replace hs1 := hide (hs1.out.new hn19)
  have N19 := N18.trans hn19
  clear N18
  clear hn19
  go_wp2_with (fail)
  clear hEM hEF
  clear oB19 qB19
  clear oU19 qU19
  clear oV19 qV19
  clear oY19 qY19
  clear oH19 qH19
  obtain ⟨gN, hgN⟩ : ∃ g, Hid (w19.heap.size = g) := ⟨_, rfl⟩
  generalize hwl : World.alloc (World.alloc w19 (Obj.cells (pic 144 a b q) 27)) (Obj.cells zl 35) = wl
  have oN0 : obj wl gN = some (.cells (pic 144 a b q) 27) := by rw [← hwl, ← hgN.out]; exact (obj_alloc_past _ _ _ (by simp)).trans (obj_alloc_at _ _ _ rfl)
  have oL0 : obj wl (gN + 1) = some (.cells zl 35) := by rw [← hwl, ← hgN.out]; exact obj_alloc_at _ _ _ (by simp)
  have hnl : New w19 wl := by rw [← hwl]; exact ((New.refl _).alloc _).alloc _
  rw [hgN.out]
  have hgN2 : w19.heap.size ≤ gN := by rw [hgN.out]; exact Nat.le_refl _
  obtain ⟨gL, hgL⟩ : ∃ g, gN + 1 = g := ⟨_, rfl⟩
  rw [hgL] at oL0 ⊢
  have hNL : gN < gL := by omega
  have hgL2 : w19.heap.size ≤ gL := by omega
  have ql := obj_lt oL0
  clear hwl hgN hgL
  refine ppLp a b q M F T1 T2 T3 L1 L2 L3 L4 gN gL w19 wl ha hb hqb E hL hgN2 hNL oN0 oL0 hnl _ _ _ _ _ _ _ _ _ _ _ _ _ _ _ _ _ _ _ _ _ _ _ _ _ _ _ _ _ _ _ _ _ _ _ _ _ _ _ _ _ _ _ _ _ _ _ _ _ _ _ _ _ _ _ _ _ _ _ _ _ _ _ _ _ _ _ _ _ _ _ _ _ _ _ _ _ _ _ _ _ _ _ _ _ _ _ _ _ _ _ _ _ _ _ _ _ _ _ _ _ _ _ _ _ _ _ _ _ _ _ _ _ _ _ _ _ _ _ _ _ _ _ _ _ _ _ _ _ _ _ _ _ _ _ _ _ _ _ _ _ _ _ _ _ _ _ _ _ _ _ _ _ _ _ _ _ _ _ _ _ _ _ _ _ _ _ _ _ _ _ _ _ _ _ _ _ _ _ _ _ _ _ _ _ _ _ _ _ _ _ _ _ _ _ _ _ _ _ _ _ _ _ _ _ _ _ _ _ _ _ _ _ _ _ _ _ _ _ _ _ _ _ _ _ _ _ _ _ _ _ _ _ _ _ _ _ _ _ _ _ _ _ _ _ _ _ _ _ _ _ _ _ _ _ _ _ _ _ _ _ _ _ _ _ _ _ _ _ _ _ _ _ _ _ _ _ _ _ _ _ _ _ _ _ _ _ _ _ _ _ _ _ _ _ _ _ _ _ _ _ _ _ _ _ _ _ _ _ _ _ _ _ _ _ _ _ _ _ _ _ _ _ _ _ _ _ _ _ _ _ _ _ _ _ _ _ _ _ _ _ _ _ _ _ _ _ _ _ _ _ _ _ _ _ _ _ _ _ _ _ _ _ _ _ _ _ _ _ _ _ _ _ _ _ _ _ _ _ _ _ _ _ _ _ _ _ _ _ _ _ _ _ _ _ _ _ _ _ _ _ _ _ _ _ _ _ _ _ _ _ _ _ _ _ _ _ _ _ _ _ _ _ _ _ _ _ _ _ _ _ _ _ _ _ _ _ _ _ _ _ _ _ _ _ _ _ _ _ _ _ _ _ _ _ _ _ _ _ _ _ _ _ _ _ _ _ _ _ _ _ _ _ _ _ ?_
  clear oN0 oL0 hnl ql
  intros
  rename_i wr oN0 oL0 hnl
  have qN0 := obj_lt oN0
  have qL0 := obj_lt oL0
  have ze := hL.out.z4
  have e0 := hL.out.e0
  have e1 := hL.out.e1
  have oP20 := (hnl.objs _ qP19).trans oP19
  have qP20 := obj_lt oP20
  clear oP19 qP19
  have oD20 := (hnl.objs _ qD19).trans oD19
  have qD20 := obj_lt oD20
  clear oD19 qD19
  have oZ20 := (hnl.objs _ qZ19).trans oZ19
  have qZ20 := obj_lt oZ20
  clear oZ19 qZ19
  replace hs1 := hide (hs1.out.new hnl)
  have N20 := N19.trans hnl
  clear N19 hnl
  clear hgN2 hgL2 hNL
  go_wp2_with (fail)
  refine (E.out.fm.calls (flip_spec a b M ⟨by omega, by omega⟩ ⟨by omega, by omega⟩ E.out.gM.by _)).mono ?_
  rintro e w21 ⟨rfl, hn21⟩
  have oP21 := (hn21.objs _ qP20).trans oP20
  have qP21 := obj_lt oP21
  clear oP20 qP20
  have oD21 := (hn21.objs _ qD20).trans oD20
  have qD21 := obj_lt oD21
  clear oD20 qD20
  have oZ21 := (hn21.objs _ qZ20).trans oZ20
  have qZ21 := obj_lt oZ21
  clear oZ20 qZ20
  have oN21 := (hn21.objs _ qN0).trans oN0
  have qN21 := obj_lt oN21
  clear oN0 qN0
  have oL21 := (hn21.objs _ qL0).trans oL0
  have qL21 := obj_lt oL21
  clear oL0 qL0
  replace hs1 := hide (hs1.out.new hn21)
  have N21 := N20.trans hn21
  clear N20
  clear hn21
  go_wp2_with (fail)
  generalize hw22 : World.alloc w21 (Obj.cells (pic 144 a b T2) 27) = w22
  obtain ⟨gW, hgW⟩ : ∃ gW, Hid (w21.heap.size = gW) := ⟨_, rfl⟩
  have oW22 : obj w22 gW = some (.cells (pic 144 a b T2) 27) := by rw [← hw22, ← hgW.out]; exact obj_alloc_at _ _ _ rfl
  have oP22 := (show obj w22 gP = obj w21 gP by rw [← hw22]; exact obj_alloc_past _ _ _ qP21).trans oP21
  have qP22 := obj_lt oP22
  clear oP21 qP21
  have oD22 := (show obj w22 gD = obj w21 gD by rw [← hw22]; exact obj_alloc_past _ _ _ qD21).trans oD21
  have qD22 := obj_lt oD22
  clear oD21 qD21
  have oZ22 := (show obj w22 gZ = obj w21 gZ by rw [← hw22]; exact obj_alloc_past _ _ _ qZ21).trans oZ21
  have qZ22 := obj_lt oZ22
  clear oZ21 qZ21
  have oN22 := (show obj w22 gN = obj w21 gN by rw [← hw22]; exact obj_alloc_past _ _ _ qN21).trans oN21
  have qN22 := obj_lt oN22
  clear oN21 qN21
  have oL22 := (show obj w22 gL = obj w21 gL by rw [← hw22]; exact obj_alloc_past _ _ _ qL21).trans oL21
  have qL22 := obj_lt oL22
  clear oL21 qL21
  have hn22 : New w21 w22 := by rw [← hw22]; exact (New.refl _).alloc _
  replace hs1 := hide (hs1.out.new hn22)
  have N22 := N21.trans hn22
  clear N21
  have qW22 := obj_lt oW22
  rw [hgW.out]
  clear hw22 hgW hn22
  have hsc := hide E.out.sc
  obtain ⟨S1, hS1⟩ : ∃ S : Int, Hid ((if eqPic 144 a b M a b q = true then 1 else 0) = S) := ⟨_, rfl⟩
  obtain ⟨S2, hS2⟩ : ∃ S : Int, Hid (S1 + (if eqPic 144 a b F a b q = true then 2 else 0) = S) := ⟨_, rfl⟩
  obtain ⟨S3, hS3⟩ : ∃ S : Int, Hid (S2 + (if eqPic 144 a b T2 a b q = true then 4 else 0) = S) := ⟨_, rfl⟩
  obtain ⟨S4, hS4⟩ : ∃ S : Int, Hid (S3 + (if eqPic 144 b a T1 a b q = true then 8 else 0) = S) := ⟨_, rfl⟩
  have hsv : Hid (symV a b q = S4) := by
    show _ = _
    rw [← hS4.out, ← hS3.out, ← hS2.out, ← hS1.out]
    exact E.out.sv
  have b1 : 0 ≤ S1 ∧ S1 ≤ 1 := by rw [← hS1.out]; split <;> omega
  have b2 : 0 ≤ S2 ∧ S2 ≤ 3 := by rw [← hS2.out]; split <;> omega
  have b3 : 0 ≤ S3 ∧ S3 ≤ 7 := by rw [← hS3.out]; split <;> omega
  have b4 : 0 ≤ S4 ∧ S4 ≤ 15 := by rw [← hS4.out]; split <;> omega
  have hE2 := eqPic_self a b T2
  refine (sym_ik hsv.out hsc.out ⟨by omega, by omega⟩ ⟨by omega, by omega⟩ hqb.out _).mono ?_
  rintro e w23 ⟨rfl, hn23⟩
  have oP23 := (hn23.objs _ qP22).trans oP22
  have qP23 := obj_lt oP23
  clear oP22 qP22
  have oD23 := (hn23.objs _ qD22).trans oD22
  have qD23 := obj_lt oD23
  clear oD22 qD22
  have oZ23 := (hn23.objs _ qZ22).trans oZ22
  have qZ23 := obj_lt oZ23
  clear oZ22 qZ22
  have oN23 := (hn23.objs _ qN22).trans oN22
  have qN23 := obj_lt oN23
  clear oN22 qN22
  have oL23 := (hn23.objs _ qL22).trans oL22
  have qL23 := obj_lt oL23
  clear oL22 qL22
  have oW23 := (hn23.objs _ qW22).trans oW22
  have qW23 := obj_lt oW23
  clear oW22 qW22
  replace hs1 := hide (hs1.out.new hn23)
  have N23 := N22.trans hn23
  clear N22
  clear hn23
  clear hsv hsc
  go_upto_if 228 with (fail)
  clear oN23 qN23
  go_cut [31] from 226 to 230 (fun s wx => s = .int .i64 S1 ∧ w23 = wx)
  case first =>
    cases hb0 : eqPic 144 a b M a b q
    · go_wp2_with (fail)
      go_meet
      exact ⟨by rw [← hS1.out, hb0]; simp, rfl⟩
    · go_wp2_with (fail)
      go_meet
      exact ⟨by rw [← hS1.out, hb0]; simp, rfl⟩
  case rest =>
    obtain ⟨rfl, rfl⟩ := hcut
    clear hS1
    go_upto_if 233 with (fail)
    go_cut [31] from 231 to 235 (fun s wx => s = .int .i64 S2 ∧ w23 = wx)
    case first =>
      cases hb0 : eqPic 144 a b F a b q
      · go_wp2_with (fail)
        go_meet
        exact ⟨by rw [← hS2.out, hb0]; simp, rfl⟩
      · go_wp2_with (fail)
        go_meet
        exact ⟨by rw [← hS2.out, hb0]; simp, rfl⟩
    case rest =>
      obtain ⟨rfl, rfl⟩ := hcut
      clear hS2
      clear b1
      go_upto_if 238 with (fail)
      go_cut [31] from 236 to 240 (fun s wx => s = .int .i64 S3 ∧ w23 = wx)
      case first =>
        cases hb0 : eqPic 144 a b T2 a b q
        · go_wp2_with (fail)
          go_meet
          exact ⟨by rw [← hS3.out, hb0]; simp, rfl⟩
        · go_wp2_with (fail)
          go_meet
          exact ⟨by rw [← hS3.out, hb0]; simp, rfl⟩
      case rest =>
        obtain ⟨rfl, rfl⟩ := hcut
        clear hS3
        clear b2
        go_upto_if 244 with (fail)
        go_cut [31] from 241 to 246 (fun s wx => s = .int .i64 S4 ∧ w23 = wx)
        case first =>
          cases hb0 : eqPic 144 b a T1 a b q
          · go_wp2_with (fail)
            go_meet
            exact ⟨by rw [← hS4.out, hb0]; simp, rfl⟩
          · go_wp2_with (fail)
            go_meet
            exact ⟨by rw [← hS4.out, hb0]; simp, rfl⟩
        case rest =>
          obtain ⟨rfl, rfl⟩ := hcut
          clear hS4
          clear b3
          clear oD23 qD23
          clear oZ23 qZ23
          clear oW23 qW23
          go_wp2_with (fail)
          refine (a2At_0 a1 n1 c1 f1 hf1 a ⟨by omega, by omega⟩ hn1 _ hs1.out).mono ?_
          rintro e w24 ⟨rfl, rfl⟩
          have hx := atV_b (f := f1) (n := n1) (i := 0) (m := a) (by omega)
          generalize atV f1 n1 0 a = x at hx ⊢
          go_wp2_with (fail)
          refine (a2At_1 a1 n1 c1 f1 hf1 b ⟨by omega, by omega⟩ hn1 _ hs1.out).mono ?_
          rintro e w25 ⟨rfl, rfl⟩
          have hy := atV_b (f := f1) (n := n1) (i := 1) (m := b) (by omega)
          generalize atV f1 n1 1 b = y at hy ⊢
          obtain ⟨Pc, K⟩ : ∃ Pc, PpCut a b q x y Pc := ⟨_, pp_cut ha hb hg.out hx hy⟩
          replace K := hide K
          have hax : IntKind.i64.wrap (a - x) = a - x := by simp [IntKind.wrap, IntKind.bits, IntKind.signed]; omega
          have hby : IntKind.i64.wrap (b - y) = b - y := by simp [IntKind.wrap, IntKind.bits, IntKind.signed]; omega
          go_wp2_with (fail)
          refine (K.out.cut.calls (cut_impl a b q x y (a - x) (b - y) ⟨by omega, by omega⟩ ⟨by omega, by omega⟩ hqb.out _)).mono ?_
          rintro e w26 ⟨rfl, hn26⟩
          have oP26 := (hn26.objs _ qP23).trans oP23
          have qP26 := obj_lt oP26
          clear oP23 qP23
          have oL26 := (hn26.objs _ qL23).trans oL23
          have qL26 := obj_lt oL26
          clear oL23 qL23
          replace hs1 := hide (hs1.out.new hn26)
          have N26 := N23.trans hn26
          clear N23
          clear hn26
          go_wp2_with (fail)
          generalize hw27 : World.alloc w26 (Obj.cells (pic 144 (a - x) (b - y) Pc) 27) = w27
          obtain ⟨gC, hgC⟩ : ∃ gC, Hid (w26.heap.size = gC) := ⟨_, rfl⟩
          have oC27 : obj w27 gC = some (.cells (pic 144 (a - x) (b - y) Pc) 27) := by rw [← hw27, ← hgC.out]; exact obj_alloc_at _ _ _ rfl
          have oP27 := (show obj w27 gP = obj w26 gP by rw [← hw27]; exact obj_alloc_past _ _ _ qP26).trans oP26
          have qP27 := obj_lt oP27
          clear oP26 qP26
          have oL27 := (show obj w27 gL = obj w26 gL by rw [← hw27]; exact obj_alloc_past _ _ _ qL26).trans oL26
          have qL27 := obj_lt oL27
          clear oL26 qL26
          have hn27 : New w26 w27 := by rw [← hw27]; exact (New.refl _).alloc _
          replace hs1 := hide (hs1.out.new hn27)
          have N27 := N26.trans hn27
          clear N26
          have qC27 := obj_lt oC27
          rw [hgC.out]
          clear hw27 hgC hn27
          refine (K.out.cut.calls (cut_spec a b q x y (a - x) (b - y) ⟨by omega, by omega⟩ ⟨by omega, by omega⟩ hqb.out _)).mono ?_
          rintro e w28 ⟨rfl, hn28⟩
          have oP28 := (hn28.objs _ qP27).trans oP27
          have qP28 := obj_lt oP28
          clear oP27 qP27
          have oL28 := (hn28.objs _ qL27).trans oL27
          have qL28 := obj_lt oL28
          clear oL27 qL27
          have oC28 := (hn28.objs _ qC27).trans oC27
          have qC28 := obj_lt oC28
          clear oC27 qC27
          replace hs1 := hide (hs1.out.new hn28)
          have N28 := N27.trans hn28
          clear N27
          clear hn28
          go_wp2_with (fail)
          generalize hw29 : World.alloc w28 (Obj.cells (pic 144 (a - x) (b - y) Pc) 27) = w29
          obtain ⟨gQ, hgQ⟩ : ∃ gQ, Hid (w28.heap.size = gQ) := ⟨_, rfl⟩
          have oQ29 : obj w29 gQ = some (.cells (pic 144 (a - x) (b - y) Pc) 27) := by rw [← hw29, ← hgQ.out]; exact obj_alloc_at _ _ _ rfl
          have oP29 := (show obj w29 gP = obj w28 gP by rw [← hw29]; exact obj_alloc_past _ _ _ qP28).trans oP28
          have qP29 := obj_lt oP29
          clear oP28 qP28
          have oL29 := (show obj w29 gL = obj w28 gL by rw [← hw29]; exact obj_alloc_past _ _ _ qL28).trans oL28
          have qL29 := obj_lt oL29
          clear oL28 qL28
          have oC29 := (show obj w29 gC = obj w28 gC by rw [← hw29]; exact obj_alloc_past _ _ _ qC28).trans oC28
          have qC29 := obj_lt oC29
          clear oC28 qC28
          have hn29 : New w28 w29 := by rw [← hw29]; exact (New.refl _).alloc _
          replace hs1 := hide (hs1.out.new hn29)
          have N29 := N28.trans hn29
          clear N28
          have qQ29 := obj_lt oQ29
          rw [hgQ.out]
          clear hw29 hgQ hn29
          clear hax hby
          refine (K.out.pas.calls (pas_impl a b q (a - x) (b - y) Pc x y ⟨by omega, by omega⟩ ⟨by omega, by omega⟩ hqb.out ⟨by omega, by omega⟩ ⟨by omega, by omega⟩ K.out.gP.by _)).mono ?_
          rintro e w30 ⟨rfl, hn30⟩
          have oP30 := (hn30.objs _ qP29).trans oP29
          have qP30 := obj_lt oP30
          clear oP29 qP29
          have oL30 := (hn30.objs _ qL29).trans oL29
          have qL30 := obj_lt oL30
          clear oL29 qL29
          have oC30 := (hn30.objs _ qC29).trans oC29
          have qC30 := obj_lt oC30
          clear oC29 qC29
          have oQ30 := (hn30.objs _ qQ29).trans oQ29
          have qQ30 := obj_lt oQ30
          clear oQ29 qQ29
          replace hs1 := hide (hs1.out.new hn30)
          have N30 := N29.trans hn30
          clear N29
          clear hn30
          go_wp2_with (fail)
          generalize hw31 : World.alloc w30 (Obj.cells (pic 144 a b q) 27) = w31
          obtain ⟨gR, hgR⟩ : ∃ gR, Hid (w30.heap.size = gR) := ⟨_, rfl⟩
          have oR31 : obj w31 gR = some (.cells (pic 144 a b q) 27) := by rw [← hw31, ← hgR.out]; exact obj_alloc_at _ _ _ rfl
          have oP31 := (show obj w31 gP = obj w30 gP by rw [← hw31]; exact obj_alloc_past _ _ _ qP30).trans oP30
          have qP31 := obj_lt oP31
          clear oP30 qP30
          have oL31 := (show obj w31 gL = obj w30 gL by rw [← hw31]; exact obj_alloc_past _ _ _ qL30).trans oL30
          have qL31 := obj_lt oL31
          clear oL30 qL30
          have oC31 := (show obj w31 gC = obj w30 gC by rw [← hw31]; exact obj_alloc_past _ _ _ qC30).trans oC30
          have qC31 := obj_lt oC31
          clear oC30 qC30
          have oQ31 := (show obj w31 gQ = obj w30 gQ by rw [← hw31]; exact obj_alloc_past _ _ _ qQ30).trans oQ30
          have qQ31 := obj_lt oQ31
          clear oQ30 qQ30
          have hn31 : New w30 w31 := by rw [← hw31]; exact (New.refl _).alloc _
          replace hs1 := hide (hs1.out.new hn31)
          have N31 := N30.trans hn31
          clear N30
          have qR31 := obj_lt oR31
          rw [hgR.out]
          clear hw31 hgR hn31
          have hz := atV_b (f := f1) (n := n1) (i := 2) (m := 4) (by omega)
          obtain ⟨z, hzz⟩ : ∃ z : Nat, Hid (atV f1 n1 2 4 = (z : Int)) := ⟨(atV f1 n1 2 4).toNat, show _ = _ by omega⟩
          rw [hzz.out] at hz
          have hz4 : z < 4 := by omega
          obtain ⟨R, C, D, CN⟩ := hCnt.out z (by omega)
          replace CN := hide CN
          clear hCnt
          refine (cnt_ik CN.out.c1 ⟨by omega, by omega⟩ ⟨by omega, by omega⟩ hqb.out _).mono ?_
          rintro e w32 ⟨rfl, hn32⟩
          have oP32 := (hn32.objs _ qP31).trans oP31
          have qP32 := obj_lt oP32
          clear oP31 qP31
          have oL32 := (hn32.objs _ qL31).trans oL31
          have qL32 := obj_lt oL32
          clear oL31 qL31
          have oC32 := (hn32.objs _ qC31).trans oC31
          have qC32 := obj_lt oC32
          clear oC31 qC31
          have oQ32 := (hn32.objs _ qQ31).trans oQ31
          have qQ32 := obj_lt oQ32
          clear oQ31 qQ31
          have oR32 := (hn32.objs _ qR31).trans oR31
          have qR32 := obj_lt oR32
          clear oR31 qR31
          replace hs1 := hide (hs1.out.new hn32)
          have N32 := N31.trans hn32
          clear N31
          clear hn32
          go_wp2_with (fail)
          generalize hw33 : World.alloc w32 (Obj.cells (arr 16 .i64 C) 41) = w33
          obtain ⟨gS, hgS⟩ : ∃ gS, Hid (w32.heap.size = gS) := ⟨_, rfl⟩
          have oS33 : obj w33 gS = some (.cells (arr 16 .i64 C) 41) := by rw [← hw33, ← hgS.out]; exact obj_alloc_at _ _ _ rfl
          have oP33 := (show obj w33 gP = obj w32 gP by rw [← hw33]; exact obj_alloc_past _ _ _ qP32).trans oP32
          have qP33 := obj_lt oP33
          clear oP32 qP32
          have oL33 := (show obj w33 gL = obj w32 gL by rw [← hw33]; exact obj_alloc_past _ _ _ qL32).trans oL32
          have qL33 := obj_lt oL33
          clear oL32 qL32
          have oC33 := (show obj w33 gC = obj w32 gC by rw [← hw33]; exact obj_alloc_past _ _ _ qC32).trans oC32
          have qC33 := obj_lt oC33
          clear oC32 qC32
          have oQ33 := (show obj w33 gQ = obj w32 gQ by rw [← hw33]; exact obj_alloc_past _ _ _ qQ32).trans oQ32
          have qQ33 := obj_lt oQ33
          clear oQ32 qQ32
          have oR33 := (show obj w33 gR = obj w32 gR by rw [← hw33]; exact obj_alloc_past _ _ _ qR32).trans oR32
          have qR33 := obj_lt oR33
          clear oR32 qR32
          have hn33 : New w32 w33 := by rw [← hw33]; exact (New.refl _).alloc _
          replace hs1 := hide (hs1.out.new hn33)
          have N33 := N32.trans hn33
          clear N32
          have qS33 := obj_lt oS33
          rw [hgS.out]
          clear hw33 hgS hn33
          refine (cnt_ik CN.out.c2 ⟨by omega, by omega⟩ ⟨by omega, by omega⟩ E.out.g1.by _).mono ?_
          rintro e w34 ⟨rfl, hn34⟩
          have oP34 := (hn34.objs _ qP33).trans oP33
          have qP34 := obj_lt oP34
          clear oP33 qP33
          have oL34 := (hn34.objs _ qL33).trans oL33
          have qL34 := obj_lt oL34
          clear oL33 qL33
          have oC34 := (hn34.objs _ qC33).trans oC33
          have qC34 := obj_lt oC34
          clear oC33 qC33
          have oQ34 := (hn34.objs _ qQ33).trans oQ33
          have qQ34 := obj_lt oQ34
          clear oQ33 qQ33
          have oR34 := (hn34.objs _ qR33).trans oR33
          have qR34 := obj_lt oR34
          clear oR33 qR33
          have oS34 := (hn34.objs _ qS33).trans oS33
          have qS34 := obj_lt oS34
          clear oS33 qS33
          replace hs1 := hide (hs1.out.new hn34)
          have N34 := N33.trans hn34
          clear N33
          clear hn34
          clear oL34 qL34
          go_wp2_with (fail)
          generalize hw35 : World.alloc w34 (Obj.cells (arr 16 .i64 C) 41) = w35
          obtain ⟨gT, hgT⟩ : ∃ gT, Hid (w34.heap.size = gT) := ⟨_, rfl⟩
          have oT35 : obj w35 gT = some (.cells (arr 16 .i64 C) 41) := by rw [← hw35, ← hgT.out]; exact obj_alloc_at _ _ _ rfl
          have oP35 := (show obj w35 gP = obj w34 gP by rw [← hw35]; exact obj_alloc_past _ _ _ qP34).trans oP34
          have qP35 := obj_lt oP35
          clear oP34 qP34
          have oC35 := (show obj w35 gC = obj w34 gC by rw [← hw35]; exact obj_alloc_past _ _ _ qC34).trans oC34
          have qC35 := obj_lt oC35
          clear oC34 qC34
          have oQ35 := (show obj w35 gQ = obj w34 gQ by rw [← hw35]; exact obj_alloc_past _ _ _ qQ34).trans oQ34
          have qQ35 := obj_lt oQ35
          clear oQ34 qQ34
          have oR35 := (show obj w35 gR = obj w34 gR by rw [← hw35]; exact obj_alloc_past _ _ _ qR34).trans oR34
          have qR35 := obj_lt oR35
          clear oR34 qR34
          have oS35 := (show obj w35 gS = obj w34 gS by rw [← hw35]; exact obj_alloc_past _ _ _ qS34).trans oS34
          have qS35 := obj_lt oS35
          clear oS34 qS34
          have hn35 : New w34 w35 := by rw [← hw35]; exact (New.refl _).alloc _
          replace hs1 := hide (hs1.out.new hn35)
          have N35 := N34.trans hn35
          clear N34
          have qT35 := obj_lt oT35
          rw [hgT.out]
          clear hw35 hgT hn35
          refine (a2At_2 a1 n1 c1 f1 hf1 4 ⟨by omega, by omega⟩ hn1 _ hs1.out).mono ?_
          rintro e w36 ⟨rfl, rfl⟩
          rw [hzz.out]
          clear hzz
          go_wp2_with (fail)
          refine (CN.out.reco.calls (rec_impl a b q z 9 ⟨by omega, by omega⟩ ⟨by omega, by omega⟩ hqb.out _)).mono ?_
          rintro e w37 ⟨rfl, hn37⟩
          have oP37 := (hn37.objs _ qP35).trans oP35
          have qP37 := obj_lt oP37
          clear oP35 qP35
          have oC37 := (hn37.objs _ qC35).trans oC35
          have qC37 := obj_lt oC37
          clear oC35 qC35
          have oQ37 := (hn37.objs _ qQ35).trans oQ35
          have qQ37 := obj_lt oQ37
          clear oQ35 qQ35
          have oR37 := (hn37.objs _ qR35).trans oR35
          have qR37 := obj_lt oR37
          clear oR35 qR35
          have oS37 := (hn37.objs _ qS35).trans oS35
          have qS37 := obj_lt oS37
          clear oS35 qS35
          have oT37 := (hn37.objs _ qT35).trans oT35
          have qT37 := obj_lt oT37
          clear oT35 qT35
          replace hs1 := hide (hs1.out.new hn37)
          have N37 := N35.trans hn37
          clear N35
          clear hn37
          go_wp2_with (fail)
          generalize hw38 : World.alloc w37 (Obj.cells (pic 144 a b R) 27) = w38
          obtain ⟨gU, hgU⟩ : ∃ gU, Hid (w37.heap.size = gU) := ⟨_, rfl⟩
          have oU38 : obj w38 gU = some (.cells (pic 144 a b R) 27) := by rw [← hw38, ← hgU.out]; exact obj_alloc_at _ _ _ rfl
          have oP38 := (show obj w38 gP = obj w37 gP by rw [← hw38]; exact obj_alloc_past _ _ _ qP37).trans oP37
          have qP38 := obj_lt oP38
          clear oP37 qP37
          have oC38 := (show obj w38 gC = obj w37 gC by rw [← hw38]; exact obj_alloc_past _ _ _ qC37).trans oC37
          have qC38 := obj_lt oC38
          clear oC37 qC37
          have oQ38 := (show obj w38 gQ = obj w37 gQ by rw [← hw38]; exact obj_alloc_past _ _ _ qQ37).trans oQ37
          have qQ38 := obj_lt oQ38
          clear oQ37 qQ37
          have oR38 := (show obj w38 gR = obj w37 gR by rw [← hw38]; exact obj_alloc_past _ _ _ qR37).trans oR37
          have qR38 := obj_lt oR38
          clear oR37 qR37
          have oS38 := (show obj w38 gS = obj w37 gS by rw [← hw38]; exact obj_alloc_past _ _ _ qS37).trans oS37
          have qS38 := obj_lt oS38
          clear oS37 qS37
          have oT38 := (show obj w38 gT = obj w37 gT by rw [← hw38]; exact obj_alloc_past _ _ _ qT37).trans oT37
          have qT38 := obj_lt oT38
          clear oT37 qT37
          have hn38 : New w37 w38 := by rw [← hw38]; exact (New.refl _).alloc _
          replace hs1 := hide (hs1.out.new hn38)
          have N38 := N37.trans hn38
          clear N37
          have qU38 := obj_lt oU38
          rw [hgU.out]
          clear hw38 hgU hn38
          refine (CN.out.reco.calls (rec_spec a b q z 9 ⟨by omega, by omega⟩ ⟨by omega, by omega⟩ hqb.out _)).mono ?_
          rintro e w39 ⟨rfl, hn39⟩
          have oP39 := (hn39.objs _ qP38).trans oP38
          have qP39 := obj_lt oP39
          clear oP38 qP38
          have oC39 := (hn39.objs _ qC38).trans oC38
          have qC39 := obj_lt oC39
          clear oC38 qC38
          have oQ39 := (hn39.objs _ qQ38).trans oQ38
          have qQ39 := obj_lt oQ39
          clear oQ38 qQ38
          have oR39 := (hn39.objs _ qR38).trans oR38
          have qR39 := obj_lt oR39
          clear oR38 qR38
          have oS39 := (hn39.objs _ qS38).trans oS38
          have qS39 := obj_lt oS39
          clear oS38 qS38
          have oT39 := (hn39.objs _ qT38).trans oT38
          have qT39 := obj_lt oT39
          clear oT38 qT38
          have oU39 := (hn39.objs _ qU38).trans oU38
          have qU39 := obj_lt oU39
          clear oU38 qU38
          replace hs1 := hide (hs1.out.new hn39)
          have N39 := N38.trans hn39
          clear N38
          clear hn39
          go_wp2_with (fail)
          generalize hw40 : World.alloc w39 (Obj.cells (pic 144 a b R) 27) = w40
          obtain ⟨gV, hgV⟩ : ∃ gV, Hid (w39.heap.size = gV) := ⟨_, rfl⟩
          have oV40 : obj w40 gV = some (.cells (pic 144 a b R) 27) := by rw [← hw40, ← hgV.out]; exact obj_alloc_at _ _ _ rfl
          have oP40 := (show obj w40 gP = obj w39 gP by rw [← hw40]; exact obj_alloc_past _ _ _ qP39).trans oP39
          have qP40 := obj_lt oP40
          clear oP39 qP39
          have oC40 := (show obj w40 gC = obj w39 gC by rw [← hw40]; exact obj_alloc_past _ _ _ qC39).trans oC39
          have qC40 := obj_lt oC40
          clear oC39 qC39
          have oQ40 := (show obj w40 gQ = obj w39 gQ by rw [← hw40]; exact obj_alloc_past _ _ _ qQ39).trans oQ39
          have qQ40 := obj_lt oQ40
          clear oQ39 qQ39
          have oR40 := (show obj w40 gR = obj w39 gR by rw [← hw40]; exact obj_alloc_past _ _ _ qR39).trans oR39
          have qR40 := obj_lt oR40
          clear oR39 qR39
          have oS40 := (show obj w40 gS = obj w39 gS by rw [← hw40]; exact obj_alloc_past _ _ _ qS39).trans oS39
          have qS40 := obj_lt oS40
          clear oS39 qS39
          have oT40 := (show obj w40 gT = obj w39 gT by rw [← hw40]; exact obj_alloc_past _ _ _ qT39).trans oT39
          have qT40 := obj_lt oT40
          clear oT39 qT39
          have oU40 := (show obj w40 gU = obj w39 gU by rw [← hw40]; exact obj_alloc_past _ _ _ qU39).trans oU39
          have qU40 := obj_lt oU40
          clear oU39 qU39
          have hn40 : New w39 w40 := by rw [← hw40]; exact (New.refl _).alloc _
          replace hs1 := hide (hs1.out.new hn40)
          have N40 := N39.trans hn40
          clear N39
          have qV40 := obj_lt oV40
          rw [hgV.out]
          clear hw40 hgV hn40
          refine (cnt_ik CN.out.c3 ⟨by omega, by omega⟩ ⟨by omega, by omega⟩ CN.out.gR.by _).mono ?_
          rintro e w41 ⟨rfl, hn41⟩
          have oP41 := (hn41.objs _ qP40).trans oP40
          have qP41 := obj_lt oP41
          clear oP40 qP40
          have oC41 := (hn41.objs _ qC40).trans oC40
          have qC41 := obj_lt oC41
          clear oC40 qC40
          have oQ41 := (hn41.objs _ qQ40).trans oQ40
          have qQ41 := obj_lt oQ41
          clear oQ40 qQ40
          have oR41 := (hn41.objs _ qR40).trans oR40
          have qR41 := obj_lt oR41
          clear oR40 qR40
          have oS41 := (hn41.objs _ qS40).trans oS40
          have qS41 := obj_lt oS41
          clear oS40 qS40
          have oT41 := (hn41.objs _ qT40).trans oT40
          have qT41 := obj_lt oT41
          clear oT40 qT40
          have oU41 := (hn41.objs _ qU40).trans oU40
          have qU41 := obj_lt oU41
          clear oU40 qU40
          have oV41 := (hn41.objs _ qV40).trans oV40
          have qV41 := obj_lt oV41
          clear oV40 qV40
          replace hs1 := hide (hs1.out.new hn41)
          have N41 := N40.trans hn41
          clear N40
          clear hn41
          go_wp2_with (fail)
          generalize hw42 : World.alloc w41 (Obj.cells (arr 16 .i64 D) 41) = w42
          obtain ⟨gY, hgY⟩ : ∃ gY, Hid (w41.heap.size = gY) := ⟨_, rfl⟩
          have oY42 : obj w42 gY = some (.cells (arr 16 .i64 D) 41) := by rw [← hw42, ← hgY.out]; exact obj_alloc_at _ _ _ rfl
          have oP42 := (show obj w42 gP = obj w41 gP by rw [← hw42]; exact obj_alloc_past _ _ _ qP41).trans oP41
          have qP42 := obj_lt oP42
          clear oP41 qP41
          have oC42 := (show obj w42 gC = obj w41 gC by rw [← hw42]; exact obj_alloc_past _ _ _ qC41).trans oC41
          have qC42 := obj_lt oC42
          clear oC41 qC41
          have oQ42 := (show obj w42 gQ = obj w41 gQ by rw [← hw42]; exact obj_alloc_past _ _ _ qQ41).trans oQ41
          have qQ42 := obj_lt oQ42
          clear oQ41 qQ41
          have oR42 := (show obj w42 gR = obj w41 gR by rw [← hw42]; exact obj_alloc_past _ _ _ qR41).trans oR41
          have qR42 := obj_lt oR42
          clear oR41 qR41
          have oS42 := (show obj w42 gS = obj w41 gS by rw [← hw42]; exact obj_alloc_past _ _ _ qS41).trans oS41
          have qS42 := obj_lt oS42
          clear oS41 qS41
          have oT42 := (show obj w42 gT = obj w41 gT by rw [← hw42]; exact obj_alloc_past _ _ _ qT41).trans oT41
          have qT42 := obj_lt oT42
          clear oT41 qT41
          have oU42 := (show obj w42 gU = obj w41 gU by rw [← hw42]; exact obj_alloc_past _ _ _ qU41).trans oU41
          have qU42 := obj_lt oU42
          clear oU41 qU41
          have oV42 := (show obj w42 gV = obj w41 gV by rw [← hw42]; exact obj_alloc_past _ _ _ qV41).trans oV41
          have qV42 := obj_lt oV42
          clear oV41 qV41
          have hn42 : New w41 w42 := by rw [← hw42]; exact (New.refl _).alloc _
          replace hs1 := hide (hs1.out.new hn42)
          have N42 := N41.trans hn42
          clear N41
          have qY42 := obj_lt oY42
          rw [hgY.out]
          clear hw42 hgY hn42
          have hEP := eqPic_self (a - x) (b - y) Pc
          have hER := eqPic_self a b R
          have hEC : eqUpto 16 C C = true := eqUpto_iff.2 fun _ _ => rfl
          have hD0 := CN.out.none
          have hD9 := CN.out.sum
          have hbd := CN.out.bd
          have hC9 := (hbd 9).1
          have hCz := (hbd z).1
          have hsum : IntKind.i64.wrap (C 9 + C z) = D 9 := by rw [hD9]; simp [IntKind.wrap, IntKind.bits, IntKind.signed]; omega
          have hz16 : z < 16 := by omega
          have hz16i : (z : Int) < 16 := by omega
          have hz0i : (0 : Int) ≤ z := by omega
          clear hbd hD9
          go_quiet (fail)
          clear hEP hER hEC hD0 hC9 hCz hsum hz16 hz16i hz0i
          clear oC42 qC42
          clear oQ42 qQ42
          clear oR42 qR42
          clear oS42 qS42
          clear oT42 qT42
          clear oU42 qU42
          clear oV42 qV42
          clear oY42 qY42
          have hnD : New w42 (w42.drewN nq) := (New.refl _).drewN nq
          generalize w42.drewN nq = wD at hnD ⊢
          have oP43 := (hnD.objs _ qP42).trans oP42
          have qP43 := obj_lt oP43
          clear oP42 qP42
          replace hs1 := hide (hs1.out.new hnD)
          have N43 := N42.trans hnD
          clear N42
          clear hnD
          go_wp2_with (fail)
          refine (a2Picture_any a1 n1 c1 f1 (by omega) hf1 _ hs1.out (fun a e => Nat.lt_of_lt_of_le (had1.out a e) N43.le)).mono ?_
          rintro e w44 ⟨a2, b2, q2, rfl, ha2, hb2, hq2, hn44⟩
          have oP44 := (hn44.objs _ qP43).trans oP43
          have qP44 := obj_lt oP44
          clear oP43 qP43
          replace hs1 := hide (hs1.out.new hn44)
          have N44 := N43.trans hn44
          clear N43
          clear hn44
          clear hs1
          clear had1
          have hq2b := hide hq2.by
          obtain ⟨O, hO⟩ := pp_over ha hb hg.out (c := a2) (d := b2) ⟨by omega, by omega⟩ ⟨by omega, by omega⟩ hq2 (x := x - 1) (y := y - 1) ⟨by omega, by omega⟩ ⟨by omega, by omega⟩
          replace hO := hide hO
          clear hq2
          have hx1 : IntKind.i64.wrap (x - 1) = x - 1 := by simp [IntKind.wrap, IntKind.bits, IntKind.signed]; omega
          have hy1 : IntKind.i64.wrap (y - 1) = y - 1 := by simp [IntKind.wrap, IntKind.bits, IntKind.signed]; omega
          go_wp2_with (fail)
          generalize hw45 : World.alloc w44 (Obj.cells (pic 144 a2 b2 q2) 27) = w45
          obtain ⟨gG, hgG⟩ : ∃ gG, Hid (w44.heap.size = gG) := ⟨_, rfl⟩
          have oG45 : obj w45 gG = some (.cells (pic 144 a2 b2 q2) 27) := by rw [← hw45, ← hgG.out]; exact obj_alloc_at _ _ _ rfl
          have oP45 := (show obj w45 gP = obj w44 gP by rw [← hw45]; exact obj_alloc_past _ _ _ qP44).trans oP44
          have qP45 := obj_lt oP45
          clear oP44 qP44
          have hn45 : New w44 w45 := by rw [← hw45]; exact (New.refl _).alloc _
          have N45 := N44.trans hn45
          clear N44
          have qG45 := obj_lt oG45
          rw [hgG.out]
          clear hw45 hgG hn45
          refine (hO.out.calls (pas_impl a b q a2 b2 q2 (x - 1) (y - 1) ⟨by omega, by omega⟩ ⟨by omega, by omega⟩ hqb.out ⟨by omega, by omega⟩ ⟨by omega, by omega⟩ hq2b.out _)).mono ?_
          rintro e w46 ⟨rfl, hn46⟩
          have oP46 := (hn46.objs _ qP45).trans oP45
          have qP46 := obj_lt oP46
          clear oP45 qP45
          have oG46 := (hn46.objs _ qG45).trans oG45
          have qG46 := obj_lt oG46
          clear oG45 qG45
          have N46 := N45.trans hn46
          clear N45
          clear hn46
          go_wp2_with (fail)
          generalize hw47 : World.alloc w46 (Obj.cells (pic 144 a b O) 27) = w47
          obtain ⟨gH, hgH⟩ : ∃ gH, Hid (w46.heap.size = gH) := ⟨_, rfl⟩
          have oH47 : obj w47 gH = some (.cells (pic 144 a b O) 27) := by rw [← hw47, ← hgH.out]; exact obj_alloc_at _ _ _ rfl
          have oP47 := (show obj w47 gP = obj w46 gP by rw [← hw47]; exact obj_alloc_past _ _ _ qP46).trans oP46
          have qP47 := obj_lt oP47
          clear oP46 qP46
          have oG47 := (show obj w47 gG = obj w46 gG by rw [← hw47]; exact obj_alloc_past _ _ _ qG46).trans oG46
          have qG47 := obj_lt oG47
          clear oG46 qG46
          have hn47 : New w46 w47 := by rw [← hw47]; exact (New.refl _).alloc _
          have N47 := N46.trans hn47
          clear N46
          have qH47 := obj_lt oH47
          rw [hgH.out]
          clear hw47 hgH hn47
          refine (hO.out.calls (pas_spec a b q a2 b2 q2 (x - 1) (y - 1) ⟨by omega, by omega⟩ ⟨by omega, by omega⟩ hqb.out ⟨by omega, by omega⟩ ⟨by omega, by omega⟩ hq2b.out _)).mono ?_
          rintro e w48 ⟨rfl, hn48⟩
          have oP48 := (hn48.objs _ qP47).trans oP47
          have qP48 := obj_lt oP48
          clear oP47 qP47
          have oG48 := (hn48.objs _ qG47).trans oG47
          have qG48 := obj_lt oG48
          clear oG47 qG47
          have oH48 := (hn48.objs _ qH47).trans oH47
          have qH48 := obj_lt oH48
          clear oH47 qH47
          have N48 := N47.trans hn48
          clear N47
          clear hn48
          clear oG48 qG48
          clear hx1 hy1
          have hEO := eqPic_self a b O
          go_wp2_with (fail)
          generalize hw49 : World.alloc w48 (Obj.cells (pic 144 a b O) 27) = w49
          obtain ⟨gI, hgI⟩ : ∃ gI, Hid (w48.heap.size = gI) := ⟨_, rfl⟩
          have oI49 : obj w49 gI = some (.cells (pic 144 a b O) 27) := by rw [← hw49, ← hgI.out]; exact obj_alloc_at _ _ _ rfl
          have oP49 := (show obj w49 gP = obj w48 gP by rw [← hw49]; exact obj_alloc_past _ _ _ qP48).trans oP48
          have qP49 := obj_lt oP49
          clear oP48 qP48
          have oH49 := (show obj w49 gH = obj w48 gH by rw [← hw49]; exact obj_alloc_past _ _ _ qH48).trans oH48
          have qH49 := obj_lt oH49
          clear oH48 qH48
          have hn49 : New w48 w49 := by rw [← hw49]; exact (New.refl _).alloc _
          have N49 := N48.trans hn49
          clear N48
          have qI49 := obj_lt oI49
          rw [hgI.out]
          clear hw49 hgI hn49
          clear hEO
          clear oH49 qH49
          clear oI49 qI49
          refine (Bd.out.bor.calls (bor_impl a b q 3 ⟨by omega, by omega⟩ ⟨by omega, by omega⟩ hqb.out _)).mono ?_
          rintro e w50 ⟨rfl, hn50⟩
          have oP50 := (hn50.objs _ qP49).trans oP49
          have qP50 := obj_lt oP50
          clear oP49 qP49
          have N50 := N49.trans hn50
          clear N49
          clear hn50
          go_wp2_with (fail)
          generalize hw51 : World.alloc w50 (Obj.cells (pic 144 (a + 2) (b + 2) Wd) 27) = w51
          obtain ⟨gC, hgC⟩ : ∃ gC, Hid (w50.heap.size = gC) := ⟨_, rfl⟩
          have oC51 : obj w51 gC = some (.cells (pic 144 (a + 2) (b + 2) Wd) 27) := by rw [← hw51, ← hgC.out]; exact obj_alloc_at _ _ _ rfl
          have oP51 := (show obj w51 gP = obj w50 gP by rw [← hw51]; exact obj_alloc_past _ _ _ qP50).trans oP50
          have qP51 := obj_lt oP51
          clear oP50 qP50
          have hn51 : New w50 w51 := by rw [← hw51]; exact (New.refl _).alloc _
          have N51 := N50.trans hn51
          clear N50
          have qC51 := obj_lt oC51
          rw [hgC.out]
          clear hw51 hgC hn51
          refine (Bd.out.bor.calls (bor_spec a b q 3 ⟨by omega, by omega⟩ ⟨by omega, by omega⟩ hqb.out _)).mono ?_
          rintro e w52 ⟨rfl, hn52⟩
          have oP52 := (hn52.objs _ qP51).trans oP51
          have qP52 := obj_lt oP52
          clear oP51 qP51
          have oC52 := (hn52.objs _ qC51).trans oC51
          have qC52 := obj_lt oC52
          clear oC51 qC51
          have N52 := N51.trans hn52
          clear N51
          clear hn52
          go_wp2_with (fail)
          generalize hw53 : World.alloc w52 (Obj.cells (pic 144 (a + 2) (b + 2) Wd) 27) = w53
          obtain ⟨gQ, hgQ⟩ : ∃ gQ, Hid (w52.heap.size = gQ) := ⟨_, rfl⟩
          have oQ53 : obj w53 gQ = some (.cells (pic 144 (a + 2) (b + 2) Wd) 27) := by rw [← hw53, ← hgQ.out]; exact obj_alloc_at _ _ _ rfl
          have oP53 := (show obj w53 gP = obj w52 gP by rw [← hw53]; exact obj_alloc_past _ _ _ qP52).trans oP52
          have qP53 := obj_lt oP53
          clear oP52 qP52
          have oC53 := (show obj w53 gC = obj w52 gC by rw [← hw53]; exact obj_alloc_past _ _ _ qC52).trans oC52
          have qC53 := obj_lt oC53
          clear oC52 qC52
          have hn53 : New w52 w53 := by rw [← hw53]; exact (New.refl _).alloc _
          have N53 := N52.trans hn53
          clear N52
          have qQ53 := obj_lt oQ53
          rw [hgQ.out]
          clear hw53 hgQ hn53
          refine (Bd.out.inn.calls (cut_impl (a + 2) (b + 2) Wd 1 1 a b ⟨by omega, by omega⟩ ⟨by omega, by omega⟩ Bd.out.gW.by _)).mono ?_
          rintro e w54 ⟨rfl, hn54⟩
          have oP54 := (hn54.objs _ qP53).trans oP53
          have qP54 := obj_lt oP54
          clear oP53 qP53
          have oC54 := (hn54.objs _ qC53).trans oC53
          have qC54 := obj_lt oC54
          clear oC53 qC53
          have oQ54 := (hn54.objs _ qQ53).trans oQ53
          have qQ54 := obj_lt oQ54
          clear oQ53 qQ53
          have N54 := N53.trans hn54
          clear N53
          clear hn54
          have hEW := eqPic_self (a + 2) (b + 2) Wd
          go_wp2_with (fail)
          go_ret
          exact ⟨rfl, N54.alloc _⟩
end Go.Proofs.YtomfjicjejoakaaDoor
