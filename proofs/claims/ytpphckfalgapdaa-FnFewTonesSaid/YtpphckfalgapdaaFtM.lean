/- The great law on few tones, walked; no condition. -/
import Derived.Test.YtpphckfalgapdaaU9
import Derived.Test.YtpphckfalgapdaaU13
import Derived.Test.YtpphckfalgapdaaU19
set_option linter.unusedVariables false
namespace Go.Proofs.Ytpphckfalgapdaa
open Go.BigFrame
open Go.RowKit Go.Arr
theorem a2At_0 (ad : Option Addr) (n c : Nat) (f : Nat → Int) (hf : ∀ i, 0 ≤ f i ∧ f i ≤ 255) (m : Int) (hm : 1 ≤ m ∧ m ≤ 1000) (hn : n ≤ 3000) (w : World) (hs : Sl w (.slice ad n c) n 1 .u8 f) :
    Calls Try.prog 7 #[.slice ad n c, .int .i64 0, .int .i64 m] w fun e w' => e = .returned (.int .i64 (atV f n 0 m)) ∧ w = w' := a2At_any ad n c f hf 0 m (by omega) hm hn w hs
theorem a2At_1 (ad : Option Addr) (n c : Nat) (f : Nat → Int) (hf : ∀ i, 0 ≤ f i ∧ f i ≤ 255) (m : Int) (hm : 1 ≤ m ∧ m ≤ 1000) (hn : n ≤ 3000) (w : World) (hs : Sl w (.slice ad n c) n 1 .u8 f) :
    Calls Try.prog 7 #[.slice ad n c, .int .i64 1, .int .i64 m] w fun e w' => e = .returned (.int .i64 (atV f n 1 m)) ∧ w = w' := a2At_any ad n c f hf 1 m (by omega) hm hn w hs
set_option maxHeartbeats 8000000 in
set_option maxRecDepth 1000000 in
theorem FnFewTones_law (v0 : Value) (n0 : Nat) (f0 : Nat → Int) (hm0 : n0 ≤ maxLen) (hf0 : ∀ i, 0 ≤ f0 i ∧ f0 i ≤ 255) (v1 : Value) (n1 : Nat) (f1 : Nat → Int) (hm1 : n1 ≤ maxLen) (hf1 : ∀ i, 0 ≤ f1 i ∧ f1 i ≤ 255) (w : World)
    (hs0 : Sl w v0 n0 1 .u8 f0) (hl0 : ∀ a n c, v0 = .slice (some a) n c → a.block < w.heap.size) (hs1 : Sl w v1 n1 1 .u8 f1) (hl1 : ∀ a n c, v1 = .slice (some a) n c → a.block < w.heap.size) :
    Calls Try.prog 3 #[v0, v1] w fun e w' => e = .returned (.bool true) ∧ New w w' := by
  obtain ⟨a0, c0, rfl, t0⟩ := hs0
  have hs0 : Sl w (.slice a0 n0 c0) n0 1 .u8 f0 := ⟨a0, c0, rfl, t0⟩
  obtain ⟨a1, c1, rfl, t1⟩ := hs1
  have hs1 : Sl w (.slice a1 n1 c1) n1 1 .u8 f1 := ⟨a1, c1, rfl, t1⟩
  have had : Hid (∀ a, a0 = some a → a.block < w.heap.size) := fun a e => hl0 a n0 c0 (by rw [e])
  have had1 : Hid (∀ a, a1 = some a → a.block < w.heap.size) := fun a e => hl1 a n1 c1 (by rw [e])
  clear t0 t1 hl0 hl1
  cases hlong : (decide (3000 < n0) || decide (3000 < n1))
  rotate_left
  · go_enter Try.func3, Try.ntmps3
    go_wp2_with (fail)
    refine (a2Long_any a0 a1 n0 c0 n1 c1 _).mono ?_
    rintro e w1 ⟨rfl, rfl⟩
    rw [hlong]
    go_wp2_with (fail)
    go_ret
    exact ⟨rfl, New.refl w⟩
  have hn0 : n0 ≤ 3000 := by simp at hlong; omega
  have hn1 : n1 ≤ 3000 := by simp at hlong; omega
  replace hlong := hide hlong
  replace hs1 := hide hs1
  go_enter Try.func3, Try.ntmps3
  go_wp2_with (fail)
  refine (a2Long_any a0 a1 n0 c0 n1 c1 _).mono ?_
  rintro e w1 ⟨rfl, rfl⟩
  rw [hlong.out]
  go_wp2_with (fail)
  refine (a2Image_any a0 n0 c0 f0 (by omega) hf0 _ hs0 had.out).mono ?_
  rintro e w1 ⟨a, b, fm, rfl, ha5, hb4, hI, hn1⟩
  replace hs1 := hide (hs1.out.new hn1)
  have N1 := hn1
  have had2 : Hid (∀ a, a1 = some a → a.block < w1.heap.size) := fun a e => Nat.lt_of_lt_of_le (had1.out a e) hn1.le
  clear hn1 had had1 hs0 hlong
  have ha : 1 ≤ a ∧ a ≤ 12 := by omega
  have hb : 1 ≤ b ∧ b ≤ 12 := by omega
  have hfm := hide hI.1
  have hok := hide (hI.ok ha hb)
  clear hI
  go_wp2_with (fail)
  have hsz1 : w1.heap.size ≤ (World.alloc w1 (Obj.cells (pic 432 a b fm) 29)).heap.size := by simp

  generalize hw2 : World.alloc w1 (Obj.cells (pic 432 a b fm) 29) = w2 at hsz1 ⊢
  obtain ⟨gM, hgM⟩ : ∃ gM, Hid (w1.heap.size = gM) := ⟨_, rfl⟩
  have oM2 : obj w2 gM = some (.cells (pic 432 a b fm) 29) := by rw [← hw2, ← hgM.out]; exact obj_alloc_at _ _ _ rfl
  have hn2 : New w1 w2 := by rw [← hw2]; exact (New.refl _).alloc _
  replace hs1 := hide (hs1.out.new hn2)
  have N2 := N1.trans hn2
  clear N1
  have qM2 := obj_lt oM2
  rw [hgM.out]
  clear hw2 hgM hn2
  have had3 : Hid (∀ a, a1 = some a → a.block < w2.heap.size) := fun a e => Nat.lt_of_lt_of_le (had2.out a e) hsz1
  clear had2 hsz1
  refine (a2Palette_any a1 n1 c1 f1 (by omega) hf1 _ hs1.out had3.out).mono ?_
  rintro e w3 ⟨gp, cp, n, p, rfl, hrp0, hn5, hop, hpb, hn3⟩
  have oM3 := (hn3.objs _ qM2).trans oM2
  have qM3 := obj_lt oM3
  clear oM2 qM2
  replace hs1 := hide (hs1.out.new hn3)
  have N3 := N2.trans hn3
  clear N2
  clear hn3
  obtain ⟨_, cp2, hcpe, hcp⟩ := hrp0.form2
  simp only [Value.slice.injEq] at hcpe
  obtain ⟨rfl, _, rfl⟩ := hcpe
  have hopH := hide hop
  have hpbH := hide hpb
  clear hop hpb had3
  have hrp := hide hrp0
  clear hrp0
  go_wp2_with (fail)
  refine (a2At_0 a1 n1 c1 f1 hf1 (n : Int) (by omega) hn1 _ hs1.out).mono ?_
  rintro e w4 ⟨rfl, rfl⟩
  have hx := atV_b (f := f1) (n := n1) (i := 0) (m := (n : Int)) (by omega)
  generalize atV f1 n1 0 (n : Int) = x at hx ⊢
  obtain ⟨K, hK⟩ : ∃ K : Nat, Hid (1 + x = K) := ⟨(1 + x).toNat, show _ = _ by omega⟩
  have hKo := hK.out
  have hK1 : 1 ≤ K := by omega
  have hKn : K ≤ n := by omega
  clear hKo
  obtain ⟨L, V, G, U, hbt, hgr, hVU, hasc, hsub, hcos⟩ := ft_end hpbH.out hfm.out hok.out hopH.out (show n ≤ 10 by omega) hK1 hKn
  have hE := pof_end ha hb hok.out hsub
  obtain ⟨Q, hQ⟩ : ∃ Q, picS K (subP p L) fm a b 144 = Q := ⟨_, rfl⟩
  rw [hQ] at hE
  clear hQ
  replace hbt := hide hbt
  replace hgr := hide hgr
  replace hasc := hide hasc
  replace hsub := hide hsub
  replace hcos := hide hcos
  replace hE := hide hE
  go_wp2_with (fail)
  rw [hK.out]
  clear hx hK
  refine (best_ik hbt.out ⟨by omega, by omega⟩ ⟨by omega, by omega⟩ hfm.out (some ⟨gp, 0, none⟩) cp hpbH.out (by omega) hcp _ hrp.out.sl).mono ?_
  rintro e w5 ⟨v1, rfl, rb1, hn5⟩
  have oM5 := (hn5.objs _ qM3).trans oM3
  have qM5 := obj_lt oM5
  clear oM3 qM3
  replace hs1 := hide (hs1.out.new hn5)
  replace hrp := hide (hrp.out.new hn5)
  have N5 := N3.trans hn5
  clear N3
  clear hn5
  have hb1 := hide rb1
  clear rb1
  go_wp2_with (fail)
  refine (best_sk hbt.out ⟨by omega, by omega⟩ ⟨by omega, by omega⟩ hfm.out (some ⟨gp, 0, none⟩) cp hpbH.out (by omega) _ hrp.out.sl).mono ?_
  rintro e w6 ⟨v2, rfl, rb2, hn6⟩
  have oM6 := (hn6.objs _ qM5).trans oM5
  have qM6 := obj_lt oM6
  clear oM5 qM5
  replace hs1 := hide (hs1.out.new hn6)
  replace hrp := hide (hrp.out.new hn6)
  replace hb1 := hide (hb1.out.new hn6)
  have N6 := N5.trans hn6
  clear N5
  clear hn6
  have hb2 := hide rb2
  clear rb2
  go_wp2_with (fail)
  refine (greedy_ik hgr.out ⟨by omega, by omega⟩ ⟨by omega, by omega⟩ hfm.out (some ⟨gp, 0, none⟩) cp hpbH.out (by omega) hcp _ hrp.out.sl).mono ?_
  rintro e w7 ⟨v3, rfl, rb3, hn7⟩
  have oM7 := (hn7.objs _ qM6).trans oM6
  have qM7 := obj_lt oM7
  clear oM6 qM6
  replace hs1 := hide (hs1.out.new hn7)
  replace hrp := hide (hrp.out.new hn7)
  replace hb1 := hide (hb1.out.new hn7)
  replace hb2 := hide (hb2.out.new hn7)
  have N7 := N6.trans hn7
  clear N6
  clear hn7
  have hb3 := hide rb3
  clear rb3
  go_wp2_with (fail)
  refine (greedy_sk hgr.out ⟨by omega, by omega⟩ ⟨by omega, by omega⟩ hfm.out (some ⟨gp, 0, none⟩) cp hpbH.out (by omega) _ hrp.out.sl).mono ?_
  rintro e w8 ⟨v4, rfl, rb4, hn8⟩
  have oM8 := (hn8.objs _ qM7).trans oM7
  have qM8 := obj_lt oM8
  clear oM7 qM7
  replace hs1 := hide (hs1.out.new hn8)
  replace hrp := hide (hrp.out.new hn8)
  replace hb1 := hide (hb1.out.new hn8)
  replace hb2 := hide (hb2.out.new hn8)
  replace hb3 := hide (hb3.out.new hn8)
  have N8 := N7.trans hn8
  clear N7
  clear hn8
  have hb4 := hide rb4
  clear rb4
  obtain ⟨x1, c1', rfl, z1⟩ := hb1.out.reads
  clear z1
  obtain ⟨x2, c2', rfl, z2⟩ := hb2.out.reads
  clear z2
  obtain ⟨x3, c3', rfl, z3⟩ := hb3.out.reads
  clear z3
  obtain ⟨x4, c4', rfl, z4⟩ := hb4.out.reads
  clear z4
  have hUV : decide (U < V) = false := decide_eq_false (by omega)
  go_wp2_with (fail)
  refine (a2Same_refl x1 x2 K c1' c2' L (by omega) _ hb1.out.reads' hb2.out.reads').mono ?_
  rintro e w9 ⟨rfl, hn9⟩
  have oM9 := (hn9.objs _ qM8).trans oM8
  have qM9 := obj_lt oM9
  clear oM8 qM8
  replace hs1 := hide (hs1.out.new hn9)
  replace hrp := hide (hrp.out.new hn9)
  replace hb1 := hide (hb1.out.new hn9)
  replace hb2 := hide (hb2.out.new hn9)
  replace hb3 := hide (hb3.out.new hn9)
  replace hb4 := hide (hb4.out.new hn9)
  have N9 := N8.trans hn9
  clear N8
  clear hn9
  clear hb1
  go_wp2_with (fail)
  refine (a2Same_refl x3 x4 K c3' c4' G (by omega) _ hb3.out.reads' hb4.out.reads').mono ?_
  rintro e w10 ⟨rfl, hn10⟩
  have oM10 := (hn10.objs _ qM9).trans oM9
  have qM10 := obj_lt oM10
  clear oM9 qM9
  replace hs1 := hide (hs1.out.new hn10)
  replace hrp := hide (hrp.out.new hn10)
  replace hb2 := hide (hb2.out.new hn10)
  replace hb3 := hide (hb3.out.new hn10)
  replace hb4 := hide (hb4.out.new hn10)
  have N10 := N9.trans hn10
  clear N9
  clear hn10
  clear hb3
  clear hb4
  go_wp2_with (fail)
  clear hUV hVU
  have hrd := hb2.out.reads'
  refine ftL n K w10.heap.size c2' cp L p x2 (some ⟨gp, 0, none⟩) w10 _ (by omega) (by omega) hasc hrd hrp.out.sl (prow_empty (obj_alloc_at _ _ _ rfl) (Nat.le_refl _)) ((New.refl _).alloc _) _ _ _ _ _ _ _ _ _ _ _ _ _ _ _ _ _ _ _ _ _ _ _ _ _ _ _ _ _ _ _ _ _ _ _ _ _ _ _ _ _ _ _ _ _ _ _ _ _ _ _ _ _ _ _ _ _ _ _ _ _ _ _ _ _ _ _ _ _ _ _ _ _ _ _ _ _ _ _ _ _ _ _ _ _ _ _ _ _ _ _ _ _ _ _ _ _ _ _ _ _ _ _ _ _ _ _ _ _ _ _ _ _ _ _ _ _ _ _ _ _ _ _ _ _ _ _ _ _ _ _ _ _ _ _ _ _ _ _ _ _ _ _ _ _ _ _ _ _ _ _ _ _ _ _ _ _ _ _ _ _ _ _ _ _ _ _ _ _ _ _ _ _ _ _ _ _ _ _ _ _ _ _ _ _ _ _ _ _ _ _ _ _ _ _ _ _ _ _ _ _ _ _ _ _ _ _ _ _ _ _ _ _ _ _ _ _ _ _ _ _ _ _ _ _ _ _ _ _ _ _ _ _ _ _ _ _ _ _ _ _ _ _ _ _ _ _ _ _ _ _ _ _ _ _ _ _ _ _ _ _ _ _ _ _ _ _ _ _ _ _ _ _ _ _ _ _ _ _ _ _ _ _ _ _ _ _ _ _ _ _ _ _ _ _ _ _ _ _ _ _ _ _ _ _ _ _ _ _ _ _ _ _ _ _ _ _ _ _ _ _ _ _ _ _ _ _ _ _ _ _ _ _ _ _ _ _ _ _ _ _ _ _ _ _ _ _ _ _ _ _ _ _ _ _ _ _ _ _ _ _ _ _ _ _ _ _ _ _ _ _ _ _ _ _ _ ?_
  intros
  rename_i wl hfew hnl
  clear hrd
  have oM11 := (hnl.objs _ qM10).trans oM10
  have qM11 := obj_lt oM11
  clear oM10 qM10
  replace hs1 := hide (hs1.out.new hnl)
  replace hrp := hide (hrp.out.new hnl)
  replace hb2 := hide (hb2.out.new hnl)
  have N11 := N10.trans hnl
  clear N10
  clear hnl
  obtain ⟨gw, cw, rfl, rw0⟩ := hfew
  obtain ⟨_, cw2, hcwe, hcw⟩ := rw0.form2
  simp only [Value.slice.injEq] at hcwe
  obtain ⟨rfl, _, rfl⟩ := hcwe
  have hrw := hide rw0
  clear rw0
  clear hb2
  have hfsb : Hid (∀ i, 0 ≤ subP p L i ∧ subP p L i ≤ 255) := fun i => hpbH.out _
  go_wp2_with (fail)
  refine (pof_ik hE.out ⟨by omega, by omega⟩ ⟨by omega, by omega⟩ hfm.out (some ⟨gw, 0, none⟩) cw hfsb.out (by omega) hcw _ hrw.out.sl).mono ?_
  rintro e w12 ⟨rfl, hn12⟩
  have oM12 := (hn12.objs _ qM11).trans oM11
  have qM12 := obj_lt oM12
  clear oM11 qM11
  replace hs1 := hide (hs1.out.new hn12)
  replace hrp := hide (hrp.out.new hn12)
  replace hrw := hide (hrw.out.new hn12)
  have N12 := N11.trans hn12
  clear N11
  clear hn12
  go_wp2_with (fail)
  generalize hw13 : World.alloc w12 (Obj.cells (pic 144 a b Q) 41) = w13
  obtain ⟨gQ, hgQ⟩ : ∃ gQ, Hid (w12.heap.size = gQ) := ⟨_, rfl⟩
  have oQ13 : obj w13 gQ = some (.cells (pic 144 a b Q) 41) := by rw [← hw13, ← hgQ.out]; exact obj_alloc_at _ _ _ rfl
  have oM13 := (show obj w13 gM = obj w12 gM by rw [← hw13]; exact obj_alloc_past _ _ _ qM12).trans oM12
  have qM13 := obj_lt oM13
  clear oM12 qM12
  have hn13 : New w12 w13 := by rw [← hw13]; exact (New.refl _).alloc _
  replace hs1 := hide (hs1.out.new hn13)
  replace hrp := hide (hrp.out.new hn13)
  replace hrw := hide (hrw.out.new hn13)
  have N13 := N12.trans hn13
  clear N12
  have qQ13 := obj_lt oQ13
  rw [hgQ.out]
  clear hw13 hgQ hn13
  refine (cost_ik hE.out hcos.out ⟨by omega, by omega⟩ ⟨by omega, by omega⟩ hfm.out (some ⟨gw, 0, none⟩) cw hfsb.out (by omega) hcw _ hrw.out.sl).mono ?_
  rintro e w14 ⟨rfl, hn14⟩
  have oM14 := (hn14.objs _ qM13).trans oM13
  have qM14 := obj_lt oM14
  clear oM13 qM13
  have oQ14 := (hn14.objs _ qQ13).trans oQ13
  have qQ14 := obj_lt oQ14
  clear oQ13 qQ13
  replace hs1 := hide (hs1.out.new hn14)
  replace hrp := hide (hrp.out.new hn14)
  replace hrw := hide (hrw.out.new hn14)
  have N14 := N13.trans hn14
  clear N13
  clear hn14
  clear hrw
  clear oQ14 qQ14
  go_wp2_with (fail)
  refine (a2At_1 a1 n1 c1 f1 hf1 8 (by omega) hn1 _ hs1.out).mono ?_
  rintro e w15 ⟨rfl, rfl⟩
  have hr := atV_b (f := f1) (n := n1) (i := 1) (m := (8 : Int)) (by omega)
  generalize atV f1 n1 1 (8 : Int) = r at hr ⊢
  have hask : askOk a b fm n p = true := by unfold askOk; rw [hok.out, hopH.out]; rfl
  have hmv := mv_three hfm.out hpbH.out hask ⟨hr.1, by omega⟩ (r := r)
  clear hask
  clear hs1
  have htn := tin_both ha hb hfm.out hok.out
  rcases hmv with ⟨P5, hk5⟩ | ⟨M, P5, hMr, hk5, hb5, hagain⟩
  · replace hk5 := hide hk5
    go_wp2_with (fail)
    refine (move_ik hk5.out ⟨by omega, by omega⟩ ⟨by omega, by omega⟩ hfm.out (some ⟨gp, 0, none⟩) cp hpbH.out (by omega) hcp _ hrp.out.sl).mono ?_
    rintro e w16 ⟨v5, rfl, rm5, hn16⟩
    have oM16 := (hn16.objs _ qM14).trans oM14
    have qM16 := obj_lt oM16
    clear oM14 qM14
    replace hrp := hide (hrp.out.new hn16)
    have N16 := N14.trans hn16
    clear N14
    clear hn16
    have hm5 := hide rm5
    clear rm5
    go_wp2_with (fail)
    refine (move_sk hk5.out ⟨by omega, by omega⟩ ⟨by omega, by omega⟩ hfm.out (some ⟨gp, 0, none⟩) cp hpbH.out (by omega) _ hrp.out.sl).mono ?_
    rintro e w17 ⟨v6, rfl, rm6, hn17⟩
    have oM17 := (hn17.objs _ qM16).trans oM16
    have qM17 := obj_lt oM17
    clear oM16 qM16
    replace hrp := hide (hrp.out.new hn17)
    replace hm5 := hide (hm5.out.new hn17)
    have N17 := N16.trans hn17
    clear N16
    clear hn17
    have hm6 := hide rm6
    clear rm6
    obtain ⟨x5, y5, rfl, l5⟩ := hm5.out.form2
    obtain ⟨x6, y6, rfl, l6⟩ := hm6.out.form2
    go_wp2_with (fail)
    refine (samePal_sk x5 x6 _ y5 y6 P5 (by omega) _ hm5.out.sl hm6.out.sl).mono ?_
    rintro e w18 ⟨rfl, hn18⟩
    have oM18 := (hn18.objs _ qM17).trans oM17
    have qM18 := obj_lt oM18
    clear oM17 qM17
    replace hrp := hide (hrp.out.new hn18)
    replace hm5 := hide (hm5.out.new hn18)
    replace hm6 := hide (hm6.out.new hn18)
    have N18 := N17.trans hn18
    clear N17
    clear hn18
    clear hm5
    clear hm6
    clear hrp
    go_wp2_with (fail)
    rcases htn with ⟨P9, hk9⟩ | ⟨N9, P9, Q9, hk9, hN9, hb9, hE9, hc9⟩
    · replace hk9 := hide hk9
      refine (tin_ik hk9.out ⟨by omega, by omega⟩ ⟨by omega, by omega⟩ hfm.out _).mono ?_
      rintro e w19 ⟨v7, rfl, rt7, hn19⟩
      have oM19 := (hn19.objs _ qM18).trans oM18
      have qM19 := obj_lt oM19
      clear oM18 qM18
      have N19 := N18.trans hn19
      clear N18
      clear hn19
      have ht7 := hide rt7
      clear rt7
      go_wp2_with (fail)
      refine (tin_sk hk9.out ⟨by omega, by omega⟩ ⟨by omega, by omega⟩ hfm.out _).mono ?_
      rintro e w20 ⟨v8, rfl, rt8, hn20⟩
      have oM20 := (hn20.objs _ qM19).trans oM19
      have qM20 := obj_lt oM20
      clear oM19 qM19
      replace ht7 := hide (ht7.out.new hn20)
      have N20 := N19.trans hn20
      clear N19
      clear hn20
      have ht8 := hide rt8
      clear rt8
      obtain ⟨x7, y7, rfl, l7⟩ := ht7.out.form2
      obtain ⟨x8, y8, rfl, l8⟩ := ht8.out.form2
      go_wp2_with (fail)
      refine (samePal_sk x7 x8 _ y7 y8 P9 (by omega) _ ht7.out.sl ht8.out.sl).mono ?_
      rintro e w21 ⟨rfl, hn21⟩
      have oM21 := (hn21.objs _ qM20).trans oM20
      have qM21 := obj_lt oM21
      clear oM20 qM20
      replace ht7 := hide (ht7.out.new hn21)
      replace ht8 := hide (ht8.out.new hn21)
      have N21 := N20.trans hn21
      clear N20
      clear hn21
      go_wp2_with (fail)
      go_ret
      exact ⟨rfl, N21⟩
    · replace hk9 := hide hk9
      refine (tin_ik hk9.out ⟨by omega, by omega⟩ ⟨by omega, by omega⟩ hfm.out _).mono ?_
      rintro e w19 ⟨v7, rfl, rt7, hn19⟩
      have oM19 := (hn19.objs _ qM18).trans oM18
      have qM19 := obj_lt oM19
      clear oM18 qM18
      have N19 := N18.trans hn19
      clear N18
      clear hn19
      have ht7 := hide rt7
      clear rt7
      go_wp2_with (fail)
      refine (tin_sk hk9.out ⟨by omega, by omega⟩ ⟨by omega, by omega⟩ hfm.out _).mono ?_
      rintro e w20 ⟨v8, rfl, rt8, hn20⟩
      have oM20 := (hn20.objs _ qM19).trans oM19
      have qM20 := obj_lt oM20
      clear oM19 qM19
      replace ht7 := hide (ht7.out.new hn20)
      have N20 := N19.trans hn20
      clear N19
      clear hn20
      have ht8 := hide rt8
      clear rt8
      obtain ⟨x7, y7, rfl, l7⟩ := ht7.out.form2
      obtain ⟨x8, y8, rfl, l8⟩ := ht8.out.form2
      go_wp2_with (fail)
      refine (samePal_sk x7 x8 _ y7 y8 P9 (by omega) _ ht7.out.sl ht8.out.sl).mono ?_
      rintro e w21 ⟨rfl, hn21⟩
      have oM21 := (hn21.objs _ qM20).trans oM20
      have qM21 := obj_lt oM21
      clear oM20 qM20
      replace ht7 := hide (ht7.out.new hn21)
      replace ht8 := hide (ht8.out.new hn21)
      have N21 := N20.trans hn21
      clear N20
      clear hn21
      go_wp2_with (fail)
      replace hb9 := hide hb9
      replace hE9 := hide hE9
      replace hc9 := hide hc9
      clear ht7
      refine (pof_ik hE9.out ⟨by omega, by omega⟩ ⟨by omega, by omega⟩ hfm.out x8 y8 hb9.out (by omega) l8 _ ht8.out.sl).mono ?_
      rintro e w22 ⟨rfl, hn22⟩
      have oM22 := (hn22.objs _ qM21).trans oM21
      have qM22 := obj_lt oM22
      clear oM21 qM21
      replace ht8 := hide (ht8.out.new hn22)
      have N22 := N21.trans hn22
      clear N21
      clear hn22
      go_wp2_with (fail)
      generalize hw23 : World.alloc w22 (Obj.cells (pic 144 a b Q9) 41) = w23
      obtain ⟨gQ, hgQ⟩ : ∃ gQ, Hid (w22.heap.size = gQ) := ⟨_, rfl⟩
      have oQ23 : obj w23 gQ = some (.cells (pic 144 a b Q9) 41) := by rw [← hw23, ← hgQ.out]; exact obj_alloc_at _ _ _ rfl
      have oM23 := (show obj w23 gM = obj w22 gM by rw [← hw23]; exact obj_alloc_past _ _ _ qM22).trans oM22
      have qM23 := obj_lt oM23
      clear oM22 qM22
      have hn23 : New w22 w23 := by rw [← hw23]; exact (New.refl _).alloc _
      replace ht8 := hide (ht8.out.new hn23)
      have N23 := N22.trans hn23
      clear N22
      have qQ23 := obj_lt oQ23
      rw [hgQ.out]
      clear hw23 hgQ hn23
      refine (cost_ik hE9.out hc9.out ⟨by omega, by omega⟩ ⟨by omega, by omega⟩ hfm.out x8 y8 hb9.out (by omega) l8 _ ht8.out.sl).mono ?_
      rintro e w24 ⟨rfl, hn24⟩
      have oM24 := (hn24.objs _ qM23).trans oM23
      have qM24 := obj_lt oM24
      clear oM23 qM23
      have oQ24 := (hn24.objs _ qQ23).trans oQ23
      have qQ24 := obj_lt oQ24
      clear oQ23 qQ23
      replace ht8 := hide (ht8.out.new hn24)
      have N24 := N23.trans hn24
      clear N23
      clear hn24
      clear ht8
      clear oQ24 qQ24
      go_wp2_with (fail)
      obtain ⟨z, hz0, hz1, hz2, hzb⟩ : ∃ z : Nat → Int, z 0 = 0 ∧ z 1 = 0 ∧ z 2 = a - 1 ∧ ∀ i, -9223372036854775808 ≤ z i ∧ z i ≤ 9223372036854775807 := ⟨fun j => if j = 2 then a - 1 else 0, rfl, rfl, rfl, fun i => by dsimp only; split <;> omega⟩
      have hmc := hide (mean_three ha hb hok.out hz0 hz1 hz2)
      obtain ⟨y0, hy0⟩ : ∃ y, Hid (meanV a b fm 3 z 0 = y) := ⟨_, rfl⟩
      obtain ⟨y1, hy1⟩ : ∃ y, Hid (meanV a b fm 3 z 1 = y) := ⟨_, rfl⟩
      obtain ⟨y2, hy2⟩ : ∃ y, Hid (meanV a b fm 3 z 2 = y) := ⟨_, rfl⟩
      replace hzb := hide hzb
      generalize hw25 : World.alloc w24 (Obj.cells (#[.int .i64 0, .int .i64 0, .int .i64 (a - 1)]) 2) = w25
      obtain ⟨gZ, hgZ⟩ : ∃ gZ, Hid (w24.heap.size = gZ) := ⟨_, rfl⟩
      have oZ25 : obj w25 gZ = some (.cells (#[.int .i64 0, .int .i64 0, .int .i64 (a - 1)]) 2) := by rw [← hw25, ← hgZ.out]; exact obj_alloc_at _ _ _ rfl
      have oM25 := (show obj w25 gM = obj w24 gM by rw [← hw25]; exact obj_alloc_past _ _ _ qM24).trans oM24
      have qM25 := obj_lt oM25
      clear oM24 qM24
      have hn25 : New w24 w25 := by rw [← hw25]; exact (New.refl _).alloc _
      have N25 := N24.trans hn25
      clear N24
      have qZ25 := obj_lt oZ25
      rw [hgZ.out]
      clear hw25 hgZ hn25
      have hz := hide (show Sl w25 (.slice (some ⟨gZ, 0, none⟩) 3 3) 3 1 .i64 z from Sl.of oZ25 fun i hi => by
          have : i = 0 ∨ i = 1 ∨ i = 2 := by omega
          rcases this with rfl | rfl | rfl
          · rw [hz0]; rfl
          · rw [hz1]; rfl
          · rw [hz2]; rfl)
      clear oZ25 qZ25
      clear hz0 hz1 hz2
      refine (mean_ik hmc.out hy0.out hy1.out hy2.out ⟨by omega, by omega⟩ ⟨by omega, by omega⟩ hfm.out (some ⟨gZ, 0, none⟩) 3 hzb.out _ hz.out).mono ?_
      rintro e w26 ⟨rfl, hn26⟩
      have oM26 := (hn26.objs _ qM25).trans oM25
      have qM26 := obj_lt oM26
      clear oM25 qM25
      replace hz := hide (hz.out.new hn26)
      have N26 := N25.trans hn26
      clear N25
      clear hn26
      go_wp2_with (fail)
      generalize hw27 : World.alloc w26 (Obj.cells (#[.int .u8 y0, .int .u8 y1, .int .u8 y2]) 26) = w27
      obtain ⟨gT, hgT⟩ : ∃ gT, Hid (w26.heap.size = gT) := ⟨_, rfl⟩
      have oT27 : obj w27 gT = some (.cells (#[.int .u8 y0, .int .u8 y1, .int .u8 y2]) 26) := by rw [← hw27, ← hgT.out]; exact obj_alloc_at _ _ _ rfl
      have oM27 := (show obj w27 gM = obj w26 gM by rw [← hw27]; exact obj_alloc_past _ _ _ qM26).trans oM26
      have qM27 := obj_lt oM27
      clear oM26 qM26
      have hn27 : New w26 w27 := by rw [← hw27]; exact (New.refl _).alloc _
      replace hz := hide (hz.out.new hn27)
      have N27 := N26.trans hn27
      clear N26
      have qT27 := obj_lt oT27
      rw [hgT.out]
      clear hw27 hgT hn27
      refine (mean_sk hmc.out hy0.out hy1.out hy2.out ⟨by omega, by omega⟩ ⟨by omega, by omega⟩ hfm.out (some ⟨gZ, 0, none⟩) 3 hzb.out _ hz.out).mono ?_
      rintro e w28 ⟨rfl, hn28⟩
      have oM28 := (hn28.objs _ qM27).trans oM27
      have qM28 := obj_lt oM28
      clear oM27 qM27
      have oT28 := (hn28.objs _ qT27).trans oT27
      have qT28 := obj_lt oT28
      clear oT27 qT27
      replace hz := hide (hz.out.new hn28)
      have N28 := N27.trans hn28
      clear N27
      clear hn28
      have hyy : eq3 y0 y1 y2 y0 y1 y2 = true := by rw [eq3_t]; exact ⟨rfl, rfl, rfl⟩
      go_wp2_with (fail)
      go_ret
      exact ⟨rfl, N28.alloc _⟩
  · replace hk5 := hide hk5
    replace hagain := hide hagain
    replace hb5 := hide hb5
    have hrM : decide (r < (M : Int)) = false := decide_eq_false (by omega)
    have hM7 : M ≤ 7 := by omega
    go_wp2_with (fail)
    refine (move_ik hk5.out ⟨by omega, by omega⟩ ⟨by omega, by omega⟩ hfm.out (some ⟨gp, 0, none⟩) cp hpbH.out (by omega) hcp _ hrp.out.sl).mono ?_
    rintro e w16 ⟨v5, rfl, rm5, hn16⟩
    have oM16 := (hn16.objs _ qM14).trans oM14
    have qM16 := obj_lt oM16
    clear oM14 qM14
    replace hrp := hide (hrp.out.new hn16)
    have N16 := N14.trans hn16
    clear N14
    clear hn16
    have hm5 := hide rm5
    clear rm5
    go_wp2_with (fail)
    refine (move_sk hk5.out ⟨by omega, by omega⟩ ⟨by omega, by omega⟩ hfm.out (some ⟨gp, 0, none⟩) cp hpbH.out (by omega) _ hrp.out.sl).mono ?_
    rintro e w17 ⟨v6, rfl, rm6, hn17⟩
    have oM17 := (hn17.objs _ qM16).trans oM16
    have qM17 := obj_lt oM17
    clear oM16 qM16
    replace hrp := hide (hrp.out.new hn17)
    replace hm5 := hide (hm5.out.new hn17)
    have N17 := N16.trans hn17
    clear N16
    clear hn17
    have hm6 := hide rm6
    clear rm6
    obtain ⟨x5, y5, rfl, l5⟩ := hm5.out.form2
    obtain ⟨x6, y6, rfl, l6⟩ := hm6.out.form2
    go_wp2_with (fail)
    refine (samePal_sk x5 x6 _ y5 y6 P5 (by omega) _ hm5.out.sl hm6.out.sl).mono ?_
    rintro e w18 ⟨rfl, hn18⟩
    have oM18 := (hn18.objs _ qM17).trans oM17
    have qM18 := obj_lt oM18
    clear oM17 qM17
    replace hrp := hide (hrp.out.new hn18)
    replace hm5 := hide (hm5.out.new hn18)
    replace hm6 := hide (hm6.out.new hn18)
    have N18 := N17.trans hn18
    clear N17
    clear hn18
    clear hm5
    clear hrp
    by_cases hlr : (M : Int) < r
    · have hkA := hide (hagain.out hlr)
      have hlr2 : decide ((M : Int) < r) = true := decide_eq_true hlr
      clear hagain
      go_wp2_with (fail)
      refine (move_ik hkA.out ⟨by omega, by omega⟩ ⟨by omega, by omega⟩ hfm.out x6 y6 hb5.out (by omega) l6 _ hm6.out.sl).mono ?_
      rintro e w19 ⟨vA, rfl, rmA, hn19⟩
      have oM19 := (hn19.objs _ qM18).trans oM18
      have qM19 := obj_lt oM19
      clear oM18 qM18
      replace hm6 := hide (hm6.out.new hn19)
      have N19 := N18.trans hn19
      clear N18
      clear hn19
      have hmA := hide rmA
      clear rmA
      obtain ⟨xA, yA, rfl, lA⟩ := hmA.out.form2
      go_wp2_with (fail)
      refine (samePal_sk xA x6 _ yA y6 P5 (by omega) _ hmA.out.sl hm6.out.sl).mono ?_
      rintro e w20 ⟨rfl, hn20⟩
      have oM20 := (hn20.objs _ qM19).trans oM19
      have qM20 := obj_lt oM20
      clear oM19 qM19
      replace hm6 := hide (hm6.out.new hn20)
      replace hmA := hide (hmA.out.new hn20)
      have N20 := N19.trans hn20
      clear N19
      clear hn20
      clear hmA
      clear hm6
      go_wp2_with (fail)
      rcases htn with ⟨P9, hk9⟩ | ⟨N9, P9, Q9, hk9, hN9, hb9, hE9, hc9⟩
      · replace hk9 := hide hk9
        refine (tin_ik hk9.out ⟨by omega, by omega⟩ ⟨by omega, by omega⟩ hfm.out _).mono ?_
        rintro e w21 ⟨v7, rfl, rt7, hn21⟩
        have oM21 := (hn21.objs _ qM20).trans oM20
        have qM21 := obj_lt oM21
        clear oM20 qM20
        have N21 := N20.trans hn21
        clear N20
        clear hn21
        have ht7 := hide rt7
        clear rt7
        go_wp2_with (fail)
        refine (tin_sk hk9.out ⟨by omega, by omega⟩ ⟨by omega, by omega⟩ hfm.out _).mono ?_
        rintro e w22 ⟨v8, rfl, rt8, hn22⟩
        have oM22 := (hn22.objs _ qM21).trans oM21
        have qM22 := obj_lt oM22
        clear oM21 qM21
        replace ht7 := hide (ht7.out.new hn22)
        have N22 := N21.trans hn22
        clear N21
        clear hn22
        have ht8 := hide rt8
        clear rt8
        obtain ⟨x7, y7, rfl, l7⟩ := ht7.out.form2
        obtain ⟨x8, y8, rfl, l8⟩ := ht8.out.form2
        go_wp2_with (fail)
        refine (samePal_sk x7 x8 _ y7 y8 P9 (by omega) _ ht7.out.sl ht8.out.sl).mono ?_
        rintro e w23 ⟨rfl, hn23⟩
        have oM23 := (hn23.objs _ qM22).trans oM22
        have qM23 := obj_lt oM23
        clear oM22 qM22
        replace ht7 := hide (ht7.out.new hn23)
        replace ht8 := hide (ht8.out.new hn23)
        have N23 := N22.trans hn23
        clear N22
        clear hn23
        go_wp2_with (fail)
        go_ret
        exact ⟨rfl, N23⟩
      · replace hk9 := hide hk9
        refine (tin_ik hk9.out ⟨by omega, by omega⟩ ⟨by omega, by omega⟩ hfm.out _).mono ?_
        rintro e w21 ⟨v7, rfl, rt7, hn21⟩
        have oM21 := (hn21.objs _ qM20).trans oM20
        have qM21 := obj_lt oM21
        clear oM20 qM20
        have N21 := N20.trans hn21
        clear N20
        clear hn21
        have ht7 := hide rt7
        clear rt7
        go_wp2_with (fail)
        refine (tin_sk hk9.out ⟨by omega, by omega⟩ ⟨by omega, by omega⟩ hfm.out _).mono ?_
        rintro e w22 ⟨v8, rfl, rt8, hn22⟩
        have oM22 := (hn22.objs _ qM21).trans oM21
        have qM22 := obj_lt oM22
        clear oM21 qM21
        replace ht7 := hide (ht7.out.new hn22)
        have N22 := N21.trans hn22
        clear N21
        clear hn22
        have ht8 := hide rt8
        clear rt8
        obtain ⟨x7, y7, rfl, l7⟩ := ht7.out.form2
        obtain ⟨x8, y8, rfl, l8⟩ := ht8.out.form2
        go_wp2_with (fail)
        refine (samePal_sk x7 x8 _ y7 y8 P9 (by omega) _ ht7.out.sl ht8.out.sl).mono ?_
        rintro e w23 ⟨rfl, hn23⟩
        have oM23 := (hn23.objs _ qM22).trans oM22
        have qM23 := obj_lt oM23
        clear oM22 qM22
        replace ht7 := hide (ht7.out.new hn23)
        replace ht8 := hide (ht8.out.new hn23)
        have N23 := N22.trans hn23
        clear N22
        clear hn23
        go_wp2_with (fail)
        replace hb9 := hide hb9
        replace hE9 := hide hE9
        replace hc9 := hide hc9
        clear ht7
        refine (pof_ik hE9.out ⟨by omega, by omega⟩ ⟨by omega, by omega⟩ hfm.out x8 y8 hb9.out (by omega) l8 _ ht8.out.sl).mono ?_
        rintro e w24 ⟨rfl, hn24⟩
        have oM24 := (hn24.objs _ qM23).trans oM23
        have qM24 := obj_lt oM24
        clear oM23 qM23
        replace ht8 := hide (ht8.out.new hn24)
        have N24 := N23.trans hn24
        clear N23
        clear hn24
        go_wp2_with (fail)
        generalize hw25 : World.alloc w24 (Obj.cells (pic 144 a b Q9) 41) = w25
        obtain ⟨gQ, hgQ⟩ : ∃ gQ, Hid (w24.heap.size = gQ) := ⟨_, rfl⟩
        have oQ25 : obj w25 gQ = some (.cells (pic 144 a b Q9) 41) := by rw [← hw25, ← hgQ.out]; exact obj_alloc_at _ _ _ rfl
        have oM25 := (show obj w25 gM = obj w24 gM by rw [← hw25]; exact obj_alloc_past _ _ _ qM24).trans oM24
        have qM25 := obj_lt oM25
        clear oM24 qM24
        have hn25 : New w24 w25 := by rw [← hw25]; exact (New.refl _).alloc _
        replace ht8 := hide (ht8.out.new hn25)
        have N25 := N24.trans hn25
        clear N24
        have qQ25 := obj_lt oQ25
        rw [hgQ.out]
        clear hw25 hgQ hn25
        refine (cost_ik hE9.out hc9.out ⟨by omega, by omega⟩ ⟨by omega, by omega⟩ hfm.out x8 y8 hb9.out (by omega) l8 _ ht8.out.sl).mono ?_
        rintro e w26 ⟨rfl, hn26⟩
        have oM26 := (hn26.objs _ qM25).trans oM25
        have qM26 := obj_lt oM26
        clear oM25 qM25
        have oQ26 := (hn26.objs _ qQ25).trans oQ25
        have qQ26 := obj_lt oQ26
        clear oQ25 qQ25
        replace ht8 := hide (ht8.out.new hn26)
        have N26 := N25.trans hn26
        clear N25
        clear hn26
        clear ht8
        clear oQ26 qQ26
        go_wp2_with (fail)
        obtain ⟨z, hz0, hz1, hz2, hzb⟩ : ∃ z : Nat → Int, z 0 = 0 ∧ z 1 = 0 ∧ z 2 = a - 1 ∧ ∀ i, -9223372036854775808 ≤ z i ∧ z i ≤ 9223372036854775807 := ⟨fun j => if j = 2 then a - 1 else 0, rfl, rfl, rfl, fun i => by dsimp only; split <;> omega⟩
        have hmc := hide (mean_three ha hb hok.out hz0 hz1 hz2)
        obtain ⟨y0, hy0⟩ : ∃ y, Hid (meanV a b fm 3 z 0 = y) := ⟨_, rfl⟩
        obtain ⟨y1, hy1⟩ : ∃ y, Hid (meanV a b fm 3 z 1 = y) := ⟨_, rfl⟩
        obtain ⟨y2, hy2⟩ : ∃ y, Hid (meanV a b fm 3 z 2 = y) := ⟨_, rfl⟩
        replace hzb := hide hzb
        generalize hw27 : World.alloc w26 (Obj.cells (#[.int .i64 0, .int .i64 0, .int .i64 (a - 1)]) 2) = w27
        obtain ⟨gZ, hgZ⟩ : ∃ gZ, Hid (w26.heap.size = gZ) := ⟨_, rfl⟩
        have oZ27 : obj w27 gZ = some (.cells (#[.int .i64 0, .int .i64 0, .int .i64 (a - 1)]) 2) := by rw [← hw27, ← hgZ.out]; exact obj_alloc_at _ _ _ rfl
        have oM27 := (show obj w27 gM = obj w26 gM by rw [← hw27]; exact obj_alloc_past _ _ _ qM26).trans oM26
        have qM27 := obj_lt oM27
        clear oM26 qM26
        have hn27 : New w26 w27 := by rw [← hw27]; exact (New.refl _).alloc _
        have N27 := N26.trans hn27
        clear N26
        have qZ27 := obj_lt oZ27
        rw [hgZ.out]
        clear hw27 hgZ hn27
        have hz := hide (show Sl w27 (.slice (some ⟨gZ, 0, none⟩) 3 3) 3 1 .i64 z from Sl.of oZ27 fun i hi => by
            have : i = 0 ∨ i = 1 ∨ i = 2 := by omega
            rcases this with rfl | rfl | rfl
            · rw [hz0]; rfl
            · rw [hz1]; rfl
            · rw [hz2]; rfl)
        clear oZ27 qZ27
        clear hz0 hz1 hz2
        refine (mean_ik hmc.out hy0.out hy1.out hy2.out ⟨by omega, by omega⟩ ⟨by omega, by omega⟩ hfm.out (some ⟨gZ, 0, none⟩) 3 hzb.out _ hz.out).mono ?_
        rintro e w28 ⟨rfl, hn28⟩
        have oM28 := (hn28.objs _ qM27).trans oM27
        have qM28 := obj_lt oM28
        clear oM27 qM27
        replace hz := hide (hz.out.new hn28)
        have N28 := N27.trans hn28
        clear N27
        clear hn28
        go_wp2_with (fail)
        generalize hw29 : World.alloc w28 (Obj.cells (#[.int .u8 y0, .int .u8 y1, .int .u8 y2]) 26) = w29
        obtain ⟨gT, hgT⟩ : ∃ gT, Hid (w28.heap.size = gT) := ⟨_, rfl⟩
        have oT29 : obj w29 gT = some (.cells (#[.int .u8 y0, .int .u8 y1, .int .u8 y2]) 26) := by rw [← hw29, ← hgT.out]; exact obj_alloc_at _ _ _ rfl
        have oM29 := (show obj w29 gM = obj w28 gM by rw [← hw29]; exact obj_alloc_past _ _ _ qM28).trans oM28
        have qM29 := obj_lt oM29
        clear oM28 qM28
        have hn29 : New w28 w29 := by rw [← hw29]; exact (New.refl _).alloc _
        replace hz := hide (hz.out.new hn29)
        have N29 := N28.trans hn29
        clear N28
        have qT29 := obj_lt oT29
        rw [hgT.out]
        clear hw29 hgT hn29
        refine (mean_sk hmc.out hy0.out hy1.out hy2.out ⟨by omega, by omega⟩ ⟨by omega, by omega⟩ hfm.out (some ⟨gZ, 0, none⟩) 3 hzb.out _ hz.out).mono ?_
        rintro e w30 ⟨rfl, hn30⟩
        have oM30 := (hn30.objs _ qM29).trans oM29
        have qM30 := obj_lt oM30
        clear oM29 qM29
        have oT30 := (hn30.objs _ qT29).trans oT29
        have qT30 := obj_lt oT30
        clear oT29 qT29
        replace hz := hide (hz.out.new hn30)
        have N30 := N29.trans hn30
        clear N29
        clear hn30
        have hyy : eq3 y0 y1 y2 y0 y1 y2 = true := by rw [eq3_t]; exact ⟨rfl, rfl, rfl⟩
        go_wp2_with (fail)
        go_ret
        exact ⟨rfl, N30.alloc _⟩
    · have hlr2 : decide ((M : Int) < r) = false := decide_eq_false hlr
      clear hagain
      clear hm6
      go_wp2_with (fail)
      rcases htn with ⟨P9, hk9⟩ | ⟨N9, P9, Q9, hk9, hN9, hb9, hE9, hc9⟩
      · replace hk9 := hide hk9
        refine (tin_ik hk9.out ⟨by omega, by omega⟩ ⟨by omega, by omega⟩ hfm.out _).mono ?_
        rintro e w19 ⟨v7, rfl, rt7, hn19⟩
        have oM19 := (hn19.objs _ qM18).trans oM18
        have qM19 := obj_lt oM19
        clear oM18 qM18
        have N19 := N18.trans hn19
        clear N18
        clear hn19
        have ht7 := hide rt7
        clear rt7
        go_wp2_with (fail)
        refine (tin_sk hk9.out ⟨by omega, by omega⟩ ⟨by omega, by omega⟩ hfm.out _).mono ?_
        rintro e w20 ⟨v8, rfl, rt8, hn20⟩
        have oM20 := (hn20.objs _ qM19).trans oM19
        have qM20 := obj_lt oM20
        clear oM19 qM19
        replace ht7 := hide (ht7.out.new hn20)
        have N20 := N19.trans hn20
        clear N19
        clear hn20
        have ht8 := hide rt8
        clear rt8
        obtain ⟨x7, y7, rfl, l7⟩ := ht7.out.form2
        obtain ⟨x8, y8, rfl, l8⟩ := ht8.out.form2
        go_wp2_with (fail)
        refine (samePal_sk x7 x8 _ y7 y8 P9 (by omega) _ ht7.out.sl ht8.out.sl).mono ?_
        rintro e w21 ⟨rfl, hn21⟩
        have oM21 := (hn21.objs _ qM20).trans oM20
        have qM21 := obj_lt oM21
        clear oM20 qM20
        replace ht7 := hide (ht7.out.new hn21)
        replace ht8 := hide (ht8.out.new hn21)
        have N21 := N20.trans hn21
        clear N20
        clear hn21
        go_wp2_with (fail)
        go_ret
        exact ⟨rfl, N21⟩
      · replace hk9 := hide hk9
        refine (tin_ik hk9.out ⟨by omega, by omega⟩ ⟨by omega, by omega⟩ hfm.out _).mono ?_
        rintro e w19 ⟨v7, rfl, rt7, hn19⟩
        have oM19 := (hn19.objs _ qM18).trans oM18
        have qM19 := obj_lt oM19
        clear oM18 qM18
        have N19 := N18.trans hn19
        clear N18
        clear hn19
        have ht7 := hide rt7
        clear rt7
        go_wp2_with (fail)
        refine (tin_sk hk9.out ⟨by omega, by omega⟩ ⟨by omega, by omega⟩ hfm.out _).mono ?_
        rintro e w20 ⟨v8, rfl, rt8, hn20⟩
        have oM20 := (hn20.objs _ qM19).trans oM19
        have qM20 := obj_lt oM20
        clear oM19 qM19
        replace ht7 := hide (ht7.out.new hn20)
        have N20 := N19.trans hn20
        clear N19
        clear hn20
        have ht8 := hide rt8
        clear rt8
        obtain ⟨x7, y7, rfl, l7⟩ := ht7.out.form2
        obtain ⟨x8, y8, rfl, l8⟩ := ht8.out.form2
        go_wp2_with (fail)
        refine (samePal_sk x7 x8 _ y7 y8 P9 (by omega) _ ht7.out.sl ht8.out.sl).mono ?_
        rintro e w21 ⟨rfl, hn21⟩
        have oM21 := (hn21.objs _ qM20).trans oM20
        have qM21 := obj_lt oM21
        clear oM20 qM20
        replace ht7 := hide (ht7.out.new hn21)
        replace ht8 := hide (ht8.out.new hn21)
        have N21 := N20.trans hn21
        clear N20
        clear hn21
        go_wp2_with (fail)
        replace hb9 := hide hb9
        replace hE9 := hide hE9
        replace hc9 := hide hc9
        clear ht7
        refine (pof_ik hE9.out ⟨by omega, by omega⟩ ⟨by omega, by omega⟩ hfm.out x8 y8 hb9.out (by omega) l8 _ ht8.out.sl).mono ?_
        rintro e w22 ⟨rfl, hn22⟩
        have oM22 := (hn22.objs _ qM21).trans oM21
        have qM22 := obj_lt oM22
        clear oM21 qM21
        replace ht8 := hide (ht8.out.new hn22)
        have N22 := N21.trans hn22
        clear N21
        clear hn22
        go_wp2_with (fail)
        generalize hw23 : World.alloc w22 (Obj.cells (pic 144 a b Q9) 41) = w23
        obtain ⟨gQ, hgQ⟩ : ∃ gQ, Hid (w22.heap.size = gQ) := ⟨_, rfl⟩
        have oQ23 : obj w23 gQ = some (.cells (pic 144 a b Q9) 41) := by rw [← hw23, ← hgQ.out]; exact obj_alloc_at _ _ _ rfl
        have oM23 := (show obj w23 gM = obj w22 gM by rw [← hw23]; exact obj_alloc_past _ _ _ qM22).trans oM22
        have qM23 := obj_lt oM23
        clear oM22 qM22
        have hn23 : New w22 w23 := by rw [← hw23]; exact (New.refl _).alloc _
        replace ht8 := hide (ht8.out.new hn23)
        have N23 := N22.trans hn23
        clear N22
        have qQ23 := obj_lt oQ23
        rw [hgQ.out]
        clear hw23 hgQ hn23
        refine (cost_ik hE9.out hc9.out ⟨by omega, by omega⟩ ⟨by omega, by omega⟩ hfm.out x8 y8 hb9.out (by omega) l8 _ ht8.out.sl).mono ?_
        rintro e w24 ⟨rfl, hn24⟩
        have oM24 := (hn24.objs _ qM23).trans oM23
        have qM24 := obj_lt oM24
        clear oM23 qM23
        have oQ24 := (hn24.objs _ qQ23).trans oQ23
        have qQ24 := obj_lt oQ24
        clear oQ23 qQ23
        replace ht8 := hide (ht8.out.new hn24)
        have N24 := N23.trans hn24
        clear N23
        clear hn24
        clear ht8
        clear oQ24 qQ24
        go_wp2_with (fail)
        obtain ⟨z, hz0, hz1, hz2, hzb⟩ : ∃ z : Nat → Int, z 0 = 0 ∧ z 1 = 0 ∧ z 2 = a - 1 ∧ ∀ i, -9223372036854775808 ≤ z i ∧ z i ≤ 9223372036854775807 := ⟨fun j => if j = 2 then a - 1 else 0, rfl, rfl, rfl, fun i => by dsimp only; split <;> omega⟩
        have hmc := hide (mean_three ha hb hok.out hz0 hz1 hz2)
        obtain ⟨y0, hy0⟩ : ∃ y, Hid (meanV a b fm 3 z 0 = y) := ⟨_, rfl⟩
        obtain ⟨y1, hy1⟩ : ∃ y, Hid (meanV a b fm 3 z 1 = y) := ⟨_, rfl⟩
        obtain ⟨y2, hy2⟩ : ∃ y, Hid (meanV a b fm 3 z 2 = y) := ⟨_, rfl⟩
        replace hzb := hide hzb
        generalize hw25 : World.alloc w24 (Obj.cells (#[.int .i64 0, .int .i64 0, .int .i64 (a - 1)]) 2) = w25
        obtain ⟨gZ, hgZ⟩ : ∃ gZ, Hid (w24.heap.size = gZ) := ⟨_, rfl⟩
        have oZ25 : obj w25 gZ = some (.cells (#[.int .i64 0, .int .i64 0, .int .i64 (a - 1)]) 2) := by rw [← hw25, ← hgZ.out]; exact obj_alloc_at _ _ _ rfl
        have oM25 := (show obj w25 gM = obj w24 gM by rw [← hw25]; exact obj_alloc_past _ _ _ qM24).trans oM24
        have qM25 := obj_lt oM25
        clear oM24 qM24
        have hn25 : New w24 w25 := by rw [← hw25]; exact (New.refl _).alloc _
        have N25 := N24.trans hn25
        clear N24
        have qZ25 := obj_lt oZ25
        rw [hgZ.out]
        clear hw25 hgZ hn25
        have hz := hide (show Sl w25 (.slice (some ⟨gZ, 0, none⟩) 3 3) 3 1 .i64 z from Sl.of oZ25 fun i hi => by
            have : i = 0 ∨ i = 1 ∨ i = 2 := by omega
            rcases this with rfl | rfl | rfl
            · rw [hz0]; rfl
            · rw [hz1]; rfl
            · rw [hz2]; rfl)
        clear oZ25 qZ25
        clear hz0 hz1 hz2
        refine (mean_ik hmc.out hy0.out hy1.out hy2.out ⟨by omega, by omega⟩ ⟨by omega, by omega⟩ hfm.out (some ⟨gZ, 0, none⟩) 3 hzb.out _ hz.out).mono ?_
        rintro e w26 ⟨rfl, hn26⟩
        have oM26 := (hn26.objs _ qM25).trans oM25
        have qM26 := obj_lt oM26
        clear oM25 qM25
        replace hz := hide (hz.out.new hn26)
        have N26 := N25.trans hn26
        clear N25
        clear hn26
        go_wp2_with (fail)
        generalize hw27 : World.alloc w26 (Obj.cells (#[.int .u8 y0, .int .u8 y1, .int .u8 y2]) 26) = w27
        obtain ⟨gT, hgT⟩ : ∃ gT, Hid (w26.heap.size = gT) := ⟨_, rfl⟩
        have oT27 : obj w27 gT = some (.cells (#[.int .u8 y0, .int .u8 y1, .int .u8 y2]) 26) := by rw [← hw27, ← hgT.out]; exact obj_alloc_at _ _ _ rfl
        have oM27 := (show obj w27 gM = obj w26 gM by rw [← hw27]; exact obj_alloc_past _ _ _ qM26).trans oM26
        have qM27 := obj_lt oM27
        clear oM26 qM26
        have hn27 : New w26 w27 := by rw [← hw27]; exact (New.refl _).alloc _
        replace hz := hide (hz.out.new hn27)
        have N27 := N26.trans hn27
        clear N26
        have qT27 := obj_lt oT27
        rw [hgT.out]
        clear hw27 hgT hn27
        refine (mean_sk hmc.out hy0.out hy1.out hy2.out ⟨by omega, by omega⟩ ⟨by omega, by omega⟩ hfm.out (some ⟨gZ, 0, none⟩) 3 hzb.out _ hz.out).mono ?_
        rintro e w28 ⟨rfl, hn28⟩
        have oM28 := (hn28.objs _ qM27).trans oM27
        have qM28 := obj_lt oM28
        clear oM27 qM27
        have oT28 := (hn28.objs _ qT27).trans oT27
        have qT28 := obj_lt oT28
        clear oT27 qT27
        replace hz := hide (hz.out.new hn28)
        have N28 := N27.trans hn28
        clear N27
        clear hn28
        have hyy : eq3 y0 y1 y2 y0 y1 y2 = true := by rw [eq3_t]; exact ⟨rfl, rfl, rfl⟩
        go_wp2_with (fail)
        go_ret
        exact ⟨rfl, N28.alloc _⟩
end Go.Proofs.Ytpphckfalgapdaa
