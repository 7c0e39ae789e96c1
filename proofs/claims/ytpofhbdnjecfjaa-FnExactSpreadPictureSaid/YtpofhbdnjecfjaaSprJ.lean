/- Pictures whose errors are spread: the program's loop over the parts of a cell; no condition. -/
import Derived.Test.YtpofhbdnjecfjaaSprF
import Derived.StillTailTactics
set_option linter.unusedVariables false
namespace Go.Proofs.Ytpofhbdnjecfjaa
open Go.BigFrame
open Go.RowKit Go.Arr
attribute [local go_sem ↓] lvSums svSums zeroSums zeroTone
attribute [local go_sem] ldSums stSums
attribute [local go_sem high] ixSums ixTone ixParts
noncomputable def partsBodyI : Code := loopIn (loopIn (Try.f9.body.getD .skip) 1) 1
set_option maxHeartbeats 8000000 in
set_option maxRecDepth 1000000 in
theorem parts_loopI (a b : Int) (fm : Nat → Int) (hab : (1 ≤ a ∧ a ≤ 12) ∧ (1 ≤ b ∧ b ≤ 12)) (k c : Nat) (hlt : k < 144) (F G : Nat → Int) (ad : Option Addr) (n cp : Nat) (fp : Nat → Int) (hfp : ∀ i, 0 ≤ fp i ∧ fp i ≤ 255) (hcl : c < n) (e : Nat → Int) (he : Hid (∀ K, e K = wrap64 (F (k * 3 + K) - fp (c * 3 + K)))) (gI gV gB : Nat) (wB w9 : World)
    (lt1 : gI < wB.heap.size) (c1 : Hid (obj wB gI = some (.cells (pic 432 a b fm) 37))) (hs1 : Hid (Sl wB (.slice ad n cp) n 3 .u8 fp)) (lV : wB.heap.size ≤ gV) (nB : gB ≠ gV)
    (oa9 : obj w9 gV = some (.cells (arr 432 .i64 F) 55))
    (og9 : obj w9 gB = some (.cells (pic 144 a b G) 31)) (hN9 : New wB w9)
    (Q0 : Exit → Act → World → Prop) (s0 s3 s4 s5 s7 s8 s9 s10 s11 s12 s14 s15 s16 s18 s19 s20 s21 s22 s23 s24 s25 s26 s27 s28 s29 s30 s31 s32 s33 s34 s35 s36 s37 s38 s39 s40 s41 s42 s43 s44 s45 s46 s47 s48 s49 s50 s51 s52 s53 s54 s55 s56 s57 s58 s59 s60 s61 s62 s63 s64 s65 s66 s67 s68 s69 s70 s71 s72 s73 s74 s75 s76 s77 s78 s79 s80 s81 s82 s83 s84 s85 s86 s87 s88 s89 s90 s91 s92 s93 s94 s95 s96 s99 s100 s101 s102 s103 s104 s105 s106 s107 s108 s109 s110 s111 s112 s113 s114 s115 s116 s117 s118 s119 s120 s121 s122 s123 s124 s125 s126 s127 s128 s129 s130 s131 s132 s133 s134 s135 s136 s137 s138 s139 s140 s141 s142 s143 s144 s145 s146 s147 s148 s149 s150 s151 s152 s153 : Value)
    (hexit : ∀ (u20 u21 u22 u23 u24 u98 u99 u100 u101 u102 u103 u104 u105 u106 u107 u108 u109 u110 u111 u112 u113 u114 u115 u116 u117 u118 u119 u120 u121 u122 u123 u124 u125 u126 u127 u128 u129 u130 u131 u132 u133 u134 u135 u136 u137 u138 u139 u140 u141 u142 u143 u144 u145 u146 u147 u148 u149 u150 u151 : Value) (w' : World), obj w' gV = some (.cells (arr 432 .i64 (spS (fun _ _ => true) a b k F e)) 55) → obj w' gB = some (.cells (pic 144 a b G) 31) → New wB w' → w9.grownBy w' (some gV) →
      Q0 (.exit 8) ⟨List.toArray (s0 :: (.slice ad n cp) :: (.pointer (some ⟨gI, 0, none⟩)) :: s3 :: s4 :: s5 :: (.pointer (some ⟨gV, 0, none⟩)) :: s7 :: s8 :: s9 :: s10 :: s11 :: s12 :: (.int .i64 (k : Nat)) :: s14 :: s15 :: s16 :: (.int .i64 (c : Nat)) :: s18 :: s19 :: u20 :: u21 :: u22 :: u23 :: u24 :: s25 :: s26 :: s27 :: s28 :: s29 :: s30 :: s31 :: s32 :: s33 :: s34 :: s35 :: s36 :: s37 :: s38 :: s39 :: s40 :: s41 :: s42 :: s43 :: s44 :: s45 :: s46 :: s47 :: s48 :: s49 :: s50 :: s51 :: s52 :: s53 :: s54 :: s55 :: s56 :: s57 :: s58 :: s59 :: s60 :: s61 :: s62 :: s63 :: s64 :: s65 :: s66 :: s67 :: s68 :: s69 :: s70 :: s71 :: s72 :: s73 :: s74 :: s75 :: s76 :: s77 :: s78 :: s79 :: s80 :: s81 :: s82 :: s83 :: s84 :: s85 :: s86 :: s87 :: s88 :: s89 :: s90 :: s91 :: s92 :: s93 :: s94 :: s95 :: s96 :: (.agg (arr 12 .i64 pD)) :: u98 :: u99 :: u100 :: u101 :: u102 :: u103 :: u104 :: u105 :: u106 :: u107 :: u108 :: u109 :: u110 :: u111 :: u112 :: u113 :: u114 :: u115 :: u116 :: u117 :: u118 :: u119 :: u120 :: u121 :: u122 :: u123 :: u124 :: u125 :: u126 :: u127 :: u128 :: u129 :: u130 :: u131 :: u132 :: u133 :: u134 :: u135 :: u136 :: u137 :: u138 :: u139 :: u140 :: u141 :: u142 :: u143 :: u144 :: u145 :: u146 :: u147 :: u148 :: u149 :: u150 :: u151 :: s152 :: s153 :: []), []⟩ w') :
    Code.wp Try.prog (Code.loop partsBodyI) Q0 ⟨List.toArray (s0 :: (.slice ad n cp) :: (.pointer (some ⟨gI, 0, none⟩)) :: s3 :: s4 :: s5 :: (.pointer (some ⟨gV, 0, none⟩)) :: s7 :: s8 :: s9 :: s10 :: s11 :: s12 :: (.int .i64 (k : Nat)) :: s14 :: s15 :: s16 :: (.int .i64 (c : Nat)) :: s18 :: s19 :: s20 :: s21 :: s22 :: s23 :: s24 :: s25 :: s26 :: s27 :: s28 :: s29 :: s30 :: s31 :: s32 :: s33 :: s34 :: s35 :: s36 :: s37 :: s38 :: s39 :: s40 :: s41 :: s42 :: s43 :: s44 :: s45 :: s46 :: s47 :: s48 :: s49 :: s50 :: s51 :: s52 :: s53 :: s54 :: s55 :: s56 :: s57 :: s58 :: s59 :: s60 :: s61 :: s62 :: s63 :: s64 :: s65 :: s66 :: s67 :: s68 :: s69 :: s70 :: s71 :: s72 :: s73 :: s74 :: s75 :: s76 :: s77 :: s78 :: s79 :: s80 :: s81 :: s82 :: s83 :: s84 :: s85 :: s86 :: s87 :: s88 :: s89 :: s90 :: s91 :: s92 :: s93 :: s94 :: s95 :: s96 :: (.agg (arr 12 .i64 pD)) :: (.int .i64 0) :: s99 :: s100 :: s101 :: s102 :: s103 :: s104 :: s105 :: s106 :: s107 :: s108 :: s109 :: s110 :: s111 :: s112 :: s113 :: s114 :: s115 :: s116 :: s117 :: s118 :: s119 :: s120 :: s121 :: s122 :: s123 :: s124 :: s125 :: s126 :: s127 :: s128 :: s129 :: s130 :: s131 :: s132 :: s133 :: s134 :: s135 :: s136 :: s137 :: s138 :: s139 :: s140 :: s141 :: s142 :: s143 :: s144 :: s145 :: s146 :: s147 :: s148 :: s149 :: s150 :: s151 :: s152 :: s153 :: []), []⟩ w9 := by
  conv => arg 2; arg 1; whnf
  obtain ⟨gs, off, cur, tp, frp, hgs, os, hcs⟩ := hs1.out.at (by omega : 0 < n)
  have ls0 := obj_lt os
  have iP : ∀ K, K < 3 → cur[off + c * 3 + K]? = some (.int .u8 (fp (c * 3 + K))) := fun K hK => by rw [Nat.add_assoc]; exact hcs _ (by omega)
  clear hcs hs1
  subst hgs
  replace iP := hide iP
  go_loopw [98] (fun i wq => ∃ d : Nat, d ≤ 4 ∧ i = .int .i64 d ∧ Hid (obj wq gV = some (.cells (arr 432 .i64 (spS (fun d' _ => decide (d' < d)) a b k F e)) 55)) ∧ Hid (obj wq gB = some (.cells (pic 144 a b G) 31)) ∧ New wB wq ∧ w9.grownBy wq (some gV)) (fun i _ => 4 - (intOf i).toNat)
  case atStart => exact ⟨0, by omega, rfl, by show _ = _; rw [oa9]; congr 2; exact arr_congr fun j _ => (spS_0 (fun d' k' => by simp) j).symm, og9, hN9, grown_refl _ _⟩
  case round =>
    obtain ⟨d, hd, rfl, hoa, hog, hN, hg⟩ := hrel
    by_cases hld : d < 4
    · have oa := hoa.out
      have la := obj_lt oa
      have og := hog.out
      have lg := obj_lt og
      have om := (hN.objs _ lt1).trans c1.out
      have lm := obj_lt om
      have hdb := dD_b d
      have hX : -1 ≤ (k : Int) % 12 + dxD d ∧ (k : Int) % 12 + dxD d ≤ 12 := by omega
      have hY : 0 ≤ (k : Int) / 12 + dyD d ∧ (k : Int) / 12 + dyD d ≤ 12 := by omega
      have p0 : pD (d * 3) = dxD d := pD_0 d
      have p1 := pD_1 d
      have p2 := hide (pD_2 d)
      have hti := tgD_i k d hld
      have hin : Hid (isCellB ((k : Int) % 12 + dxD d) ((k : Int) / 12 + dyD d) a b = inD a b k d) := rfl
      obtain ⟨gO, hgO⟩ : ∃ gO, Hid (wr.heap.size = gO) := ⟨_, rfl⟩
      rw [hgO.out] at la lg lm
      clear hoa hog
      go_wp2_with (fail)
      go_quiet (fail)
      rw [hgO.out]
      obtain ⟨X, hXX⟩ : ∃ X, Hid ((k : Int) % 12 + dxD d = X) := ⟨_, rfl⟩
      obtain ⟨Y, hYY⟩ : ∃ Y, Hid ((k : Int) / 12 + dyD d = Y) := ⟨_, rfl⟩
      have hin := hin.out
      rw [hXX.out, hYY.out] at hti hin
      rw [hXX.out] at hX
      rw [hYY.out] at hY
      try rw [hXX.out]
      try rw [hYY.out]
      generalize hw2 : (wr.alloc (Obj.cells (arr 3 .i64 fun j => pD (d * 3 + j)) 54)).drewN nq = w2
      have oa2 : obj w2 gV = some (.cells (arr 432 .i64 (spS (fun d' _ => decide (d' < d)) a b k F e)) 55) := by rw [← hw2]; exact (obj_alloc_past _ _ _ (by rw [hgO.out]; exact la)).trans oa
      have og2 : obj w2 gB = some (.cells (pic 144 a b G) 31) := by rw [← hw2]; exact (obj_alloc_past _ _ _ (by rw [hgO.out]; exact lg)).trans og
      have om2 : obj w2 gI = some (.cells (pic 432 a b fm) 37) := by rw [← hw2]; exact (obj_alloc_past _ _ _ (by rw [hgO.out]; exact lm)).trans om
      have oO : obj w2 gO = some (.cells (arr 3 .i64 fun j => pD (d * 3 + j)) 54) := by rw [← hw2, ← hgO.out]; exact obj_alloc_at _ _ _ rfl
      have hN2 : New wB w2 := by rw [← hw2]; exact (hN.alloc _).drewN _
      have hg2 : w9.grownBy w2 (some gV) := by rw [← hw2]; exact grown_new2 hg (((New.refl _).alloc _).drewN _)
      clear hw2 hgO oa og om hN hg
      have la2 := obj_lt oa2
      have lg2 := obj_lt og2
      have lm2 := obj_lt om2
      cases hid : inD a b k d
      · have ho := hide (spI_skip (F := F) (e := e) hid)
        replace hin := hin.trans hid
        clear hid
        go_wp2_with (go_at_call 31; refine (isCell_any _ _ _ _ (by omega) (by omega) _).mono ?_; rintro e1 wz ⟨rfl, rfl⟩; rw [hin])
        go_roundw
        case rel => exact ⟨d + 1, by omega, by go_num, by show _ = _; rw [← ho.out]; exact oa2, og2, hN2, hg2⟩
        case measure => simp [intOf]; omega
      · replace hin := hin.trans hid
        have hcell : (0 ≤ X ∧ X < a) ∧ (0 ≤ Y ∧ Y < b) := by
          have h := hin
          unfold isCellB at h
          rw [Bool.and_eq_true] at h
          have h1 := inB_t.1 h.1
          have h2 := inB_t.1 h.2
          omega
        have hx1 : (arr 432 .i64 (spS (fun d' _ => decide (d' < d)) a b k F e)).extract (k * 3) (k * 3 + 3) = arr 3 .i64 fun j => F (k * 3 + j) := by
          rw [arrX (by omega) rfl]
          exact arr_congr fun j hj => spS_far (by omega)
        have hk3 : k * 3 + 3 ≤ 432 := by omega
        go_wp2_with (go_at_call 31; refine (isCell_any _ _ _ _ (by omega) (by omega) _).mono ?_; rintro e1 wz ⟨rfl, rfl⟩; rw [hin])
        have hsd := hide (fun q (hq : q < 3) => spI_done (F := F) (e := e) hld hq hid)
        have hat := hide (fun q (hq : q < 3) => spS_at (a := a) (b := b) (F := F) (e := e) (n := k) (P := fun d' k' => decide (d' < d) || (d' == d && decide (k' < q))) hld hq (by simp))
        have hvl : Hid (∀ q, vlD F e k d q = wrap64 (F (tgD k d * 3 + q) + wrap64 (wtD d * e q) / 16)) := fun q => rfl
        have hT : Hid (pD (d * 3 + 2) = wtD d) := p2
        have ht144 : tgD k d < 144 := by omega
        have hT7 := hdb.2.2
        generalize wtD d = T at hvl hT hT7
        generalize vlD F e k d = V at hvl hsd
        generalize tgD k d = t at hti hvl hsd hat ht144
        clear p0 p1 p2 hdb hX hY hin hXX hYY hx1 hid
        go_loopw [122] (fun i wq => ∃ q : Nat, q ≤ 3 ∧ i = .int .i64 q ∧ Hid (obj wq gV = some (.cells (arr 432 .i64 (spS (fun d' k' => decide (d' < d) || (d' == d && decide (k' < q))) a b k F e)) 55)) ∧ Hid (obj wq gB = some (.cells (pic 144 a b G) 31)) ∧ Hid (obj wq gO = some (.cells (arr 3 .i64 fun j => pD (d * 3 + j)) 54)) ∧ New wB wq ∧ w9.grownBy wq (some gV)) (fun i _ => 3 - (intOf i).toNat)
        case atStart => exact ⟨0, by omega, rfl, by show _ = _; rw [oa2, spI_0], og2, oO, hN2, hg2⟩
        case round =>
          obtain ⟨q, hq3, rfl, hoa, hog, hoo, hN, hg⟩ := hrel
          clear la2 lg2 lm2 oa2 og2 om2 oO hN2 hg2 w2
          have oa := hoa.out
          have og := hog.out
          have oO := hoo.out
          have la := obj_lt oa
          have lg := obj_lt og
          have lO := obj_lt oO
          clear hoa hog hoo
          by_cases hlq : q < 3
          · have op := (hN.objs _ ls0).trans os
            have lp := obj_lt op
            have ip := iP.out q hlq
            have hfq := hfp (c * 3 + q)
            have hwf : IntKind.i64.wrap (fp (c * 3 + q)) = fp (c * 3 + q) := wrap_i (by omega)
            have hw12 : IntKind.i64.wrap (12 * Y) = 12 * Y := wrap_i (by omega)
            have hwt : IntKind.i64.wrap (t : Int) = (t : Int) := wrap_i (by omega)
            have ht145 : (t : Int) < 144 := by omega
            have hq145 : (q : Int) < 3 := by omega
            have htk : t * 3 + q < 432 := by omega
            have hp2 := hT.out
            have hatq := hide (hat.out q hlq)
            have hek : Hid (e q = wrap64 (F (k * 3 + q) - fp (c * 3 + q))) := he.out q
            go_wp2_with (fail)
            refine wp_region_still_tail 24 (by kernel_rfl) (by kernel_rfl) ?_
            simp only [List.take_succ_cons, List.take_zero, List.drop_succ_cons, List.drop_zero]
            repeat still_step
            refine wpStill_step (fun K2 hK2 => ?_)
            go_simp
            rw [show IntKind.i64.wrap (T * IntKind.i64.wrap (F (k * 3 + q) - fp (c * 3 + q))) = wrap64 (T * e q) by rw [IntWalk.i64_left, IntWalk.i64_left, ← hek.out]]
            refine ⟨.int .i64 (wrap64 (T * e q) / 16), (floor_any (wrap64 (T * e q)) (w64_b _) wr.drew).mono fun _ _ ⟨h1, h2⟩ => ⟨h1, h2.symm⟩, hK2 _ ?_⟩
            clear hK2 K2
            repeat still_step
            try refine wpStill_nil ?_
            change wpList _ _ _ _ _ wr.drew
            go_wp2_with (fail)
            go_roundw
            case rel =>
              refine ⟨q + 1, by omega, by go_num, ?_, ?_, ?_, (hN.setCell lV _).drew, grown_new2 (setCell_grown hg _ _) (New.refl _).drew⟩
              · show _ = _
                rw [obj_drew, obj_set_arr oa _ (t * 3 + q) _ rfl, hatq.out, ← hvl.out, hsd.out q hlq]
              · show _ = _
                rw [obj_drew, obj_setCell_other _ _ _ _ _ (by omega)]
                exact og
              · show _ = _
                rw [obj_drew, obj_setCell_other _ _ _ _ _ (by omega)]
                exact oO
            case measure => simp [intOf]; omega
          · have hq4 : q = 3 := by omega
            have ho3 : obj wr gV = some (.cells (arr 432 .i64 (spS (fun d' _ => decide (d' < d + 1)) a b k F e)) 55) := by
              rw [oa, hq4, spI_3]
            clear hq4 oa
            go_wp2_with (fail)
            go_roundw
            case rel => exact ⟨d + 1, by omega, by go_num, ho3, og, hN, hg⟩
            case measure => simp [intOf]; omega
    · have hd4 : d = 4 := by omega
      have hfin : obj wr gV = some (.cells (arr 432 .i64 (spS (fun _ _ => true) a b k F e)) 55) := by
        rw [hoa.out]
        congr 2
        exact arr_congr fun j _ => spS_congr (fun d' k' hd' _ _ => decide_eq_true (by omega)) j
      have hog := hog.out
      clear hd4 hoa
      go_wp2_with (fail)
      exact hexit _ _ _ _ _ _ _ _ _ _ _ _ _ _ _ _ _ _ _ _ _ _ _ _ _ _ _ _ _ _ _ _ _ _ _ _ _ _ _ _ _ _ _ _ _ _ _ _ _ _ _ _ _ _ _ _ _ _ _ _ hfin hog hN hg
end Go.Proofs.Ytpofhbdnjecfjaa
