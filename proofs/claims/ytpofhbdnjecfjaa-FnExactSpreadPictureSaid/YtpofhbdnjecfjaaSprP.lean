/- Pictures whose errors are spread: the reference's loop over the parts of a channel; no condition. -/
import Derived.Test.YtpofhbdnjecfjaaSpr
import Derived.Test.YtpofhbdnjecfjaaPicOf
import Derived.Test.YtpofhbdnjecfjaaMovT
import Derived.Test.YtpofhbdnjecfjaaSprR
import Derived.StillTailTactics
set_option linter.unusedVariables false
namespace Go.Proofs.Ytpofhbdnjecfjaa
open Go.BigFrame
open Go.RowKit Go.Arr
def loopsOf : Code → List Code
  | .loop c => [c]
  | .seq a b => loopsOf a ++ loopsOf b
  | .block _ c => loopsOf c
  | .scope c => loopsOf c
  | .cond _ a b => loopsOf a ++ loopsOf b
  | _ => []
noncomputable def loopIn (c : Code) (n : Nat) : Code := ((loopsOf c)[n]?).getD .skip
noncomputable def partsBody : Code := loopIn (loopIn (loopIn (Try.f6.body.getD .skip) 1) 1) 0
set_option maxHeartbeats 8000000 in
set_option maxRecDepth 1000000 in
theorem parts_loop (a b : Int) (fm : Nat → Int) (hab : (1 ≤ a ∧ a ≤ 12) ∧ (1 ≤ b ∧ b ≤ 12)) (k K : Nat) (hlt : k < 144) (hlK : K < 3) (F G : Nat → Int) (e : Nat → Int) (ek : Int) (hek2 : Hid (e K = ek)) (gI gV gB gQ : Nat) (wB w9 : World)
    (lt1 : gI < wB.heap.size) (c1 : Hid (obj wB gI = some (.cells (pic 432 a b fm) 37))) (lV : wB.heap.size ≤ gV) (nB : gB ≠ gV) (nQ : gQ ≠ gV)
    (oa9 : obj w9 gV = some (.cells (arr 432 .i64 (spS (fun _ k' => decide (k' < K)) a b k F e)) 55))
    (og9 : obj w9 gB = some (.cells (pic 144 a b G) 31)) (oQ : obj w9 gQ = some (.cells (arr 12 .i64 (qD k)) 60)) (hN9 : New wB w9)
    (Q0 : Exit → Act → World → Prop) (s0 s1 s3 s4 s5 s6 s8 s9 s10 s11 s12 s13 s14 s15 s16 s17 s22 s23 s24 s25 s26 s27 s28 s29 s30 s31 s32 s33 s34 s35 s36 s37 s38 s39 s40 s41 s42 s43 s44 s45 s46 s47 s48 s49 s50 s51 s52 s53 s54 s55 s56 s57 s58 s59 s60 s61 s62 s63 s64 s65 s66 s67 s68 s69 s70 s71 s72 s73 s74 s75 s76 s77 s78 s79 s80 s81 s82 s83 s84 s85 s86 s87 s88 s89 s90 s91 s92 s93 s94 s95 s96 s97 s98 s99 s100 s101 s102 s103 s104 s105 s106 s107 s108 s109 s110 s111 s112 s113 s114 s115 s116 s117 s118 s119 s120 s121 s122 s123 s124 s125 s126 s127 s128 s129 s130 s131 s132 s133 s134 s135 s136 s137 s138 s139 s140 s141 s142 s143 s144 s145 s146 s147 s148 s149 s150 s151 s152 s153 s154 s155 s156 s157 s158 s159 s160 s161 s162 s163 s164 s165 s166 s167 s168 s169 s170 s171 s172 s173 s174 s175 s176 : Value)
    (hexit : ∀ (u21 u22 u128 u129 u130 u131 u132 u133 u134 u135 u136 u137 u138 u139 u140 u141 u142 u143 u144 u145 u146 u147 u148 u149 u150 u151 u152 u153 u154 u155 u156 u157 u158 u159 u160 u161 u162 u163 u164 u165 u166 u167 u168 u169 u170 u171 u172 u173 u174 u175 : Value) (w' : World), obj w' gV = some (.cells (arr 432 .i64 (spS (fun _ k' => decide (k' < K + 1)) a b k F e)) 55) → obj w' gB = some (.cells (pic 144 a b G) 31) → New wB w' →
      Q0 (.exit 10) ⟨List.toArray (s0 :: s1 :: (.pointer (some ⟨gI, 0, none⟩)) :: s3 :: s4 :: s5 :: s6 :: (.pointer (some ⟨gV, 0, none⟩)) :: s8 :: s9 :: s10 :: s11 :: s12 :: s13 :: s14 :: s15 :: s16 :: s17 :: (.int .i64 (K : Nat)) :: (.int .i64 ek) :: (.pointer (some ⟨gQ, 0, none⟩)) :: u21 :: u22 :: s23 :: s24 :: s25 :: s26 :: s27 :: s28 :: s29 :: s30 :: s31 :: s32 :: s33 :: s34 :: s35 :: s36 :: s37 :: s38 :: s39 :: s40 :: s41 :: s42 :: s43 :: s44 :: s45 :: s46 :: s47 :: s48 :: s49 :: s50 :: s51 :: s52 :: s53 :: s54 :: s55 :: s56 :: s57 :: s58 :: s59 :: s60 :: s61 :: s62 :: s63 :: s64 :: s65 :: s66 :: s67 :: s68 :: s69 :: s70 :: s71 :: s72 :: s73 :: s74 :: s75 :: s76 :: s77 :: s78 :: s79 :: s80 :: s81 :: s82 :: s83 :: s84 :: s85 :: s86 :: s87 :: s88 :: s89 :: s90 :: s91 :: s92 :: s93 :: s94 :: s95 :: s96 :: s97 :: s98 :: s99 :: s100 :: s101 :: s102 :: s103 :: s104 :: s105 :: s106 :: s107 :: s108 :: s109 :: s110 :: s111 :: s112 :: s113 :: s114 :: s115 :: s116 :: s117 :: s118 :: s119 :: s120 :: s121 :: s122 :: s123 :: s124 :: s125 :: s126 :: s127 :: u128 :: u129 :: u130 :: u131 :: u132 :: u133 :: u134 :: u135 :: u136 :: u137 :: u138 :: u139 :: u140 :: u141 :: u142 :: u143 :: u144 :: u145 :: u146 :: u147 :: u148 :: u149 :: u150 :: u151 :: u152 :: u153 :: u154 :: u155 :: u156 :: u157 :: u158 :: u159 :: u160 :: u161 :: u162 :: u163 :: u164 :: u165 :: u166 :: u167 :: u168 :: u169 :: u170 :: u171 :: u172 :: u173 :: u174 :: u175 :: s176 :: []), []⟩ w') :
    Code.wp Try.prog (Code.loop partsBody) Q0 ⟨List.toArray (s0 :: s1 :: (.pointer (some ⟨gI, 0, none⟩)) :: s3 :: s4 :: s5 :: s6 :: (.pointer (some ⟨gV, 0, none⟩)) :: s8 :: s9 :: s10 :: s11 :: s12 :: s13 :: s14 :: s15 :: s16 :: s17 :: (.int .i64 (K : Nat)) :: (.int .i64 ek) :: (.pointer (some ⟨gQ, 0, none⟩)) :: (.int .i64 0) :: s22 :: s23 :: s24 :: s25 :: s26 :: s27 :: s28 :: s29 :: s30 :: s31 :: s32 :: s33 :: s34 :: s35 :: s36 :: s37 :: s38 :: s39 :: s40 :: s41 :: s42 :: s43 :: s44 :: s45 :: s46 :: s47 :: s48 :: s49 :: s50 :: s51 :: s52 :: s53 :: s54 :: s55 :: s56 :: s57 :: s58 :: s59 :: s60 :: s61 :: s62 :: s63 :: s64 :: s65 :: s66 :: s67 :: s68 :: s69 :: s70 :: s71 :: s72 :: s73 :: s74 :: s75 :: s76 :: s77 :: s78 :: s79 :: s80 :: s81 :: s82 :: s83 :: s84 :: s85 :: s86 :: s87 :: s88 :: s89 :: s90 :: s91 :: s92 :: s93 :: s94 :: s95 :: s96 :: s97 :: s98 :: s99 :: s100 :: s101 :: s102 :: s103 :: s104 :: s105 :: s106 :: s107 :: s108 :: s109 :: s110 :: s111 :: s112 :: s113 :: s114 :: s115 :: s116 :: s117 :: s118 :: s119 :: s120 :: s121 :: s122 :: s123 :: s124 :: s125 :: s126 :: s127 :: s128 :: s129 :: s130 :: s131 :: s132 :: s133 :: s134 :: s135 :: s136 :: s137 :: s138 :: s139 :: s140 :: s141 :: s142 :: s143 :: s144 :: s145 :: s146 :: s147 :: s148 :: s149 :: s150 :: s151 :: s152 :: s153 :: s154 :: s155 :: s156 :: s157 :: s158 :: s159 :: s160 :: s161 :: s162 :: s163 :: s164 :: s165 :: s166 :: s167 :: s168 :: s169 :: s170 :: s171 :: s172 :: s173 :: s174 :: s175 :: s176 :: []), []⟩ w9 := by
  conv => arg 2; arg 1; whnf
  go_loopw [21] (fun i wq => ∃ d : Nat, d ≤ 4 ∧ i = .int .i64 d ∧ Hid (obj wq gV = some (.cells (arr 432 .i64 (spS (fun d' k' => decide (k' < K) || (k' == K && decide (d' < d))) a b k F e)) 55)) ∧ Hid (obj wq gB = some (.cells (pic 144 a b G) 31)) ∧ Hid (obj wq gQ = some (.cells (arr 12 .i64 (qD k)) 60)) ∧ New wB wq) (fun i _ => 4 - (intOf i).toNat)
  case atStart => exact ⟨0, by omega, rfl, by show _ = _; rw [oa9]; congr 2; exact arr_congr fun j _ => spS_congr (fun d' k' _ _ _ => by simp) j, og9, oQ, hN9⟩
  case round =>
    obtain ⟨d, hd, rfl, hoa, hog, hoq, hN⟩ := hrel
    by_cases hld : d < 4
    · have oa := hoa.out
      have la := obj_lt oa
      have lg := obj_lt hog.out
      have oq := hoq.out
      have lq := obj_lt oq
      have om := (hN.objs _ lt1).trans c1.out
      have lm := obj_lt om
      have hdb := dD_b d
      have q0 := qD_0 k d
      have q1 := qD_1 k d
      have q2 := qD_2 k d
      have hti := tgD_i k d hld
      have hin : Hid (inD a b k d = (inB ((k : Int) % 12 + dxD d) 0 (a - 1) && inB ((k : Int) / 12 + dyD d) 0 (b - 1))) := rfl
      have hvl : Hid (vlD F e k d K = wrap64 (F (tgD k d * 3 + K) + wrap64 (wtD d * ek) / 16)) := by show _ = _; rw [vlD_e, hek2.out]
      have hX : -1 ≤ (k : Int) % 12 + dxD d ∧ (k : Int) % 12 + dxD d ≤ 12 := by omega
      have hY : 0 ≤ (k : Int) / 12 + dyD d ∧ (k : Int) / 12 + dyD d ≤ 12 := by omega
      obtain ⟨X, hXX⟩ : ∃ X, Hid ((k : Int) % 12 + dxD d = X) := ⟨_, rfl⟩
      obtain ⟨Y, hYY⟩ : ∃ Y, Hid ((k : Int) / 12 + dyD d = Y) := ⟨_, rfl⟩
      obtain ⟨T, hTT⟩ : ∃ T, Hid (wtD d = T) := ⟨_, rfl⟩
      have hin := hin.out
      rw [hXX.out] at q0 hti hin hX
      rw [hYY.out] at q1 hti hin hY
      rw [hTT.out] at q2 hdb
      have hdb := hdb.2.2
      have hin := hide hin
      have hvl := hide (by have := hvl.out; rw [hTT.out] at this; exact this)
      have hd12 : d * 3 + 2 < 12 := by omega
      have hwa : IntKind.i64.wrap a = a := wrap_i (by omega)
      have hwb : IntKind.i64.wrap b = b := wrap_i (by omega)
      clear hoa hoq
      cases h1 : inB X 0 (a - 1)
      · have ho := hide (spS_skip (F := F) (e := e) (K := K) (show inD a b k d = false by rw [hin.out, h1]; rfl))
        clear hin hvl hti
        go_wp2_with (fail)
        go_wp2_with (fail)
        refine wp_region_new (by kernel_rfl) (by kernel_rfl) ?_
        repeat (go_big_quiet_step (first | fail | (go_at_call 23; with_reducible exact calls_new (l00In_n h1 _))))
        refine wpQuiet_nil ?_
        intro w1 hc1
        have hn1 := NewW.of hc1
        clear hc1
        have ho1 := hn1.objs
        have hz1 := hn1.le
        try simp at hz1
        have k1_0 : gI < w1.heap.size := by omega
        have k1_1 : gV < w1.heap.size := by omega
        have k1_2 : gB < w1.heap.size := by omega
        have k1_3 : gQ < w1.heap.size := by omega
        go_wp2_with (fail)
        go_roundw
        case rel => exact ⟨d + 1, by omega, by go_num, by show _ = _; rw [← ho.out]; exact (ho1 _ la).trans oa, by show _ = _; exact (ho1 _ lg).trans hog.out, by show _ = _; exact (ho1 _ lq).trans oq, hN.trans hn1⟩
        case measure => simp [intOf]; omega
      · by_cases h2 : Y < b
        · have hind : inD a b k d = true := by rw [hin.out, h1, show inB Y 0 (b - 1) = true from inB_t.2 ⟨by omega, by omega⟩]; rfl
          have hsd := hide (spS_done (F := F) (e := e) hld hlK hind)
          have hX2 := inB_t.1 h1
          have ht144 : tgD k d < 144 := by omega
          have hat := spS_at (a := a) (b := b) (F := F) (e := e) (n := k) (P := fun d' k' => decide (k' < K) || (k' == K && decide (d' < d))) hld hlK (by simp)
          generalize vlD F e k d K = V at hvl hsd
          generalize tgD k d = t at hti hvl hsd hat ht144
          have htk : t * 3 + K < 432 := by omega
          clear hin
          go_wp2_with (fail)
          go_wp2_with (fail)
          refine wp_region_new (by kernel_rfl) (by kernel_rfl) ?_
          repeat (go_big_quiet_step (first | fail | (go_at_call 23; with_reducible exact calls_new (l00In_n h1 _))))
          refine wpQuiet_nil ?_
          intro w2 hc2
          have hn2 := NewW.of hc2
          clear hc2
          have ho2 := hn2.objs
          have hz2 := hn2.le
          try simp at hz2
          have k2_0 : gI < w2.heap.size := by omega
          have k2_1 : gV < w2.heap.size := by omega
          have k2_2 : gB < w2.heap.size := by omega
          have k2_3 : gQ < w2.heap.size := by omega
          go_wp2_with (fail)
          go_quiet (fail)
          have oa3 : obj (w2.drewN nq) gV = _ := (ho2 _ la).trans oa
          have og3 : obj (w2.drewN nq) gB = _ := (ho2 _ lg).trans hog.out
          have oq3 : obj (w2.drewN nq) gQ = _ := (ho2 _ lq).trans oq
          have hN3 : New wB (w2.drewN nq) := (hN.trans hn2).drewN nq
          clear oa hog oq om la lg lq lm ho2 hn2 hz2 hN
          generalize w2.drewN nq = w3 at oa3 og3 oq3 hN3 ⊢
          have la3 := obj_lt oa3
          have lq3 := obj_lt oq3
          have lg3 := obj_lt og3
          have iV : (arr 432 .i64 (spS (fun d' k' => decide (k' < K) || (k' == K && decide (d' < d))) a b k F e))[t * 3 + K]? = some (.int .i64 (F (t * 3 + K))) := by rw [get_arr, if_pos htk, hat]
          replace hat := hide hat
          have ht145 : (t : Int) < 144 := by omega
          have hd145 : (d : Int) < 4 := by omega
          have hK145 : (K : Int) < 3 := by omega
          go_wp2_with (fail)
          refine wp_region_still_tail 15 (by kernel_rfl) (by kernel_rfl) ?_
          simp only [List.take_succ_cons, List.take_zero, List.drop_succ_cons, List.drop_zero]
          repeat still_step
          refine wpStill_step (fun K2 hK2 => ?_)
          go_simp
          rw [show IntKind.i64.wrap (T * ek) = wrap64 (T * ek) from IntWalk.i64_left _]
          refine ⟨.int .i64 (wrap64 (T * ek) / 16), (down_any (wrap64 (T * ek)) (w64_b _) w3.drew).mono fun _ _ ⟨h1, h2⟩ => ⟨h1, h2.symm⟩, hK2 _ ?_⟩
          clear hK2 K2
          repeat still_step
          try refine wpStill_nil ?_
          change wpList _ _ _ _ _ w3.drew
          all_goals
            go_wp2_with (fail)
            go_roundw
            case rel =>
              refine ⟨d + 1, by omega, by go_num, ?_, ?_, ?_, (hN3.setCell lV _).drew⟩
              · show _ = _
                rw [obj_drew, obj_set_arr oa3 _ (t * 3 + K) _ rfl, hat.out, ← hvl.out, hsd.out]
              · show _ = _
                rw [obj_drew, obj_setCell_other _ _ _ _ _ (by omega)]
                exact og3
              · show _ = _
                rw [obj_drew, obj_setCell_other _ _ _ _ _ (by omega)]
                exact oq3
            case measure => simp [intOf]; omega
        · have ho := hide (spS_skip (F := F) (e := e) (K := K) (show inD a b k d = false by rw [hin.out, show inB Y 0 (b - 1) = false from inB_f.2 (Or.inr (by omega)), Bool.and_false]))
          clear hin hvl hti
          go_wp2_with (fail)
          go_wp2_with (fail)
          refine wp_region_new (by kernel_rfl) (by kernel_rfl) ?_
          repeat (go_big_quiet_step (first | fail | (go_at_call 23; with_reducible exact calls_new (l00In_n h1 _))))
          refine wpQuiet_nil ?_
          intro w3 hc3
          have hn3 := NewW.of hc3
          clear hc3
          have ho3 := hn3.objs
          have hz3 := hn3.le
          try simp at hz3
          have k3_0 : gI < w3.heap.size := by omega
          have k3_1 : gV < w3.heap.size := by omega
          have k3_2 : gB < w3.heap.size := by omega
          have k3_3 : gQ < w3.heap.size := by omega
          go_wp2_with (fail)
          go_roundw
          case rel => exact ⟨d + 1, by omega, by go_num, by show _ = _; rw [← ho.out]; exact (ho3 _ la).trans oa, by show _ = _; exact (ho3 _ lg).trans hog.out, by show _ = _; exact (ho3 _ lq).trans oq, hN.trans hn3⟩
          case measure => simp [intOf]; omega
    · have hd4 : d = 4 := by omega
      have hfin : obj wr gV = some (.cells (arr 432 .i64 (spS (fun _ k' => decide (k' < K + 1)) a b k F e)) 55) := by
        rw [hoa.out]
        congr 2
        refine arr_congr fun j _ => spS_congr (fun d' k' hd' _ _ => ?_) j
        subst hd4
        rw [decide_eq_true hd', Bool.and_true, show (k' == K) = decide (k' = K) from rfl, ← Bool.decide_or, decide_eq_decide]
        omega
      have hog := hog.out
      clear hd4 hoa hoq
      go_wp2_with (fail)
      exact hexit _ _ _ _ _ _ _ _ _ _ _ _ _ _ _ _ _ _ _ _ _ _ _ _ _ _ _ _ _ _ _ _ _ _ _ _ _ _ _ _ _ _ _ _ _ _ _ _ _ _ _ hfin hog hN
end Go.Proofs.Ytpofhbdnjecfjaa
