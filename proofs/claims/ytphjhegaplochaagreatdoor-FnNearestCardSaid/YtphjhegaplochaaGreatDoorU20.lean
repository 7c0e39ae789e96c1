/- Pictures whose errors are spread: the reference's loop over the parts of a channel; no condition. -/
import Derived.Test.YtphjhegaplochaaGreatDoorU13
import Derived.Test.YtphjhegaplochaaGreatDoorU7
import Derived.Test.YtphjhegaplochaaGreatDoorU16
import Derived.Test.YtphjhegaplochaaGreatDoorU19
import Derived.Test.YtphjhegaplochaaGreatDoorU1
import Derived.StillTailTactics
import Derived.Test.YtphjhegaplochaaGreatDoorU6
set_option linter.unusedVariables false
namespace Go.Proofs.YtphjhegaplochaaGreatDoor
open Go.BigFrame
open Go.RowKit Go.Arr
noncomputable def partsBody : Code := loopIn (loopIn (loopIn (Tryz.f14.body.getD .skip) 1) 1) 0
set_option maxHeartbeats 8000000 in
set_option maxRecDepth 1000000 in
theorem parts_loop (a b : Int) (fm : Nat → Int) (hab : (1 ≤ a ∧ a ≤ 12) ∧ (1 ≤ b ∧ b ≤ 12)) (k K : Nat) (hlt : k < 144) (hlK : K < 3) (F G : Nat → Int) (e : Nat → Int) (ek : Int) (hek2 : Hid (e K = ek)) (gI gV gB gQ : Nat) (wB w9 : World)
    (lt1 : gI < wB.heap.size) (c1 : Hid (obj wB gI = some (.cells (pic 432 a b fm) 29))) (lV : wB.heap.size ≤ gV) (nB : gB ≠ gV) (nQ : gQ ≠ gV)
    (oa9 : obj w9 gV = some (.cells (arr 432 .i64 (spS (fun _ k' => decide (k' < K)) a b k F e)) 84))
    (og9 : obj w9 gB = some (.cells (pic 144 a b G) 39)) (oQ : obj w9 gQ = some (.cells (arr 12 .i64 (qD k)) 85)) (hN9 : New wB w9)
    (Q0 : Exit → Act → World → Prop) (s0 s1 s3 s4 s5 s6 s8 s9 s10 s11 s12 s13 s14 s15 s16 s17 s22 s23 s24 s25 s26 s27 s28 s29 s30 s31 s32 s33 s34 s35 s36 s37 s38 s39 s40 s41 s42 s43 s44 s45 s46 s47 s48 s49 s50 s51 s52 s53 s54 s55 s56 s57 s58 s59 s60 s61 s62 s63 s64 s65 s66 s67 s68 s69 s70 s71 s72 s73 s74 s75 s76 s77 s78 s79 s80 s81 s82 s83 s84 s85 s86 s87 s88 s89 s90 s91 s92 s93 s94 s95 s96 s97 s98 s99 s100 s101 s102 s103 s104 s105 s106 s107 s108 s109 s110 s111 s112 s113 s114 s115 s116 s117 s118 s119 s120 s121 s122 s123 s124 s125 s126 s127 s128 s129 s130 s131 s132 s133 s134 s135 s136 s137 s138 s139 s140 s141 s142 s143 s144 s145 s146 s147 s148 s149 s150 s151 s152 s153 s154 s155 s156 s157 s158 s159 s160 s161 s162 s163 s164 s165 s166 s167 s168 s169 s170 s171 s172 s173 s174 s175 s176 : Value)
    (hexit : ∀ (u21 u22 u128 u129 u130 u131 u132 u133 u134 u135 u136 u137 u138 u139 u140 u141 u142 u143 u144 u145 u146 u147 u148 u149 u150 u151 u152 u153 u154 u155 u156 u157 u158 u159 u160 u161 u162 u163 u164 u165 u166 u167 u168 u169 u170 u171 u172 u173 u174 u175 : Value) (w' : World), obj w' gV = some (.cells (arr 432 .i64 (spS (fun _ k' => decide (k' < K + 1)) a b k F e)) 84) → obj w' gB = some (.cells (pic 144 a b G) 39) → New wB w' →
      Q0 (.exit 10) ⟨List.toArray (s0 :: s1 :: (.pointer (some ⟨gI, 0, none⟩)) :: s3 :: s4 :: s5 :: s6 :: (.pointer (some ⟨gV, 0, none⟩)) :: s8 :: s9 :: s10 :: s11 :: s12 :: s13 :: s14 :: s15 :: s16 :: s17 :: (.int .i64 (K : Nat)) :: (.int .i64 ek) :: (.pointer (some ⟨gQ, 0, none⟩)) :: u21 :: u22 :: s23 :: s24 :: s25 :: s26 :: s27 :: s28 :: s29 :: s30 :: s31 :: s32 :: s33 :: s34 :: s35 :: s36 :: s37 :: s38 :: s39 :: s40 :: s41 :: s42 :: s43 :: s44 :: s45 :: s46 :: s47 :: s48 :: s49 :: s50 :: s51 :: s52 :: s53 :: s54 :: s55 :: s56 :: s57 :: s58 :: s59 :: s60 :: s61 :: s62 :: s63 :: s64 :: s65 :: s66 :: s67 :: s68 :: s69 :: s70 :: s71 :: s72 :: s73 :: s74 :: s75 :: s76 :: s77 :: s78 :: s79 :: s80 :: s81 :: s82 :: s83 :: s84 :: s85 :: s86 :: s87 :: s88 :: s89 :: s90 :: s91 :: s92 :: s93 :: s94 :: s95 :: s96 :: s97 :: s98 :: s99 :: s100 :: s101 :: s102 :: s103 :: s104 :: s105 :: s106 :: s107 :: s108 :: s109 :: s110 :: s111 :: s112 :: s113 :: s114 :: s115 :: s116 :: s117 :: s118 :: s119 :: s120 :: s121 :: s122 :: s123 :: s124 :: s125 :: s126 :: s127 :: u128 :: u129 :: u130 :: u131 :: u132 :: u133 :: u134 :: u135 :: u136 :: u137 :: u138 :: u139 :: u140 :: u141 :: u142 :: u143 :: u144 :: u145 :: u146 :: u147 :: u148 :: u149 :: u150 :: u151 :: u152 :: u153 :: u154 :: u155 :: u156 :: u157 :: u158 :: u159 :: u160 :: u161 :: u162 :: u163 :: u164 :: u165 :: u166 :: u167 :: u168 :: u169 :: u170 :: u171 :: u172 :: u173 :: u174 :: u175 :: s176 :: []), []⟩ w') :
    Code.wp Tryz.prog (Code.loop partsBody) Q0 ⟨List.toArray (s0 :: s1 :: (.pointer (some ⟨gI, 0, none⟩)) :: s3 :: s4 :: s5 :: s6 :: (.pointer (some ⟨gV, 0, none⟩)) :: s8 :: s9 :: s10 :: s11 :: s12 :: s13 :: s14 :: s15 :: s16 :: s17 :: (.int .i64 (K : Nat)) :: (.int .i64 ek) :: (.pointer (some ⟨gQ, 0, none⟩)) :: (.int .i64 0) :: s22 :: s23 :: s24 :: s25 :: s26 :: s27 :: s28 :: s29 :: s30 :: s31 :: s32 :: s33 :: s34 :: s35 :: s36 :: s37 :: s38 :: s39 :: s40 :: s41 :: s42 :: s43 :: s44 :: s45 :: s46 :: s47 :: s48 :: s49 :: s50 :: s51 :: s52 :: s53 :: s54 :: s55 :: s56 :: s57 :: s58 :: s59 :: s60 :: s61 :: s62 :: s63 :: s64 :: s65 :: s66 :: s67 :: s68 :: s69 :: s70 :: s71 :: s72 :: s73 :: s74 :: s75 :: s76 :: s77 :: s78 :: s79 :: s80 :: s81 :: s82 :: s83 :: s84 :: s85 :: s86 :: s87 :: s88 :: s89 :: s90 :: s91 :: s92 :: s93 :: s94 :: s95 :: s96 :: s97 :: s98 :: s99 :: s100 :: s101 :: s102 :: s103 :: s104 :: s105 :: s106 :: s107 :: s108 :: s109 :: s110 :: s111 :: s112 :: s113 :: s114 :: s115 :: s116 :: s117 :: s118 :: s119 :: s120 :: s121 :: s122 :: s123 :: s124 :: s125 :: s126 :: s127 :: s128 :: s129 :: s130 :: s131 :: s132 :: s133 :: s134 :: s135 :: s136 :: s137 :: s138 :: s139 :: s140 :: s141 :: s142 :: s143 :: s144 :: s145 :: s146 :: s147 :: s148 :: s149 :: s150 :: s151 :: s152 :: s153 :: s154 :: s155 :: s156 :: s157 :: s158 :: s159 :: s160 :: s161 :: s162 :: s163 :: s164 :: s165 :: s166 :: s167 :: s168 :: s169 :: s170 :: s171 :: s172 :: s173 :: s174 :: s175 :: s176 :: []), []⟩ w9 := by
  conv => arg 2; arg 1; whnf
  go_loopw [21] (fun i wq => ∃ d : Nat, d ≤ 4 ∧ i = .int .i64 d ∧ Hid (obj wq gV = some (.cells (arr 432 .i64 (spS (fun d' k' => decide (k' < K) || (k' == K && decide (d' < d))) a b k F e)) 84)) ∧ Hid (obj wq gB = some (.cells (pic 144 a b G) 39)) ∧ Hid (obj wq gQ = some (.cells (arr 12 .i64 (qD k)) 85)) ∧ New wB wq) (fun i _ => 4 - (intOf i).toNat)
  case atStart => exact ⟨0, by omega, rfl, by show _ = _; rw [oa9]; congr 2; exact arr_congr fun j _ => spS_congr (fun d' k' _ _ _ => by simp) j, og9, oQ, hN9⟩
  case round =>
    obtain ⟨d, hd, rfl, hoa, hog, hoq, hN⟩ := hrel
    by_cases hld : d < 4
    · have oa := hoa.out
      have la := obj_lt oa
      have lg := obj_lt hog.out
      have oq := hoq.out
      have lq := obj_lt oq
      have om := (hN.objs _ lt1).trans c1.out
      have lm := obj_lt om
      have hdb := dD_b d
      have q0 := qD_0 k d
      have q1 := qD_1 k d
      have q2 := qD_2 k d
      have hti := tgD_i k d hld
      have hin : Hid (inD a b k d = (inB ((k : Int) % 12 + dxD d) 0 (a - 1) && inB ((k : Int) / 12 + dyD d) 0 (b - 1))) := rfl
      have hvl : Hid (vlD F e k d K = wrap64 (F (tgD k d * 3 + K) + wrap64 (wtD d * ek) / 16)) := by show _ = _; rw [vlD_e, hek2.out]
      have hX : -1 ≤ (k : Int) % 12 + dxD d ∧ (k : Int) % 12 + dxD d ≤ 12 := by omega
      have hY : 0 ≤ (k : Int) / 12 + dyD d ∧ (k : Int) / 12 + dyD d ≤ 12 := by omega
      obtain ⟨X, hXX⟩ : ∃ X, Hid ((k : Int) % 12 + dxD d = X) := ⟨_, rfl⟩
      obtain ⟨Y, hYY⟩ : ∃ Y, Hid ((k : Int) / 12 + dyD d = Y) := ⟨_, rfl⟩
      obtain ⟨T, hTT⟩ : ∃ T, Hid (wtD d = T) := ⟨_, rfl⟩
      have hin := hin.out
      rw [hXX.out] at q0 hti hin hX
      rw [hYY.out] at q1 hti hin hY
      rw [hTT.out] at q2 hdb
      have hdb := hdb.2.2
      have hin := hide hin
      have hvl := hide (by have := hvl.out; rw [hTT.out] at this; exact this)
      have hd12 : d * 3 + 2 < 12 := by omega
      have hwa : IntKind.i64.wrap a = a := wrap_i (by omega)
      have hwb : IntKind.i64.wrap b = b := wrap_i (by omega)
      clear hoa hoq
      cases h1 : inB X 0 (a - 1)
      · have ho := hide (spS_skip (F := F) (e := e) (K := K) (show inD a b k d = false by rw [hin.out, h1]; rfl))
        clear hin hvl hti
        go_wp2_with (fail)
        go_wp2_with (fail)
        refine wp_region_new (by kernel_rfl) (by kernel_rfl) ?_
        repeat (go_big_quiet_step (first | fail | (go_at_call 56; with_reducible exact calls_new (l00In_n h1 _))))
        refine wpQuiet_nil ?_
        intro w1 hc1
        have hn1 := NewW.of hc1
        clear hc1
        have ho1 := hn1.objs
        have hz1 := hn1.le
        try simp at hz1
        have k1_0 : gI < w1.heap.size := by omega
        have k1_1 : gV < w1.heap.size := by omega
        have k1_2 : gB < w1.heap.size := by omega
        have k1_3 : gQ < w1.heap.size := by omega
        go_wp2_with (fail)
        go_roundw
        case rel => exact ⟨d + 1, by omega, by go_num, by show _ = _; rw [← ho.out]; exact (ho1 _ la).trans oa, by show _ = _; exact (ho1 _ lg).trans hog.out, by show _ = _; exact (ho1 _ lq).trans oq, hN.trans hn1⟩
        case measure => simp [intOf]; omega
      · by_cases h2 : Y < b
        · have hind : inD a b k d = true := by rw [hin.out, h1, show inB Y 0 (b - 1) = true from inB_t.2 ⟨by omega, by omega⟩]; rfl
          have hsd := hide (spS_done (F := F) (e := e) hld hlK hind)
          have hX2 := inB_t.1 h1
          have ht144 : tgD k d < 144 := by omega
          have hat := spS_at (a := a) (b := b) (F := F) (e := e) (n := k) (P := fun d' k' => decide (k' < K) || (k' == K && decide (d' < d))) hld hlK (by simp)
          generalize vlD F e k d K = V at hvl hsd
          generalize tgD k d = t at hti hvl hsd hat ht144
          have htk : t * 3 + K < 432 := by omega
          clear hin
          go_wp2_with (fail)
          go_wp2_with (fail)
          refine wp_region_new (by kernel_rfl) (by kernel_rfl) ?_
          repeat (go_big_quiet_step (first | fail | (go_at_call 56; with_reducible exact calls_new (l00In_n h1 _))))
          refine wpQuiet_nil ?_
          intro w2 hc2
          have hn2 := NewW.of hc2
          clear hc2
          have ho2 := hn2.objs
          have hz2 := hn2.le
          try simp at hz2
          have k2_0 : gI < w2.heap.size := by omega
          have k2_1 : gV < w2.heap.size := by omega
          have k2_2 : gB < w2.heap.size := by omega
          have k2_3 : gQ < w2.heap.size := by omega
          go_wp2_with (fail)
          go_quiet (fail)
          have oa3 : obj (w2.drewN nq) gV = _ := (ho2 _ la).trans oa
          have og3 : obj (w2.drewN nq) gB = _ := (ho2 _ lg).trans hog.out
          have oq3 : obj (w2.drewN nq) gQ = _ := (ho2 _ lq).trans oq
          have hN3 : New wB (w2.drewN nq) := (hN.trans hn2).drewN nq
          clear oa hog oq om la lg lq lm ho2 hn2 hz2 hN
          generalize w2.drewN nq = w3 at oa3 og3 oq3 hN3 ⊢
          have la3 := obj_lt oa3
          have lq3 := obj_lt oq3
          have lg3 := obj_lt og3
          have iV : (arr 432 .i64 (spS (fun d' k' => decide (k' < K) || (k' == K && decide (d' < d))) a b k F e))[t * 3 + K]? = some (.int .i64 (F (t * 3 + K))) := by rw [get_arr, if_pos htk, hat]
          replace hat := hide hat
          have ht145 : (t : Int) < 144 := by omega
          have hd145 : (d : Int) < 4 := by omega
          have hK145 : (K : Int) < 3 := by omega
          go_wp2_with (fail)
          refine wp_region_still_tail 15 (by kernel_rfl) (by kernel_rfl) ?_
          simp only [List.take_succ_cons, List.take_zero, List.drop_succ_cons, List.drop_zero]
          repeat still_step
          refine wpStill_step (fun K2 hK2 => ?_)
          go_simp
          rw [show IntKind.i64.wrap (T * ek) = wrap64 (T * ek) from IntWalk.i64_left _]
          refine ⟨.int .i64 (wrap64 (T * ek) / 16), (down_any (wrap64 (T * ek)) (w64_b _) w3.drew).mono fun _ _ ⟨h1, h2⟩ => ⟨h1, h2.symm⟩, hK2 _ ?_⟩
          clear hK2 K2
          repeat still_step
          try refine wpStill_nil ?_
          change wpList _ _ _ _ _ w3.drew
          all_goals
            go_wp2_with (fail)
            go_roundw
            case rel =>
              refine ⟨d + 1, by omega, by go_num, ?_, ?_, ?_, (hN3.setCell lV _).drew⟩
              · show _ = _
                rw [obj_drew, obj_set_arr oa3 _ (t * 3 + K) _ rfl, hat.out, ← hvl.out, hsd.out]
              · show _ = _
                rw [obj_drew, obj_setCell_other _ _ _ _ _ (by omega)]
                exact og3
              · show _ = _
                rw [obj_drew, obj_setCell_other _ _ _ _ _ (by omega)]
                exact oq3
            case measure => simp [intOf]; omega
        · have ho := hide (spS_skip (F := F) (e := e) (K := K) (show inD a b k d = false by rw [hin.out, show inB Y 0 (b - 1) = false from inB_f.2 (Or.inr (by omega)), Bool.and_false]))
          clear hin hvl hti
          go_wp2_with (fail)
          go_wp2_with (fail)
          refine wp_region_new (by kernel_rfl) (by kernel_rfl) ?_
          repeat (go_big_quiet_step (first | fail | (go_at_call 56; with_reducible exact calls_new (l00In_n h1 _))))
          refine wpQuiet_nil ?_
          intro w3 hc3
          have hn3 := NewW.of hc3
          clear hc3
          have ho3 := hn3.objs
          have hz3 := hn3.le
          try simp at hz3
          have k3_0 : gI < w3.heap.size := by omega
          have k3_1 : gV < w3.heap.size := by omega
          have k3_2 : gB < w3.heap.size := by omega
          have k3_3 : gQ < w3.heap.size := by omega
          go_wp2_with (fail)
          go_roundw
          case rel => exact ⟨d + 1, by omega, by go_num, by show _ = _; rw [← ho.out]; exact (ho3 _ la).trans oa, by show _ = _; exact (ho3 _ lg).trans hog.out, by show _ = _; exact (ho3 _ lq).trans oq, hN.trans hn3⟩
          case measure => simp [intOf]; omega
    · have hd4 : d = 4 := by omega
      have hfin : obj wr gV = some (.cells (arr 432 .i64 (spS (fun _ k' => decide (k' < K + 1)) a b k F e)) 84) := by
        rw [hoa.out]
        congr 2
        refine arr_congr fun j _ => spS_congr (fun d' k' hd' _ _ => ?_) j
        subst hd4
        rw [decide_eq_true hd', Bool.and_true, show (k' == K) = decide (k' = K) from rfl, ← Bool.decide_or, decide_eq_decide]
        omega
      have hog := hog.out
      clear hd4 hoa hoq
      go_wp2_with (fail)
      exact hexit _ _ _ _ _ _ _ _ _ _ _ _ _ _ _ _ _ _ _ _ _ _ _ _ _ _ _ _ _ _ _ _ _ _ _ _ _ _ _ _ _ _ _ _ _ _ _ _ _ _ _ hfin hog hN
end Go.Proofs.YtphjhegaplochaaGreatDoor
/- Pictures whose errors are spread: the program's small functions, the plain step over a list of cells; no condition. -/
set_option linter.unusedVariables false
namespace Go.Proofs.YtphjhegaplochaaGreatDoor
open Go.BigFrame
open Go.RowKit Go.Arr
set_option maxHeartbeats 1000000 in
theorem floor_any (x : Int) (hx : -9223372036854775808 ≤ x ∧ x ≤ 9223372036854775807) (w : World) : Calls Tryz.prog 51 #[.int .i64 x, .int .i64 16] w fun e w' => e = .returned (.int .i64 (x / 16)) ∧ w = w' := by
  have ht := hide (tdiv16 x)
  have hq : -9223372036854775800 ≤ Int.tdiv x 16 ∧ Int.tdiv x 16 ≤ 9223372036854775800 := by
    rcases tdm16 x with ⟨h, h1, h2⟩ | ⟨h, h1, h2⟩ <;> rw [h1] <;> omega
  by_cases h : Int.tmod x 16 < 0
  · have h2 : Hid (Int.tdiv x 16 - 1 = x / 16) := by have := ht.out; rw [if_pos h] at this; exact this
    go_enter Tryz.func51, Tryz.ntmps51
    go_wp2_with (fail)
    go_ret
    exact ⟨by rw [← h2.out]; rfl, rfl⟩
  · have h2 : Hid (Int.tdiv x 16 = x / 16) := by have := ht.out; rw [if_neg h, Int.sub_zero] at this; exact this
    go_enter Tryz.func51, Tryz.ntmps51
    go_wp2_with (fail)
    go_ret
    exact ⟨by rw [← h2.out]; rfl, rfl⟩
theorem arrX {n o p : Nat} {k : IntKind} {f : Nat → Int} (ho : o + 3 ≤ n) (hp : p = o + 3) : (arr n k f).extract o p = arr 3 k fun j => f (o + j) :=
  ext3 (by rw [get_arr, if_pos (by omega)]; rfl) (by rw [get_arr, if_pos (by omega)]) (by rw [get_arr, if_pos (by omega)]) hp
theorem sizeRow (w : World) : (sizeOf 83).run Tryz.prog w = .ok 3 w := by kernel_rfl
theorem ixParts (f : Nat → Int) (ik : IntKind) (i : Int) (h0 : 0 ≤ i) (h1 : i < 4) (w : World) : (Instr.index 85 (.agg (arr 12 .i64 f)) (.int ik i)).run Tryz.prog w = .ok (.agg (arr 3 .i64 fun j => f (i.toNat * 3 + j))) w := by
  have hlt : i.toNat < 4 := by omega
  have hx : (arr 12 .i64 f).extract (i.toNat * 3) (i.toNat * 3 + 3) = arr 3 .i64 fun j => f (i.toNat * 3 + j) := arrX (by omega) rfl
  have hp : (part 83 (arr 12 .i64 f) (i.toNat * 3)).run Tryz.prog w = .ok (.agg (arr 3 .i64 fun j => f (i.toNat * 3 + j))) w := by
    simp [part, isAgg, run_underlying Tryz.underlying83, hx]
  simp [Instr.index, asIntOf, run_underlying Tryz.underlying85, h0, h1, hp]
/-- the parts, as the program lays them -/
def pD (j : Nat) : Int := if j % 3 = 0 then dxD (j / 3) else if j % 3 = 1 then dyD (j / 3) else wtD (j / 3)
theorem pD_0 (d : Nat) : pD (d * 3 + 0) = dxD d := by unfold pD; rw [if_pos (by omega), show (d * 3 + 0) / 3 = d by omega]
theorem pD_1 (d : Nat) : pD (d * 3 + 1) = dyD d := by unfold pD; rw [if_neg (by omega), if_pos (by omega), show (d * 3 + 1) / 3 = d by omega]
theorem pD_2 (d : Nat) : pD (d * 3 + 2) = wtD d := by unfold pD; rw [if_neg (by omega), if_neg (by omega), show (d * 3 + 2) / 3 = d by omega]
theorem spI_0 {a b : Int} {k d : Nat} {F e : Nat → Int} : arr 432 .i64 (spS (fun d' _ => decide (d' < d)) a b k F e) = arr 432 .i64 (spS (fun d' k' => decide (d' < d) || (d' == d && decide (k' < 0))) a b k F e) :=
  arr_congr fun j _ => spS_congr (fun d' k' _ _ _ => by simp) j
theorem spI_skip {a b : Int} {k d : Nat} {F e : Nat → Int} (h : inD a b k d = false) : arr 432 .i64 (spS (fun d' _ => decide (d' < d)) a b k F e) = arr 432 .i64 (spS (fun d' _ => decide (d' < d + 1)) a b k F e) :=
  arr_congr fun j _ => spS_congr (fun d' k' _ _ hi => by
    by_cases e1 : d' = d
    · subst e1; rw [h] at hi; cases hi
    · rw [decide_eq_decide]; omega) j
theorem spI_3 {a b : Int} {k d : Nat} {F e : Nat → Int} : arr 432 .i64 (spS (fun d' k' => decide (d' < d) || (d' == d && decide (k' < 3))) a b k F e) = arr 432 .i64 (spS (fun d' _ => decide (d' < d + 1)) a b k F e) :=
  arr_congr fun j _ => spS_congr (fun d' k' _ hk _ => by
    rw [decide_eq_true hk, Bool.and_true, show (d' == d) = decide (d' = d) from rfl, ← Bool.decide_or, decide_eq_decide]
    omega) j
theorem spI_done {a b : Int} {k d K : Nat} {F e : Nat → Int} (hd : d < 4) (hK : K < 3) (h : inD a b k d = true) : arr 432 .i64 (upd (spS (fun d' k' => decide (d' < d) || (d' == d && decide (k' < K))) a b k F e) (tgD k d * 3 + K) (vlD F e k d K)) = arr 432 .i64 (spS (fun d' k' => decide (d' < d) || (d' == d && decide (k' < K + 1))) a b k F e) :=
  arr_congr fun j _ => (spS_upd hd hK h j).trans (spS_congr (fun d' k' _ _ _ => by
    by_cases e1 : d' = d
    · subst e1
      have : (decide (k' < K) || k' == K) = decide (k' < K + 1) := by
        by_cases h1 : k' = K
        · subst h1; simp
        · rw [show (k' == K) = false by simpa using h1, Bool.or_false, decide_eq_decide]; omega
      simp [← this]
    · have : (d' == d) = false := by simpa using e1
      simp [this]) j)
/-- so many cells of the list done -/
def spT (m : Nat) (a b : Int) (fm fp : Nat → Int) (t : Nat) : StD := recT (stD m a b fp) (fm, fun _ => 0) (selG (cellN a b) 144) t
theorem spT_s (m : Nat) (a b : Int) (fm fp : Nat → Int) (t : Nat) : spT m a b fm fp (t + 1) = stD m a b fp (spT m a b fm fp t) (selG (cellN a b) 144 t) := rfl
theorem spT_end (m : Nat) (a b : Int) (fm fp : Nat → Int) : spT m a b fm fp (selN (cellN a b) 144) = spD m a b fm fp 144 := rec_eq (Nat.le_refl 144)
end Go.Proofs.YtphjhegaplochaaGreatDoor
/- Pictures whose errors are spread: the program's loop over the parts of a cell; no condition. -/
set_option linter.unusedVariables false
namespace Go.Proofs.YtphjhegaplochaaGreatDoor
open Go.BigFrame
open Go.RowKit Go.Arr
attribute [local go_sem ↓] lvSums svSums zeroSums zeroTone
attribute [local go_sem] ldSums stSums
attribute [local go_sem high] ixSums ixTone ixParts
noncomputable def partsBodyI : Code := loopIn (loopIn (Tryz.f13.body.getD .skip) 1) 1
set_option maxHeartbeats 8000000 in
set_option maxRecDepth 1000000 in
theorem parts_loopI (a b : Int) (fm : Nat → Int) (hab : (1 ≤ a ∧ a ≤ 12) ∧ (1 ≤ b ∧ b ≤ 12)) (k c : Nat) (hlt : k < 144) (F G : Nat → Int) (ad : Option Addr) (n cp : Nat) (fp : Nat → Int) (hfp : ∀ i, 0 ≤ fp i ∧ fp i ≤ 255) (hcl : c < n) (e : Nat → Int) (he : Hid (∀ K, e K = wrap64 (F (k * 3 + K) - fp (c * 3 + K)))) (gI gV gB : Nat) (wB w9 : World)
    (lt1 : gI < wB.heap.size) (c1 : Hid (obj wB gI = some (.cells (pic 432 a b fm) 29))) (hs1 : Hid (Sl wB (.slice ad n cp) n 3 .u8 fp)) (lV : wB.heap.size ≤ gV) (nB : gB ≠ gV)
    (oa9 : obj w9 gV = some (.cells (arr 432 .i64 F) 84))
    (og9 : obj w9 gB = some (.cells (pic 144 a b G) 39)) (hN9 : New wB w9)
    (Q0 : Exit → Act → World → Prop) (s0 s3 s4 s5 s7 s8 s9 s10 s11 s12 s14 s15 s16 s18 s19 s20 s21 s22 s23 s24 s25 s26 s27 s28 s29 s30 s31 s32 s33 s34 s35 s36 s37 s38 s39 s40 s41 s42 s43 s44 s45 s46 s47 s48 s49 s50 s51 s52 s53 s54 s55 s56 s57 s58 s59 s60 s61 s62 s63 s64 s65 s66 s67 s68 s69 s70 s71 s72 s73 s74 s75 s76 s77 s78 s79 s80 s81 s82 s83 s84 s85 s86 s87 s88 s89 s90 s91 s92 s93 s94 s95 s96 s99 s100 s101 s102 s103 s104 s105 s106 s107 s108 s109 s110 s111 s112 s113 s114 s115 s116 s117 s118 s119 s120 s121 s122 s123 s124 s125 s126 s127 s128 s129 s130 s131 s132 s133 s134 s135 s136 s137 s138 s139 s140 s141 s142 s143 s144 s145 s146 s147 s148 s149 s150 s151 s152 s153 : Value)
    (hexit : ∀ (u20 u21 u22 u23 u24 u98 u99 u100 u101 u102 u103 u104 u105 u106 u107 u108 u109 u110 u111 u112 u113 u114 u115 u116 u117 u118 u119 u120 u121 u122 u123 u124 u125 u126 u127 u128 u129 u130 u131 u132 u133 u134 u135 u136 u137 u138 u139 u140 u141 u142 u143 u144 u145 u146 u147 u148 u149 u150 u151 : Value) (w' : World), obj w' gV = some (.cells (arr 432 .i64 (spS (fun _ _ => true) a b k F e)) 84) → obj w' gB = some (.cells (pic 144 a b G) 39) → New wB w' → w9.grownBy w' (some gV) →
      Q0 (.exit 8) ⟨List.toArray (s0 :: (.slice ad n cp) :: (.pointer (some ⟨gI, 0, none⟩)) :: s3 :: s4 :: s5 :: (.pointer (some ⟨gV, 0, none⟩)) :: s7 :: s8 :: s9 :: s10 :: s11 :: s12 :: (.int .i64 (k : Nat)) :: s14 :: s15 :: s16 :: (.int .i64 (c : Nat)) :: s18 :: s19 :: u20 :: u21 :: u22 :: u23 :: u24 :: s25 :: s26 :: s27 :: s28 :: s29 :: s30 :: s31 :: s32 :: s33 :: s34 :: s35 :: s36 :: s37 :: s38 :: s39 :: s40 :: s41 :: s42 :: s43 :: s44 :: s45 :: s46 :: s47 :: s48 :: s49 :: s50 :: s51 :: s52 :: s53 :: s54 :: s55 :: s56 :: s57 :: s58 :: s59 :: s60 :: s61 :: s62 :: s63 :: s64 :: s65 :: s66 :: s67 :: s68 :: s69 :: s70 :: s71 :: s72 :: s73 :: s74 :: s75 :: s76 :: s77 :: s78 :: s79 :: s80 :: s81 :: s82 :: s83 :: s84 :: s85 :: s86 :: s87 :: s88 :: s89 :: s90 :: s91 :: s92 :: s93 :: s94 :: s95 :: s96 :: (.agg (arr 12 .i64 pD)) :: u98 :: u99 :: u100 :: u101 :: u102 :: u103 :: u104 :: u105 :: u106 :: u107 :: u108 :: u109 :: u110 :: u111 :: u112 :: u113 :: u114 :: u115 :: u116 :: u117 :: u118 :: u119 :: u120 :: u121 :: u122 :: u123 :: u124 :: u125 :: u126 :: u127 :: u128 :: u129 :: u130 :: u131 :: u132 :: u133 :: u134 :: u135 :: u136 :: u137 :: u138 :: u139 :: u140 :: u141 :: u142 :: u143 :: u144 :: u145 :: u146 :: u147 :: u148 :: u149 :: u150 :: u151 :: s152 :: s153 :: []), []⟩ w') :
    Code.wp Tryz.prog (Code.loop partsBodyI) Q0 ⟨List.toArray (s0 :: (.slice ad n cp) :: (.pointer (some ⟨gI, 0, none⟩)) :: s3 :: s4 :: s5 :: (.pointer (some ⟨gV, 0, none⟩)) :: s7 :: s8 :: s9 :: s10 :: s11 :: s12 :: (.int .i64 (k : Nat)) :: s14 :: s15 :: s16 :: (.int .i64 (c : Nat)) :: s18 :: s19 :: s20 :: s21 :: s22 :: s23 :: s24 :: s25 :: s26 :: s27 :: s28 :: s29 :: s30 :: s31 :: s32 :: s33 :: s34 :: s35 :: s36 :: s37 :: s38 :: s39 :: s40 :: s41 :: s42 :: s43 :: s44 :: s45 :: s46 :: s47 :: s48 :: s49 :: s50 :: s51 :: s52 :: s53 :: s54 :: s55 :: s56 :: s57 :: s58 :: s59 :: s60 :: s61 :: s62 :: s63 :: s64 :: s65 :: s66 :: s67 :: s68 :: s69 :: s70 :: s71 :: s72 :: s73 :: s74 :: s75 :: s76 :: s77 :: s78 :: s79 :: s80 :: s81 :: s82 :: s83 :: s84 :: s85 :: s86 :: s87 :: s88 :: s89 :: s90 :: s91 :: s92 :: s93 :: s94 :: s95 :: s96 :: (.agg (arr 12 .i64 pD)) :: (.int .i64 0) :: s99 :: s100 :: s101 :: s102 :: s103 :: s104 :: s105 :: s106 :: s107 :: s108 :: s109 :: s110 :: s111 :: s112 :: s113 :: s114 :: s115 :: s116 :: s117 :: s118 :: s119 :: s120 :: s121 :: s122 :: s123 :: s124 :: s125 :: s126 :: s127 :: s128 :: s129 :: s130 :: s131 :: s132 :: s133 :: s134 :: s135 :: s136 :: s137 :: s138 :: s139 :: s140 :: s141 :: s142 :: s143 :: s144 :: s145 :: s146 :: s147 :: s148 :: s149 :: s150 :: s151 :: s152 :: s153 :: []), []⟩ w9 := by
  conv => arg 2; arg 1; whnf
  obtain ⟨gs, off, cur, tp, frp, hgs, os, hcs⟩ := hs1.out.at (by omega : 0 < n)
  have ls0 := obj_lt os
  have iP : ∀ K, K < 3 → cur[off + c * 3 + K]? = some (.int .u8 (fp (c * 3 + K))) := fun K hK => by rw [Nat.add_assoc]; exact hcs _ (by omega)
  clear hcs hs1
  subst hgs
  replace iP := hide iP
  go_loopw [98] (fun i wq => ∃ d : Nat, d ≤ 4 ∧ i = .int .i64 d ∧ Hid (obj wq gV = some (.cells (arr 432 .i64 (spS (fun d' _ => decide (d' < d)) a b k F e)) 84)) ∧ Hid (obj wq gB = some (.cells (pic 144 a b G) 39)) ∧ New wB wq ∧ w9.grownBy wq (some gV)) (fun i _ => 4 - (intOf i).toNat)
  case atStart => exact ⟨0, by omega, rfl, by show _ = _; rw [oa9]; congr 2; exact arr_congr fun j _ => (spS_0 (fun d' k' => by simp) j).symm, og9, hN9, grown_refl _ _⟩
  case round =>
    obtain ⟨d, hd, rfl, hoa, hog, hN, hg⟩ := hrel
    by_cases hld : d < 4
    · have oa := hoa.out
      have la := obj_lt oa
      have og := hog.out
      have lg := obj_lt og
      have om := (hN.objs _ lt1).trans c1.out
      have lm := obj_lt om
      have hdb := dD_b d
      have hX : -1 ≤ (k : Int) % 12 + dxD d ∧ (k : Int) % 12 + dxD d ≤ 12 := by omega
      have hY : 0 ≤ (k : Int) / 12 + dyD d ∧ (k : Int) / 12 + dyD d ≤ 12 := by omega
      have p0 : pD (d * 3) = dxD d := pD_0 d
      have p1 := pD_1 d
      have p2 := hide (pD_2 d)
      have hti := tgD_i k d hld
      have hin : Hid (isCellB ((k : Int) % 12 + dxD d) ((k : Int) / 12 + dyD d) a b = inD a b k d) := rfl
      obtain ⟨gO, hgO⟩ : ∃ gO, Hid (wr.heap.size = gO) := ⟨_, rfl⟩
      rw [hgO.out] at la lg lm
      clear hoa hog
      go_wp2_with (fail)
      go_quiet (fail)
      rw [hgO.out]
      obtain ⟨X, hXX⟩ : ∃ X, Hid ((k : Int) % 12 + dxD d = X) := ⟨_, rfl⟩
      obtain ⟨Y, hYY⟩ : ∃ Y, Hid ((k : Int) / 12 + dyD d = Y) := ⟨_, rfl⟩
      have hin := hin.out
      rw [hXX.out, hYY.out] at hti hin
      rw [hXX.out] at hX
      rw [hYY.out] at hY
      try rw [hXX.out]
      try rw [hYY.out]
      generalize hw2 : (wr.alloc (Obj.cells (arr 3 .i64 fun j => pD (d * 3 + j)) 83)).drewN nq = w2
      have oa2 : obj w2 gV = some (.cells (arr 432 .i64 (spS (fun d' _ => decide (d' < d)) a b k F e)) 84) := by rw [← hw2]; exact (obj_alloc_past _ _ _ (by rw [hgO.out]; exact la)).trans oa
      have og2 : obj w2 gB = some (.cells (pic 144 a b G) 39) := by rw [← hw2]; exact (obj_alloc_past _ _ _ (by rw [hgO.out]; exact lg)).trans og
      have om2 : obj w2 gI = some (.cells (pic 432 a b fm) 29) := by rw [← hw2]; exact (obj_alloc_past _ _ _ (by rw [hgO.out]; exact lm)).trans om
      have oO : obj w2 gO = some (.cells (arr 3 .i64 fun j => pD (d * 3 + j)) 83) := by rw [← hw2, ← hgO.out]; exact obj_alloc_at _ _ _ rfl
      have hN2 : New wB w2 := by rw [← hw2]; exact (hN.alloc _).drewN _
      have hg2 : w9.grownBy w2 (some gV) := by rw [← hw2]; exact grown_new2 hg (((New.refl _).alloc _).drewN _)
      clear hw2 hgO oa og om hN hg
      have la2 := obj_lt oa2
      have lg2 := obj_lt og2
      have lm2 := obj_lt om2
      cases hid : inD a b k d
      · have ho := hide (spI_skip (F := F) (e := e) hid)
        replace hin := hin.trans hid
        clear hid
        go_wp2_with (go_at_call 50; refine (isCell_any _ _ _ _ (by omega) (by omega) _).mono ?_; rintro e1 wz ⟨rfl, rfl⟩; rw [hin])
        go_roundw
        case rel => exact ⟨d + 1, by omega, by go_num, by show _ = _; rw [← ho.out]; exact oa2, og2, hN2, hg2⟩
        case measure => simp [intOf]; omega
      · replace hin := hin.trans hid
        have hcell : (0 ≤ X ∧ X < a) ∧ (0 ≤ Y ∧ Y < b) := by
          have h := hin
          unfold isCellB at h
          rw [Bool.and_eq_true] at h
          have h1 := inB_t.1 h.1
          have h2 := inB_t.1 h.2
          omega
        have hx1 : (arr 432 .i64 (spS (fun d' _ => decide (d' < d)) a b k F e)).extract (k * 3) (k * 3 + 3) = arr 3 .i64 fun j => F (k * 3 + j) := by
          rw [arrX (by omega) rfl]
          exact arr_congr fun j hj => spS_far (by omega)
        have hk3 : k * 3 + 3 ≤ 432 := by omega
        go_wp2_with (go_at_call 50; refine (isCell_any _ _ _ _ (by omega) (by omega) _).mono ?_; rintro e1 wz ⟨rfl, rfl⟩; rw [hin])
        have hsd := hide (fun q (hq : q < 3) => spI_done (F := F) (e := e) hld hq hid)
        have hat := hide (fun q (hq : q < 3) => spS_at (a := a) (b := b) (F := F) (e := e) (n := k) (P := fun d' k' => decide (d' < d) || (d' == d && decide (k' < q))) hld hq (by simp))
        have hvl : Hid (∀ q, vlD F e k d q = wrap64 (F (tgD k d * 3 + q) + wrap64 (wtD d * e q) / 16)) := fun q => rfl
        have hT : Hid (pD (d * 3 + 2) = wtD d) := p2
        have ht144 : tgD k d < 144 := by omega
        have hT7 := hdb.2.2
        generalize wtD d = T at hvl hT hT7
        generalize vlD F e k d = V at hvl hsd
        generalize tgD k d = t at hti hvl hsd hat ht144
        clear p0 p1 p2 hdb hX hY hin hXX hYY hx1 hid
        go_loopw [122] (fun i wq => ∃ q : Nat, q ≤ 3 ∧ i = .int .i64 q ∧ Hid (obj wq gV = some (.cells (arr 432 .i64 (spS (fun d' k' => decide (d' < d) || (d' == d && decide (k' < q))) a b k F e)) 84)) ∧ Hid (obj wq gB = some (.cells (pic 144 a b G) 39)) ∧ Hid (obj wq gO = some (.cells (arr 3 .i64 fun j => pD (d * 3 + j)) 83)) ∧ New wB wq ∧ w9.grownBy wq (some gV)) (fun i _ => 3 - (intOf i).toNat)
        case atStart => exact ⟨0, by omega, rfl, by show _ = _; rw [oa2, spI_0], og2, oO, hN2, hg2⟩
        case round =>
          obtain ⟨q, hq3, rfl, hoa, hog, hoo, hN, hg⟩ := hrel
          clear la2 lg2 lm2 oa2 og2 om2 oO hN2 hg2 w2
          have oa := hoa.out
          have og := hog.out
          have oO := hoo.out
          have la := obj_lt oa
          have lg := obj_lt og
          have lO := obj_lt oO
          clear hoa hog hoo
          by_cases hlq : q < 3
          · have op := (hN.objs _ ls0).trans os
            have lp := obj_lt op
            have ip := iP.out q hlq
            have hfq := hfp (c * 3 + q)
            have hwf : IntKind.i64.wrap (fp (c * 3 + q)) = fp (c * 3 + q) := wrap_i (by omega)
            have hw12 : IntKind.i64.wrap (12 * Y) = 12 * Y := wrap_i (by omega)
            have hwt : IntKind.i64.wrap (t : Int) = (t : Int) := wrap_i (by omega)
            have ht145 : (t : Int) < 144 := by omega
            have hq145 : (q : Int) < 3 := by omega
            have htk : t * 3 + q < 432 := by omega
            have hp2 := hT.out
            have hatq := hide (hat.out q hlq)
            have hek : Hid (e q = wrap64 (F (k * 3 + q) - fp (c * 3 + q))) := he.out q
            go_wp2_with (fail)
            refine wp_region_still_tail 24 (by kernel_rfl) (by kernel_rfl) ?_
            simp only [List.take_succ_cons, List.take_zero, List.drop_succ_cons, List.drop_zero]
            repeat still_step
            refine wpStill_step (fun K2 hK2 => ?_)
            go_simp
            rw [show IntKind.i64.wrap (T * IntKind.i64.wrap (F (k * 3 + q) - fp (c * 3 + q))) = wrap64 (T * e q) by rw [IntWalk.i64_left, IntWalk.i64_left, ← hek.out]]
            refine ⟨.int .i64 (wrap64 (T * e q) / 16), (floor_any (wrap64 (T * e q)) (w64_b _) wr.drew).mono fun _ _ ⟨h1, h2⟩ => ⟨h1, h2.symm⟩, hK2 _ ?_⟩
            clear hK2 K2
            repeat still_step
            try refine wpStill_nil ?_
            change wpList _ _ _ _ _ wr.drew
            go_wp2_with (fail)
            go_roundw
            case rel =>
              refine ⟨q + 1, by omega, by go_num, ?_, ?_, ?_, (hN.setCell lV _).drew, grown_new2 (setCell_grown hg _ _) (New.refl _).drew⟩
              · show _ = _
                rw [obj_drew, obj_set_arr oa _ (t * 3 + q) _ rfl, hatq.out, ← hvl.out, hsd.out q hlq]
              · show _ = _
                rw [obj_drew, obj_setCell_other _ _ _ _ _ (by omega)]
                exact og
              · show _ = _
                rw [obj_drew, obj_setCell_other _ _ _ _ _ (by omega)]
                exact oO
            case measure => simp [intOf]; omega
          · have hq4 : q = 3 := by omega
            have ho3 : obj wr gV = some (.cells (arr 432 .i64 (spS (fun d' _ => decide (d' < d + 1)) a b k F e)) 84) := by
              rw [oa, hq4, spI_3]
            clear hq4 oa
            go_wp2_with (fail)
            go_roundw
            case rel => exact ⟨d + 1, by omega, by go_num, ho3, og, hN, hg⟩
            case measure => simp [intOf]; omega
    · have hd4 : d = 4 := by omega
      have hfin : obj wr gV = some (.cells (arr 432 .i64 (spS (fun _ _ => true) a b k F e)) 84) := by
        rw [hoa.out]
        congr 2
        exact arr_congr fun j _ => spS_congr (fun d' k' hd' _ _ => decide_eq_true (by omega)) j
      have hog := hog.out
      clear hd4 hoa
      go_wp2_with (fail)
      exact hexit _ _ _ _ _ _ _ _ _ _ _ _ _ _ _ _ _ _ _ _ _ _ _ _ _ _ _ _ _ _ _ _ _ _ _ _ _ _ _ _ _ _ _ _ _ _ _ _ _ _ _ _ _ _ _ _ _ _ _ _ hfin hog hN hg
end Go.Proofs.YtphjhegaplochaaGreatDoor
