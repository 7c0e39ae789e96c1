/- Pictures whose errors are spread: what the reference returns; no condition. -/
import Derived.Test.YtpofhbdnjecfjaaSprP
set_option linter.unusedVariables false
namespace Go.Proofs.Ytpofhbdnjecfjaa
open Go.BigFrame
open Go.RowKit Go.Arr
set_option maxHeartbeats 8000000 in
set_option maxRecDepth 100000 in
theorem spread_spec (a b : Int) (fm : Nat → Int) (ha : -128 ≤ a ∧ a ≤ 127) (hb : -128 ≤ b ∧ b ≤ 127) (hfm : ∀ i, 0 ≤ fm i ∧ fm i ≤ 255) (ad : Option Addr) (n cp : Nat) (fp : Nat → Int) (hfp : ∀ i, 0 ≤ fp i ∧ fp i ≤ 255) (hn : n ≤ 1048576) (W : World) (hs : Sl W (.slice ad n cp) n 3 .u8 fp) :
    Calls Try.prog 6 #[.agg (pic 432 a b fm), .slice ad n cp] W fun e w' => e = .returned (.tuple #[.agg (sprA a b fm n fp), .int .i64 (sprC a b fm n fp)]) ∧ New W w' := by
  cases hok : askOk a b fm n fp
  · have hC : sprC a b fm n fp = 1 := if_neg (by rw [hok]; simp)
    have hA : sprA a b fm n fp = pic 144 0 0 fun _ => 0 := if_neg (by rw [hok]; simp)
    rw [hC, hA]
    go_enter Try.func6, Try.ntmps6
    go_wp2_with (fail)
    generalize hw0 : ((W.alloc (Obj.cells (pic 432 a b fm) 37)).alloc (Obj.cells (pic 144 0 0 fun _ => 0) 31)) = w0
    have b1 : obj w0 W.heap.size = some (.cells (pic 432 a b fm) 37) := by subst hw0; go_simp
    have b2 : obj w0 (W.heap.size + 1) = some (.cells (pic 144 0 0 fun _ => 0) 31) := by subst hw0; go_simp
    have hn0 : New W w0 := by subst hw0; exact ((New.refl W).alloc _).alloc _
    have hs0 := hs.new hn0
    clear hw0 hs
    refine (l02Asked_any _ 37 a b fm ha hb ad n cp fp hn _ b1 hs0).mono ?_
    rintro e wB ⟨rfl, hn1⟩
    rw [hok]
    have c2 := (hn1.objs _ (obj_lt b2)).trans b2
    go_wp2_with (fail)
    refine ret_cell_tmp agg31 rfl rfl (c := pic 144 0 0 fun _ => 0) (t := 31) (fr := (0, 0)) (by rw [obj_setRow_same, c2]; simp only [Option.map_some, reCells_cells]) size_pic rfl ⟨rfl, (hn0.trans hn1).setRow (by omega) _⟩
  have hpos := okPal_pos (askOk_e hok).2
  have hC : sprC a b fm n fp = 0 := if_pos hok
  have hA : sprA a b fm n fp = pic 144 a b (spD n a b fm fp 144).2 := if_pos hok
  rw [hC, hA]
  go_enter Try.func6, Try.ntmps6
  go_wp2_with (fail)
  generalize hw0 : ((W.alloc (Obj.cells (pic 432 a b fm) 37)).alloc (Obj.cells (pic 144 0 0 fun _ => 0) 31)) = w0
  have b1 : obj w0 W.heap.size = some (.cells (pic 432 a b fm) 37) := by subst hw0; go_simp
  have b2 : obj w0 (W.heap.size + 1) = some (.cells (pic 144 0 0 fun _ => 0) 31) := by subst hw0; go_simp
  have hn0 : New W w0 := by subst hw0; exact ((New.refl W).alloc _).alloc _
  have hs0 := hs.new hn0
  clear hw0 hs
  refine (l02Asked_any _ 37 a b fm ha hb ad n cp fp hn _ b1 hs0).mono ?_
  rintro e wB ⟨rfl, hn1⟩
  rw [hok]
  have c1 := hide ((hn1.objs _ (obj_lt b1)).trans b1)
  have c2 := hide ((hn1.objs _ (obj_lt b2)).trans b2)
  have hs1 := hide (hs0.new hn1)
  have hN1 := hn0.trans hn1
  have lt1 := obj_lt c1.out
  have lt2 := obj_lt c2.out
  clear hs0 b1 b2 hn0 hn1
  go_wp2_with (fail)
  go_loopw [8] (fun i wr => ∃ k : Nat, k ≤ 144 ∧ i = .int .i64 k ∧ Hid (obj wr wB.heap.size = some (.cells (arr 432 .i64 fun j => if j < k * 3 then fm j else 0) 55)) ∧ New wB wr ∧ wB.heap.size < wr.heap.size) (fun i _ => 144 - (intOf i).toNat)
  case atStart => exact ⟨0, by omega, rfl, by show _ = _; go_simp, ((New.refl _).alloc _), by simp⟩
  case round =>
    obtain ⟨k, hk, rfl, ho, hnw, hlw⟩ := hrel
    by_cases hlt : k < 144
    · go_wp2_with (fail)
      try simp only [show decide ((k : Int) < 144) = true from decide_eq_true (by omega)]
      go_loopw [9] (fun i wq => ∃ q : Nat, q ≤ 3 ∧ i = .int .i64 q ∧ Hid (obj wq wB.heap.size = some (.cells (arr 432 .i64 fun j => if j < k * 3 + q then fm j else 0) 55)) ∧ New wB wq ∧ wB.heap.size < wq.heap.size) (fun i _ => 3 - (intOf i).toNat)
      case atStart => exact ⟨0, by omega, rfl, ho, hnw, hlw⟩
      case round =>
        obtain ⟨q, hq, rfl, ho, hnw, hlw⟩ := hrel
        by_cases hlq : q < 3
        · have o1 := ho.out
          have om := (hnw.objs _ lt1).trans c1.out
          have lo := obj_lt om
          have hfq := hfm (k * 3 + q)
          have hkq : k * 3 + q < 432 := by omega
          have ip : (pic 432 a b fm)[2 + k * 3 + q]? = some (.int .u8 (fm (k * 3 + q))) := by rw [Nat.add_assoc, get_pic', if_pos hkq]
          have hwr : IntKind.i64.wrap (fm (k * 3 + q)) = fm (k * 3 + q) := wrap_i (by omega)
          clear ho
          go_wp2_with (fail)
          go_region_law (fail)
          all_goals
            go_wp2_with (fail)
            go_roundw
            case rel =>
              refine ⟨q + 1, by omega, by go_num, ?_, (hnw.setCell (Nat.le_refl _) _).drew, by simp only [World.size_drew, World.size_setCell]; omega⟩
              show _ = _
              rw [obj_drew, obj_set_arr o1 _ (k * 3 + q) _ rfl]
              congr 2
              refine arr_congr fun j hj => ?_
              unfold upd
              by_cases e : j = k * 3 + q
              · subst e; simp
              · rw [if_neg e]; dsimp only
                by_cases e2 : j < k * 3 + q
                · rw [if_pos e2, if_pos (by omega)]
                · rw [if_neg e2, if_neg (by omega)]
            case measure => simp [intOf]; omega
        · obtain rfl : q = 3 := by omega
          go_wp2_with (fail)
          go_roundw
          case rel => exact ⟨k + 1, by omega, by go_num, by rw [show (k + 1) * 3 = k * 3 + 3 by omega]; exact ho, hnw, hlw⟩
          case measure => simp [intOf]; omega
    · have hk0 : k = 144 := by omega
      have oa : obj wr wB.heap.size = some (.cells (arr 432 .i64 (spD n a b fm fp 0).1) 55) := by
        rw [ho.out, arr_congr (g := fm) fun j hj => if_pos (show j < k * 3 by omega)]
        rfl
      clear hk0
      rename_i k0 _
      have om := (hnw.objs _ lt1).trans c1.out
      have lo := obj_lt om
      go_wp2_with (fail)
      have og : obj (wr.alloc (Obj.cells (pic 144 a b fun _ => 0) 31)) wr.heap.size = some (.cells (pic 144 a b (spD n a b fm fp 0).2) 31) := obj_alloc_at _ _ _ rfl
      obtain ⟨B, hB⟩ : ∃ B, Hid (wr.heap.size = B) := ⟨_, rfl⟩
      rw [hB.out] at og hlw lo ⊢
      have hsp := hide (fun k => (show spD n a b fm fp (k + 1) = if cellN a b k = true then stD n a b fp (spD n a b fm fp k) k else spD n a b fm fp k by rfl))
      go_loopw [11] (fun i wq => ∃ k : Nat, k ≤ 144 ∧ i = .int .i64 k ∧ Hid (obj wq wB.heap.size = some (.cells (arr 432 .i64 (spD n a b fm fp k).1) 55)) ∧ Hid (obj wq B = some (.cells (pic 144 a b (spD n a b fm fp k).2) 31)) ∧ New wB wq) (fun i _ => 144 - (intOf i).toNat)
      case atStart => exact ⟨0, by omega, rfl, (obj_alloc_past _ _ _ (obj_lt oa)).trans oa, og, hnw.alloc _⟩
      case round =>
        obtain ⟨k, hk, rfl, hoa, hog, hnw⟩ := hrel
        have om := (hnw.objs _ lt1).trans c1.out
        have lm := obj_lt om
        have oa := hoa.out
        have og := hog.out
        have la := obj_lt oa
        have lg := obj_lt og
        by_cases hlt : k < 144
        · cases hc : cellB k a b
          · have hq : Hid (spD n a b fm fp (k + 1) = spD n a b fm fp k) := by have := hsp.out k; rwa [if_neg (by show ¬ cellB k a b = true; rw [hc]; simp)] at this
            go_wp2_with (go_at_call 19; refine (l02Cell_any _ 37 a b fm _ ha hb _ om).mono ?_; rintro e w' ⟨rfl, rfl⟩; rw [hc])
            go_roundw
            case rel => exact ⟨k + 1, by omega, by go_num, by rw [hq.out]; exact hoa, by rw [hq.out]; exact hog, hnw⟩
            case measure => simp [intOf]; omega
          · have hq : Hid (spD n a b fm fp (k + 1) = stD n a b fp (spD n a b fm fp k) k) := by have := hsp.out k; rwa [if_pos (show cellN a b k = true from hc)] at this
            generalize spD n a b fm fp k = S at hoa hog oa og hq
            obtain ⟨F, G⟩ := S
            dsimp only at hoa hog oa og
            go_wp2_with (go_at_call 19; refine (l02Cell_any _ 37 a b fm _ ha hb _ om).mono ?_; rintro e w' ⟨rfl, rfl⟩; rw [hc])
            obtain ⟨gT, hgT⟩ : ∃ gT, Hid (wr.heap.size = gT) := ⟨_, rfl⟩
            rw [hgT.out] at la lg lm ⊢
            go_loopw [13] (fun i wq => ∃ q : Nat, q ≤ 3 ∧ i = .int .i64 q ∧ Hid (obj wq gT = some (.cells (arr 3 .u8 fun j => if j < q then clD (F (k * 3 + j)) else 0) 34)) ∧ New wr wq ∧ gT < wq.heap.size) (fun i _ => 3 - (intOf i).toNat)
            case atStart => exact ⟨0, by omega, rfl, by show _ = _; rw [← hgT.out]; exact obj_alloc_at _ _ _ rfl, (New.refl _).alloc _, by simp [← hgT.out]⟩
            case round =>
              obtain ⟨q, hq3, rfl, hoT, hnq, hlT⟩ := hrel
              have oT := hoT.out
              by_cases hlq : q < 3
              · have oa2 := (hnq.objs _ (by rw [hgT.out]; exact la)).trans oa
                have la2 := obj_lt oa2
                have hkq : k * 3 + q < 432 := by omega
                have ia : (arr 432 .i64 F)[k * 3 + q]? = some (.int .i64 (F (k * 3 + q))) := by rw [get_arr, if_pos hkq]
                have hwu : IntKind.u8.wrap (clD (F (k * 3 + q))) = clD (F (k * 3 + q)) := wrap_u (clD_b _)
                clear hoT
                go_wp2_with (first | (go_at_call 21; refine (min_any _ _ _).mono ?_; rintro e w' ⟨rfl, rfl⟩) | (go_at_call 20; refine (max_any _ _ _).mono ?_; rintro e w' ⟨rfl, rfl⟩; rw [mx_mn]))
                go_roundw
                case rel =>
                  refine ⟨q + 1, by omega, by go_num, ?_, hnq.setCell (Nat.le_of_eq hgT.out) _, by rw [World.size_setCell]; exact hlT⟩
                  show _ = _
                  rw [obj_set_arr oT _ q _ rfl]
                  congr 2
                  refine arr_congr fun j hj => ?_
                  unfold upd
                  by_cases e : j = q
                  · subst e; simp
                  · rw [if_neg e]; dsimp only
                    by_cases e2 : j < q
                    · rw [if_pos e2, if_pos (by omega)]
                    · rw [if_neg e2, if_neg (by omega)]
                case measure => simp [intOf]; omega
              · have oT3 : obj wr gT = some (.cells #[.int .u8 (clD (F (k * 3))), .int .u8 (clD (F (k * 3 + 1))), .int .u8 (clD (F (k * 3 + 2)))] 34) := by
                  have h3 : q = 3 := by omega
                  subst h3
                  exact oT
                have hs6 := hs1.out.new (hnw.trans hnq)
                have oa3 := (hnq.objs _ (by rw [hgT.out]; exact la)).trans oa
                have og3 := (hnq.objs _ (by rw [hgT.out]; exact lg)).trans og
                have om3 := (hnq.objs _ (by rw [hgT.out]; exact lm)).trans om
                have hN3 := hnw.trans hnq
                clear hoT oT oa og om hoa hog
                go_wp2_with (fail)
                refine (l02Nearest_any ad n cp fp _ _ _ (clD_b _) (clD_b _) (clD_b _) hfp hn hpos.1 _ hs6).mono ?_
                rintro e w6 ⟨rfl, hn6⟩
                have oa := (hn6.objs _ (obj_lt oa3)).trans oa3
                have og := (hn6.objs _ (obj_lt og3)).trans og3
                have om := (hn6.objs _ (obj_lt om3)).trans om3
                have hN6 := hN3.trans hn6
                have hcn : Hid (nrD n F fp k = (nearK fp (clD (F (k * 3))) (clD (F (k * 3 + 1))) (clD (F (k * 3 + 2))) n).1) := rfl
                have hcl : nrD n F fp k < n := by
                  obtain ⟨m, hm⟩ : ∃ m, n = m + 1 := ⟨n - 1, by omega⟩
                  unfold nrD
                  rw [hm]
                  have := nearK_lt fp (clD (F (k * 3))) (clD (F (k * 3 + 1))) (clD (F (k * 3 + 2))) m
                  omega
                rw [← hcn.out]
                generalize (nearK fp (clD (F (k * 3))) (clD (F (k * 3 + 1))) (clD (F (k * 3 + 2))) n).2 = E
                have hst : Hid (stD n a b fp (F, G) k = (spS (fun _ _ => true) a b k F (erD F fp k (nrD n F fp k)), upd G k ((nrD n F fp k : Nat) + 1))) := rfl
                generalize nrD n F fp k = c at hcl hst ⊢
                have hwc : IntKind.u8.wrap ((c : Int) + 1) = (c : Int) + 1 := wrap_u (by omega)
                have la := obj_lt oa
                have lg := obj_lt og
                have lm := obj_lt om
                clear oa3 og3 om3 hnq hN3 hn6 oT3 hs6
                go_wp2_with (fail)
                generalize hw7 : w6.setCell ⟨B, 2 + k, none⟩ (.int .u8 ((c : Int) + 1)) = w7
                have oa7 : obj w7 wB.heap.size = some (.cells (arr 432 .i64 F) 55) := by rw [← hw7, obj_setCell_other _ _ _ _ _ (by omega)]; exact oa
                have og7 : obj w7 B = some (.cells (pic 144 a b (upd G k ((c : Int) + 1))) 31) := by rw [← hw7]; exact obj_set_pic og _ _ _ rfl
                have hN7 : New wB w7 := by rw [← hw7]; exact hN6.setCell (show wB.heap.size ≤ B by omega) _
                clear hw7 oa og om la lg lm hN6
                have hst1 := hide (congrArg Prod.fst hst.out)
                have hst2 := hide (congrArg Prod.snd hst.out)
                dsimp only at hst1 hst2
                have he : Hid (∀ K, erD F fp k c K = wrap64 (F (k * 3 + K) - fp (c * 3 + K))) := fun _ => rfl
                generalize erD F fp k c = e at hst1 he
                have lBw := obj_lt og7
                go_loopw [18] (fun i wq => ∃ K : Nat, K ≤ 3 ∧ i = .int .i64 K ∧ Hid (obj wq wB.heap.size = some (.cells (arr 432 .i64 (spS (fun _ k' => decide (k' < K)) a b k F e)) 55)) ∧ Hid (obj wq B = some (.cells (pic 144 a b (upd G k ((c : Int) + 1))) 31)) ∧ New wB wq) (fun i _ => 3 - (intOf i).toNat)
                case atStart => exact ⟨0, by omega, rfl, by show _ = _; rw [oa7]; congr 2; exact arr_congr fun j _ => (spS_0 (fun _ k' => by simp) j).symm, og7, hN7⟩
                case round =>
                  obtain ⟨K, hK, rfl, hoa, hog, hN⟩ := hrel
                  by_cases hlK : K < 3
                  · have oa := hoa.out
                    have la := obj_lt oa
                    have om := (hN.objs _ lt1).trans c1.out
                    have lm := obj_lt om
                    obtain ⟨gs, off, cur, tp, frp, hgs, os, hcs⟩ := (hs1.out.new hN).at hpos.1
                    have ls := obj_lt os
                    have iP : cur[off + c * 3 + K]? = some (.int .u8 (fp (c * 3 + K))) := by rw [Nat.add_assoc]; exact hcs _ (by omega)
                    have hkK : k * 3 + K < 432 := by omega
                    have iF : (arr 432 .i64 (spS (fun _ k' => decide (k' < K)) a b k F e))[k * 3 + K]? = some (.int .i64 (F (k * 3 + K))) := by rw [get_arr, if_pos hkK, spS_far (by omega)]
                    have hwf : IntKind.i64.wrap (fp (c * 3 + K)) = fp (c * 3 + K) := wrap_i (by have := hfp (c * 3 + K); omega)
                    have hek : Hid (wrap64 (spS (fun _ k' => decide (k' < K)) a b k F e (k * 3 + K) - fp (c * 3 + K)) = e K) := by show _ = _; rw [spS_far (by omega), ← he.out K]
                    subst hgs
                    clear hcs hoa
                    go_wp2_with (fail)
                    go_quiet (fail)
                    rw [hek.out]
                    have hN8 := hN.drewN nq
                    have oa8 : obj (wr.drewN nq) wB.heap.size = _ := oa
                    have og8 : obj (wr.drewN nq) B = _ := hog.out
                    clear iP iF hwf os ls oa la hog hN om lm
                    generalize wr.drewN nq = w8 at hN8 oa8 og8 ⊢
                    have la8 := obj_lt oa8
                    have lg8 := obj_lt og8
                    go_wp2_with (fail)
                    obtain ⟨ek, hek2⟩ : ∃ ek, Hid (e K = ek) := ⟨_, rfl⟩
                    rw [hek2.out]
                    obtain ⟨gQ, hgQ⟩ : ∃ gQ, Hid (w8.heap.size = gQ) := ⟨_, rfl⟩
                    have oQ : obj (w8.alloc (Obj.cells (arr 12 .i64 (qD k)) 60)) gQ = some (.cells (arr 12 .i64 (qD k)) 60) := by rw [← hgQ.out]; exact obj_alloc_at _ _ _ rfl
                    rw [arr_congr fun j hj => q_eq k j hj, hgQ.out]
                    rw [hgQ.out] at la8 lg8
                    have oa9 := (obj_alloc_past w8 (Obj.cells (arr 12 .i64 (qD k)) 60) _ (by rw [hgQ.out]; exact la8)).trans oa8
                    have og9 := (obj_alloc_past w8 (Obj.cells (arr 12 .i64 (qD k)) 60) _ (by rw [hgQ.out]; exact lg8)).trans og8
                    have hN9 : New wB (w8.alloc (Obj.cells (arr 12 .i64 (qD k)) 60)) := hN8.alloc _
                    generalize w8.alloc (Obj.cells (arr 12 .i64 (qD k)) 60) = w9 at oQ oa9 og9 hN9 ⊢
                    clear oa8 og8 hN8
                    have hab := okImg_ab (askOk_e hok).1
                    refine parts_loop a b fm hab k K hlt hlK F _ e ek hek2 _ _ B gQ wB w9 lt1 c1 (Nat.le_refl _) (by omega) (by omega) oa9 og9 oQ hN9 _ _ _ _ _ _ _ _ _ _ _ _ _ _ _ _ _ _ _ _ _ _ _ _ _ _ _ _ _ _ _ _ _ _ _ _ _ _ _ _ _ _ _ _ _ _ _ _ _ _ _ _ _ _ _ _ _ _ _ _ _ _ _ _ _ _ _ _ _ _ _ _ _ _ _ _ _ _ _ _ _ _ _ _ _ _ _ _ _ _ _ _ _ _ _ _ _ _ _ _ _ _ _ _ _ _ _ _ _ _ _ _ _ _ _ _ _ _ _ _ _ _ _ _ _ _ _ _ _ _ _ _ _ _ _ _ _ _ _ _ _ _ _ _ _ _ _ _ _ _ _ _ _ _ _ _ _ _ _ _ _ _ _ _ _ _ _ _ _ _ _ _ ?_
                    intros
                    rename_i wq hfq hgq hNq
                    go_wp2_with (fail)
                    trace_state
                    go_roundw
                    case rel => exact ⟨K + 1, by omega, by go_num, hfq, hgq, hNq⟩
                    case measure => simp [intOf]; omega
                  · have hK3 : K = 3 := by omega
                    have hfin : obj wr wB.heap.size = some (.cells (arr 432 .i64 (spD n a b fm fp (k + 1)).1) 55) := by
                      rw [hoa.out, hq.out, hst1.out]
                      congr 2
                      exact arr_congr fun j _ => spS_congr (fun d k' _ hk' _ => decide_eq_true (by omega)) j
                    have hfg : obj wr B = some (.cells (pic 144 a b (spD n a b fm fp (k + 1)).2) 31) := by rw [hog.out, hq.out, hst2.out]
                    clear hK3 hoa
                    go_wp2_with (fail)
                    go_roundw
                    case rel => exact ⟨k + 1, by omega, by go_num, hfin, hfg, hN⟩
                    case measure => simp [intOf]; omega
        · obtain rfl : k = 144 := by omega
          have o4 := (hnw.objs _ lt2).trans c2.out
          go_wp2_with (fail)
          refine ret_cell_tmp agg31 rfl rfl (c := pic 144 a b (spD n a b fm fp 144).2) (t := 31) (fr := (0, 0)) (by rw [obj_setRow_same, o4]; simp only [Option.map_some, reCells_cells]) size_pic rfl ⟨rfl, (hN1.trans hnw).setRow (by omega) _⟩
end Go.Proofs.Ytpofhbdnjecfjaa
