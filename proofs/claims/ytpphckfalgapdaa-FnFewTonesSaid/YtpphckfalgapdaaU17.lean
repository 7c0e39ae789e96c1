/- Tones that move to the means of their cells: what the reference returns; no condition. -/
import Derived.Test.YtpphckfalgapdaaU7
import Derived.Test.YtpphckfalgapdaaU11
import Derived.Test.YtpphckfalgapdaaU10
import Derived.Test.YtpphckfalgapdaaU6
set_option linter.unusedVariables false
namespace Go.Proofs.Ytpphckfalgapdaa
open Go.BigFrame
open Go.RowKit Go.Arr
set_option maxHeartbeats 8000000 in
set_option maxRecDepth 100000 in
theorem move_spec (a b : Int) (fm : Nat → Int) (ha : -128 ≤ a ∧ a ≤ 127) (hb : -128 ≤ b ∧ b ≤ 127) (hfm : ∀ i, 0 ≤ fm i ∧ fm i ≤ 255) (ad : Option Addr) (n cp : Nat) (fp : Nat → Int) (hfp : ∀ i, 0 ≤ fp i ∧ fp i ≤ 255) (hn : n ≤ 1048576) (r : Int) (W : World) (hs : Sl W (.slice ad n cp) n 3 .u8 fp) :
    Calls Try.prog 16 #[.agg (pic 432 a b fm), .slice ad n cp, .int .i64 r] W fun e w' => ∃ v, e = .returned (.tuple #[v, .int .i64 (mvM a b fm n fp r), .int .i64 (mvC a b fm n fp r)]) ∧ PRow w' W.heap.size v (mvN a b fm n fp r) (mvF a b fm n fp r) ∧ New W w' := by
  cases h1 : askOk a b fm n fp
  · have hC : Hid (mvC a b fm n fp r = 1) := if_pos h1
    have hM : Hid (mvM a b fm n fp r = 0) := if_neg (by rw [hC.out]; omega)
    have hN : Hid (mvN a b fm n fp r = 0) := if_neg (by rw [hC.out]; omega)
    go_enter Try.func16, Try.ntmps16
    go_wp2_with (fail)
    refine (l02Asked_any _ 29 a b fm ha hb ad n cp fp hn _ (by go_simp) (hs.new ((New.refl _).alloc _))).mono ?_
    rintro e w1 ⟨rfl, hn1⟩
    rw [h1, if_neg (by simp)]
    have hWl := hn1.le
    simp at hWl
    go_wp2_with (fail)
    go_ret3
    exact ⟨_, by rw [hM.out, hC.out]; rfl, by rw [hN.out]; exact prow_empty (obj_alloc_at _ _ _ rfl) (by omega), (((New.refl W).alloc _).trans hn1).alloc _⟩
  cases h2 : inB r 0 50
  · have hC : Hid (mvC a b fm n fp r = 2) := by show _ = _; unfold mvC; rw [if_neg (by rw [h1]; simp), if_pos h2]
    have hM : Hid (mvM a b fm n fp r = 0) := if_neg (by rw [hC.out]; omega)
    have hN : Hid (mvN a b fm n fp r = 0) := if_neg (by rw [hC.out]; omega)
    go_enter Try.func16, Try.ntmps16
    go_wp2_with (fail)
    refine (l02Asked_any _ 29 a b fm ha hb ad n cp fp hn _ (by go_simp) (hs.new ((New.refl _).alloc _))).mono ?_
    rintro e w1 ⟨rfl, hn1⟩
    rw [h1, if_pos rfl]
    have hWl := hn1.le
    simp at hWl
    go_wp2_with (go_at_call 47; refine (l00In_any _ _ _ _).mono ?_; rintro e w' ⟨rfl, rfl⟩; rw [h2])
    go_ret3
    exact ⟨_, by rw [hM.out, hC.out]; rfl, by rw [hN.out]; exact prow_empty (obj_alloc_at _ _ _ rfl) (by omega), (((New.refl W).alloc _).trans hn1).alloc _⟩
  have h3 := inB_t.1 h2
  obtain ⟨R, rfl⟩ : ∃ R : Nat, r = R := ⟨r.toNat, by omega⟩
  have hC : Hid (mvC a b fm n fp R = (mvO n fm a b R 0 fp).1) := by show _ = _; unfold mvC; rw [if_neg (by rw [h1]; simp), if_neg (by rw [h2]; simp), Int.toNat_natCast]
  have hM : Hid (mvM a b fm n fp R = if (mvO n fm a b R 0 fp).1 = 0 then (((mvO n fm a b R 0 fp).2.1 : Nat) : Int) else 0) := by show _ = _; unfold mvM; rw [hC.out, Int.toNat_natCast]
  have hN : Hid (mvN a b fm n fp R = if (mvO n fm a b R 0 fp).1 = 0 then n else 0) := by show _ = _; unfold mvN; rw [hC.out]
  have hF : Hid (mvF a b fm n fp R = (mvO n fm a b R 0 fp).2.2) := by show _ = _; unfold mvF; rw [Int.toNat_natCast]
  have hpos := okPal_pos (askOk_e h1).2
  generalize hOUT : mvO n fm a b R 0 fp = OUT at hC hM hN hF
  have hOUT' := hide hOUT
  clear hOUT
  go_enter Try.func16, Try.ntmps16
  go_wp2_with (fail)
  generalize hw0 : W.alloc (Obj.cells (pic 432 a b fm) 29) = w0
  have b1 : obj w0 W.heap.size = some (.cells (pic 432 a b fm) 29) := by subst hw0; go_simp
  have hn0 : New W w0 := by subst hw0; exact (New.refl W).alloc _
  have hs0 := hs.new hn0
  clear hw0 hs
  refine (l02Asked_any _ 29 a b fm ha hb ad n cp fp hn _ b1 hs0).mono ?_
  rintro e w1 ⟨rfl, hn1⟩
  rw [h1, if_pos rfl]
  have c1 := (hn1.objs _ (obj_lt b1)).trans b1
  have hN1 := hn0.trans hn1
  have hs1 := hs0.new hn1
  have hWl := hn1.le
  have hW0 := obj_lt b1
  clear b1 hn0 hn1 hs0 h1
  obtain ⟨gs, offs, curs, ts, frs, rfl, o5, hel5⟩ := hs1.at hpos.1
  have hel5 := hide hel5
  have r5 := obj_lt o5
  have r1 := obj_lt c1
  clear hs1
  go_wp2_with (first | (go_at_call 47; refine (l00In_any _ _ _ _).mono ?_; rintro e w' ⟨rfl, rfl⟩; rw [h2]) | (at_builtin; refine wpList_app slTones rfl _ _ rfl w1.heap.size (.slice (some ⟨w1.heap.size, 0, none⟩) 0 0) 0 [] rfl (prow_empty (f := fp) (obj_alloc_at _ _ _ rfl) (Nat.le_refl _)) ⟨gs, offs, none⟩ n cp (irow (n * 3) .u8 fp) rfl (by simp) (news_sl3 ((obj_alloc_past _ _ _ r5).trans o5) hel5.out) irow_one (by omega) (by unfold maxLen; omega) (by omega) (by simp) ?_))
  intro g1 cap1 w2 hown hg2 hat hlt2
  try simp only [Nat.zero_add, List.nil_append] at hown
  try simp only [Nat.zero_add]
  have hrow : PRow w2 w1.heap.size (.slice (some ⟨g1, 0, none⟩) n cap1) n fp := hown
  have hn2 : New w1 w2 := grown_new ((New.refl w1).alloc _) hg2 fun b hb => by simp [Value.ownBlock] at hb; omega
  have c2 := (hn2.objs _ r1).trans c1
  have hN2 := hN1.trans hn2
  have hz2 := hn2.le
  clear hown hg2 hat o5 c1 hN1 hn2 hel5 h2
  go_wp2_with (fail)
  go_loopw [10, 11] (fun v x wr => ∃ (k : Nat) (p : Nat → Int), k ≤ R ∧ x = .int .i64 k ∧ PRow wr w1.heap.size v n p ∧ Hid (∀ i, 0 ≤ p i ∧ p i ≤ 255) ∧ Hid (mvO n fm a b (R - k) k p = OUT) ∧ Hid (obj wr W.heap.size = some (.cells (pic 432 a b fm) 29)) ∧ New W wr ∧ w1.heap.size ≤ wr.heap.size) (fun _ x _ => R - (intOf x).toNat)
  case atStart => exact ⟨0, fp, by omega, rfl, hrow, hfp, hOUT', c2, hN2, by omega⟩
  case round =>
    obtain ⟨k, p, hk, rfl, hrow, hp, hOut, hc, hnw, hlw⟩ := hrel
    have c3 := hc.out
    obtain ⟨x3, y3, rfl⟩ := hrow.form
    clear c2 hN2
    by_cases hlt : k < R
    · have r3 := obj_lt c3
      go_wp2_with (fail)
      refine (l02Picture_any _ 29 a b fm ha hb hfm _ n _ p hp.out hpos.1 hpos.2 _ c3 hrow.sl).mono ?_
      rintro e w3 ⟨rfl, hn3⟩
      have hcl := hide (cl_pic n p fm a b)
      have hqb := hide (picS_b n p fm a b hpos.2)
      generalize picS n p fm a b 144 = qf at hcl hqb
      have c4 := (hn3.objs _ r3).trans c3
      have hrow3 := hrow.new hn3
      have hN3 := hnw.trans hn3
      have hz3 := hn3.le
      clear c3 hrow hnw hn3 hc
      obtain ⟨go, co, cuo, he, hbo, oo, _, hso, heo⟩ := hrow3.at hpos.1
      simp only [Value.slice.injEq, true_and] at he
      obtain ⟨rfl, rfl⟩ := he
      have ro := obj_lt oo
      have heo := hide heo
      go_wp2_with (at_builtin; refine wpList_app slTones rfl _ _ rfl (w3.heap.size + 1) (.slice (some ⟨w3.heap.size + 1, 0, none⟩) 0 0) 0 [] rfl (prow_empty (f := p) (obj_alloc_at _ _ _ (by simp)) (Nat.le_refl _)) ⟨go, 0, none⟩ n y3 (irow (n * 3) .u8 p) rfl (by simp) (news_sl3 ((obj_alloc_past _ _ _ (by simp; omega)).trans ((obj_alloc_past _ _ _ ro).trans oo)) (fun j hj => by rw [Nat.zero_add]; exact heo.out j hj)) irow_one (by omega) (by unfold maxLen; omega) (by omega) (by simp) ?_)
      intro gx capx w5 hownx hgx hatx hltx
      try simp only [Nat.zero_add, List.nil_append] at hownx
      try simp only [Nat.zero_add]
      have hrowx : PRow w5 (w3.heap.size + 1) (.slice (some ⟨gx, 0, none⟩) n capx) n (mvU n fm a b p 0) := by rw [mvU_0]; exact hownx
      have hn4 : New (w3.alloc (Obj.cells (pic 144 a b qf) 41)) w5 := grown_new ((New.refl _).alloc _) hgx fun b hb => by simp [Value.ownBlock] at hb; simp; omega
      have hn5 : New w3 w5 := ((New.refl _).alloc _).trans hn4
      have d5 : obj w5 w3.heap.size = some (.cells (pic 144 a b qf) 41) := (hn4.objs _ (by simp)).trans (obj_alloc_at _ _ _ rfl)
      have c6 := (hn5.objs _ (obj_lt c4)).trans c4
      have hrow5 := hrow3.new hn5
      have hN5 := hN3.trans hn5
      have hgxb := (hrowx.block gx rfl).1
      have hz5 := hn4.le
      simp at hz5
      clear hownx hgx hatx oo heo hso hbo c4 hrow3 hN3 hn4 hn5
      go_wp2_with (fail)
      have t1 := obj_lt d5
      have t2 := obj_lt c6
      go_loopw [14] (fun x wq => ∃ c : Nat, c ≤ n ∧ x = .int .i64 c ∧ PRow wq (w3.heap.size + 1) (.slice (some ⟨gx, 0, none⟩) n capx) n (mvU n fm a b p c) ∧ w5.grownBy wq (some gx)) (fun x _ => n - (intOf x).toNat)
      case atStart => exact ⟨0, by omega, rfl, hrowx, grown_refl _ _⟩
      case round =>
        obtain ⟨c, hcn, rfl, hrx, hg⟩ := hrel
        have e5 := (grown_step hg t1 (by omega)).trans d5
        have f5 := (grown_step hg t2 (by omega)).trans c6
        have hle := hg.size
        by_cases hltc : c < n
        · have u1 := obj_lt e5
          have u2 := obj_lt f5
          clear d5 c6 hrow5
          go_wp2_with (fail)
          obtain ⟨B, hB, hB2⟩ : ∃ B, B ≤ wr.heap.size ∧ wr.heap.size ≤ B := ⟨_, Nat.le_refl _, Nat.le_refl _⟩
          go_loopw [15, 16] (fun v x wi => ∃ i : Nat, i ≤ 144 ∧ x = .int .i64 i ∧ Row wi B v (selN (clP n p fm a b c) i) (fun j => (selG (clP n p fm a b c) i j : Int)) ∧ New wr wi ∧ B < wi.heap.size) (fun _ x _ => 144 - (intOf x).toNat)
          case atStart => exact ⟨0, by omega, rfl, row_empty2 (obj_alloc_at _ _ _ rfl) (by omega), (New.refl _).alloc _, by simp; omega⟩
          case round =>
            obtain ⟨i, hi, rfl, hri, hni, hBi⟩ := hrel
            have hsn := selN_le (p := clP n p fm a b c) i
            obtain ⟨x5, y5, rfl, _⟩ := hri.reads
            by_cases hlti : i < 144
            · have e6 := (hni.objs _ u1).trans e5
              have u6 := obj_lt e6
              have hqi := hqb.out i
              have hmm : (qf i == (c : Int) + 1) = clP n p fm a b c i := hcl.out c i hlti
              cases hP : clP n p fm a b c i
              · rw [hP] at hmm
                have s1 := hide (selN_f hP)
                have s2 := hide (selG_f hP)
                clear hP
                go_wp2_with (fail)
                go_roundw
                case rel => exact ⟨i + 1, by omega, by go_num, by rw [s1.out, s2.out]; exact hri, hni, hBi⟩
                case measure => simp [intOf]; omega
              · rw [hP] at hmm
                have s1 := hide (selN_t hP)
                have s2 := hide (selG_t hP)
                clear hP
                have hbk := hri.block
                go_wp2_with (at_builtin; refine wpList_app slInts rfl _ _ rfl B _ _ _ rfl (hri.new ((New.refl _).alloc _)) ⟨wr.heap.size, 0, none⟩ 1 1 [.int .i64 i] rfl rfl (news_new _ _ _ _ _ rfl) (by simp [Value.oneCell']) (by omega) (by unfold maxLen; omega) (by omega) (by simp; omega) ?_)
                intro g6 cap6 w6 hown6 hg6 hat6 hlt6
                have hr6 := row_app2 hown6
                have hn6 : New _ w6 := grown_new (hni.alloc _) hg6 fun b hb => by have := (hbk b hb).1; omega
                have hz6 := grown_le hg6
                simp at hz6
                clear hown6 hg6 hat6 hri hni hbk e6 u6
                go_wp2_with (fail)
                go_roundw
                case rel =>
                  refine ⟨i + 1, by omega, by go_num, ?_, hn6, by omega⟩
                  rw [s1.out, s2.out]
                  refine hr6.congr fun j hj => ?_
                  unfold upd
                  dsimp only
                  by_cases e : j = selN (clP n p fm a b c) i
                  · rw [if_pos e, if_pos e]
                  · rw [if_neg e, if_neg e]
                case measure => simp [intOf]; omega
            · obtain rfl : i = 144 := by omega
              have hNd : Hid (clN n p fm a b c = selN (clP n p fm a b c) 144) := rfl
              have hzz : ∀ j, j < selN (clP n p fm a b c) 144 → 0 ≤ (selG (clP n p fm a b c) 144 j : Int) ∧ (selG (clP n p fm a b c) 144 j : Int) < 144 := fun j hj => by have := (selG_lt (p := clP n p fm a b c) 144 j hj).1; omega
              have hzz := hide hzz
              have hrx1 := hrx.new hni
              have f6 := (hni.objs _ u2).trans f5
              by_cases h0 : 0 < selN (clP n p fm a b c) 144
              · have hput := hide (putT_mv (n := n) (fm := fm) (fp := p) (a := a) (b := b) (c := c) (by rw [hNd.out]; exact h0))
                have hgi := grown_new2 hg hni
                clear hg hrx e5 f5 u1 u2
                have u7 := obj_lt f6
                have hsl := hri.sl
                clear hri hni
                go_wp2_with (fail)
                refine (l02Mean_any _ 29 a b fm hfm _ _ _ _ hzz.out h0 (by omega) _ f6 hsl).mono ?_
                rintro e w7 ⟨rfl, hn7⟩
                have hrx7 := hrx1.new hn7
                have hg7 := grown_new2 hgi hn7
                have hmz : Hid (meanZ fm (fun j => (selG (clP n p fm a b c) 144 j : Int)) (selN (clP n p fm a b c) 144) = meanZ fm (clG n p fm a b c) (clN n p fm a b c)) := rfl
                generalize meanZ fm (fun j => (selG (clP n p fm a b c) 144 j : Int)) (selN (clP n p fm a b c) 144) = D at hmz
                obtain ⟨gg, cc, cux, he, hbb, ox, _, hsx, hex⟩ := hrx7.at (by omega)
                simp only [Value.slice.injEq, Option.some.injEq, Addr.mk.injEq, and_true, true_and] at he
                obtain ⟨rfl, rfl⟩ := he
                have rx := obj_lt ox
                have lx : c * 3 + 3 ≤ cux.size := by omega
                clear hex hrx1 hgi hn7 f6 u7 hsl
                go_wp2_with (fail)
                go_roundw
                case rel => exact ⟨c + 1, by omega, by go_num, by rw [← hput.out, ← hmz.out]; exact hrx7.put ox hltc, setRow_grown hg7 _⟩
                case measure => simp [intOf]; omega
              · have hput := hide (mvU_skip (n := n) (fm := fm) (fp := p) (a := a) (b := b) (c := c) (by rw [hNd.out]; exact h0))
                have hgi := grown_new2 hg hni
                clear hg hrx hri hni e5 f5 u1 u2
                go_wp2_with (fail)
                go_roundw
                case rel => exact ⟨c + 1, by omega, by go_num, by rw [hput.out]; exact hrx1, hgi⟩
                case measure => simp [intOf]; omega
        · obtain rfl : n = c := by omega
          have hrm : PRow wr (w3.heap.size + 1) (.slice (some ⟨gx, 0, none⟩) n capx) n (mvP n fm a b p) := hrx.congr mvU_n
          have hrow7 : PRow wr w1.heap.size (.slice (some ⟨go, 0, none⟩) n y3) n p := hrow5.same fun q hq => by
            simp [Value.ownBlock] at hq
            subst hq
            exact grown_step hg (by omega) (by omega)
          have hN7 : New W wr := grown_new hN5 hg fun q hq => by simp at hq; omega
          have hmb := hide fun i => mvP_b (n := n) (a := a) (b := b) hfm hp.out i
          have hRk : R - k = (R - (k + 1)) + 1 := by omega
          have hOut1 : Hid (mvO n fm a b (R - (k + 1) + 1) k p = OUT) := by show _ = _; rw [← hRk]; exact hOut.out
          clear hrx hrow5 hN5 hg e5 t1 t2 d5 c6 hOut hRk
          generalize hmv : mvP n fm a b p = p1 at hrm hmb
          have hmv1 := hide hmv
          clear hmv
          go_wp2_with (fail)
          refine (l02Palette_any _ n _ p1 hn _ hrm.sl).mono ?_
          rintro e w8 ⟨rfl, hn8⟩
          have hrm8 := hrm.new hn8
          have hrow8 := hrow7.new hn8
          have f8 := (hn8.objs _ (obj_lt f5)).trans f5
          have hN8 := hN7.trans hn8
          have hz8 := hN8.le
          have hz8b := hn8.le
          clear hrm hrow7 f5 hN7 hn8
          cases hok : okPal n p1
          · have hO : Hid (OUT = (4, 0, fun _ => 0)) := by show _ = _; rw [← hOut1.out]; exact mvO_bad (by rw [hmv1.out]; exact hok)
            go_wp2_with (fail)
            go_ret3
            exact ⟨_, by rw [hM.out, hC.out, hO.out]; rfl, by rw [hN.out, hO.out]; exact prow_empty (obj_alloc_at _ _ _ rfl) (by omega), hN8.alloc _⟩
          · have hok1 := hide hok
            clear hok
            go_wp2_with (fail)
            refine (samePal_ref _ _ n n _ _ p1 p hn hn _ hrm8.sl hrow8.sl).mono ?_
            rintro e w9 ⟨rfl, hn9⟩
            have hrm9 := hrm8.new hn9
            have f9 := (hn9.objs _ (obj_lt f8)).trans f8
            have hN9 := hN8.trans hn9
            have hz9 := hn9.le
            clear hrm8 hrow8 f8 hN8 hn9
            cases hsm : samePal n n p1 p
            · have hO : Hid (mvO n fm a b (R - (k + 1)) (k + 1) p1 = OUT) := by
                show _ = _
                rw [← hOut1.out, mvO_next (by rw [hmv1.out]; exact hok1.out) (by rw [hmv1.out]; exact hsm), hmv1.out]
              clear hsm
              go_wp2_with (fail)
              go_roundw
              case rel => exact ⟨k + 1, p1, by omega, by go_num, hrm9.lower (by omega), hmb, hO, f9, hN9, by omega⟩
              case measure => simp [intOf]; omega
            · have hO : Hid (OUT = (0, k + 1, p)) := by show _ = _; rw [← hOut1.out]; exact mvO_same (by rw [hmv1.out]; exact hok1.out) (by rw [hmv1.out]; exact hsm)
              have hcg := hide (same_at hsm)
              clear hsm
              go_wp2_with (fail)
              go_ret3
              exact ⟨_, by rw [hM.out, hC.out, hO.out]; rfl, by rw [hN.out, hF.out, hO.out]; exact (hrm9.congr hcg.out).lower (by omega), hN9⟩
    · obtain rfl : k = R := by omega
      have hO : OUT = (0, k, p) := by rw [← hOut.out, Nat.sub_self]; rfl
      go_wp2_with (fail)
      go_ret3
      exact ⟨_, by rw [hM.out, hC.out, hO]; rfl, by rw [hN.out, hF.out, hO]; exact hrow.lower (by omega), hnw⟩
end Go.Proofs.Ytpphckfalgapdaa
/- Tones that move to the means of their cells: what the program returns; no condition. -/
set_option linter.unusedVariables false
namespace Go.Proofs.Ytpphckfalgapdaa
open Go.BigFrame
open Go.RowKit Go.Arr
attribute [local go_sem] mkRows
set_option maxHeartbeats 8000000 in
set_option maxRecDepth 100000 in
theorem move_impl (a b : Int) (fm : Nat → Int) (ha : -128 ≤ a ∧ a ≤ 127) (hb : -128 ≤ b ∧ b ≤ 127) (hfm : ∀ i, 0 ≤ fm i ∧ fm i ≤ 255) (ad : Option Addr) (n cp : Nat) (fp : Nat → Int) (hfp : ∀ i, 0 ≤ fp i ∧ fp i ≤ 255) (hn : n ≤ 1048576) (hcp : n ≤ cp) (r : Int) (W : World) (hs : Sl W (.slice ad n cp) n 3 .u8 fp) :
    Calls Try.prog 15 #[.agg (pic 432 a b fm), .slice ad n cp, .int .i64 r] W fun e w' => ∃ v, e = .returned (.tuple #[v, .int .i64 (mvM a b fm n fp r), .int .i64 (mvC a b fm n fp r)]) ∧ PRow w' W.heap.size v (mvN a b fm n fp r) (mvF a b fm n fp r) ∧ New W w' := by
  go_enter Try.func15, Try.ntmps15
  go_wp2_with (fail)
  generalize hw0 : W.alloc (Obj.cells (pic 432 a b fm) 29) = w0
  have b1 : obj w0 W.heap.size = some (.cells (pic 432 a b fm) 29) := by subst hw0; go_simp
  have hn0 : New W w0 := by subst hw0; exact (New.refl W).alloc _
  have hs0 := hs.new hn0
  clear hw0 hs
  refine (validImage_impl a b fm ha hb _).mono ?_
  rintro e w1 ⟨rfl, hn1⟩
  have c1 := (hn1.objs _ (obj_lt b1)).trans b1
  have hs1 := hs0.new hn1
  have hN1 := hn0.trans hn1
  clear b1 hs0 hn0 hn1
  cases h1 : okImg a b fm
  · have hC : Hid (mvC a b fm n fp r = 1) := if_pos (by unfold askOk; rw [h1]; rfl)
    have hM : Hid (mvM a b fm n fp r = 0) := if_neg (by rw [hC.out]; omega)
    have hN : Hid (mvN a b fm n fp r = 0) := if_neg (by rw [hC.out]; omega)
    clear h1
    go_wp2_with (go_at_call 28; refine (within_any _ _ _ _).mono ?_; rintro e w' ⟨rfl, rfl⟩)
    refine (codeOf_any _ _ _).mono ?_
    rintro e w9 ⟨rfl, rfl⟩
    simp only [codeB]
    go_wp2_with (fail)
    go_ret3
    exact ⟨_, by rw [hM.out, hC.out]; rfl, by rw [hN.out]; exact PRow.nil, hN1⟩
  go_wp2_with (fail)
  refine (validPal_impl _ n _ fp hn hcp _ hs1).mono ?_
  rintro e w2 ⟨rfl, hn2⟩
  have d1 := (hn2.objs _ (obj_lt c1)).trans c1
  have hs2 := hs1.new hn2
  have hN2 := hN1.trans hn2
  clear c1 hs1 hN1 hn2
  cases h2 : okPal n fp
  · have hC : Hid (mvC a b fm n fp r = 1) := if_pos (by unfold askOk; rw [h2, Bool.and_false])
    have hM : Hid (mvM a b fm n fp r = 0) := if_neg (by rw [hC.out]; omega)
    have hN : Hid (mvN a b fm n fp r = 0) := if_neg (by rw [hC.out]; omega)
    clear h1 h2
    go_wp2_with (go_at_call 28; refine (within_any _ _ _ _).mono ?_; rintro e w' ⟨rfl, rfl⟩)
    refine (codeOf_any _ _ _).mono ?_
    rintro e w9 ⟨rfl, rfl⟩
    simp only [codeB]
    go_wp2_with (fail)
    go_ret3
    exact ⟨_, by rw [hM.out, hC.out]; rfl, by rw [hN.out]; exact PRow.nil, hN2⟩
  have hok : askOk a b fm n fp = true := by unfold askOk; rw [h1, h2]; rfl
  have hpos := okPal_pos h2
  clear h1 h2
  cases hib : inB r 0 50
  · have hC : Hid (mvC a b fm n fp r = 2) := by show _ = _; unfold mvC; rw [if_neg (by rw [hok]; simp), if_pos hib]
    have hM : Hid (mvM a b fm n fp r = 0) := if_neg (by rw [hC.out]; omega)
    have hN : Hid (mvN a b fm n fp r = 0) := if_neg (by rw [hC.out]; omega)
    clear hok
    go_wp2_with (go_at_call 28; refine (within_any _ _ _ _).mono ?_; rintro e w' ⟨rfl, rfl⟩; rw [hib])
    refine (codeOf_any _ _ _).mono ?_
    rintro e w9 ⟨rfl, rfl⟩
    simp only [codeB]
    go_wp2_with (fail)
    go_ret3
    exact ⟨_, by rw [hM.out, hC.out]; rfl, by rw [hN.out]; exact PRow.nil, hN2⟩
  have h3 := inB_t.1 hib
  obtain ⟨R, rfl⟩ : ∃ R : Nat, r = R := ⟨r.toNat, by omega⟩
  have hC : Hid (mvC a b fm n fp R = (mvO n fm a b R 0 fp).1) := by show _ = _; unfold mvC; rw [if_neg (by rw [hok]; simp), if_neg (by rw [hib]; simp), Int.toNat_natCast]
  have hM : Hid (mvM a b fm n fp R = if (mvO n fm a b R 0 fp).1 = 0 then (((mvO n fm a b R 0 fp).2.1 : Nat) : Int) else 0) := by show _ = _; unfold mvM; rw [hC.out, Int.toNat_natCast]
  have hN : Hid (mvN a b fm n fp R = if (mvO n fm a b R 0 fp).1 = 0 then n else 0) := by show _ = _; unfold mvN; rw [hC.out]
  have hF : Hid (mvF a b fm n fp R = (mvO n fm a b R 0 fp).2.2) := by show _ = _; unfold mvF; rw [Int.toNat_natCast]
  generalize hOUT : mvO n fm a b R 0 fp = OUT at hC hM hN hF
  have hOUT' := hide hOUT
  clear hOUT hok
  have hWl := hN2.le
  have r1 := obj_lt d1
  go_wp2_with (go_at_call 28; refine (within_any _ _ _ _).mono ?_; rintro e w' ⟨rfl, hw'⟩; subst hw'; rw [hib])
  refine (codeOf_any _ _ _).mono ?_
  rintro e w9 ⟨rfl, hw'⟩
  subst hw'
  simp only [codeB]
  clear hib
  go_wp2_with (fail)
  refine (clonePal_any ad n cp fp hpos.1 hn _ hs2).mono ?_
  rintro e w3 ⟨g1, cap1, rfl, hrow, hn3⟩
  have c2 := (hn3.objs _ r1).trans d1
  have hN3 := hN2.trans hn3
  have hz3 := hn3.le
  clear hN2 hn3 d1 hs2
  go_wp2_with (fail)
  go_loopw [10, 11] (fun v x wr => ∃ (k : Nat) (p : Nat → Int), k ≤ R ∧ x = .int .i64 k ∧ PRow wr w2.heap.size v n p ∧ Hid (∀ i, 0 ≤ p i ∧ p i ≤ 255) ∧ Hid (mvO n fm a b (R - k) k p = OUT) ∧ Hid (obj wr W.heap.size = some (.cells (pic 432 a b fm) 29)) ∧ New W wr ∧ w2.heap.size ≤ wr.heap.size) (fun _ x _ => R - (intOf x).toNat)
  case atStart => exact ⟨0, fp, by omega, rfl, hrow, hfp, hOUT', c2, hN3, by omega⟩
  case round =>
    obtain ⟨k, p, hk, rfl, hrow, hp, hOut, hc, hnw, hlw⟩ := hrel
    have c3 := hc.out
    obtain ⟨x3, y3, rfl⟩ := hrow.form
    clear c2 hN3
    by_cases hlt : k < R
    · have q3 := obj_lt c3
      obtain ⟨go, hgo⟩ : ∃ go, wr.heap.size = go := ⟨_, rfl⟩
      have q4 : W.heap.size < go := by omega
      have hnb := hide hrow.block
      go_wp2_with (fail)
      refine (cells_any a b fm ha hb _).mono ?_
      rintro e w4 ⟨cv, rfl, hrc, hn4⟩
      have hnn : New wr w4 := ((New.refl _).alloc _).trans hn4
      have hrr : RR w4 go (.slice (some ⟨go, 0, none⟩) n n) n (fun _ => .slice none 0 0) (fun c => (clsT n p fm a b 0 c).1) (fun c j => ((clsT n p fm a b 0 c).2 j : Int)) := (RR.made (F := fun c j => ((clsT n p fm a b 0 c).2 j : Int)) (obj_alloc_at wr _ go (by omega)) (Nat.le_refl _) (by unfold maxLen; omega)).new hn4
      have hrow4 := hrow.new hnn
      have c4 := (hnn.objs _ q3).trans c3
      have hN4 := hnw.trans hnn
      have hz4 := hn4.le
      simp [hgo] at hz4
      obtain ⟨x6, y6, rfl, _⟩ := hrc.reads
      have hcb := hide hrc.block
      have hle := selN_le (p := cellN a b) 144
      have hsel := hide (selG_lt (p := cellN a b) 144)
      have hend := hide (clsT_end n p fm a b)
      have hcs := hide (clsT_s n p fm a b)
      have hcl := hide (clsT_le n p fm a b)
      generalize hT : clsT n p fm a b = T at hrr hend hcs hcl
      clear hT
      clear hrow c3 hnw hn4 hnn hc
      go_wp2_with (fail)
      generalize selN (cellN a b) 144 = NC at hrc hle hsel hend ⊢
      go_loopw [43] (fun x wq => ∃ (t : Nat) (vs : Nat → Value), t ≤ NC ∧ x = .int .i64 t ∧ RR wq go (.slice (some ⟨go, 0, none⟩) n n) n vs (fun c => (T t c).1) (fun c j => ((T t c).2 j : Int)) ∧ Hid (∀ (j q : Nat), j < n → (vs j).ownBlock = some q → w4.heap.size ≤ q) ∧ w4.grownBy wq (some go)) (fun x _ => NC - (intOf x).toNat)
      case atStart => exact ⟨0, _, by omega, rfl, hrr, fun j q hj hq => by simp [Value.ownBlock] at hq, grown_refl _ _⟩
      case round =>
        obtain ⟨t, vs, ht, rfl, hrq, hvs, hg⟩ := hrel
        clear hrr
        have e4 := (grown_step hg (obj_lt c4) (by omega)).trans c4
        have hrowq : PRow wr w2.heap.size (.slice x3 n y3) n p := hrow4.same fun q hq => grown_step hg (by have := (hrow4.block q hq).2; omega) (by have := (hnb.out q hq).2; omega)
        have hle4 := hg.size
        have u4 := obj_lt e4
        by_cases hlt2 : t < NC
        · obtain ⟨hi1, hi2⟩ := hsel.out t hlt2
          have hst := hide (hcs.out t)
          have htl := hcl.out t
          obtain ⟨gl, off, cur, tt, fr, rfl, o1, hel⟩ := elInts hrc.sl (by omega)
          obtain ⟨l1, e1⟩ := hel t hlt2
          try dsimp only at e1
          have hgl := hcb.out gl rfl
          simp [hgo] at hgl
          have o2 := (grown_step hg hgl.2 (by omega)).trans o1
          have u2 := obj_lt o2
          generalize selG (cellN a b) 144 t = i at hi1 hi2 hst e1
          have hx : (pic 432 a b fm).extract (2 + i * 3) (2 + i * 3 + 3) = #[.int .u8 (fm (i * 3)), .int .u8 (fm (i * 3 + 1)), .int .u8 (fm (i * 3 + 2))] := pic3 (by omega) rfl
          have lx : 2 + i * 3 + 3 ≤ 434 := by omega
          have hnl := nearI_lt p fm i hpos.1
          clear hel o1 hi2 c4 hrow4
          go_wp2_with (fail)
          refine (nearest_any x3 n y3 p _ _ _ (hfm _) (hfm _) (hfm _) hp.out hn hpos.1 _ hrowq.sl).mono ?_
          rintro e w7 ⟨rfl, hn7⟩
          have hnr : (nearK p (fm (i * 3)) (fm (i * 3 + 1)) (fm (i * 3 + 2)) n).1 = nearI n p fm i := rfl
          rw [hnr]
          clear hnr
          have hst' := hide (show ∃ c, c = nearI n p fm i ∧ c < n from ⟨_, rfl, hnl⟩)
          obtain ⟨c, hcc, hcn⟩ := hst'.out
          rw [← hcc]
          have hccH := hide hcc
          clear hcc hst' hnl
          have hr7 := hrq.new hn7
          have hg7 := grown_new2 hg hn7
          have hz7 := hn7.le
          obtain ⟨gg, cuo, he, oo, lo, eo⟩ := hr7.slot hcn
          simp only [Option.some.injEq, Addr.mk.injEq, and_true] at he
          subst he
          have hrc7 := hr7.row hcn
          obtain ⟨x8, y8, hv8, _⟩ := hrc7.reads
          have htc := htl c
          have hbk := hide hrc7.block
          have hvc := hide (hvs.out c)
          have hro : Row w7 go (.slice x8 (T t c).1 y8) (T t c).1 (fun j => ((T t c).2 j : Int)) := by rw [← hv8]; exact hrc7
          have uo := obj_lt oo
          have hng : (Value.slice x8 (T t c).1 y8).ownBlock ≠ some go := by rw [← hv8]; exact fun e => hr7.2.2.2 c go hcn e rfl
          have hngH := hide hng
          rw [hv8] at eo
          have hv8H := hide hv8
          clear hrq hn7 hg e4 u4 o2 u2 hx lx hrowq hrc7 hng hv8 htl
          go_wp2_with (at_builtin; refine wpList_app slInts rfl _ _ rfl go _ _ _ rfl (hro.new ((New.refl _).alloc _)) ⟨w7.heap.size, 0, none⟩ 1 1 [.int .i64 i] rfl rfl (news_new _ _ _ _ _ rfl) (by simp [Value.oneCell']) (by omega) (by unfold maxLen; omega) (by omega) (by simp; omega) ?_)
          intro gz capz w8 hownz hgz hatz hltz
          have hr8 := row_app2 hownz
          have o8 : obj w8 go = some (.cells cuo 35) := (grown_obj hgz go (by simp; omega) fun e => hngH.out e.symm).trans ((obj_alloc_past _ _ _ uo).trans oo)
          have hz8 := grown_le hgz
          simp at hz8
          have hpt := RR.put (hr7.new ((New.refl _).alloc (Obj.cells #[Value.int IntKind.i64 (i : Int)] 2))) hcn hr8 (by rw [hv8H.out]; exact hgz) (fun q hq => by rw [hv8H.out]; simp only [Value.ownBlock, Option.some.injEq] at hq; subst hq; exact hatz.imp id fun h => by first | exact Nat.le_of_eq h.symm | (simp; omega))
          have hvs8 : Hid (∀ (j q : Nat), j < n → ((fun j => if j = c then Value.slice (some ⟨gz, 0, none⟩) ((T t c).1 + 1) capz else vs j) j).ownBlock = some q → w4.heap.size ≤ q) := fun j q hj hq => by
            by_cases e : j = c
            · simp only [if_pos e, Value.ownBlock, Option.some.injEq] at hq
              subst hq
              rcases hatz with h | h
              · exact hvs.out c _ hcn (by rw [hv8H.out]; exact h)
              · (try simp at h); omega
            · simp only [if_neg e] at hq; exact hvs.out j q hj hq
          have hg8 : w4.grownBy (w8.setCell ⟨go, c, none⟩ (Value.slice (some ⟨gz, 0, none⟩) ((T t c).1 + 1) capz)) (some go) := setCell_grown (grown_over (grown_new2 hg7 ((New.refl _).alloc _)) hgz fun q hq => Or.inl (hvs.out c q hcn (by rw [hv8H.out]; exact hq))) _ _
          have u8 := obj_lt o8
          clear hownz hgz hatz hro hr7 hg7 oo uo hr8
          go_wp2_with (fail)
          have hm1 : (fun c' => (T (t + 1) c').1) = fun c' => if c' = c then (T t c).1 + 1 else (T t c').1 := by rw [hst.out, stp_m, ← hccH.out]
          have hF1 : (fun c' j => ((T (t + 1) c').2 j : Int)) = fun c' => if c' = c then (fun j => upd (fun j => ((T t c).2 j : Int)) (T t c).1 i j) else fun j => ((T t c').2 j : Int) := by rw [hst.out, stp_F, ← hccH.out]
          go_roundw
          case rel => exact ⟨t + 1, _, by omega, by go_num, by rw [hm1, hF1]; exact hpt, hvs8, hg8⟩
          case measure => simp [intOf]; omega
        · obtain rfl : NC = t := by omega
          have hTe := hend.out
          have hrq : RR wr go (.slice (some ⟨go, 0, none⟩) n n) n vs (clN n p fm a b) (fun c => clG n p fm a b c) := by
            have h := hrq
            rw [show (fun c => (T NC c).1) = clN n p fm a b from by rw [hTe], show (fun c j => ((T NC c).2 j : Int)) = fun c => clG n p fm a b c from by rw [hTe]; rfl] at h
            exact h
          have hN7 : New W wr := grown_new hN4 hg fun q hq => by simp at hq; omega
          clear hTe hend hcs hcl hsel hg c4 hrow4 hrc hcb hN4
          go_wp2_with (fail)
          refine (clonePal_any x3 n y3 p hpos.1 hn _ hrowq.sl).mono ?_
          rintro e w9 ⟨gx, capx, rfl, hrx, hn9⟩
          have hrx0 : PRow w9 wr.heap.size (.slice (some ⟨gx, 0, none⟩) n capx) n (mvU n fm a b p 0) := by rw [mvU_0]; exact hrx
          have hgxb := hrx.block gx rfl
          have hcx : n ≤ capx := by
            obtain ⟨g', c', cu', h1, h2, h3, h4, _⟩ := hrx.at hpos.1
            simp only [Value.slice.injEq, true_and] at h1
            omega
          have hrr9 := hrq.new hn9
          have hgw : go < wr.heap.size := (hrq.block go rfl).2
          have hvb : Hid (∀ (j q : Nat), j < n → (vs j).ownBlock = some q → q < wr.heap.size) := fun j q hj hq => ((hrq.row hj).block q hq).2
          have hrow9 := hrowq.new hn9
          have hnb9 : Hid (∀ q, (Value.slice x3 n y3).ownBlock = some q → q < wr.heap.size) := fun q hq => (hrowq.block q hq).2
          have c9 := (hn9.objs _ u4).trans e4
          have hN9 := hN7.trans hn9
          have hz9 := hn9.le
          clear hrx hrq hrowq hN7 hn9 e4
          go_wp2_with (fail)
          go_loopw [71] (fun x wq => ∃ c : Nat, c ≤ n ∧ x = .int .i64 c ∧ PRow wq w2.heap.size (.slice (some ⟨gx, 0, none⟩) n capx) n (mvU n fm a b p c) ∧ w9.grownBy wq (some gx)) (fun x _ => n - (intOf x).toNat)
          case atStart => exact ⟨0, by omega, rfl, hrx0.lower (by omega), grown_refl _ _⟩
          case round =>
            obtain ⟨c, hcn, rfl, hrc, hg⟩ := hrel
            have e9 := (grown_step hg (obj_lt c9) (by omega)).trans c9
            have u9 := obj_lt e9
            by_cases hltc : c < n
            · have hrq : RR wr go (.slice (some ⟨go, 0, none⟩) n n) n vs (clN n p fm a b) (fun c => clG n p fm a b c) := hrr9.same (fun q hq => by simp only [Value.ownBlock, Option.some.injEq] at hq; subst hq; exact grown_step hg (by omega) (by omega)) (fun j q hj hq => by have := hvb.out j q hj hq; exact grown_step hg (by omega) (by omega))
              obtain ⟨gg, cuo, he, oo, lo, eo⟩ := hrq.slot hltc
              simp only [Option.some.injEq, Addr.mk.injEq, and_true] at he
              subst he
              have hrowc := hrq.row hltc
              obtain ⟨x8, y8, hv8, _⟩ := hrowc.reads
              rw [hv8] at eo
              have hslc : Sl wr (.slice x8 (clN n p fm a b c) y8) (clN n p fm a b c) 1 .i64 (clG n p fm a b c) := by rw [← hv8]; exact hrowc.sl
              have uo := obj_lt oo
              have hnle : clN n p fm a b c ≤ 144 := selN_le 144
              clear hrowc hv8 hrq hrr9 c9
              by_cases h0 : 0 < clN n p fm a b c
              · have hput := hide (putT_mv (n := n) (fm := fm) (fp := p) (a := a) (b := b) (c := c) h0)
                have hzz := hide (clG_b n p fm a b c)
                go_wp2_with (fail)
                refine (mean_any a b fm hfm _ _ _ _ hzz.out h0 (by omega) _ hslc).mono ?_
                rintro e w10 ⟨rfl, hn10⟩
                have hrc1 := hrc.new hn10
                have hg1 := grown_new2 hg hn10
                generalize meanZ fm (clG n p fm a b c) (clN n p fm a b c) = D at hput
                obtain ⟨gg, cc, cux, he, hbb, ox, _, hsx, hex⟩ := hrc1.at (by omega)
                simp only [Value.slice.injEq, Option.some.injEq, Addr.mk.injEq, and_true, true_and] at he
                obtain ⟨rfl, rfl⟩ := he
                have rx := obj_lt ox
                have lx : c * 3 + 3 ≤ cux.size := by omega
                clear hex hrc hg hn10 e9 u9 hslc oo uo
                go_wp2_with (fail)
                go_roundw
                case rel => exact ⟨c + 1, by omega, by go_num, by rw [← hput.out]; exact hrc1.put ox hltc, setRow_grown hg1 _⟩
                case measure => simp [intOf]; omega
              · have hput := hide (mvU_skip (n := n) (fm := fm) (fp := p) (a := a) (b := b) (c := c) h0)
                clear hslc e9 u9
                go_wp2_with (fail)
                go_roundw
                case rel => exact ⟨c + 1, by omega, by go_num, by rw [hput.out]; exact hrc, hg⟩
                case measure => simp [intOf]; omega
            · obtain rfl : n = c := by omega
              have hrm : PRow wr w2.heap.size (.slice (some ⟨gx, 0, none⟩) n capx) n (mvP n fm a b p) := hrc.congr mvU_n
              have hrow7 : PRow wr w2.heap.size (.slice x3 n y3) n p := hrow9.same fun q hq => by have := hnb9.out q hq; exact grown_step hg (by omega) (by omega)
              have hszg := hg.size
              have hN7 : New W wr := grown_new hN9 hg fun q hq => by simp at hq; omega
              have hmb := hide fun i => mvP_b (n := n) (a := a) (b := b) hfm hp.out i
              have hRk : R - k = (R - (k + 1)) + 1 := by omega
              have hOut1 : Hid (mvO n fm a b (R - (k + 1) + 1) k p = OUT) := by show _ = _; rw [← hRk]; exact hOut.out
              clear hrc hrow9 hN9 hg hrr9 c9 hRk hrx0 hOut
              generalize hmv : mvP n fm a b p = p1 at hrm hmb
              have hmv1 := hide hmv
              clear hmv
              go_wp2_with (fail)
              refine (validPal_impl _ n _ p1 hn hcx _ hrm.sl).mono ?_
              rintro e w11 ⟨rfl, hn8⟩
              have hrm8 := hrm.new hn8
              have hrow8 := hrow7.new hn8
              have f8 := (hn8.objs _ u9).trans e9
              have hN8 := hN7.trans hn8
              have hz8b := hn8.le
              clear hrm hrow7 e9 hN7 hn8
              cases hok : okPal n p1
              · have hO : Hid (OUT = (4, 0, fun _ => 0)) := by show _ = _; rw [← hOut1.out]; exact mvO_bad (by rw [hmv1.out]; exact hok)
                go_wp2_with (fail)
                go_ret3
                exact ⟨_, by rw [hM.out, hC.out, hO.out]; rfl, by rw [hN.out, hO.out]; exact PRow.nil, hN8⟩
              · have hok1 := hide hok
                clear hok
                go_wp2_with (fail)
                refine (samePal_lib _ _ n n _ _ p1 p hn hn _ hrm8.sl hrow8.sl).mono ?_
                rintro e w12 ⟨rfl, hn9⟩
                have hrm9 := hrm8.new hn9
                have hrow10 := hrow8.new hn9
                have f9 := (hn9.objs _ (obj_lt f8)).trans f8
                have hN9 := hN8.trans hn9
                have hz10 := hn9.le
                clear hrm8 hrow8 f8 hN8 hn9
                cases hsm : samePal n n p1 p
                · have hO : Hid (mvO n fm a b (R - (k + 1)) (k + 1) p1 = OUT) := by
                    show _ = _
                    rw [← hOut1.out, mvO_next (by rw [hmv1.out]; exact hok1.out) (by rw [hmv1.out]; exact hsm), hmv1.out]
                  clear hsm
                  go_wp2_with (fail)
                  go_roundw
                  case rel => exact ⟨k + 1, p1, by omega, by go_num, hrm9, hmb, hO, f9, hN9, by omega⟩
                  case measure => simp [intOf]; omega
                · have hO : Hid (OUT = (0, k + 1, p)) := by show _ = _; rw [← hOut1.out]; exact mvO_same (by rw [hmv1.out]; exact hok1.out) (by rw [hmv1.out]; exact hsm)
                  clear hsm
                  go_wp2_with (fail)
                  go_ret3
                  exact ⟨_, by rw [hM.out, hC.out, hO.out]; rfl, by rw [hN.out, hF.out, hO.out]; exact hrow10.lower (by omega), hN9⟩
    · obtain rfl : k = R := by omega
      have hO : OUT = (0, k, p) := by rw [← hOut.out, Nat.sub_self]; rfl
      go_wp2_with (fail)
      go_ret3
      exact ⟨_, by rw [hM.out, hC.out, hO]; rfl, by rw [hN.out, hF.out, hO]; exact hrow.lower (by omega), hnw⟩
end Go.Proofs.Ytpphckfalgapdaa
