/- The image that is drawn is valid; no condition. -/
import Derived.Test.YtpphckfalgapdaaU8
import Derived.Test.YtpphckfalgapdaaU1
import Derived.Test.YtpphckfalgapdaaU6
set_option linter.unusedVariables false
namespace Go.Proofs.Ytpphckfalgapdaa
open Go.BigFrame
open Go.RowKit Go.Arr
set_option maxHeartbeats 8000000 in
set_option maxRecDepth 100000 in
theorem l02Drawn_any (g : Nat) (ad : Option Addr) (n c A : Nat) (f : Nat → Int) (hA : A ≤ 500000) (hn : n ≤ 1000000) (hf : ∀ i, 0 ≤ f i ∧ f i ≤ 255) (W : World) (hs : Src W g ad n c f A) :
    Calls Try.prog 22 #[.pointer (some ⟨g, 0, none⟩)] W fun e w' => ∃ (a b : Int) (q : Nat → Int), e = .returned (.agg (pic 432 a b q)) ∧ (1 ≤ a ∧ a ≤ 5) ∧ (1 ≤ b ∧ b ≤ 4) ∧ GoodI a b q ∧ Src w' g ad n c f (A + 3000) ∧ W.grownBy w' (some g) := by
  have hgl := hs.lt
  have hadl : Hid (∀ a, ad = some a → a.block < W.heap.size ∨ n = 0) := fun a e => by
    subst e
    by_cases h0 : n = 0
    · exact Or.inr h0
    · obtain ⟨gq, offq, curq, tq, frq, he, oq, _⟩ := elBytes hs.2.1 (by omega)
      cases he
      exact Or.inl (obj_lt oq)
  have hf := hide hf
  go_enter Try.func22, Try.ntmps22
  go_wp2_with (fail)
  refine (pick_any g ad n c A f 5 (by omega) (by omega) hn hf.out _ (hs.new ((New.refl _).alloc _))).mono ?_
  rintro e w1 ⟨x, rfl, hx, hs1, hg1⟩
  go_wp2_with (fail)
  refine (pick_any g ad n c (A + 2) f 4 (by omega) (by omega) hn hf.out _ hs1).mono ?_
  rintro e w2 ⟨y, rfl, hy, hs2, hg2⟩
  obtain ⟨a, ha0, ha⟩ : ∃ a : Int, 1 + x = a ∧ 1 ≤ a ∧ a ≤ 5 := ⟨_, rfl, by omega, by omega⟩
  obtain ⟨b, hb0, hb⟩ : ∃ b : Int, 1 + y = b ∧ 1 ≤ b ∧ b ≤ 4 := ⟨_, rfl, by omega, by omega⟩
  go_wp2_with (fail)
  obtain ⟨P, hP⟩ : ∃ P, w2.heap.size = P := ⟨_, rfl⟩
  have hl1 := hg1.size
  have hl2 := hg2.size
  simp at hl1
  refine (palDrawn_any g ad n c (A + 2 + 2) f (by omega) hn hf.out _ (hs2.new ((New.refl _).alloc _))).mono ?_
  rintro e w3 ⟨gp, cp, m, p, rfl, hrow, hm, hokp, hpb, hs3, hg3⟩
  have hg3' : W.grownBy w3 (some g) := ((grown_over (grown_over (new_grown ((New.refl _).alloc _)) hg1 fun q hq => Or.inr (Option.some.inj hq).symm) hg2 fun q hq => Or.inr (Option.some.inj hq).symm).trans (new_grown ((New.refl _).alloc _))).trans hg3
  have hR : obj w3 W.heap.size = some (.cells (pic 432 0 0 fun _ => 0) 29) := (grown_step hg3 (by simp; omega) (by omega)).trans ((obj_alloc_past _ _ _ (by omega)).trans ((grown_step hg2 (by omega) (by omega)).trans ((grown_step hg1 (by simp) (by omega)).trans (obj_alloc_at _ _ _ rfl))))
  have hPo : obj w3 P = some (.cells (pic 432 a b fun _ => 0) 29) := (grown_step hg3 (by simp; omega) (by omega)).trans (obj_alloc_at _ _ _ hP.symm)
  have hPl := obj_lt hPo
  have hRl := obj_lt hR
  have hq0 : GoodI a b fun _ => 0 := ⟨fun j => ⟨Int.le_refl 0, by show (0 : Int) ≤ 255; omega⟩, fun i _ => ⟨rfl, rfl, rfl⟩⟩
  have hgpb := (hrow.block gp rfl).1
  simp at hgpb
  clear hs hs1 hs2 hg1 hg2 hg3 hokp
  go_wp2_with (fail)
  refine (one_any g ad n c (A + 2 + 2 + 50) f 2 (by omega) (by omega) hn hf.out _ hs3).mono ?_
  rintro e w4 ⟨wild, rfl, hs4, hg4⟩
  have hl4 := hg4.size
  have hrow4 := hrow.grown hg4 (by simp; omega)
  have hg4' := hg3'.trans hg4
  have hR4 := (grown_step hg4 hRl (by omega)).trans hR
  have hP4 := (grown_step hg4 hPl (by omega)).trans hPo
  obtain ⟨gq, offq, cuq, tq, frq, he, oq, hel⟩ := elsPal hrow4.sl (by omega)
  have he2 := Option.some.inj he
  simp only [Addr.mk.injEq, and_true] at he2
  obtain ⟨rfl, rfl⟩ := he2
  have hel := hide hel
  have hpb := hide hpb
  clear he hs3 hg3' hg4 hrow hrow4 hR hPo
  go_wp2_with (fail)
  go_loopw [6] (fun x wr => ∃ (i : Nat) (q : Nat → Int), i ≤ 144 ∧ x = .int .i64 i ∧ GoodI a b q ∧ Hid (obj wr P = some (.cells (pic 432 a b q) 29)) ∧ Hid (obj wr W.heap.size = some (.cells (pic 432 0 0 fun _ => 0) 29)) ∧ Hid (obj wr gp = some (.cells cuq tq frq)) ∧ Src wr g ad n c f (A + 60 + 10 * i) ∧ W.grownBy wr (some g)) (fun x _ => 144 - (intOf x).toNat)
  case atStart => exact ⟨0, fun _ => 0, by omega, rfl, hq0, hP4, hR4, oq, hs4.more (by omega), hg4'⟩
  case round =>
    clear hR4 hP4 hq0 hs4 hg4' oq
    obtain ⟨i, q, hi, rfl, hq, hPo, hR, hGo, hsr, hgr⟩ := hrel
    have p1 := hPo.out
    have l1 := obj_lt p1
    by_cases hlt : i < 144
    · cases hc : cellN a b i
      · have hc' : cellB (i : Int) a b = false := hc
        clear hc
        go_wp2_with (fail)
        refine (l02Cell_any P 29 a b q i (by omega) (by omega) _ p1).mono ?_
        rintro e w9 ⟨rfl, rfl⟩
        rw [hc']
        go_wp2_with (fail)
        go_roundw
        case rel => exact ⟨i + 1, q, by omega, by go_num, hq, hPo, hR, hGo, hsr.more (by omega), hgr⟩
        case measure => simp [intOf]; omega
      · have hc' : cellB (i : Int) a b = true := hc
        have hcH := hide hc
        clear hc
        go_wp2_with (fail)
        refine (l02Cell_any P 29 a b q i (by omega) (by omega) _ p1).mono ?_
        rintro e w9 ⟨rfl, rfl⟩
        rw [hc']
        go_wp2_with (fail)
        refine (pick_any g ad n c (A + 60 + 10 * i) f m (by omega) (by omega) hn hf.out _ hsr).mono ?_
        rintro e w5 ⟨y5, rfl, hy5, hs5, hg5⟩
        obtain ⟨k, rfl⟩ : ∃ t : Nat, y5 = t := ⟨y5.toNat, by omega⟩
        have hkm : k < m := by omega
        have p5 := (grown_step hg5 l1 (by omega)).trans p1
        have r5 := (grown_step hg5 (obj_lt hR.out) (by omega)).trans hR.out
        have u5 := (grown_step hg5 (obj_lt hGo.out) (by omega)).trans hGo.out
        have g5 := hgr.trans hg5
        have l5 := obj_lt p5
        have lu5 := obj_lt u5
        have lr5 := obj_lt r5
        obtain ⟨x2, l2⟩ := hel.out k hkm
        try simp only [Nat.zero_add] at x2 l2
        have hseg := fun (q : Nat → Int) (x y z : Int) => seg_put3 (a := a) (b := b) q i hlt x y z
        have l4 : 2 + i * 3 + 3 ≤ 434 := by omega
        have hq1 := hide (hq.put hcH.out (hpb.out (k * 3)) (hpb.out (k * 3 + 1)) (hpb.out (k * 3 + 2)))
        clear p1 hPo hR hGo hsr hgr hg5 l1 hy5
        cases wild
        · go_wp2_with (fail)
          go_roundw
          case rel =>
            refine ⟨i + 1, _, by omega, by go_num, hq1.out, ?_, ?_, ?_, (hs5.grown2 (setRow_grown (grown_refl _ _) _) (by omega) fun a' e => (hadl.out a' e).imp (fun h => by omega) id).more (by omega), ?_⟩
            · show _ = _
              rw [obj_setRow_same, p5]
              simp only [Option.map_some, reCells_cells]
            · show _ = _
              rw [obj_setRow_other _ _ _ _ (by omega)]
              exact r5
            · show _ = _
              rw [obj_setRow_other _ _ _ _ (by omega)]
              exact u5
            · exact grown_over g5 (setRow_grown (grown_refl _ (some P)) _) fun q hq => Or.inl (by have := Option.some.inj hq; omega)
          case measure => simp [intOf]; omega
        · go_wp2_with (fail)
          refine (l02Tone_any g ad n c (A + 60 + 10 * i + 2) f (by omega) hn hf.out _ (hs5.grown2 (setRow_grown (grown_refl _ _) _) (by omega) fun a' e => (hadl.out a' e).imp (fun h => by omega) id)).mono ?_
          rintro e w7 ⟨x, y, z, rfl, hb7, hs7, hg7⟩
          have h7 := hg7.size
          rw [size_setRow] at h7
          have p7 : obj w7 P = some (.cells (pic 432 a b (put3 q i (p (k * 3)) (p (k * 3 + 1)) (p (k * 3 + 2)))) 29) := (grown_step hg7 (by rw [size_setRow]; exact l5) (by omega)).trans ((obj_setRow_same _ _ _).trans (by rw [p5]; simp only [Option.map_some, reCells_cells]))
          have r7 := (grown_step hg7 (by rw [size_setRow]; exact lr5) (by omega)).trans ((obj_setRow_other _ _ _ _ (by omega)).trans r5)
          have u7 := (grown_step hg7 (by rw [size_setRow]; exact lu5) (by omega)).trans ((obj_setRow_other _ _ _ _ (by omega)).trans u5)
          have g7 := (grown_over g5 (setRow_grown (grown_refl _ (some P)) _) fun q hq => Or.inl (by have := Option.some.inj hq; omega)).trans hg7
          have l7 := obj_lt p7
          have hq2 := hide (hq1.out.put hcH.out hb7.1 hb7.2.1 hb7.2.2)
          clear hg7 hs5 g5 p5 r5 u5 x2 l2
          go_wp2_with (fail)
          go_roundw
          case rel =>
            refine ⟨i + 1, _, by omega, by go_num, hq2.out, ?_, ?_, ?_, (hs7.grown2 (setRow_grown (grown_refl _ _) _) (by omega) fun a' e => (hadl.out a' e).imp (fun h => by omega) id).more (by omega), ?_⟩
            · show _ = _
              rw [obj_setRow_same, p7]
              simp only [Option.map_some, reCells_cells]
            · show _ = _
              rw [obj_setRow_other _ _ _ _ (by omega)]
              exact r7
            · show _ = _
              rw [obj_setRow_other _ _ _ _ (by omega)]
              exact u7
            · exact grown_over g7 (setRow_grown (grown_refl _ (some P)) _) fun q hq => Or.inl (by have := Option.some.inj hq; omega)
          case measure => simp [intOf]; omega
    · obtain rfl : i = 144 := by omega
      have r1 := hR.out
      have lr := obj_lt r1
      clear hPo hR
      go_wp2_with (fail)
      refine ret_cell agg29 rfl rfl (c := pic 432 a b q) (t := 29) (fr := (0, 0)) (by rw [obj_setRow_same, r1]; simp only [Option.map_some, reCells_cells]) size_pic rfl ⟨a, b, q, rfl, ha, hb, hq, (hsr.grown2 (setRow_grown (grown_refl _ _) _) (by omega) fun a' e => (hadl.out a' e).imp (fun h => by omega) id).more (by omega), grown_over hgr (setRow_grown (grown_refl _ (some W.heap.size)) _) fun q hq => Or.inl (by have := Option.some.inj hq; omega)⟩
set_option maxHeartbeats 2000000 in
set_option maxRecDepth 100000 in
theorem a2Image_any (ad : Option Addr) (n c : Nat) (f : Nat → Int) (hn : n ≤ 1000000) (hf : ∀ i, 0 ≤ f i ∧ f i ≤ 255) (W : World) (hs : Sl W (.slice ad n c) n 1 .u8 f) (had : ∀ a, ad = some a → a.block < W.heap.size) :
    Calls Try.prog 5 #[.slice ad n c] W fun e w' => ∃ (a b : Int) (q : Nat → Int), e = .returned (.agg (pic 432 a b q)) ∧ (1 ≤ a ∧ a ≤ 5) ∧ (1 ≤ b ∧ b ≤ 4) ∧ GoodI a b q ∧ New W w' := by
  have had := hide had
  go_enter Try.func5, Try.ntmps5
  go_wp2_with (fail)
  refine (l00From_any ad n c f _ (hs.new ((New.refl _).alloc _)) fun a e => by have := had.out a e; simp; omega).mono ?_
  rintro e w1 ⟨rfl, hs1, hn1⟩
  have hz := hn1.le
  simp at hz
  have hR : obj w1 W.heap.size = some (.cells (pic 432 0 0 fun _ => 0) 29) := (hn1.objs _ (by simp)).trans (obj_alloc_at _ _ _ rfl)
  have hl := obj_lt hR
  have hsz : (W.alloc (Obj.cells (pic 432 0 0 fun _ => 0) 29)).heap.size = W.heap.size + 1 := by simp
  rw [hsz] at hs1
  clear hsz hs
  go_wp2_with (fail)
  refine (l02Drawn_any (W.heap.size + 1) ad n c 0 f (by omega) hn hf _ hs1).mono ?_
  rintro e w2 ⟨a, b, q, rfl, ha, hb, hq, hs2, hg2⟩
  have r2 := (grown_step hg2 hl (by simp)).trans hR
  have hN : New W w2 := grown_new (((New.refl _).alloc _).trans hn1) hg2 fun q hq => by simp at hq; omega
  have l2 := obj_lt r2
  go_wp2_with (fail)
  refine ret_cell agg29 rfl rfl (c := pic 432 a b q) (t := 29) (fr := (0, 0)) (by rw [obj_setRow_same, r2]; simp only [Option.map_some, reCells_cells]) size_pic rfl ⟨a, b, q, rfl, ha, hb, hq, hN.setRow (Nat.le_refl _) _⟩
set_option maxHeartbeats 2000000 in
set_option maxRecDepth 100000 in
theorem a2Palette_any (ad : Option Addr) (n c : Nat) (f : Nat → Int) (hn : n ≤ 1000000) (hf : ∀ i, 0 ≤ f i ∧ f i ≤ 255) (W : World) (hs : Sl W (.slice ad n c) n 1 .u8 f) (had : ∀ a, ad = some a → a.block < W.heap.size) :
    Calls Try.prog 6 #[.slice ad n c] W fun e w' => ∃ (go co m : Nat) (p : Nat → Int), e = .returned (.slice (some ⟨go, 0, none⟩) m co) ∧ PRow w' W.heap.size (.slice (some ⟨go, 0, none⟩) m co) m p ∧ (1 ≤ m ∧ m ≤ 5) ∧ okPal m p = true ∧ (∀ i, 0 ≤ p i ∧ p i ≤ 255) ∧ New W w' := by
  have had := hide had
  go_enter Try.func6, Try.ntmps6
  go_wp2_with (fail)
  refine (l00From_any ad n c f _ hs fun a e => by have := had.out a e; omega).mono ?_
  rintro e w1 ⟨rfl, hs1, hn1⟩
  have hz := hn1.le
  clear hs
  go_wp2_with (fail)
  refine (palDrawn_any W.heap.size ad n c 0 f (by omega) hn hf _ hs1).mono ?_
  rintro e w2 ⟨go, co, m, p, rfl, hrow, hm, hok, hpb, hs2, hg2⟩
  have hN : New W w2 := grown_new hn1 hg2 fun q hq => by simp at hq; omega
  have hrow2 := hrow.lower hz
  go_wp2_with (fail)
  go_ret
  exact ⟨go, co, m, p, rfl, hrow2, hm, hok, hpb, hN⟩
end Go.Proofs.Ytpphckfalgapdaa
/- Loops taken out of a function's body; no condition. -/
set_option linter.unusedVariables false
namespace Go.Proofs.Ytpphckfalgapdaa
def loopsOf : Code → List Code
  | .loop c => [c]
  | .seq a b => loopsOf a ++ loopsOf b
  | .block _ c => loopsOf c
  | .scope c => loopsOf c
  | .cond _ a b => loopsOf a ++ loopsOf b
  | _ => []
noncomputable def loopIn (c : Code) (n : Nat) : Code := ((loopsOf c)[n]?).getD .skip
end Go.Proofs.Ytpphckfalgapdaa
/- The cost of an image for some colours of a palette, by the program; a colour in a list; a list copied; no condition. -/
set_option linter.unusedVariables false
namespace Go.Proofs.Ytpphckfalgapdaa
open Go.BigFrame
open Go.RowKit Go.Arr
set_option maxHeartbeats 4000000 in
set_option maxRecDepth 100000 in
theorem costWith_any (a b : Int) (fm : Nat → Int) (ha : -128 ≤ a ∧ a ≤ 127) (hb : -128 ≤ b ∧ b ≤ 127) (hfm : ∀ i, 0 ≤ fm i ∧ fm i ≤ 255) (ad : Option Addr) (n cp : Nat) (fp : Nat → Int) (hfp : ∀ i, 0 ≤ fp i ∧ fp i ≤ 255) (hn : n ≤ 15) (la : Option Addr) (m lc : Nat) (L : Nat → Int) (hm : 0 < m ∧ m ≤ 15) (hL : ∀ j, j < m → 1 ≤ L j ∧ L j ≤ n) (W : World) (hs : Sl W (.slice ad n cp) n 3 .u8 fp) (ht : Sl W (.slice la m lc) m 1 .i64 L) :
    Calls Try.prog 30 #[.agg (pic 432 a b fm), .slice ad n cp, .slice la m lc] W fun e w' => e = .returned (.int .i64 (cosS m (subP fp L) fm a b 144)) ∧ New W w' := by
  have hL0 := hL 0 hm.1
  obtain ⟨gs, offs, curs, ts, frs, rfl, o5, hel5⟩ := elInts ht hm.1
  obtain ⟨gp, offp, curp, tp, frp, rfl, o6, hel6⟩ := elsPal hs (by omega)
  have hE5 := hide hel5
  have hE6 := hide hel6
  have hL' := hide hL
  have r5 := obj_lt o5
  have r6 := obj_lt o6
  have hfs : ∀ i, 0 ≤ subP fp L i ∧ subP fp L i ≤ 255 := fun i => hfp _
  clear hel5 hel6 ht hs hL hL0
  go_enter Try.func30, Try.ntmps30
  go_wp2_with (fail)
  go_loopw [18, 7] (fun i v wr => ∃ k : Nat, k ≤ m ∧ i = .int .i64 k ∧ PRow wr (W.heap.size + 1) v k (subP fp L) ∧ Hid (obj wr W.heap.size = some (.cells (pic 432 a b fm) 29)) ∧ New W wr ∧ W.heap.size + 1 ≤ wr.heap.size) (fun i _ _ => m - (intOf i).toNat)
  case atStart => exact ⟨0, by omega, rfl, prow_empty (obj_alloc_at _ _ _ (by simp)) (Nat.le_refl _), by show _ = _; go_simp, ((New.refl W).alloc _).alloc _, by simp⟩
  case round =>
    obtain ⟨k, hk, rfl, hrow, ho1, hnw, hlw⟩ := hrel
    have om := ho1.out
    by_cases hlt : k < m
    · obtain ⟨l5, e5⟩ := hE5.out k hlt
      have hLk := hL'.out k hlt
      obtain ⟨x6, l6⟩ := hE6.out ((L k).toNat - 1) (by omega)
      have p5 := (hnw.objs _ r5).trans o5
      have p6 := (hnw.objs _ r6).trans o6
      have y5 := obj_lt p5
      have y6 := obj_lt p6
      have hbk := hrow.block
      go_wp2_with (at_builtin; refine wpList_app slTones2 rfl _ _ rfl (W.heap.size + 1) _ _ _ rfl (hrow.new ((New.refl _).alloc _)) ⟨wr.heap.size, 0, none⟩ 1 1 [.int .u8 (fp (((L k).toNat - 1) * 3)), .int .u8 (fp (((L k).toNat - 1) * 3 + 1)), .int .u8 (fp (((L k).toNat - 1) * 3 + 2))] rfl rfl (news_new _ _ _ _ _ rfl) (by simp [Value.oneCell']) (by omega) (by unfold maxLen; omega) (by omega) (by simp; omega) ?_)
      intro g1 cap1 w3 hown1 hg1 hat1 hlt1
      have hn1 : New W w3 := grown_new (hnw.alloc _) hg1 fun b hb => by have := hbk b hb; omega
      have om3 := hide ((grown_obj hg1 _ (by simp; omega) (fun e => by have := hbk _ e.symm; omega)).trans ((obj_alloc_past _ _ _ (by omega)).trans om))
      have hr1 := prow_app hown1 (subP_0 fp L k) (subP_1 fp L k) (subP_2 fp L k)
      have hlw1 := grown_le hg1
      simp at hlw1
      clear hown1 hg1 hat1 hrow hnw om ho1
      go_wp2_with (fail)
      go_roundw
      case rel => exact ⟨k + 1, by omega, by go_num, hr1, om3, hn1, by omega⟩
      case measure => simp [intOf]; omega
    · obtain rfl : k = m := by omega
      have hb2 := hrow.sl
      obtain ⟨xa, xc, rfl, _⟩ := hrow.sl
      have hnw0 := hide hnw
      go_wp2_with (fail)
      refine (cells_any a b fm ha hb _).mono ?_
      rintro e w5 ⟨v, rfl, hrw5, hn5⟩
      obtain ⟨x, y, rfl, _⟩ := hrw5.reads
      have p1 := (hn5.objs _ (obj_lt om)).trans om
      have hN5 := hnw.trans hn5
      have hle := selN_le (p := cellN a b) 144
      have hT := hide (cosTe k (subP fp L) fm a b)
      have hsel := hide (selG_lt (p := cellN a b) 144)
      have hsl := hrw5.sl
      have hb5 := hb2.new hn5
      clear hn5 hrw5 hb2 hrow hnw
      go_wp2_with (fail)
      generalize selN (cellN a b) 144 = N at hsl hle hT hsel ⊢
      go_loopw [34, 8] (fun i s wq => ∃ j : Nat, j ≤ N ∧ i = .int .i64 j ∧ s = .int .i64 (recT (cosStep k (subP fp L) fm) 0 (selG (cellN a b) 144) j) ∧ New w5 wq) (fun i _ _ => N - (intOf i).toNat)
      case atStart => exact ⟨0, by omega, rfl, rfl, New.refl _⟩
      case round =>
        obtain ⟨j, hj, rfl, rfl, hnq⟩ := hrel
        by_cases hlj : j < N
        · obtain ⟨hi1, hi2⟩ := hsel.out j hlj
          have hq : Hid (recT (cosStep k (subP fp L) fm) 0 (selG (cellN a b) 144) (j + 1) = recT (cosStep k (subP fp L) fm) 0 (selG (cellN a b) 144) j + farN k (subP fp L) fm (selG (cellN a b) 144 j)) := rfl
          have hcb := cosT_b hfs hfm k (selG (cellN a b) 144) j
          obtain ⟨gl, off, cur, t, fr, rfl, o1, hel2⟩ := elInts (hsl.new hnq) (by omega)
          obtain ⟨l1, e1⟩ := hel2 j hlj
          try dsimp only at e1
          generalize selG (cellN a b) 144 j = i at hi1 hi2 hq e1
          have s1 := (hnq.objs _ (obj_lt p1)).trans p1
          have q1 := obj_lt s1
          have x1 : (pic 432 a b fm).extract (2 + i * 3) (2 + i * 3 + 3) = #[.int .u8 (fm (i * 3)), .int .u8 (fm (i * 3 + 1)), .int .u8 (fm (i * 3 + 2))] := pic3 (by omega) rfl
          have l3 : 2 + i * 3 + 3 ≤ 434 := by omega
          have hfb := farN_b hfs hfm k i
          have hfe : Hid ((nearK (subP fp L) (fm (i * 3)) (fm (i * 3 + 1)) (fm (i * 3 + 2)) k).2 = farN k (subP fp L) fm i) := rfl
          clear hel2
          generalize recT (cosStep k (subP fp L) fm) 0 (selG (cellN a b) 144) j = S at hcb hq ⊢
          go_wp2_with (fail)
          refine (nearest_any _ k _ (subP fp L) _ _ _ (hfm _) (hfm _) (hfm _) hfs (by omega) (by omega) _ (hb5.new hnq)).mono ?_
          rintro e w6 ⟨rfl, hn6⟩
          rw [hfe.out]
          go_wp2_with (fail)
          go_roundw
          case rel => exact ⟨j + 1, by omega, by go_num, by rw [hq.out], hnq.trans hn6⟩
          case measure => simp [intOf]; omega
        · obtain rfl : j = N := by omega
          rw [hT.out]
          go_wp2_with (fail)
          go_ret
          exact ⟨rfl, hN5.trans hnq⟩
def hasL (L : Nat → Int) : Nat → Int → Bool
  | 0, _ => false
  | k + 1, c => hasL L k c || L k == c
theorem hasL_t {L : Nat → Int} {k j : Nat} {c : Int} (hj : j < k) (h : L j = c) : hasL L k c = true := by
  induction k with
  | zero => omega
  | succ k ih =>
    unfold hasL
    by_cases e : j = k
    · subst e; simp [h]
    · rw [ih (by omega)]; rfl
theorem hasL_f {L : Nat → Int} {k : Nat} {c : Int} (h : ∀ j, j < k → L j ≠ c) : hasL L k c = false := by
  induction k with
  | zero => rfl
  | succ k ih =>
    unfold hasL
    rw [ih (fun j hj => h j (by omega))]
    simpa using h k (by omega)
theorem hasL_congr {L L' : Nat → Int} {k : Nat} {c : Int} (h : ∀ j, j < k → L j = L' j) : hasL L k c = hasL L' k c := by
  induction k with
  | zero => rfl
  | succ k ih =>
    unfold hasL
    rw [ih (fun j hj => h j (by omega)), h k (by omega)]
theorem ne_succ {L : Nat → Int} {k : Nat} {c : Int} (h : ∀ j, j < k → L j ≠ c) (hk : L k ≠ c) : ∀ j, j < k + 1 → L j ≠ c := fun j hj => by
  by_cases e : j = k
  · subst e; exact hk
  · exact h j (by omega)
set_option maxHeartbeats 1000000 in
theorem l00Has_any (la : Option Addr) (m lc : Nat) (L : Nat → Int) (c : Int) (hm : m ≤ 1048576) (W : World) (ht : Sl W (.slice la m lc) m 1 .i64 L) :
    Calls Try.prog 36 #[.slice la m lc, .int .i64 c] W fun e w' => e = .returned (.bool (hasL L m c)) ∧ W = w' := by
  go_enter Try.func36, Try.ntmps36
  go_wp2_with (fail)
  go_loop [5] (fun x => ∃ i : Nat, i ≤ m ∧ x = .int .i64 i ∧ Hid (∀ j, j < i → L j ≠ c)) (fun x => m - (intOf x).toNat)
  case atStart => exact ⟨0, by omega, rfl, fun j hj => absurd hj (by omega)⟩
  case round =>
    obtain ⟨i, hi, rfl, hal⟩ := hrel
    by_cases hlt : i < m
    · obtain ⟨g, off, cur, t, fr, rfl, og, hel⟩ := elInts ht (by omega)
      obtain ⟨l1, e1⟩ := hel i hlt
      clear hel ht
      by_cases he : L i = c
      · have hh := hide (hasL_t (k := m) hlt he)
        have hd : (L i == c) = true := by simp [he]
        clear he
        go_wp2_with (fail)
        go_ret
        exact ⟨by rw [hh.out]; rfl, rfl⟩
      · have hal' := hide (ne_succ hal.out he)
        have hd : (L i == c) = false := by simp [he]
        clear he
        go_wp2_with (fail)
        go_round
        case rel => exact ⟨i + 1, by omega, by go_num, hal'⟩
        case measure => simp [intOf]; omega
    · obtain rfl : i = m := by omega
      have hh := hide (hasL_f hal.out)
      clear hal
      go_wp2_with (fail)
      go_ret
      exact ⟨by rw [hh.out]; rfl, rfl⟩
set_option maxHeartbeats 1000000 in
theorem idxL_any (la : Option Addr) (m lc : Nat) (L : Nat → Int) (c : Int) (hm : m ≤ 1048576) (W : World) (ht : Sl W (.slice la m lc) m 1 .i64 L) :
    Calls Try.prog 67 #[.slice la m lc, .int .i64 c] W fun e w' => ∃ r : Int, e = .returned (.int .i64 r) ∧ -1 ≤ r ∧ (0 ≤ r ↔ hasL L m c = true) ∧ W = w' := by
  go_enter Try.func67, Try.ntmps67
  go_wp2_with (fail)
  go_loop [8] (fun x => ∃ i : Nat, i ≤ m ∧ x = .int .i64 i ∧ Hid (∀ j, j < i → L j ≠ c)) (fun x => m - (intOf x).toNat)
  case atStart => exact ⟨0, by omega, rfl, fun j hj => absurd hj (by omega)⟩
  case round =>
    obtain ⟨i, hi, rfl, hal⟩ := hrel
    by_cases hlt : i < m
    · obtain ⟨g, off, cur, t, fr, rfl, og, hel⟩ := elInts ht (by omega)
      obtain ⟨l1, e1⟩ := hel i hlt
      clear hel ht
      by_cases he : L i = c
      · have hh := hide (hasL_t (k := m) hlt he)
        have hd : (c == L i) = true := by simp [he]
        clear he
        go_wp2_with (fail)
        go_ret
        exact ⟨_, rfl, by omega, Iff.intro (fun _ => hh.out) (fun _ => by omega), rfl⟩
      · have hal' := hide (ne_succ hal.out he)
        have hd : (c == L i) = false := by simp; omega
        clear he
        go_wp2_with (fail)
        go_round
        case rel => exact ⟨i + 1, by omega, by go_num, hal'⟩
        case measure => simp [intOf]; omega
    · obtain rfl : i = m := by omega
      have hh := hide (hasL_f hal.out)
      clear hal
      go_wp2_with (fail)
      go_ret
      exact ⟨_, rfl, by omega, Iff.intro (fun h => absurd h (by omega)) (fun h => by rw [hh.out] at h; cases h), rfl⟩
set_option maxHeartbeats 1000000 in
theorem contL_any (la : Option Addr) (m lc : Nat) (L : Nat → Int) (c : Int) (hm : m ≤ 1048576) (W : World) (ht : Sl W (.slice la m lc) m 1 .i64 L) :
    Calls Try.prog 34 #[.slice la m lc, .int .i64 c] W fun e w' => e = .returned (.bool (hasL L m c)) ∧ W = w' := by
  go_enter Try.func34, Try.ntmps34
  go_wp2_with (fail)
  refine (idxL_any la m lc L c hm _ ht).mono ?_
  rintro e w1 ⟨r, rfl, hr, hiff, rfl⟩
  have hd : Hid (hasL L m c = decide (0 ≤ r)) := by
    show _ = _
    cases h : hasL L m c
    · rw [h] at hiff; simp at hiff; simp; omega
    · rw [h] at hiff; simp at hiff; simp; omega
  clear hiff
  go_wp2_with (fail)
  go_ret
  exact ⟨by rw [hd.out]; rfl, rfl⟩
set_option maxHeartbeats 1000000 in
set_option maxRecDepth 100000 in
theorem clone0_any (g c : Nat) (z : Nat → Int) (W : World) :
    Calls Try.prog 35 #[.slice (some ⟨g, 0, none⟩) 0 c] W fun e w' => ∃ v, e = .returned v ∧ Row w' W.heap.size v 0 z ∧ New W w' := by
  have heq := fun w' : World => Lib.run_eql_slice_nil (P := Try.prog) w' 35 2 (some ⟨g, 0, none⟩) 0 c 0 0 Try.underlying35
  go_enter Try.func35, Try.ntmps35
  go_wp2_with (fail)
  go_ret
  exact ⟨_, rfl, row_empty2 (obj_alloc_at _ _ _ rfl) (Nat.le_refl _), (New.refl _).alloc _⟩
end Go.Proofs.Ytpphckfalgapdaa
/- Tones that are chosen greedily: what the reference returns; no condition. -/
set_option linter.unusedVariables false
namespace Go.Proofs.Ytpphckfalgapdaa
open Go.BigFrame
open Go.RowKit Go.Arr
set_option maxHeartbeats 1000000 in
set_option maxRecDepth 100000 in
theorem cloneR_any (g off n c : Nat) (z : Nat → Int) (hn : n ≤ 1048576) (W : World) (hs : Sl W (.slice (some ⟨g, off, none⟩) n c) n 1 .i64 z) :
    Calls Try.prog 35 #[.slice (some ⟨g, off, none⟩) n c] W fun e w' => ∃ v, e = .returned v ∧ Row w' W.heap.size v n z ∧ New W w' := by
  by_cases hp : n = 0
  · subst hp
    have heq := fun w' : World => Lib.run_eql_slice_nil (P := Try.prog) w' 35 2 (some ⟨g, off, none⟩) 0 c 0 0 Try.underlying35
    go_enter Try.func35, Try.ntmps35
    go_wp2_with (fail)
    go_ret
    exact ⟨_, rfl, row_empty2 (obj_alloc_at _ _ _ rfl) (Nat.le_refl _), (New.refl _).alloc _⟩
  obtain ⟨gs, offs, curs, ts, frs, he, o5, hel5⟩ := elInts hs (by omega)
  simp only [Option.some.injEq, Addr.mk.injEq, and_true] at he
  obtain ⟨rfl, rfl⟩ := he
  have r5 := obj_lt o5
  have heq := fun w' : World => Lib.run_eql_slice_nil (P := Try.prog) w' 35 2 (some ⟨g, off, none⟩) n c 0 0 Try.underlying35
  go_enter Try.func35, Try.ntmps35
  go_wp2_with (at_builtin; refine wpList_app slInts rfl _ _ rfl W.heap.size (.slice (some ⟨W.heap.size, 0, none⟩) 0 0) 0 [] rfl (row_empty2 (f := z) (obj_alloc_at _ _ _ rfl) (Nat.le_refl _)) ⟨g, off, none⟩ n c (irow n .i64 z) rfl (by simp) (news_sl ((obj_alloc_past _ _ _ r5).trans o5) hel5) irow_one (by omega) (by unfold maxLen; omega) (by omega) (by simp) ?_)
  intro g1 cap1 w2 hown hg2 hat hlt2
  try simp only [Nat.zero_add, List.nil_append] at hown
  try simp only [Nat.zero_add]
  have hrow : Row w2 W.heap.size (.slice (some ⟨g1, 0, none⟩) n cap1) n z := hown
  have hn2 : New W w2 := grown_new ((New.refl W).alloc _) hg2 fun b hb => by simp [Value.ownBlock] at hb; omega
  clear hown hg2 hat
  go_wp2_with (fail)
  go_ret
  exact ⟨_, rfl, hrow, hn2⟩
/-- the best colour so far, its cost -/
def gp (cost : Int → Int) (has : Int → Bool) : Nat → Int × Int
  | 0 => (0, -1)
  | c + 1 => if has ((c : Int) + 1) = true then gp cost has c else if (gp cost has c).1 = 0 ∨ cost ((c : Int) + 1) < (gp cost has c).2 then ((c : Int) + 1, cost ((c : Int) + 1)) else gp cost has c
section
variable {cost : Int → Int} {has : Int → Bool}
theorem gp_h {c : Nat} (h : has ((c : Int) + 1) = true) : gp cost has (c + 1) = gp cost has c := by rw [gp, if_pos h]
theorem gp_t {c : Nat} (h : has ((c : Int) + 1) = false) (h2 : (gp cost has c).1 = 0 ∨ cost ((c : Int) + 1) < (gp cost has c).2) : gp cost has (c + 1) = ((c : Int) + 1, cost ((c : Int) + 1)) := by rw [gp, if_neg (by rw [h]; simp), if_pos h2]
theorem gp_f {c : Nat} (h : has ((c : Int) + 1) = false) (h2 : ¬ ((gp cost has c).1 = 0 ∨ cost ((c : Int) + 1) < (gp cost has c).2)) : gp cost has (c + 1) = gp cost has c := by rw [gp, if_neg (by rw [h]; simp), if_neg h2]
theorem gp_b (hc : ∀ c, 0 ≤ cost c) (c : Nat) : 0 ≤ (gp cost has c).1 ∧ (gp cost has c).1 ≤ c ∧ ((gp cost has c).1 = 0 → (gp cost has c).2 = -1) ∧ ((gp cost has c).1 ≠ 0 → 0 ≤ (gp cost has c).2) := by
  induction c with
  | zero => simp [gp]
  | succ c ih =>
    unfold gp
    split
    · exact ⟨ih.1, by omega, ih.2.2⟩
    · split
      · exact ⟨by dsimp only; omega, by dsimp only; omega, fun h => by dsimp only at h; omega, fun _ => hc _⟩
      · exact ⟨ih.1, by omega, ih.2.2⟩
theorem gp_some {n c : Nat} (hcn : c < n) (h : has ((c : Int) + 1) = false) : (gp cost has n).1 ≠ 0 := by
  have h0 : (gp cost has (c + 1)).1 ≠ 0 := by
    by_cases h2 : (gp cost has c).1 = 0 ∨ cost ((c : Int) + 1) < (gp cost has c).2
    · rw [gp_t h h2]; dsimp only; omega
    · rw [gp_f h h2]; exact fun h3 => h2 (Or.inl h3)
  have h1 : ∀ m, (gp cost has (c + 1 + m)).1 ≠ 0 := by
    intro m
    induction m with
    | zero => exact h0
    | succ m ih =>
      rw [← Nat.add_assoc]
      unfold gp
      split
      · exact ih
      · split
        · dsimp only; omega
        · exact ih
  have := h1 (n - (c + 1))
  rwa [show c + 1 + (n - (c + 1)) = n by omega] at this
end
theorem sel_or (p : Nat → Bool) (x : Int) (n : Nat) : selN (fun c => p c || x == ((c : Int) + 1)) n ≤ selN p n + (if 1 ≤ x ∧ x ≤ n then 1 else 0) := by
  induction n with
  | zero => simp [selN]
  | succ n ih =>
    cases hp : p n
    · rw [selN_f (p := p) hp]
      by_cases hx : x = (n : Int) + 1
      · rw [selN_t (p := fun c => p c || x == ((c : Int) + 1)) (by simp [hx])]
        rw [if_neg (by omega)] at ih
        rw [if_pos (by omega)]
        omega
      · rw [selN_f (p := fun c => p c || x == ((c : Int) + 1)) (by simp [hx, hp])]
        split at ih
        · rw [if_pos (by omega)]; omega
        · omega
    · rw [selN_t (p := p) hp, selN_t (p := fun c => p c || x == ((c : Int) + 1)) (by simp [hp])]
      split at ih
      · rw [if_pos (by omega)]; omega
      · omega
theorem sel_has (L : Nat → Int) (n k : Nat) : selN (fun c => hasL L k ((c : Int) + 1)) n ≤ k := by
  induction k with
  | zero =>
    have : ∀ n, selN (fun c => hasL L 0 ((c : Int) + 1)) n = 0 := by
      intro n
      induction n with
      | zero => rfl
      | succ n ih => rw [selN_f (by rfl)]; exact ih
    rw [this]
    exact Nat.le_refl _
  | succ k ih =>
    have h := sel_or (fun c => hasL L k ((c : Int) + 1)) (L k) n
    have h2 : (fun c : Nat => hasL L (k + 1) ((c : Int) + 1)) = fun c => (fun c : Nat => hasL L k ((c : Int) + 1)) c || L k == ((c : Int) + 1) := by
      funext c
      rfl
    rw [h2]
    refine Nat.le_trans h ?_
    split <;> omega
theorem sel_all {p : Nat → Bool} {n : Nat} (h : ∀ c, c < n → p c = true) : selN p n = n := by
  induction n with
  | zero => rfl
  | succ n ih => rw [selN_t (h n (by omega)), ih fun c hc => h c (by omega)]
theorem free_colour (L : Nat → Int) {n k : Nat} (h : k < n) : ∃ c, c < n ∧ hasL L k ((c : Int) + 1) = false := by
  by_cases hx : ∃ c, c < n ∧ hasL L k ((c : Int) + 1) = false
  · exact hx
  · have h1 : selN (fun c => hasL L k ((c : Int) + 1)) n = n := sel_all fun c hc => by
      cases h2 : hasL L k ((c : Int) + 1)
      · exact absurd ⟨c, hc, h2⟩ hx
      · rfl
    have := sel_has L n k
    omega
/-- the cost with one colour more -/
def costG (fp fm : Nat → Int) (a b : Int) (L : Nat → Int) (k : Nat) (c : Int) : Int := cosS (k + 1) (subP fp (upd L k c)) fm a b 144
def gr (fp fm : Nat → Int) (a b : Int) (n : Nat) : Nat → (Nat → Int) × Int
  | 0 => (fun _ => 0, 0)
  | k + 1 => (upd (gr fp fm a b n k).1 k (gp (costG fp fm a b (gr fp fm a b n k).1 k) (hasL (gr fp fm a b n k).1 k) n).1, (gp (costG fp fm a b (gr fp fm a b n k).1 k) (hasL (gr fp fm a b n k).1 k) n).2)
section
variable {fp fm : Nat → Int} {a b : Int} {n : Nat}
theorem costG_b (hfp : ∀ i, 0 ≤ fp i ∧ fp i ≤ 255) (hfm : ∀ i, 0 ≤ fm i ∧ fm i ≤ 255) (L : Nat → Int) (k : Nat) (c : Int) : 0 ≤ costG fp fm a b L k c ∧ costG fp fm a b L k c ≤ 144000000 := by
  have h := cosS_b (fs := subP fp (upd L k c)) (fm := fm) (fun i => hfp _) hfm (k + 1) a b 144
  unfold costG
  omega
theorem gr_b (hfp : ∀ i, 0 ≤ fp i ∧ fp i ≤ 255) (hfm : ∀ i, 0 ≤ fm i ∧ fm i ≤ 255) (k : Nat) (hk : k ≤ n) : ∀ j, j < k → 1 ≤ (gr fp fm a b n k).1 j ∧ (gr fp fm a b n k).1 j ≤ n := by
  induction k with
  | zero => intro j hj; omega
  | succ k ih =>
    intro j hj
    show 1 ≤ upd (gr fp fm a b n k).1 k _ j ∧ upd (gr fp fm a b n k).1 k _ j ≤ n
    unfold upd
    by_cases e : j = k
    · rw [if_pos e]
      obtain ⟨c, hc, hh⟩ := free_colour (gr fp fm a b n k).1 (show k < n by omega)
      have h1 := gp_some (cost := costG fp fm a b (gr fp fm a b n k).1 k) hc hh
      have h2 := gp_b (cost := costG fp fm a b (gr fp fm a b n k).1 k) (has := hasL (gr fp fm a b n k).1 k) (fun c => (costG_b hfp hfm _ _ c).1) n
      omega
    · rw [if_neg e]
      exact ih (by omega) j (by omega)
end
/-- the code, the list, its cost -/
def cntC (a b : Int) (fm : Nat → Int) (n : Nat) (fp : Nat → Int) (count : Int) : Int := if askOk a b fm n fp = false then 1 else if inB count 1 n = false then 2 else 0
def grN (a b : Int) (fm : Nat → Int) (n : Nat) (fp : Nat → Int) (count : Int) : Nat := if cntC a b fm n fp count = 0 then count.toNat else 0
def grV (a b : Int) (fm : Nat → Int) (n : Nat) (fp : Nat → Int) (count : Int) : Int := if cntC a b fm n fp count = 0 then (gr fp fm a b n count.toNat).2 else 0
section
variable {a b : Int} {fm : Nat → Int} {n : Nat} {fp : Nat → Int} {count : Int}
theorem cntC_1 (h : askOk a b fm n fp = false) : cntC a b fm n fp count = 1 := if_pos h
theorem cntC_2 (h : askOk a b fm n fp = true) (h2 : inB count 1 n = false) : cntC a b fm n fp count = 2 := by unfold cntC; rw [if_neg (by rw [h]; simp), if_pos h2]
theorem cntC_0 (h : askOk a b fm n fp = true) (h2 : inB count 1 n = true) : cntC a b fm n fp count = 0 := by unfold cntC; rw [if_neg (by rw [h]; simp), if_neg (by rw [h2]; simp)]
theorem grN_z {k : Int} (h : cntC a b fm n fp count = k) (hk : k ≠ 0) : grN a b fm n fp count = 0 := if_neg (by rw [h]; exact hk)
theorem grV_z {k : Int} (h : cntC a b fm n fp count = k) (hk : k ≠ 0) : grV a b fm n fp count = 0 := if_neg (by rw [h]; exact hk)
theorem grN_s {K : Nat} (h : cntC a b fm n fp K = 0) : grN a b fm n fp K = K := by unfold grN; rw [if_pos h, Int.toNat_natCast]
theorem grV_s {K : Nat} (h : cntC a b fm n fp K = 0) : grV a b fm n fp K = (gr fp fm a b n K).2 := by unfold grV; rw [if_pos h, Int.toNat_natCast]
theorem cntC_le : cntC a b fm n fp count = 0 → askOk a b fm n fp = true ∧ 1 ≤ count ∧ count ≤ n := by
  intro h
  unfold cntC at h
  split at h
  · omega
  · split at h
    · omega
    · rename_i h1 h2
      refine ⟨by simpa using h1, inB_t.1 (by simpa using h2)⟩
theorem grN_le (a b : Int) (fm : Nat → Int) (n : Nat) (fp : Nat → Int) (count : Int) : grN a b fm n fp count ≤ 15 := by
  unfold grN
  split
  · rename_i h
    have h1 := cntC_le h
    have := okPal_pos (askOk_e h1.1).2
    omega
  · omega
end
set_option maxHeartbeats 1000000 in
theorem l02Counted_any (gm : Nat) (t0 : TypeId) (a b : Int) (fm : Nat → Int) (ha : -128 ≤ a ∧ a ≤ 127) (hb : -128 ≤ b ∧ b ≤ 127) (ad : Option Addr) (n c : Nat) (fp : Nat → Int) (hn : n ≤ 1048576) (count : Int) (W : World) (om : obj W gm = some (.cells (pic 432 a b fm) t0)) (hs : Sl W (.slice ad n c) n 3 .u8 fp) :
    Calls Try.prog 31 #[.pointer (some ⟨gm, 0, none⟩), .slice ad n c, .int .i64 count] W fun e w' => e = .returned (.int .i64 (cntC a b fm n fp count)) ∧ New W w' := by
  cases h1 : askOk a b fm n fp
  · have hC := hide (cntC_1 (count := count) h1)
    go_enter Try.func31, Try.ntmps31
    go_wp2_with (fail)
    refine (l02Asked_any gm t0 a b fm ha hb ad n c fp hn _ om hs).mono ?_
    rintro e w1 ⟨rfl, hn1⟩
    rw [h1, if_neg (by simp)]
    go_wp2_with (fail)
    go_ret
    exact ⟨by rw [hC.out]; rfl, hn1⟩
  cases h2 : inB count 1 n
  · have hC := hide (cntC_2 h1 h2)
    go_enter Try.func31, Try.ntmps31
    go_wp2_with (fail)
    refine (l02Asked_any gm t0 a b fm ha hb ad n c fp hn _ om hs).mono ?_
    rintro e w1 ⟨rfl, hn1⟩
    rw [h1, if_pos rfl]
    go_wp2_with (go_at_call 47; refine (l00In_any _ _ _ _).mono ?_; rintro e w' ⟨rfl, rfl⟩; rw [h2])
    go_ret
    exact ⟨by rw [hC.out]; rfl, hn1⟩
  · have hC := hide (cntC_0 h1 h2)
    go_enter Try.func31, Try.ntmps31
    go_wp2_with (fail)
    refine (l02Asked_any gm t0 a b fm ha hb ad n c fp hn _ om hs).mono ?_
    rintro e w1 ⟨rfl, hn1⟩
    rw [h1, if_pos rfl]
    go_wp2_with (go_at_call 47; refine (l00In_any _ _ _ _).mono ?_; rintro e w' ⟨rfl, rfl⟩; rw [h2])
    go_ret
    exact ⟨by rw [hC.out]; rfl, hn1⟩
end Go.Proofs.Ytpphckfalgapdaa
