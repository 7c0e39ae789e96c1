/- Tones that are chosen greedily: what the reference returns, walked; no condition. -/
import Derived.Test.YtpphckfalgapdaaU9
import Derived.Test.YtpphckfalgapdaaU6
import Derived.Deep.RegionLaw
set_option linter.unusedVariables false
namespace Go.Proofs.Ytpphckfalgapdaa
open Go.BigFrame
open Go.RowKit Go.Arr
set_option maxHeartbeats 8000000 in
set_option maxRecDepth 100000 in
theorem greedy_spec (a b : Int) (fm : Nat → Int) (ha : -128 ≤ a ∧ a ≤ 127) (hb : -128 ≤ b ∧ b ≤ 127) (hfm : ∀ i, 0 ≤ fm i ∧ fm i ≤ 255) (ad : Option Addr) (n cp : Nat) (fp : Nat → Int) (hfp : ∀ i, 0 ≤ fp i ∧ fp i ≤ 255) (hn : n ≤ 1048576) (count : Int) (W : World) (hs : Sl W (.slice ad n cp) n 3 .u8 fp) :
    Calls Try.prog 11 #[.agg (pic 432 a b fm), .slice ad n cp, .int .i64 count] W fun e w' => ∃ v, e = .returned (.tuple #[v, .int .i64 (grV a b fm n fp count), .int .i64 (cntC a b fm n fp count)]) ∧ Row w' W.heap.size v (grN a b fm n fp count) (gr fp fm a b n (grN a b fm n fp count)).1 ∧ New W w' := by
  go_enter Try.func11, Try.ntmps11
  go_wp2_with (fail)
  generalize hw0 : W.alloc (Obj.cells (pic 432 a b fm) 29) = w0
  have b1 : obj w0 W.heap.size = some (.cells (pic 432 a b fm) 29) := by subst hw0; go_simp
  have hn0 : New W w0 := by subst hw0; exact (New.refl W).alloc _
  have hs0 := hs.new hn0
  clear hw0 hs
  refine (l02Counted_any _ 29 a b fm ha hb ad n cp fp hn count _ b1 hs0).mono ?_
  rintro e w1 ⟨rfl, hn1⟩
  have c1 := (hn1.objs _ (obj_lt b1)).trans b1
  have hN1 := hn0.trans hn1
  have hs1 := hs0.new hn1
  clear b1 hn0 hn1 hs0
  by_cases hcc : cntC a b fm n fp count = 0
  rotate_left
  · have hC := hide hcc
    generalize hk : cntC a b fm n fp count = C at *
    have hk2 := hide hk
    have mC : (C != 0) = true := by simp [hcc]
    have hWl := hN1.le
    clear hk hcc
    go_wp2_with (fail)
    go_ret3
    exact ⟨_, by rw [grV_z hk2.out hC.out, hk2.out]; rfl, by rw [grN_z hk2.out hC.out]; exact row_empty2 (obj_alloc_at _ _ _ rfl) (by omega), hN1.alloc _⟩
  have hC := hide hcc
  obtain ⟨hok, hc1, hc2⟩ := cntC_le hcc
  have hp := okPal_pos (askOk_e hok).2
  obtain ⟨K, rfl⟩ : ∃ K : Nat, count = K := ⟨count.toNat, by omega⟩
  rw [hcc]
  have hgb := hide fun k hk => gr_b (n := n) (a := a) (b := b) hfp hfm k hk
  have r1 := obj_lt c1
  have hWl := hN1.le
  clear hcc hok
  go_wp2_with (fail)
  go_loopw [10, 11, 12] (fun v l x wr => ∃ k : Nat, k ≤ K ∧ x = .int .i64 k ∧ l = .int .i64 (gr fp fm a b n k).2 ∧ Row wr w1.heap.size v k (gr fp fm a b n k).1 ∧ (∃ g c, v = .slice (some ⟨g, 0, none⟩) k c) ∧ New w1 wr ∧ w1.heap.size ≤ wr.heap.size) (fun _ _ x _ => K - (intOf x).toNat)
  case atStart => exact ⟨0, by omega, rfl, rfl, row_empty2 (obj_alloc_at _ _ _ rfl) (Nat.le_refl _), ⟨_, _, rfl⟩, (New.refl _).alloc _, by simp⟩
  case round =>
    obtain ⟨k, hk, rfl, rfl, hrow, ⟨go, co, rfl⟩, hnw, hlw⟩ := hrel
    by_cases hlt : k < K
    · have hkn : k < n := by omega
      have hgk := hgb.out k (by omega)
      have hfree := hide (free_colour (gr fp fm a b n k).1 hkn)
      have hst : Hid (gr fp fm a b n (k + 1) = (upd (gr fp fm a b n k).1 k (gp (costG fp fm a b (gr fp fm a b n k).1 k) (hasL (gr fp fm a b n k).1 k) n).1, (gp (costG fp fm a b (gr fp fm a b n k).1 k) (hasL (gr fp fm a b n k).1 k) n).2)) := rfl
      have hLs := hide hgk
      generalize hG : gr fp fm a b n (k + 1) = G1 at hst
      have hG2 := hide hG
      clear hG
      generalize (gr fp fm a b n k).2 = l0
      generalize (gr fp fm a b n k).1 = L at hrow hfree hst hgk hLs
      have hcb := costG_b (a := a) (b := b) hfp hfm L k
      have hgpb := hide (gp_b (cost := costG fp fm a b L k) (has := hasL L k) (fun c => (hcb c).1))
      go_wp2_with (fail)
      go_loopw [13, 11, 14] (fun nx l x wq => ∃ (c : Nat) (ls : Int), c ≤ n ∧ x = .int .i64 ((c : Int) + 1) ∧ nx = .int .i64 (gp (costG fp fm a b L k) (hasL L k) c).1 ∧ l = .int .i64 ls ∧ Hid ((gp (costG fp fm a b L k) (hasL L k) c).1 ≠ 0 → ls = (gp (costG fp fm a b L k) (hasL L k) c).2) ∧ New wr wq) (fun _ _ x _ => n + 1 - (intOf x).toNat)
      case atStart => exact ⟨0, l0, by omega, rfl, rfl, rfl, fun h => absurd rfl h, New.refl _⟩
      case round =>
        obtain ⟨c, ls, hc, rfl, rfl, rfl, hls, hnq⟩ := hrel
        have hrq := hrow.new hnq
        by_cases hlc : c < n
        · have hgpc := hgpb.out c
          have d1 := ((hnw.trans hnq).objs _ r1).trans c1
          have s1 := hs1.new (hnw.trans hnq)
          cases hh : hasL L k ((c : Int) + 1)
          rotate_left
          · have hq := hide (gp_h (cost := costG fp fm a b L k) hh)
            go_wp2_with (go_at_call 36; refine (l00Has_any _ k _ L _ (by omega) _ hrq.sl).mono ?_; rintro e w' ⟨rfl, rfl⟩; rw [hh])
            go_roundw
            case rel => exact ⟨c + 1, ls, by omega, by go_num, by rw [hq.out], rfl, by rw [hq.out]; exact hls, hnq⟩
            case measure => simp [intOf]; omega
          go_upto_region 14 with (go_at_call 36; refine (l00Has_any _ k _ L _ (by omega) _ hrq.sl).mono ?_; rintro e w' ⟨rfl, hw'⟩; subst hw'; rw [hh])
          go_cut [15] (fun s wx => s = .int .i64 (costG fp fm a b L k ((c : Int) + 1)) ∧ New wr wx)
          case first =>
            have hLu : ∀ j, j < k + 1 → 1 ≤ upd L k ((c : Int) + 1) j ∧ upd L k ((c : Int) + 1) j ≤ n := by
              intro j hj
              unfold upd
              by_cases e : j = k
              · rw [if_pos e]; omega
              · rw [if_neg e]; exact hgk j (by omega)
            by_cases hk0 : k = 0
            · subst hk0
              have fin : ∀ (g1 cap1 : Nat) (w3 : World), w3.ownsRow wr.heap.size 2 1 (.slice (some ⟨g1, 0, none⟩) (0 + 1) cap1) (0 + 1) ([] ++ [.int .i64 ((c : Int) + 1)]) → Row w3 wr.heap.size (.slice (some ⟨g1, 0, none⟩) 1 cap1) 1 (upd L 0 ((c : Int) + 1)) := fun g1 cap1 w3 h => row_app2 (n := 0) (f := L) h
              go_wp2_with (at_builtin; refine wpList_app slInts rfl _ _ rfl wr.heap.size (.slice (some ⟨wr.heap.size, 0, none⟩) 0 0) 0 [] rfl (row_empty2 (f := L) ((obj_alloc_past _ _ _ (by simp)).trans (obj_alloc_at _ _ _ rfl)) (Nat.le_refl _)) ⟨wr.heap.size + 1, 0, none⟩ 1 1 [.int .i64 ((c : Int) + 1)] rfl rfl (news_new _ _ _ _ _ (by simp)) (by simp [Value.oneCell']) (by omega) (by unfold maxLen; omega) (by omega) (by simp; omega) ?_)
              intro g1 cap1 w3 hown1 hg1 hat1 hlt1
              have hr3 := fin _ _ _ hown1
              have hn3 : New wr w3 := grown_new (((New.refl wr).alloc _).alloc _) hg1 fun b hb => by simp [Value.ownBlock] at hb; omega
              have d3 := (hn3.objs _ (obj_lt d1)).trans d1
              have s3 := s1.new hn3
              clear hown1 hg1 hat1 fin
              try simp only [Nat.zero_add]
              go_wp2_with (fail)
              refine (l02Cost_any _ 29 a b fm ha hb hfm _ n _ fp hfp (by omega) _ 1 _ _ (by omega) hLu _ d3 s3 hr3.sl).mono ?_
              rintro e w5 ⟨rfl, hn5⟩
              go_wp2_with (fail)
              go_meet
              exact ⟨rfl, hn3.trans hn5⟩
            · obtain ⟨gs, offs, curs, ts, frs, he, o5, hel5⟩ := elInts hrq.sl (by omega)
              simp only [Option.some.injEq, Addr.mk.injEq, and_true] at he
              obtain ⟨rfl, rfl⟩ := he
              have r5 := obj_lt o5
              go_wp2_with (at_builtin; refine wpList_app slInts rfl _ _ rfl wr.heap.size (.slice (some ⟨wr.heap.size, 0, none⟩) 0 0) 0 [] rfl (row_empty2 (f := L) (obj_alloc_at _ _ _ rfl) (Nat.le_refl _)) ⟨go, 0, none⟩ k co (irow k .i64 L) rfl (by simp) (news_sl ((obj_alloc_past _ _ _ r5).trans o5) hel5) irow_one (by omega) (by unfold maxLen; omega) (by omega) (by simp) ?_)
              intro g0 cap0 w2 hown0 hg0 hat0 hlt0
              try simp only [Nat.zero_add, List.nil_append] at hown0
              try simp only [Nat.zero_add]
              have hr2 : Row w2 wr.heap.size (.slice (some ⟨g0, 0, none⟩) k cap0) k L := hown0
              have hn2 : New wr w2 := grown_new ((New.refl wr).alloc _) hg0 fun b hb => by simp [Value.ownBlock] at hb; omega
              have hb2 := hr2.block
              have hz2 := hn2.le
              clear hown0 hg0 hat0
              go_wp2_with (at_builtin; refine wpList_app slInts rfl _ _ rfl wr.heap.size _ _ _ rfl (hr2.new ((New.refl _).alloc _)) ⟨w2.heap.size, 0, none⟩ 1 1 [.int .i64 ((c : Int) + 1)] rfl rfl (news_new _ _ _ _ _ rfl) (by simp [Value.oneCell']) (by omega) (by unfold maxLen; omega) (by omega) (by simp; omega) ?_)
              intro g1 cap1 w3 hown1 hg1 hat1 hlt1
              have hr3 := row_app2 hown1
              have hn3 : New wr w3 := grown_new (hn2.alloc _) hg1 fun b hb => (hb2 b hb).1
              have d3 := (hn3.objs _ (obj_lt d1)).trans d1
              have s3 := s1.new hn3
              clear hown1 hg1 hat1 hb2
              go_wp2_with (fail)
              refine (l02Cost_any _ 29 a b fm ha hb hfm _ n _ fp hfp (by omega) _ (k + 1) _ _ (by omega) hLu _ d3 s3 hr3.sl).mono ?_
              rintro e w5 ⟨rfl, hn5⟩
              go_wp2_with (fail)
              go_meet
              exact ⟨rfl, hn3.trans hn5⟩
          case rest =>
            obtain ⟨rfl, hnc⟩ := hcut
            have hcbc := hcb ((c : Int) + 1)
            generalize hcx : costG fp fm a b L k ((c : Int) + 1) = cx at *
            by_cases h0 : (gp (costG fp fm a b L k) (hasL L k) c).1 = 0
            · have hq := hide (gp_t (cost := costG fp fm a b L k) hh (Or.inl h0))
              have hls2 : Hid ((gp (costG fp fm a b L k) (hasL L k) (c + 1)).1 ≠ 0 → cx = (gp (costG fp fm a b L k) (hasL L k) (c + 1)).2) := fun _ => by rw [hq.out, ← hcx]
              have m0 : ((gp (costG fp fm a b L k) (hasL L k) c).1 == 0) = true := by simp [h0]
              clear hls hgpc h0
              go_wp2_with (fail)
              go_roundw
              case rel => exact ⟨c + 1, cx, by omega, by go_num, by rw [hq.out], rfl, hls2, hnq.trans hnc⟩
              case measure => simp [intOf]; omega
            · have hl2 := hls.out h0
              have m0 : ((gp (costG fp fm a b L k) (hasL L k) c).1 == 0) = false := by simp [h0]
              by_cases h2 : cx < ls
              · have hq := hide (gp_t (cost := costG fp fm a b L k) hh (Or.inr (by rw [hcx, ← hl2]; exact h2)))
                have hls2 : Hid ((gp (costG fp fm a b L k) (hasL L k) (c + 1)).1 ≠ 0 → cx = (gp (costG fp fm a b L k) (hasL L k) (c + 1)).2) := fun _ => by rw [hq.out, ← hcx]
                clear hls hgpc h0 hl2
                go_wp2_with (fail)
                go_roundw
                case rel => exact ⟨c + 1, cx, by omega, by go_num, by rw [hq.out], rfl, hls2, hnq.trans hnc⟩
                case measure => simp [intOf]; omega
              · have hq := hide (gp_f (cost := costG fp fm a b L k) hh (fun h3 => h3.elim h0 (by rw [hcx, ← hl2]; exact h2)))
                have hls2 : Hid ((gp (costG fp fm a b L k) (hasL L k) (c + 1)).1 ≠ 0 → ls = (gp (costG fp fm a b L k) (hasL L k) (c + 1)).2) := by show _ → _; rw [hq.out]; exact hls.out
                clear hls hgpc h0 hl2
                go_wp2_with (fail)
                go_roundw
                case rel => exact ⟨c + 1, ls, by omega, by go_num, by rw [hq.out], rfl, hls2, hnq.trans hnc⟩
                case measure => simp [intOf]; omega
        · obtain rfl : c = n := by omega
          have hbk := hrq.block
          have hgpc := hgpb.out c
          obtain ⟨c0, hc0, hf0⟩ := hfree.out
          have hsome := gp_some (cost := costG fp fm a b L k) hc0 hf0
          have hl2 := hls.out hsome
          have hst2 : Hid (G1 = (upd L k (gp (costG fp fm a b L k) (hasL L k) c).1, ls)) := by show _ = _; rw [hst.out, hl2]
          have hl2h := hide hl2
          clear hst hls hf0 hsome
          go_wp2_with (at_builtin; refine wpList_app slInts rfl _ _ rfl w1.heap.size _ _ _ rfl (hrq.new ((New.refl _).alloc _)) ⟨wr.heap.size, 0, none⟩ 1 1 [.int .i64 (gp (costG fp fm a b L k) (hasL L k) c).1] rfl rfl (news_new _ _ _ _ _ rfl) (by simp [Value.oneCell']) (by omega) (by unfold maxLen; omega) (by omega) (by have := hnq.le; simp; omega) ?_)
          intro g1 cap1 w3 hown1 hg1 hat1 hlt1
          have hr3 := row_app2 hown1
          have hn3 : New w1 w3 := grown_new ((hnw.trans hnq).alloc _) hg1 fun b hb => by exact (hbk b hb).1
          have hz3 := hn3.le
          clear hown1 hg1 hat1 hbk
          go_wp2_with (fail)
          go_roundw
          case rel => exact ⟨k + 1, by omega, by go_num, by rw [hG2.out, hst2.out]; show Value.int _ _ = Value.int _ ls; rw [hl2h.out], by rw [hG2.out, hst2.out]; exact hr3, ⟨_, _, rfl⟩, hn3, hz3⟩
          case measure => simp [intOf]; omega
    · obtain rfl : k = K := by omega
      have hV := hide (grV_s hC.out)
      have hNn := hide (grN_s hC.out)
      go_wp2_with (fail)
      go_ret3
      exact ⟨_, by rw [hV.out, hC.out]; rfl, by rw [hNn.out]; exact hrow.lower (by omega), hN1.trans hnw⟩
end Go.Proofs.Ytpphckfalgapdaa
/- Tones that are chosen greedily: what the program returns, walked; no condition. -/
set_option linter.unusedVariables false
namespace Go.Proofs.Ytpphckfalgapdaa
open Go.BigFrame
open Go.RowKit Go.Arr
set_option maxHeartbeats 8000000 in
set_option maxRecDepth 100000 in
theorem greedy_impl (a b : Int) (fm : Nat → Int) (ha : -128 ≤ a ∧ a ≤ 127) (hb : -128 ≤ b ∧ b ≤ 127) (hfm : ∀ i, 0 ≤ fm i ∧ fm i ≤ 255) (ad : Option Addr) (n cp : Nat) (fp : Nat → Int) (hfp : ∀ i, 0 ≤ fp i ∧ fp i ≤ 255) (hn : n ≤ 1048576) (hcp : n ≤ cp) (count : Int) (W : World) (hs : Sl W (.slice ad n cp) n 3 .u8 fp) :
    Calls Try.prog 10 #[.agg (pic 432 a b fm), .slice ad n cp, .int .i64 count] W fun e w' => ∃ v, e = .returned (.tuple #[v, .int .i64 (grV a b fm n fp count), .int .i64 (cntC a b fm n fp count)]) ∧ Row w' W.heap.size v (grN a b fm n fp count) (gr fp fm a b n (grN a b fm n fp count)).1 ∧ New W w' := by
  go_enter Try.func10, Try.ntmps10
  go_wp2_with (fail)
  generalize hw0 : W.alloc (Obj.cells (pic 432 a b fm) 29) = w0
  have b1 : obj w0 W.heap.size = some (.cells (pic 432 a b fm) 29) := by subst hw0; go_simp
  have hn0 : New W w0 := by subst hw0; exact (New.refl W).alloc _
  have hs0 := hs.new hn0
  clear hw0 hs
  refine (validImage_impl a b fm ha hb _).mono ?_
  rintro e w1 ⟨rfl, hn1⟩
  have c1 := (hn1.objs _ (obj_lt b1)).trans b1
  have hs1 := hs0.new hn1
  have hN1 := hn0.trans hn1
  clear b1 hs0 hn0 hn1
  cases h1 : okImg a b fm
  · have hC : Hid (cntC a b fm n fp count = 1) := cntC_1 (by unfold askOk; rw [h1]; rfl)
    clear h1
    go_wp2_with (go_at_call 28; refine (within_any _ _ _ _).mono ?_; rintro e w' ⟨rfl, rfl⟩)
    refine (codeOf_any _ _ _).mono ?_
    rintro e w9 ⟨rfl, rfl⟩
    simp only [codeB]
    go_wp2_with (fail)
    go_ret3
    exact ⟨_, by rw [grV_z hC.out (by omega), hC.out]; rfl, by rw [grN_z hC.out (by omega)]; exact Row.nil, hN1⟩
  go_wp2_with (fail)
  refine (validPal_impl _ n _ fp hn hcp _ hs1).mono ?_
  rintro e w2 ⟨rfl, hn2⟩
  have d1 := (hn2.objs _ (obj_lt c1)).trans c1
  have hs2 := hs1.new hn2
  have hN2 := hN1.trans hn2
  clear c1 hs1 hN1 hn2
  cases h2 : okPal n fp
  · have hC : Hid (cntC a b fm n fp count = 1) := cntC_1 (by unfold askOk; rw [h2, Bool.and_false])
    clear h1 h2
    go_wp2_with (go_at_call 28; refine (within_any _ _ _ _).mono ?_; rintro e w' ⟨rfl, rfl⟩)
    refine (codeOf_any _ _ _).mono ?_
    rintro e w9 ⟨rfl, rfl⟩
    simp only [codeB]
    go_wp2_with (fail)
    go_ret3
    exact ⟨_, by rw [grV_z hC.out (by omega), hC.out]; rfl, by rw [grN_z hC.out (by omega)]; exact Row.nil, hN2⟩
  have hok : askOk a b fm n fp = true := by unfold askOk; rw [h1, h2]; rfl
  have hp := okPal_pos h2
  clear h1 h2
  cases hib : inB count 1 n
  · have hC : Hid (cntC a b fm n fp count = 2) := cntC_2 hok hib
    clear hok
    go_wp2_with (go_at_call 28; refine (within_any _ _ _ _).mono ?_; rintro e w' ⟨rfl, rfl⟩; rw [hib])
    refine (codeOf_any _ _ _).mono ?_
    rintro e w9 ⟨rfl, rfl⟩
    simp only [codeB]
    go_wp2_with (fail)
    go_ret3
    exact ⟨_, by rw [grV_z hC.out (by omega), hC.out]; rfl, by rw [grN_z hC.out (by omega)]; exact Row.nil, hN2⟩
  have hC := hide (cntC_0 hok hib)
  have hcc := inB_t.1 hib
  obtain ⟨K, rfl⟩ : ∃ K : Nat, count = K := ⟨count.toNat, by omega⟩
  have hgb := hide fun k hk => gr_b (n := n) (a := a) (b := b) hfp hfm k hk
  have r1 := obj_lt d1
  have hWl := hN2.le
  clear hok
  go_wp2_with (go_at_call 28; refine (within_any _ _ _ _).mono ?_; rintro e w' ⟨rfl, hw'⟩; subst hw'; rw [hib])
  refine (codeOf_any _ _ _).mono ?_
  rintro e w9 ⟨rfl, hw'⟩
  subst hw'
  simp only [codeB]
  clear hib
  go_wp2_with (fail)
  go_loopw [10, 11, 32] (fun v l x wr => ∃ k : Nat, k ≤ K ∧ x = .int .i64 k ∧ l = .int .i64 (gr fp fm a b n k).2 ∧ Row wr w2.heap.size v k (gr fp fm a b n k).1 ∧ (∃ g c, v = .slice (some ⟨g, 0, none⟩) k c) ∧ New w2 wr ∧ w2.heap.size ≤ wr.heap.size) (fun _ _ x _ => K - (intOf x).toNat)
  case atStart => exact ⟨0, by omega, rfl, rfl, row_empty2 (obj_alloc_at _ _ _ rfl) (Nat.le_refl _), ⟨_, _, rfl⟩, (New.refl _).alloc _, by simp⟩
  case round =>
    obtain ⟨k, hk, rfl, rfl, hrow, ⟨go, co, rfl⟩, hnw, hlw⟩ := hrel
    by_cases hlt : k < K
    · have hkn : k < n := by omega
      have hgk := hgb.out k (by omega)
      have hfree := hide (free_colour (gr fp fm a b n k).1 hkn)
      have hst : Hid (gr fp fm a b n (k + 1) = (upd (gr fp fm a b n k).1 k (gp (costG fp fm a b (gr fp fm a b n k).1 k) (hasL (gr fp fm a b n k).1 k) n).1, (gp (costG fp fm a b (gr fp fm a b n k).1 k) (hasL (gr fp fm a b n k).1 k) n).2)) := rfl
      generalize hG : gr fp fm a b n (k + 1) = G1 at hst
      have hG2 := hide hG
      clear hG
      generalize (gr fp fm a b n k).2 = l0
      generalize (gr fp fm a b n k).1 = L at hrow hfree hst hgk
      have hcb := costG_b (a := a) (b := b) hfp hfm L k
      have hgpb := hide (gp_b (cost := costG fp fm a b L k) (has := hasL L k) (fun c => (hcb c).1))
      go_wp2_with (fail)
      go_loopw [12, 13, 14] (fun nx l x wq => ∃ c : Nat, c ≤ n ∧ x = .int .i64 ((c : Int) + 1) ∧ nx = .int .i64 (gp (costG fp fm a b L k) (hasL L k) c).1 ∧ l = .int .i64 (gp (costG fp fm a b L k) (hasL L k) c).2 ∧ New wr wq) (fun _ _ x _ => n + 1 - (intOf x).toNat)
      case atStart => exact ⟨0, by omega, rfl, rfl, rfl, New.refl _⟩
      case round =>
        obtain ⟨c, hc, rfl, rfl, rfl, hnq⟩ := hrel
        have hrq := hrow.new hnq
        by_cases hlc : c < n
        · have hgpc := hgpb.out c
          have f1 := ((hnw.trans hnq).objs _ r1).trans d1
          have s1 := hs2.new (hnw.trans hnq)
          cases hh : hasL L k ((c : Int) + 1)
          rotate_left
          · have hq := hide (gp_h (cost := costG fp fm a b L k) hh)
            go_wp2_with (go_at_call 34; refine (contL_any _ k _ L _ (by omega) _ hrq.sl).mono ?_; rintro e w' ⟨rfl, rfl⟩; rw [hh])
            go_roundw
            case rel => exact ⟨c + 1, by omega, by go_num, by rw [hq.out], by rw [hq.out], hnq⟩
            case measure => simp [intOf]; omega
          have hLu : ∀ j, j < k + 1 → 1 ≤ upd L k ((c : Int) + 1) j ∧ upd L k ((c : Int) + 1) j ≤ n := by
            intro j hj
            unfold upd
            by_cases e : j = k
            · rw [if_pos e]; omega
            · rw [if_neg e]; exact hgk j (by omega)
          go_upto_region 12 with (go_at_call 34; refine (contL_any _ k _ L _ (by omega) _ hrq.sl).mono ?_; rintro e w' ⟨rfl, hw'⟩; subst hw'; rw [hh])
          have rq1 := obj_lt f1
          go_cut [15] (fun s wx => s = .int .i64 (costG fp fm a b L k ((c : Int) + 1)) ∧ New wr wx)
          case first =>
            go_region_law (first
              | (go_simp; go_at_call 35; refine (cloneR_any go 0 k co L (by omega) _ (hrq.sl.new (by repeat (first | exact New.refl _ | refine New.drew ?_ | refine New.drewN ?_ _ | refine New.alloc ?_ _)))).mono ?_; rintro e1 w5 ⟨v5, rfl, hown, hn5⟩; have hnr : New wr w5 := New.trans (by repeat (first | exact New.refl _ | refine New.drew ?_ | refine New.drewN ?_ _ | refine New.alloc ?_ _)) hn5; have hor : Row w5 wr.heap.size v5 k L := hown.lower (by (try simp)); have f5 := (hnr.objs _ rq1).trans f1; have hl5 := obj_lt f5; obtain ⟨x5, y5, rfl, _⟩ := hown.reads; have hz5 := hnr.le; (try (first | have hcell := obj_made2 hn5 | have hcell := obj_made hn5)); (try simp only [World.size_drew] at hcell))
              | (go_simp; go_at_call 30; refine (costWith_any a b fm ha hb hfm _ n _ fp hfp (by omega) _ (k + 1) _ _ (by omega) hLu _ (s6.new (by repeat (first | exact New.refl _ | refine New.drew ?_ | refine New.drewN ?_ _ | refine New.alloc ?_ _))) (hr6.sl.new (by repeat (first | exact New.refl _ | refine New.drew ?_ | refine New.drewN ?_ _ | refine New.alloc ?_ _)))).mono ?_; rintro e7 w7 ⟨rfl, hn7⟩; have hn8 : New wr w7 := hn6.trans (New.trans (by repeat (first | exact New.refl _ | refine New.drew ?_ | refine New.drewN ?_ _ | refine New.alloc ?_ _)) hn7))
              | (refine step_app slInts rfl _ _ rfl wr.heap.size _ k (irow k .i64 L) rfl (hor.new (by repeat (first | exact New.refl _ | refine New.drew ?_ | refine New.drewN ?_ _ | refine New.alloc ?_ _))) ⟨_, 0, none⟩ 1 1 [.int .i64 ((c : Int) + 1)] rfl rfl (news_obj (cs := #[.int .i64 ((c : Int) + 1)]) (t := 2) (fr := (0, 0)) (by first | exact hcell | (simp only [obj_drew]; exact hcell) | (go_simp; done))) (by simp [Value.oneCell']) (by omega) (by unfold maxLen; omega) (by omega) (by have := hnr.le; (try simp); omega) ?_; intro g6 cap6 w6 hown6 hg6 hat6 hlt6; have hr6 := row_app2 hown6; have hn6 : New wr w6 := grown_new (New.trans hnr (by repeat (first | exact New.refl _ | refine New.drew ?_ | refine New.drewN ?_ _ | refine New.alloc ?_ _))) hg6 (fun b hb => (hor.block b hb).1); have f6 := (hn6.objs _ rq1).trans f1; have s6 := s1.new hn6))
            all_goals
              go_wp2_with (fail)
              go_meet
              exact ⟨rfl, hn8⟩
          case rest =>
            obtain ⟨rfl, hnc⟩ := hcut
            have hcbc := hcb ((c : Int) + 1)
            generalize hcx : costG fp fm a b L k ((c : Int) + 1) = cx at *
            by_cases h0 : (gp (costG fp fm a b L k) (hasL L k) c).1 = 0
            · have hq := hide (gp_t (cost := costG fp fm a b L k) hh (Or.inl h0))
              have hm1 := hgpc.2.2.1 h0
              have m0 : decide ((gp (costG fp fm a b L k) (hasL L k) c).2 < 0) = true := decide_eq_true (by omega)
              clear hgpc hm1 h0
              go_wp2_with (fail)
              go_roundw
              case rel => exact ⟨c + 1, by omega, by go_num, by rw [hq.out], by rw [hq.out, hcx], hnq.trans hnc⟩
              case measure => simp [intOf]; omega
            · have hm1 := hgpc.2.2.2 h0
              have m0 : decide ((gp (costG fp fm a b L k) (hasL L k) c).2 < 0) = false := decide_eq_false (by omega)
              by_cases h2 : cx < (gp (costG fp fm a b L k) (hasL L k) c).2
              · have hq := hide (gp_t (cost := costG fp fm a b L k) hh (Or.inr (by rw [hcx]; exact h2)))
                clear hgpc h0 hm1
                go_wp2_with (fail)
                go_roundw
                case rel => exact ⟨c + 1, by omega, by go_num, by rw [hq.out], by rw [hq.out, hcx], hnq.trans hnc⟩
                case measure => simp [intOf]; omega
              · have hq := hide (gp_f (cost := costG fp fm a b L k) hh (fun h3 => h3.elim h0 (by rw [hcx]; exact h2)))
                clear hgpc h0 hm1
                go_wp2_with (fail)
                go_roundw
                case rel => exact ⟨c + 1, by omega, by go_num, by rw [hq.out], by rw [hq.out], hnq.trans hnc⟩
                case measure => simp [intOf]; omega
        · obtain rfl : c = n := by omega
          have hbk := hrq.block
          clear hfree hgpb
          go_wp2_with (at_builtin; refine wpList_app slInts rfl _ _ rfl w2.heap.size _ _ _ rfl (hrq.new ((New.refl _).alloc _)) ⟨wr.heap.size, 0, none⟩ 1 1 [.int .i64 (gp (costG fp fm a b L k) (hasL L k) c).1] rfl rfl (news_new _ _ _ _ _ rfl) (by simp [Value.oneCell']) (by omega) (by unfold maxLen; omega) (by omega) (by have := hnq.le; simp; omega) ?_)
          intro g1 cap1 w3 hown1 hg1 hat1 hlt1
          have hr3 := row_app2 hown1
          have hn3 : New w2 w3 := grown_new ((hnw.trans hnq).alloc _) hg1 fun b hb => (hbk b hb).1
          have hz3 := hn3.le
          clear hown1 hg1 hat1 hbk
          go_wp2_with (fail)
          go_roundw
          case rel => exact ⟨k + 1, by omega, by go_num, by rw [hG2.out, hst.out], by rw [hG2.out, hst.out]; exact hr3, ⟨_, _, rfl⟩, hn3, hz3⟩
          case measure => simp [intOf]; omega
    · obtain rfl : k = K := by omega
      have hV := hide (grV_s hC.out)
      have hNn := hide (grN_s hC.out)
      go_wp2_with (fail)
      go_ret3
      exact ⟨_, by rw [hV.out, hC.out]; rfl, by rw [hNn.out]; exact hrow.lower (by omega), hN2.trans hnw⟩
end Go.Proofs.Ytpphckfalgapdaa
