/- The cost of an image for some colours of a palette, by the program; a colour in a list; a list copied; no condition. -/
import Derived.Test.YtpofhbdnjecfjaaGre
set_option linter.unusedVariables false
namespace Go.Proofs.Ytpofhbdnjecfjaa
open Go.BigFrame
open Go.RowKit Go.Arr
set_option maxHeartbeats 4000000 in
set_option maxRecDepth 100000 in
theorem costWith_any (a b : Int) (fm : Nat → Int) (ha : -128 ≤ a ∧ a ≤ 127) (hb : -128 ≤ b ∧ b ≤ 127) (hfm : ∀ i, 0 ≤ fm i ∧ fm i ≤ 255) (ad : Option Addr) (n cp : Nat) (fp : Nat → Int) (hfp : ∀ i, 0 ≤ fp i ∧ fp i ≤ 255) (hn : n ≤ 15) (la : Option Addr) (m lc : Nat) (L : Nat → Int) (hm : 0 < m ∧ m ≤ 15) (hL : ∀ j, j < m → 1 ≤ L j ∧ L j ≤ n) (W : World) (hs : Sl W (.slice ad n cp) n 3 .u8 fp) (ht : Sl W (.slice la m lc) m 1 .i64 L) :
    Calls Try.prog 41 #[.agg (pic 432 a b fm), .slice ad n cp, .slice la m lc] W fun e w' => e = .returned (.int .i64 (cosS m (subP fp L) fm a b 144)) ∧ New W w' := by
  have hL0 := hL 0 hm.1
  obtain ⟨gs, offs, curs, ts, frs, rfl, o5, hel5⟩ := elInts ht hm.1
  obtain ⟨gp, offp, curp, tp, frp, rfl, o6, hel6⟩ := elsPal hs (by omega)
  have hE5 := hide hel5
  have hE6 := hide hel6
  have hL' := hide hL
  have r5 := obj_lt o5
  have r6 := obj_lt o6
  have hfs : ∀ i, 0 ≤ subP fp L i ∧ subP fp L i ≤ 255 := fun i => hfp _
  clear hel5 hel6 ht hs hL hL0
  go_enter Try.func41, Try.ntmps41
  go_wp2_with (fail)
  go_loopw [18, 7] (fun i v wr => ∃ k : Nat, k ≤ m ∧ i = .int .i64 k ∧ PRow wr (W.heap.size + 1) v k (subP fp L) ∧ Hid (obj wr W.heap.size = some (.cells (pic 432 a b fm) 37)) ∧ New W wr ∧ W.heap.size + 1 ≤ wr.heap.size) (fun i _ _ => m - (intOf i).toNat)
  case atStart => exact ⟨0, by omega, rfl, prow_empty (obj_alloc_at _ _ _ (by simp)) (Nat.le_refl _), by show _ = _; go_simp, ((New.refl W).alloc _).alloc _, by simp⟩
  case round =>
    obtain ⟨k, hk, rfl, hrow, ho1, hnw, hlw⟩ := hrel
    have om := ho1.out
    by_cases hlt : k < m
    · obtain ⟨l5, e5⟩ := hE5.out k hlt
      have hLk := hL'.out k hlt
      obtain ⟨x6, l6⟩ := hE6.out ((L k).toNat - 1) (by omega)
      have p5 := (hnw.objs _ r5).trans o5
      have p6 := (hnw.objs _ r6).trans o6
      have y5 := obj_lt p5
      have y6 := obj_lt p6
      have hbk := hrow.block
      go_wp2_with (at_builtin; refine wpList_app slTones2 rfl _ _ rfl (W.heap.size + 1) _ _ _ rfl (hrow.new ((New.refl _).alloc _)) ⟨wr.heap.size, 0, none⟩ 1 1 [.int .u8 (fp (((L k).toNat - 1) * 3)), .int .u8 (fp (((L k).toNat - 1) * 3 + 1)), .int .u8 (fp (((L k).toNat - 1) * 3 + 2))] rfl rfl (news_new _ _ _ _ _ rfl) (by simp [Value.oneCell']) (by omega) (by unfold maxLen; omega) (by omega) (by simp; omega) ?_)
      intro g1 cap1 w3 hown1 hg1 hat1 hlt1
      have hn1 : New W w3 := grown_new (hnw.alloc _) hg1 fun b hb => by have := hbk b hb; omega
      have om3 := hide ((grown_obj hg1 _ (by simp; omega) (fun e => by have := hbk _ e.symm; omega)).trans ((obj_alloc_past _ _ _ (by omega)).trans om))
      have hr1 := prow_app hown1 (subP_0 fp L k) (subP_1 fp L k) (subP_2 fp L k)
      have hlw1 := grown_le hg1
      simp at hlw1
      clear hown1 hg1 hat1 hrow hnw om ho1
      go_wp2_with (fail)
      go_roundw
      case rel => exact ⟨k + 1, by omega, by go_num, hr1, om3, hn1, by omega⟩
      case measure => simp [intOf]; omega
    · obtain rfl : k = m := by omega
      have hb2 := hrow.sl
      obtain ⟨xa, xc, rfl, _⟩ := hrow.sl
      have hnw0 := hide hnw
      go_wp2_with (fail)
      refine (cells_any a b fm ha hb _).mono ?_
      rintro e w5 ⟨v, rfl, hrw5, hn5⟩
      obtain ⟨x, y, rfl, _⟩ := hrw5.reads
      have p1 := (hn5.objs _ (obj_lt om)).trans om
      have hN5 := hnw.trans hn5
      have hle := selN_le (p := cellN a b) 144
      have hT := hide (cosTe k (subP fp L) fm a b)
      have hsel := hide (selG_lt (p := cellN a b) 144)
      have hsl := hrw5.sl
      have hb5 := hb2.new hn5
      clear hn5 hrw5 hb2 hrow hnw
      go_wp2_with (fail)
      generalize selN (cellN a b) 144 = N at hsl hle hT hsel ⊢
      go_loopw [34, 8] (fun i s wq => ∃ j : Nat, j ≤ N ∧ i = .int .i64 j ∧ s = .int .i64 (recT (cosStep k (subP fp L) fm) 0 (selG (cellN a b) 144) j) ∧ New w5 wq) (fun i _ _ => N - (intOf i).toNat)
      case atStart => exact ⟨0, by omega, rfl, rfl, New.refl _⟩
      case round =>
        obtain ⟨j, hj, rfl, rfl, hnq⟩ := hrel
        by_cases hlj : j < N
        · obtain ⟨hi1, hi2⟩ := hsel.out j hlj
          have hq : Hid (recT (cosStep k (subP fp L) fm) 0 (selG (cellN a b) 144) (j + 1) = recT (cosStep k (subP fp L) fm) 0 (selG (cellN a b) 144) j + farN k (subP fp L) fm (selG (cellN a b) 144 j)) := rfl
          have hcb := cosT_b hfs hfm k (selG (cellN a b) 144) j
          obtain ⟨gl, off, cur, t, fr, rfl, o1, hel2⟩ := elInts (hsl.new hnq) (by omega)
          obtain ⟨l1, e1⟩ := hel2 j hlj
          try dsimp only at e1
          generalize selG (cellN a b) 144 j = i at hi1 hi2 hq e1
          have s1 := (hnq.objs _ (obj_lt p1)).trans p1
          have q1 := obj_lt s1
          have x1 : (pic 432 a b fm).extract (2 + i * 3) (2 + i * 3 + 3) = #[.int .u8 (fm (i * 3)), .int .u8 (fm (i * 3 + 1)), .int .u8 (fm (i * 3 + 2))] := pic3 (by omega) rfl
          have l3 : 2 + i * 3 + 3 ≤ 434 := by omega
          have hfb := farN_b hfs hfm k i
          have hfe : Hid ((nearK (subP fp L) (fm (i * 3)) (fm (i * 3 + 1)) (fm (i * 3 + 2)) k).2 = farN k (subP fp L) fm i) := rfl
          clear hel2
          generalize recT (cosStep k (subP fp L) fm) 0 (selG (cellN a b) 144) j = S at hcb hq ⊢
          go_wp2_with (fail)
          refine (nearest_any _ k _ (subP fp L) _ _ _ (hfm _) (hfm _) (hfm _) hfs (by omega) (by omega) _ (hb5.new hnq)).mono ?_
          rintro e w6 ⟨rfl, hn6⟩
          rw [hfe.out]
          go_wp2_with (fail)
          go_roundw
          case rel => exact ⟨j + 1, by omega, by go_num, by rw [hq.out], hnq.trans hn6⟩
          case measure => simp [intOf]; omega
        · obtain rfl : j = N := by omega
          rw [hT.out]
          go_wp2_with (fail)
          go_ret
          exact ⟨rfl, hN5.trans hnq⟩
def hasL (L : Nat → Int) : Nat → Int → Bool
  | 0, _ => false
  | k + 1, c => hasL L k c || L k == c
theorem hasL_t {L : Nat → Int} {k j : Nat} {c : Int} (hj : j < k) (h : L j = c) : hasL L k c = true := by
  induction k with
  | zero => omega
  | succ k ih =>
    unfold hasL
    by_cases e : j = k
    · subst e; simp [h]
    · rw [ih (by omega)]; rfl
theorem hasL_f {L : Nat → Int} {k : Nat} {c : Int} (h : ∀ j, j < k → L j ≠ c) : hasL L k c = false := by
  induction k with
  | zero => rfl
  | succ k ih =>
    unfold hasL
    rw [ih (fun j hj => h j (by omega))]
    simpa using h k (by omega)
theorem hasL_congr {L L' : Nat → Int} {k : Nat} {c : Int} (h : ∀ j, j < k → L j = L' j) : hasL L k c = hasL L' k c := by
  induction k with
  | zero => rfl
  | succ k ih =>
    unfold hasL
    rw [ih (fun j hj => h j (by omega)), h k (by omega)]
theorem ne_succ {L : Nat → Int} {k : Nat} {c : Int} (h : ∀ j, j < k → L j ≠ c) (hk : L k ≠ c) : ∀ j, j < k + 1 → L j ≠ c := fun j hj => by
  by_cases e : j = k
  · subst e; exact hk
  · exact h j (by omega)
end Go.Proofs.Ytpofhbdnjecfjaa
