/- A palette read from its text, by the program; no condition. -/
import Derived.Test.YtnaecghpahbojaaDoorRdP
set_option linter.unusedVariables false
namespace Go.Proofs.YtnaecghpahbojaaDoor
open Go.BigFrame
open Go.RowKit Go.Arr
theorem PRow.form2 {W : World} {base n : Nat} {v : Value} {f : Nat → Int} (h : PRow W base v n f) : ∃ a cap, v = .slice a n cap ∧ n ≤ cap := by
  rcases h.shape with ⟨h1, h2⟩ | ⟨g, cap, cur, h1, _, _, _, h4, _⟩
  · exact ⟨none, 0, by rw [h2]; exact h1, by omega⟩
  · exact ⟨_, _, h1, h4⟩
set_option maxHeartbeats 2000000 in
set_option maxRecDepth 100000 in
theorem readPal_impl (s : ByteArray) (hs : s.size ≤ 1048576) (m : Int) (W : World) (hm : W.cell? ⟨Tryd.laysM146_ren.g 1, 0, none⟩ = some (.int .i64 m)) :
    Calls Tryd.prog 9 #[.string s] W fun e w' => ∃ v, e = .returned (.tuple #[v, .int .i64 (rpC s)]) ∧ PRow w' W.heap.size v (rpN s) (wdF (wds s)) ∧ New W w' := by
  go_enter Tryd.func9, Tryd.ntmps9
  go_wp2_with (fail)
  have hgl := World.block_lt_of_cell? _ _ hm
  have hm0 : (W.alloc (Obj.cells #[] 45)).cell? ⟨Tryd.laysM146_ren.g 1, 0, none⟩ = some (.int .i64 m) := by rw [((New.refl W).alloc _).cells _ _ hgl]; exact hm
  refine (split_any 32 s hs m _ hm0).mono ?_
  rintro e w1 ⟨v1, rfl, hws, hn0⟩
  have ob : obj w1 W.heap.size = some (.cells #[] 45) := (hn0.objs _ (by simp)).trans (obj_alloc_at _ _ _ rfl)
  have hn1 : New W w1 := ((New.refl W).alloc _).trans hn0
  have hwl := hn1.le
  have hlen := wds_b s
  have hle := hide (fun h => wds_le (s := s) h)
  have hsz := hide (fun j hj => wds_sz (s := s) (j := j) hj)
  have hCf := hide (fun j hj h => rpC_f (rpO_w (s := s) (j := j) hj h))
  have hNf := hide (fun j hj h => rpN_f (rpO_w (s := s) (j := j) hj h))
  have hOe := hide (fun h => rpO_e (s := s) h)
  have hCt := hide (fun h => rpC_t (s := s) h)
  have hNt := hide (fun h => rpN_t (s := s) h)
  have hCf2 := hide (fun h => rpC_f (s := s) h)
  have hNf2 := hide (fun h => rpN_f (s := s) h)
  change WS w1 (W.alloc (Obj.cells #[] 45)).heap.size v1 (wds s) at hws
  simp only [World.size_alloc] at hws
  obtain ⟨ls, hls⟩ : ∃ ls, Hid (wds s = ls) := ⟨_, rfl⟩
  rw [hls.out] at hws hlen hle hsz hCf hNf hOe hNt
  obtain ⟨x3, y3, rfl⟩ := hws.form
  go_wp2_with (fail)
  go_loopw [13, 4] (fun x v wr => ∃ i : Nat, i ≤ ls.length ∧ x = .int .i64 (i : Nat) ∧ PRow wr W.heap.size v i (wdF ls) ∧ Hid (∀ j, j < i → wdO ls j = true) ∧ New W wr ∧ Hid (∀ q, W.heap.size < q → q < w1.heap.size → obj wr q = obj w1 q) ∧ Hid (∀ q : Nat, v.ownBlock = some q → q = W.heap.size ∨ w1.heap.size ≤ q) ∧ w1.heap.size ≤ wr.heap.size) (fun x _ _ => ls.length - (intOf x).toNat)
  case atStart => exact ⟨0, by omega, rfl, prow_empty ob (Nat.le_refl _), fun j hj => absurd hj (by omega), hn1, fun q _ _ => rfl, fun q hq => Or.inl (by simp [Value.ownBlock] at hq; omega), Nat.le_refl _⟩
  case round =>
    obtain ⟨i, hi, rfl, hrow, hal, hnw, hkeep, hvo, hlw⟩ := hrel
    by_cases hlt : i < ls.length
    · obtain ⟨gs, cur, rfl, os, lsz, es⟩ := hws.slot hlt
      have hsw := hsz.out i hlt
      have hgi := getD_at (d := ([] : List UInt8)) hlt
      have hgb := hws.block gs rfl
      have os2 := (hkeep.out gs (by omega) hgb.2).trans os
      have lgs := obj_lt os2
      replace es : cur[i] = .string (wdB ls[i]) := es
      have hwo : Hid (wdO ls i = okText (wdB ls[i])) := by show _ = _; unfold wdO; rw [hgi]
      have h0 : Hid (wdF ls (i * 3) = toneV (wdB ls[i]) 0) := by show _ = _; unfold wdF; rw [show i * 3 / 3 = i by omega, show i * 3 % 3 = 0 by omega, hgi]
      have h1 : Hid (wdF ls (i * 3 + 1) = toneV (wdB ls[i]) 1) := by show _ = _; unfold wdF; rw [show (i * 3 + 1) / 3 = i by omega, show (i * 3 + 1) % 3 = 1 by omega, hgi]
      have h2 : Hid (wdF ls (i * 3 + 2) = toneV (wdB ls[i]) 2) := by show _ = _; unfold wdF; rw [show (i * 3 + 2) / 3 = i by omega, show (i * 3 + 2) % 3 = 2 by omega, hgi]
      generalize wdB ls[i] = z at hsw es hwo h0 h1 h2
      clear os hgi
      go_wp2_with (fail)
      refine (readTone_impl z (by omega) _).mono ?_
      rintro e w2 ⟨rfl, hn2⟩
      have hn2' := hnw.trans hn2
      have hrow2 := hrow.new hn2
      have hkeep2 : Hid (∀ q, W.heap.size < q → q < w1.heap.size → obj w2 q = obj w1 q) := fun q h1 h2 => (hn2.objs _ (by omega)).trans (hkeep.out q h1 h2)
      have hz2 := hn2.le
      have hzb := fun k hk h => toneV_b (s := z) h k hk
      cases hok : okText z
      · rw [codeT_f hok]
        have hC := hide (hCf.out i hlt (by rw [hwo.out, hok]))
        have hN := hide (hNf.out i hlt (by rw [hwo.out, hok]))
        clear hok
        go_wp2_with (fail)
        go_ret2
        exact ⟨_, by rw [hC.out]; rfl, by rw [hN.out]; exact ⟨by simp, .inl ⟨rfl, rfl⟩⟩, hn2'.alloc _⟩
      · have hal2 : Hid (∀ j, j < i + 1 → wdO ls j = true) := fun j hj => by
          by_cases e : j = i
          · rw [e, hwo.out, hok]
          · exact hal.out j (by omega)
        have r0 := hzb 0 (by omega) hok
        have r1 := hzb 1 (by omega) hok
        have r2 := hzb 2 (by omega) hok
        rw [readV_t hok, codeT_t hok]
        have hbk := hide hrow2.block
        clear hzb hok
        go_wp2_with (at_builtin; refine wpList_app slTones rfl _ _ rfl W.heap.size _ _ _ rfl (hrow2.new (((New.refl _).alloc _).alloc _)) ⟨w2.heap.size + 1, 0, none⟩ 1 1 [.int .u8 (toneV z 0), .int .u8 (toneV z 1), .int .u8 (toneV z 2)] rfl rfl (news_new _ _ _ _ _ (by simp)) (by simp [Value.oneCell']) (by omega) (by unfold maxLen; omega) (by omega) (by have := hn2.le; simp; omega) ?_)
        intro g1 cap1 w3 hown1 hg1 hat1 hlt1
        have hr3 := prow_app (f := wdF ls) hown1 h0.out h1.out h2.out
        have hn3 : New W w3 := grown_new ((hn2'.alloc _).alloc _) hg1 fun b hb => (hbk.out b hb).1
        have hz3 := grown_le hg1
        simp only [World.size_alloc] at hz3
        have hkeep3 : Hid (∀ q, W.heap.size < q → q < w1.heap.size → obj w3 q = obj w1 q) := fun q h1 h2 => by
          rw [grown_obj hg1 q (by simp; omega) (fun e => by have := hvo.out q e.symm; omega), obj_alloc_past _ _ _ (by simp; omega), obj_alloc_past _ _ _ (by omega)]
          exact hkeep2.out q h1 h2
        have hvo3 : Hid (∀ q : Nat, (Value.slice (some ⟨g1, 0, none⟩) (i + 1) cap1).ownBlock = some q → q = W.heap.size ∨ w1.heap.size ≤ q) := fun q hq => by
          simp [Value.ownBlock] at hq
          subst hq
          rcases hat1 with h | h
          · exact hvo.out _ h
          · right; (try simp at h); omega
        clear hown1 hg1 hat1 hbk hrow2
        go_wp2_with (fail)
        go_roundw
        case rel => exact ⟨i + 1, by omega, by go_num, hr3, hal2, hn3, hkeep3, hvo3, by omega⟩
        case measure => simp [intOf]; omega
    · have hie : i = ls.length := by omega
      rw [hie] at hrow
      have hw0 : ls.length ≤ 1048576 := by
        by_cases e : ls.length = 0
        · omega
        · have := hle.out (hal.out 0 (by omega)); omega
      have hOe2 := hide (hOe.out fun j hj => hal.out j (by omega))
      obtain ⟨x6, y6, rfl, hcy⟩ := hrow.form2
      clear hie hal hle
      go_wp2_with (fail)
      refine (validPal_impl x6 ls.length y6 (wdF ls) hw0 hcy _ hrow.sl).mono ?_
      rintro e w4 ⟨rfl, hn4⟩
      have hn4' := hnw.trans hn4
      have hrow4 := hrow.new hn4
      clear hrow
      cases hop : okPal ls.length (wdF ls)
      · have hC := hide (hCf2.out (by rw [hOe2.out, hop]))
        have hN := hide (hNf2.out (by rw [hOe2.out, hop]))
        clear hop
        go_wp2_with (fail)
        go_ret2
        exact ⟨_, by rw [hC.out]; rfl, by rw [hN.out]; exact ⟨by simp, .inl ⟨rfl, rfl⟩⟩, hn4'⟩
      · have hC := hide (hCt.out (by rw [hOe2.out, hop]))
        have hN := hide (hNt.out (by rw [hOe2.out, hop]))
        clear hop
        go_wp2_with (fail)
        go_ret2
        exact ⟨_, by rw [hC.out]; rfl, by rw [hN.out, hls.out]; exact hrow4, hn4'⟩
end Go.Proofs.YtnaecghpahbojaaDoor
