/- A palette read from its text: the reference and the program; no condition. -/
import Derived.Test.YtnaecghpahbojaaDoorReadI
import Derived.Test.YtnaecghpahbojaaDoorVpal
import Derived.Test.YtnaecghpahbojaaDoorGre
import Derived.Test.YtnaecghpahbojaaDoorSplP
set_option linter.unusedVariables false
namespace Go.Proofs.YtnaecghpahbojaaDoor
open Go.BigFrame
open Go.RowKit Go.Arr
def wds (s : ByteArray) : List (List UInt8) := pcs 32 s.data.toList
def wdB (l : List UInt8) : ByteArray := ⟨l.toArray⟩
def wdO (ls : List (List UInt8)) (j : Nat) : Bool := okText (wdB (ls.getD j []))
def wdF (ls : List (List UInt8)) (j : Nat) : Int := toneV (wdB (ls.getD (j / 3) [])) (j % 3)
def rpO (s : ByteArray) : Bool := (List.range (wds s).length).all (wdO (wds s)) && okPal (wds s).length (wdF (wds s))
def rpC (s : ByteArray) : Int := if rpO s = true then 0 else 5
def rpN (s : ByteArray) : Nat := if rpO s = true then (wds s).length else 0
theorem pcs_mem (c : UInt8) (D : List UInt8) : ∀ l, l ∈ pcs c D → l.length ≤ D.length := by
  induction D with
  | nil => intro l hl; simp [pcs] at hl; simp [hl]
  | cons b D ih =>
    intro l hl
    unfold pcs at hl
    by_cases e : b = c
    · rw [if_pos e] at hl
      rcases List.mem_cons.1 hl with h | h
      · rw [h]; simp
      · have := ih l h; rw [List.length_cons]; omega
    · rw [if_neg e] at hl
      split at hl
      · simp at hl; rw [hl]; simp
      · rename_i p ps hp
        rcases List.mem_cons.1 hl with h | h
        · have := ih p (by rw [hp]; simp); rw [h, List.length_cons, List.length_cons]; omega
        · have := ih l (by rw [hp]; simp [h]); rw [List.length_cons]; omega
theorem pcs_le (c : UInt8) (D : List UInt8) (h : (pcs c D).getD 0 [] ≠ []) : (pcs c D).length ≤ D.length := by
  cases D with
  | nil => simp [pcs] at h
  | cons b D =>
    rw [pcs_len]
    by_cases e : b = c
    · unfold pcs at h; rw [if_pos e] at h; simp at h
    · rw [List.count_cons_of_ne e, List.length_cons]
      have : D.count c ≤ D.length := List.count_le_length
      omega
theorem wds_b (s : ByteArray) : (wds s).length ≤ s.size + 1 := by
  unfold wds
  rw [pcs_len]
  have : s.data.toList.count 32 ≤ s.data.toList.length := List.count_le_length
  have h2 : s.data.toList.length = s.size := by simp
  omega
theorem wds_le {s : ByteArray} (h : wdO (wds s) 0 = true) : (wds s).length ≤ s.size := by
  have h2 : s.data.toList.length = s.size := by simp
  rw [← h2]
  refine pcs_le 32 _ fun e => ?_
  unfold wdO at h
  rw [show (wds s).getD 0 [] = [] from e] at h
  revert h
  decide
theorem wds_sz {s : ByteArray} {j : Nat} (hj : j < (wds s).length) : (wdB (wds s)[j]).size ≤ s.size := by
  have h2 : s.data.toList.length = s.size := by simp
  rw [← h2]
  exact pcs_mem 32 _ _ (List.getElem_mem hj)
theorem getD_at {α : Type} {l : List α} {j : Nat} {d : α} (h : j < l.length) : l.getD j d = l[j] := by
  rw [List.getD_eq_getElem?_getD, List.getElem?_eq_getElem h]; rfl
section
variable {s : ByteArray}
theorem rpC_t (h : rpO s = true) : rpC s = 0 := if_pos h
theorem rpC_f (h : rpO s = false) : rpC s = 5 := if_neg (by rw [h]; simp)
theorem rpN_t (h : rpO s = true) : rpN s = (wds s).length := if_pos h
theorem rpN_f (h : rpO s = false) : rpN s = 0 := if_neg (by rw [h]; simp)
theorem rpO_w {j : Nat} (hj : j < (wds s).length) (h : wdO (wds s) j = false) : rpO s = false := by
  unfold rpO
  rw [Bool.and_eq_false_iff]
  left
  rw [List.all_eq_false]
  exact ⟨j, by simpa using hj, by rw [h]; simp⟩
theorem rpO_e (h : ∀ j, j < (wds s).length → wdO (wds s) j = true) : rpO s = okPal (wds s).length (wdF (wds s)) := by
  unfold rpO
  rw [List.all_eq_true.2 (fun j hj => h j (by simpa using hj)), Bool.true_and]
theorem rpN_le (s : ByteArray) : rpN s ≤ 15 := by
  unfold rpN
  split
  · rename_i h
    unfold rpO at h
    rw [Bool.and_eq_true] at h
    exact (okPal_pos h.2).2
  · omega
end
theorem toneV_b {s : ByteArray} (h : okText s = true) (k : Nat) (hk : k < 3) : 0 ≤ toneV s k ∧ toneV s k ≤ 255 := by
  unfold okText okAt at h
  simp only [Bool.and_eq_true, decide_eq_true_iff] at h
  have h1 : -1 ≤ dg s 1 ∧ dg s 1 ≤ 15 := dg_b s 1
  have h2 : -1 ≤ dg s 2 ∧ dg s 2 ≤ 15 := dg_b s 2
  have h3 : -1 ≤ dg s 3 ∧ dg s 3 ≤ 15 := dg_b s 3
  have h4 : -1 ≤ dg s 4 ∧ dg s 4 ≤ 15 := dg_b s 4
  have h5 : -1 ≤ dg s 5 ∧ dg s 5 ≤ 15 := dg_b s 5
  have h6 : -1 ≤ dg s 6 ∧ dg s 6 ≤ 15 := dg_b s 6
  have e : k = 0 ∨ k = 1 ∨ k = 2 := by omega
  rcases e with rfl | rfl | rfl
  · show 0 ≤ 16 * dg s 1 + dg s 2 ∧ 16 * dg s 1 + dg s 2 ≤ 255
    omega
  · show 0 ≤ 16 * dg s 3 + dg s 4 ∧ 16 * dg s 3 + dg s 4 ≤ 255
    omega
  · show 0 ≤ 16 * dg s 5 + dg s 6 ∧ 16 * dg s 5 + dg s 6 ≤ 255
    omega
set_option maxHeartbeats 2000000 in
set_option maxRecDepth 100000 in
theorem readPal_spec (s : ByteArray) (hs : s.size ≤ 1048576) (W : World) :
    Calls Tryd.prog 8 #[.string s] W fun e w' => ∃ v, e = .returned (.tuple #[v, .int .i64 (rpC s)]) ∧ PRow w' W.heap.size v (rpN s) (wdF (wds s)) ∧ New W w' := by
  go_enter Tryd.func8, Tryd.ntmps8
  go_wp2_with (fail)
  refine (l01Split_any 32 s hs _).mono ?_
  rintro e w1 ⟨v1, rfl, hws, hn1⟩
  have hwl := hn1.le
  have hlen := wds_b s
  have hle := hide (fun h => wds_le (s := s) h)
  have hsz := hide (fun j hj => wds_sz (s := s) (j := j) hj)
  have hCf := hide (fun j hj h => rpC_f (rpO_w (s := s) (j := j) hj h))
  have hNf := hide (fun j hj h => rpN_f (rpO_w (s := s) (j := j) hj h))
  have hOe := hide (fun h => rpO_e (s := s) h)
  have hCt := hide (fun h => rpC_t (s := s) h)
  have hNt := hide (fun h => rpN_t (s := s) h)
  have hCf2 := hide (fun h => rpC_f (s := s) h)
  have hNf2 := hide (fun h => rpN_f (s := s) h)
  change WS w1 W.heap.size v1 (wds s) at hws
  obtain ⟨ls, hls⟩ : ∃ ls, Hid (wds s = ls) := ⟨_, rfl⟩
  rw [hls.out] at hws hlen hle hsz hCf hNf hOe hNt
  obtain ⟨x3, y3, rfl⟩ := hws.form
  go_wp2_with (fail)
  go_loopw [6, 5] (fun x v wr => ∃ i : Nat, i ≤ ls.length ∧ x = .int .i64 (i : Nat) ∧ PRow wr w1.heap.size v i (wdF ls) ∧ Hid (∀ j, j < i → wdO ls j = true) ∧ New w1 wr ∧ w1.heap.size ≤ wr.heap.size) (fun x _ _ => ls.length - (intOf x).toNat)
  case atStart => exact ⟨0, by omega, rfl, prow_empty (obj_alloc_at _ _ _ rfl) (Nat.le_refl _), fun j hj => absurd hj (by omega), (New.refl _).alloc _, by simp⟩
  case round =>
    obtain ⟨i, hi, rfl, hrow, hal, hnw, hlw⟩ := hrel
    by_cases hlt : i < ls.length
    · obtain ⟨gs, cur, rfl, os, lsz, es⟩ := hws.slot hlt
      have hsw := hsz.out i hlt
      have hgi := getD_at (d := ([] : List UInt8)) hlt
      have os2 := (hnw.objs _ (obj_lt os)).trans os
      have lgs := obj_lt os2
      replace es : cur[i] = .string (wdB ls[i]) := es
      have hwo : Hid (wdO ls i = okText (wdB ls[i])) := by show _ = _; unfold wdO; rw [hgi]
      have h0 : Hid (wdF ls (i * 3) = toneV (wdB ls[i]) 0) := by show _ = _; unfold wdF; rw [show i * 3 / 3 = i by omega, show i * 3 % 3 = 0 by omega, hgi]
      have h1 : Hid (wdF ls (i * 3 + 1) = toneV (wdB ls[i]) 1) := by show _ = _; unfold wdF; rw [show (i * 3 + 1) / 3 = i by omega, show (i * 3 + 1) % 3 = 1 by omega, hgi]
      have h2 : Hid (wdF ls (i * 3 + 2) = toneV (wdB ls[i]) 2) := by show _ = _; unfold wdF; rw [show (i * 3 + 2) / 3 = i by omega, show (i * 3 + 2) % 3 = 2 by omega, hgi]
      generalize wdB ls[i] = z at hsw es hwo h0 h1 h2
      clear os hgi
      go_wp2_with (fail)
      refine (l02ReadTone_any z (by omega) _).mono ?_
      rintro e w2 ⟨rfl, hn2⟩
      have hn2' := hnw.trans hn2
      have hrow2 := hrow.new hn2
      have hzb := fun k hk h => toneV_b (s := z) h k hk
      cases hok : okText z
      · have hC := hide (hCf.out i hlt (by rw [hwo.out, hok]))
        have hN := hide (hNf.out i hlt (by rw [hwo.out, hok]))
        clear hok
        go_wp2_with (fail)
        go_ret2
        exact ⟨_, by rw [hC.out]; rfl, by rw [hN.out]; exact prow_empty (obj_alloc_at _ _ _ (by simp)) (by have := hn2.le; simp; omega), hn1.trans ((hn2'.alloc _).alloc _)⟩
      · have hal2 : Hid (∀ j, j < i + 1 → wdO ls j = true) := fun j hj => by
          by_cases e : j = i
          · rw [e, hwo.out, hok]
          · exact hal.out j (by omega)
        have r0 := hzb 0 (by omega) hok
        have r1 := hzb 1 (by omega) hok
        have r2 := hzb 2 (by omega) hok
        rw [readV_t hok]
        have hbk := hide hrow2.block
        clear hzb hok
        go_wp2_with (at_builtin; refine wpList_app slTones rfl _ _ rfl w1.heap.size _ _ _ rfl (hrow2.new (((New.refl _).alloc _).alloc _)) ⟨w2.heap.size + 1, 0, none⟩ 1 1 [.int .u8 (toneV z 0), .int .u8 (toneV z 1), .int .u8 (toneV z 2)] rfl rfl (news_new _ _ _ _ _ (by simp)) (by simp [Value.oneCell']) (by omega) (by unfold maxLen; omega) (by omega) (by have := hn2.le; simp; omega) ?_)
        intro g1 cap1 w3 hown1 hg1 hat1 hlt1
        have hr3 := prow_app (f := wdF ls) hown1 h0.out h1.out h2.out
        have hn3 : New w1 w3 := grown_new ((hn2'.alloc _).alloc _) hg1 fun b hb => (hbk.out b hb).1
        have hz3 := hn3.le
        clear hown1 hg1 hat1 hbk hrow2
        go_wp2_with (fail)
        go_roundw
        case rel => exact ⟨i + 1, by omega, by go_num, hr3, hal2, hn3, by omega⟩
        case measure => simp [intOf]; omega
    · have hie : i = ls.length := by omega
      rw [hie] at hrow
      have hw0 : ls.length ≤ 1048576 := by
        by_cases e : ls.length = 0
        · omega
        · have := hle.out (hal.out 0 (by omega)); omega
      have hOe2 := hide (hOe.out fun j hj => hal.out j (by omega))
      obtain ⟨x6, y6, rfl, _⟩ := hrow.sl
      clear hie hal hle
      go_wp2_with (fail)
      refine (validPal_spec x6 ls.length y6 (wdF ls) hw0 _ hrow.sl).mono ?_
      rintro e w4 ⟨rfl, hn4⟩
      have hn4' := hnw.trans hn4
      have hrow4 := hrow.new hn4
      clear hrow
      cases hop : okPal ls.length (wdF ls)
      · have hC := hide (hCf2.out (by rw [hOe2.out, hop]))
        have hN := hide (hNf2.out (by rw [hOe2.out, hop]))
        clear hop
        go_wp2_with (fail)
        go_ret2
        exact ⟨_, by rw [hC.out]; rfl, by rw [hN.out]; exact prow_empty (obj_alloc_at _ _ _ rfl) (by have := hn4.le; omega), hn1.trans (hn4'.alloc _)⟩
      · have hC := hide (hCt.out (by rw [hOe2.out, hop]))
        have hN := hide (hNt.out (by rw [hOe2.out, hop]))
        clear hop
        go_wp2_with (fail)
        go_ret2
        exact ⟨_, by rw [hC.out]; rfl, by rw [hN.out, hls.out]; exact hrow4.lower (by omega), hn1.trans hn4'⟩
end Go.Proofs.YtnaecghpahbojaaDoor
