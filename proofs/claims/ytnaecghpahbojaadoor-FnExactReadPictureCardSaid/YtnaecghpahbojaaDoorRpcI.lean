/- A picture read from its text: the program's rows; no condition. -/
import Derived.Test.YtnaecghpahbojaaDoorRpcQ
import Derived.Test.YtnaecghpahbojaaDoorSplP
set_option linter.unusedVariables false
namespace Go.Proofs.YtnaecghpahbojaaDoor
open Go.BigFrame
open Go.RowKit Go.Arr
theorem rest_rows {s : ByteArray} (h : endB s = true) : pcs 10 (restB s).data.toList = rwS s := by
  rw [restB_t h, Lib.extract_from_zero]
  unfold rwS
  rw [List.dropLast_eq_take, size_D]
theorem size_restB (s : ByteArray) (hs : s.size ≤ 1048576) : (restB s).size ≤ 1048576 := by
  cases h : endB s
  · rw [restB_f h]; exact hs
  · rw [restB_t h, ByteArray.size_extract]; omega
theorem pcs_cnt (c : UInt8) (s : ByteArray) (hs : s.size ≤ 1048576) : (pcs c s.data.toList).length ≤ 1048577 := by
  rw [pcs_len]
  have h1 : s.data.toList.count c ≤ s.data.toList.length := List.count_le_length
  have h2 := size_D s
  omega
set_option maxHeartbeats 1000000 in
set_option maxRecDepth 100000 in
theorem rowsOf_any (s : ByteArray) (hs : s.size ≤ 1048576) (m : Int) (W : World) (hm : W.cell? ⟨Tryd.laysM146_ren.g 1, 0, none⟩ = some (.int .i64 m)) :
    Calls Tryd.prog 15 #[.string s] W fun e w' => ∃ v R, e = .returned (.tuple #[v, .int .i64 ((R.getD 0 []).length : Nat), .bool (endB s && !badR R (R.getD 0 []).length)]) ∧ WS w' W.heap.size v R ∧ R = pcs 10 (restB s).data.toList ∧ New W w' := by
  have hsz := size_restB s hs
  go_enter Tryd.func15, Tryd.ntmps15
  go_wp2_with (go_at_call 25; refine (cutNl_any s hs _).mono ?_; rintro e wz ⟨rfl, rfl⟩)
  refine (split_any 10 (restB s) hsz m _ hm).mono ?_
  rintro e w1 ⟨v1, rfl, hws, hn1⟩
  have hcnt := pcs_cnt 10 (restB s) hsz
  have hpos := pcs_pos 10 (restB s).data.toList
  obtain ⟨R, hR⟩ : ∃ R, Hid (pcs 10 (restB s).data.toList = R) := ⟨_, rfl⟩
  rw [hR.out] at hws hcnt hpos
  obtain ⟨x3, y3, rfl⟩ := hws.form
  obtain ⟨gs, cur, rfl, os, l0, e0⟩ := hws.slot (j := 0) hpos
  have hz : (⟨R[0].toArray⟩ : ByteArray).size = (R.getD 0 []).length := by rw [getD_at2 hpos]; show R[0].toArray.size = _; simp
  replace e0 : cur[0] = .string ⟨R[0].toArray⟩ := e0
  generalize (⟨R[0].toArray⟩ : ByteArray) = z at e0 hz
  obtain ⟨wd, hwd⟩ : ∃ wd, Hid ((R.getD 0 []).length = wd) := ⟨_, rfl⟩
  rw [hwd.out] at hz
  have lgs := obj_lt os
  go_wp2_with (fail)
  generalize hw2 : w1.alloc (Obj.cells #[.int .i64 (wd : Nat)] 3) = w2
  have hn2 : New w1 w2 := by subst hw2; exact (New.refl _).alloc _
  have o2 : obj w2 w1.heap.size = some (.cells #[.int .i64 (wd : Nat)] 3) := by subst hw2; exact obj_alloc_at _ _ _ rfl
  have hws2 := hws.new hn2
  have hN2 := hn1.trans hn2
  have lB := obj_lt o2
  clear hw2
  cases hE : endB s
  · go_quiet (fail)
    go_wp2_with (fail)
    go_ret3
    exact ⟨_, R, by rw [hE, hwd.out]; rfl, (hws2.new ((New.refl _).drewN _)), hR.out.symm, hN2.drewN _⟩
  · cases hb : badR R wd
    · go_wp2_with (fail)
      refine wp_region_new (by kernel_rfl) (by kernel_rfl) ?_
      repeat (go_big_quiet_step (first | fail | (go_at_call 26; with_reducible exact calls_new (anyLen_k (b := false) R _ _ _ wd w1.heap.size (by omega) hb _ (hws2.new (NewW.is _)) (((NewW.is _).objs _ lB).trans o2)))))
      refine wpQuiet_nil ?_
      intro w1 hc1
      have hn1 := NewW.of hc1
      clear hc1
      have ho1 := hn1.objs
      have hz1 := hn1.le
      try simp at hz1
      go_wp2_with (fail)
      go_ret3
      exact ⟨_, R, by rw [hE, hwd.out, hb]; rfl, hws2.new hn1, hR.out.symm, hN2.trans hn1⟩
    · go_wp2_with (fail)
      refine wp_region_new (by kernel_rfl) (by kernel_rfl) ?_
      repeat (go_big_quiet_step (first | fail | (go_at_call 26; with_reducible exact calls_new (anyLen_k (b := true) R _ _ _ wd w1.heap.size (by omega) hb _ (hws2.new (NewW.is _)) (((NewW.is _).objs _ lB).trans o2)))))
      refine wpQuiet_nil ?_
      intro w2 hc2
      have hn2 := NewW.of hc2
      clear hc2
      have ho2 := hn2.objs
      have hz2 := hn2.le
      try simp at hz2
      go_wp2_with (fail)
      go_ret3
      exact ⟨_, R, by rw [hE, hwd.out, hb]; rfl, hws2.new hn2, hR.out.symm, hN2.trans hn2⟩
end Go.Proofs.YtnaecghpahbojaaDoor
