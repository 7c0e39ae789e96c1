/- A tone read from its text: what the program returns, and the law; no condition. -/
import Derived.Test.YtnaecghpahbojaaDoorReadT
import Derived.Test.YtnaecghpahbojaaDoorPal
set_option linter.unusedVariables false
namespace Go.Proofs.YtnaecghpahbojaaDoor
open Go.BigFrame
open Go.RowKit Go.Arr
def codeT (s : ByteArray) : Int := if okText s = true then 0 else 5
theorem codeT_t {s : ByteArray} (h : okText s = true) : codeT s = 0 := if_pos h
theorem codeT_f {s : ByteArray} (h : okText s = false) : codeT s = 5 := if_neg (by simp [h])
theorem bAt_rest {s : ByteArray} (h : foundB s = true) (i : Nat) : bAt (restS s) i = bAt s (i + 1) := by
  have hl := foundB_len h
  rw [restS_t h]
  obtain ⟨⟨l⟩⟩ := s
  unfold bAt
  congr 2
  rw [Array.getD_eq_getD_getElem?, Array.getD_eq_getD_getElem?]
  congr 1
  have e : (ByteArray.extract ⟨⟨l⟩⟩ 1 (ByteArray.size ⟨⟨l⟩⟩)).data.toList = l.drop 1 := by
    rw [← Lib.toList_data, Lib.extract_toList]
    show ((l.drop 1).take (l.length - 1)) = _
    rw [List.take_of_length_le (by simp)]
  rw [← Array.getElem?_toList, e, ← Array.getElem?_toList, List.getElem?_drop]
  congr 1
  omega
theorem size_rest {s : ByteArray} (h : foundB s = true) : (restS s).size = s.size - 1 := by
  rw [restS_t h]
  simp
theorem size_rest_le (s : ByteArray) : (restS s).size ≤ s.size := by
  cases h : foundB s
  · rw [restS_f h]; omega
  · rw [size_rest h]; omega
theorem size_bstr (l : List Int) : (bstr l).size = l.length := by
  show (bytesOf l).toArray.size = _
  simp [bytesOf]
theorem size_fhS (t : ByteArray) : (fhS t).size = if hexOk t = true then t.size / 2 else 0 := by
  cases h : hexOk t
  · rw [fhS_f h]; rfl
  · rw [fhS_t h, size_bstr, length_pairL]; rfl
theorem okText_iff (s : ByteArray) : okText s = true ↔ foundB s = true ∧ fhB (restS s) = true ∧ (fhS (restS s)).size = 3 := by
  cases hf : foundB s
  · refine ⟨fun h => ?_, fun h => by cases h.1⟩
    unfold okText at h
    simp only [Bool.and_eq_true, decide_eq_true_eq] at h
    unfold foundB at hf
    rw [h.2.1, decide_eq_true (by omega)] at hf
    cases hf
  have hl := foundB_len hf
  have hz := size_rest hf
  have hh : bAt s 0 = 35 := by
    unfold foundB at hf
    rw [Bool.and_eq_true] at hf
    exact beq_iff_eq.1 hf.2
  have hp : ∀ k, pairOk (restS s) k = (okAt s (2 * k + 1) && okAt s (2 * k + 2)) := by
    intro k
    unfold pairOk okAt dg
    rw [bAt_rest hf, bAt_rest hf]
  by_cases h7 : s.size = 7
  · have hx : hexOk (restS s) = ((okAt s 1 && okAt s 2) && (okAt s 3 && okAt s 4) && (okAt s 5 && okAt s 6)) := by
      unfold hexOk
      rw [hz, h7]
      show (List.range 3).all _ = _
      simp only [List.range_succ, List.range_zero, List.nil_append, List.all_append, List.all_cons, List.all_nil, Bool.and_true, hp]
    have ho : okText s = hexOk (restS s) := by
      rw [hx]
      unfold okText
      rw [decide_eq_true h7, beq_iff_eq.2 hh]
      cases okAt s 1 <;> cases okAt s 2 <;> cases okAt s 3 <;> cases okAt s 4 <;> cases okAt s 5 <;> cases okAt s 6 <;> rfl
    rw [ho, size_fhS]
    unfold fhB
    rw [hz, h7]
    cases hexOk (restS s) <;> simp
  · have ho : okText s = false := by unfold okText; rw [decide_eq_false h7]; rfl
    rw [ho, size_fhS]
    unfold fhB
    refine ⟨fun h => (by cases h), fun h => ?_⟩
    obtain ⟨_, h2, h3⟩ := h
    rw [Bool.and_eq_true] at h2
    rw [if_pos h2.1] at h3
    have h4 := of_decide_eq_true h2.2
    omega
theorem copy_cells {s : ByteArray} (h : okText s = true) : Lib.byteCells (fhS (restS s)).data.toList = [.int .u8 (toneV s 0), .int .u8 (toneV s 1), .int .u8 (toneV s 2)] := by
  obtain ⟨hf, hb, h3⟩ := (okText_iff s).1 h
  have hx : hexOk (restS s) = true := by
    unfold fhB at hb
    rw [Bool.and_eq_true] at hb
    exact hb.1
  have h4 : (restS s).size / 2 = 3 := by rw [size_fhS, if_pos hx] at h3; exact h3
  have hv : ∀ k, pairV (restS s) k = toneV s k := by
    intro k
    unfold pairV toneV dg
    rw [bAt_rest hf, bAt_rest hf]
  have hb3 : ∀ k, k < 3 → 0 ≤ toneV s k ∧ toneV s k ≤ 255 := by
    intro k hk
    have h5 := List.all_eq_true.1 hx k (by rw [h4]; simpa using hk)
    unfold pairOk at h5
    rw [Bool.and_eq_true, decide_eq_true_eq, decide_eq_true_eq] at h5
    have b0 := hexv_b (bAt (restS s) (2 * k))
    have b1 := hexv_b (bAt (restS s) (2 * k + 1))
    rw [← hv]
    unfold pairV
    omega
  have hu : ∀ z : Int, 0 ≤ z ∧ z ≤ 255 → (((UInt8.ofNat z.toNat).toNat : Nat) : Int) = z := by
    intro z hz
    rw [UInt8.toNat_ofNat']
    omega
  rw [fhS_t hx, h4]
  show Lib.byteCells (bytesOf (pairL (restS s) 3)) = _
  simp only [pairL, hv, List.nil_append, List.cons_append, bytesOf, List.map_cons, List.map_nil, Lib.byteCells]
  rw [hu _ (hb3 0 (by omega)), hu _ (hb3 1 (by omega)), hu _ (hb3 2 (by omega))]
theorem run_copy3 {s : ByteArray} (h : okText s = true) (ty : TypeId) (b : Nat) (W : World) (hW : obj W b = some (.cells #[.int .u8 0, .int .u8 0, .int .u8 0] 45)) :
    (Builtin.copy_ #[59, 9] ty #[.slice (some ⟨b, 0, none⟩) 3 3, .string (fhS (restS s))]).run Tryd.prog W = .ok (goInt 3) (W.setRow b #[.int .u8 (toneV s 0), .int .u8 (toneV s 1), .int .u8 (toneV s 2)]) := by
  have h3 := ((okText_iff s).1 h).2.2
  have hr := Lib.run_copy_row_string (P := Tryd.prog) W 59 9 ty 5 b 0 3 3 (fhS (restS s)) #[.int .u8 0, .int .u8 0, .int .u8 0] 45 Tryd.underlying59 (by kernel_rfl) hW (by omega) (by rw [h3]; decide)
  rw [hr, h3, copy_cells h]
  rfl
set_option maxHeartbeats 1000000 in
set_option maxRecDepth 100000 in
theorem readTone_impl (s : ByteArray) (hs : s.size ≤ 1048576) (w : World) :
    Calls Tryd.prog 22 #[.string s] w fun e w' => e = .returned (.tuple #[.agg #[.int .u8 (readV s 0), .int .u8 (readV s 1), .int .u8 (readV s 2)], .int .i64 (codeT s)]) ∧ New w w' := by
  have hl := size_rest_le s
  cases ht : okText s
  · rw [codeT_f ht]
    have hr := readV_f ht
    have hno : foundB s = true → fhB (restS s) = true → ((((fhS (restS s)).size : Nat) : Int) != 3) = true := by
      intro h1 h2
      have h3 : ¬ (fhS (restS s)).size = 3 := fun h3 => by rw [(okText_iff s).2 ⟨h1, h2, h3⟩] at ht; cases ht
      simp
      omega
    cases hf : foundB s
    · go_enter Tryd.func22, Tryd.ntmps22
      go_wp2_with (fail)
      refine (cutHash_any s _).mono ?_
      rintro e w1 ⟨rfl, rfl⟩
      rw [hf]
      go_wp2_with (fail)
      refine (fromHex_any (restS s) (by omega) _).mono ?_
      rintro e1 w1 ⟨rfl, hn1⟩
      have ho1 := hn1.objs
      have hz1 := hn1.le
      try simp at hz1
      have b1 := (hn1.objs w.heap.size (by simp; omega)).trans ((obj_alloc_past _ _ _ (by simp)).trans (obj_alloc_at _ _ _ rfl))
      have hN := (((New.refl w).alloc _).alloc _).trans hn1
      clear hn1 ho1
      go_wp2_with (fail)
      refine ret_cell_tmp agg45 rfl rfl (c := #[.int .u8 0, .int .u8 0, .int .u8 0]) (t := 45) (fr := (0, 0)) (by go_simp) rfl rfl ⟨by first | rfl | (rw [hr]; rfl), ?_⟩
      exact hN.setRow (by omega) _
    have hno1 := hno hf
    clear hno
    cases hb : fhB (restS s)
    · go_enter Tryd.func22, Tryd.ntmps22
      go_wp2_with (fail)
      refine (cutHash_any s _).mono ?_
      rintro e w1 ⟨rfl, rfl⟩
      rw [hf]
      go_wp2_with (fail)
      refine (fromHex_any (restS s) (by omega) _).mono ?_
      rintro e2 w2 ⟨rfl, hn2⟩
      have ho2 := hn2.objs
      have hz2 := hn2.le
      try simp at hz2
      rw [hb]
      have b1 := (hn2.objs w.heap.size (by simp; omega)).trans ((obj_alloc_past _ _ _ (by simp)).trans (obj_alloc_at _ _ _ rfl))
      have hN := (((New.refl w).alloc _).alloc _).trans hn2
      clear hn2 ho2 hno1
      go_wp2_with (fail)
      refine ret_cell_tmp agg45 rfl rfl (c := #[.int .u8 0, .int .u8 0, .int .u8 0]) (t := 45) (fr := (0, 0)) (by go_simp) rfl rfl ⟨by first | rfl | (rw [hr]; rfl), ?_⟩
      exact hN.setRow (by omega) _
    · have hno2 := hno1 hb
      go_enter Tryd.func22, Tryd.ntmps22
      go_wp2_with (fail)
      refine (cutHash_any s _).mono ?_
      rintro e w1 ⟨rfl, rfl⟩
      rw [hf]
      go_wp2_with (fail)
      refine (fromHex_any (restS s) (by omega) _).mono ?_
      rintro e3 w3 ⟨rfl, hn3⟩
      have ho3 := hn3.objs
      have hz3 := hn3.le
      try simp at hz3
      rw [hb]
      have b1 := (hn3.objs w.heap.size (by simp; omega)).trans ((obj_alloc_past _ _ _ (by simp)).trans (obj_alloc_at _ _ _ rfl))
      have hN := (((New.refl w).alloc _).alloc _).trans hn3
      clear hn3 ho3 hno1
      go_wp2_with (fail)
      refine ret_cell_tmp agg45 rfl rfl (c := #[.int .u8 0, .int .u8 0, .int .u8 0]) (t := 45) (fr := (0, 0)) (by go_simp) rfl rfl ⟨by first | rfl | (rw [hr]; rfl), ?_⟩
      exact hN.setRow (by omega) _
  · rw [codeT_t ht]
    have hr := hide (readV_t ht)
    obtain ⟨hf, hb, h3⟩ := (okText_iff s).1 ht
    have hno : ((((fhS (restS s)).size : Nat) : Int) != 3) = false := by simp; omega
    have hcp := fun (ty : TypeId) (W : World) (hW : obj W (w.heap.size + 1) = some (.cells #[.int .u8 0, .int .u8 0, .int .u8 0] 45)) => run_copy3 ht ty (w.heap.size + 1) W hW
    go_enter Tryd.func22, Tryd.ntmps22
    go_wp2_with (fail)
    refine (cutHash_any s _).mono ?_
    rintro e w1 ⟨rfl, rfl⟩
    rw [hf]
    go_wp2_with (fail)
    refine (fromHex_any (restS s) (by omega) _).mono ?_
    rintro e4 w4 ⟨rfl, hn4⟩
    have ho4 := hn4.objs
    have hz4 := hn4.le
    try simp at hz4
    rw [hb]
    have b1 := (hn4.objs w.heap.size (by simp; omega)).trans ((obj_alloc_past _ _ _ (by simp)).trans (obj_alloc_at _ _ _ rfl))
    have b2 := (hn4.objs (w.heap.size + 1) (by simp)).trans (obj_alloc_at _ _ _ (by simp))
    have hN := (((New.refl w).alloc _).alloc _).trans hn4
    have hcw := fun ty => hcp ty w4 b2
    clear hn4 ho4 hcp hf hb h3 ht
    go_wp2_with (fail)
    refine ret_cell_tmp agg45 rfl rfl (c := #[.int .u8 (toneV s 0), .int .u8 (toneV s 1), .int .u8 (toneV s 2)]) (t := 45) (fr := (0, 0)) (by go_simp) rfl rfl ⟨by rw [hr.out]; rfl, ?_⟩
    exact (hN.setRow (by omega) _).setRow (by omega) _
end Go.Proofs.YtnaecghpahbojaaDoor
