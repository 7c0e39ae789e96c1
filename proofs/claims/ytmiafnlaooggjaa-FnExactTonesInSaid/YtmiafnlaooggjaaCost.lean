/- The cost of an image for a picture and a palette: the reference and the program answer alike; no condition. -/
import Derived.Test.YtmiafnlaooggjaaPicOf
import Derived.Test.YtmiafnlaooggjaaHas
set_option linter.unusedVariables false
namespace Go.Proofs.Ytmiafnlaooggjaa
open Go.BigFrame
open Go.RowKit Go.Arr
def farI (fm f fp : Nat → Int) (i : Nat) : Int := far (fm (i * 3)) (fm (i * 3 + 1)) (fm (i * 3 + 2)) (fp (((f i).toNat - 1) * 3)) (fp (((f i).toNat - 1) * 3 + 1)) (fp (((f i).toNat - 1) * 3 + 2))
theorem far_b {a b c d e f : Int} (ha : 0 ≤ a ∧ a ≤ 255) (hb : 0 ≤ b ∧ b ≤ 255) (hc : 0 ≤ c ∧ c ≤ 255) (hd : 0 ≤ d ∧ d ≤ 255) (he : 0 ≤ e ∧ e ≤ 255) (hf : 0 ≤ f ∧ f ≤ 255) : 0 ≤ far a b c d e f ∧ far a b c d e f ≤ 1000000 := by
  have s1 := sq3 3 (a - d) (by omega) (by omega) (by omega)
  have s2 := sq3 6 (b - e) (by omega) (by omega) (by omega)
  have s3 := sq_le (c - f) (by omega) (by omega)
  unfold far
  omega
def costStep (fm f fp : Nat → Int) (s : Int) (i : Nat) : Int := if 0 < f i then s + farI fm f fp i else s
def costS (fm f fp : Nat → Int) : Nat → Int := recS (costStep fm f fp) 0 fun _ => true
theorem costS_t {fm f fp : Nat → Int} {k : Nat} (h : 0 < f k) : costS fm f fp (k + 1) = costS fm f fp k + farI fm f fp k := by
  unfold costS
  rw [recS_t rfl, costStep, if_pos h]
theorem costS_f {fm f fp : Nat → Int} {k : Nat} (h : ¬ 0 < f k) : costS fm f fp (k + 1) = costS fm f fp k := by
  unfold costS
  rw [recS_t rfl, costStep, if_neg h]
theorem costS_b {fm f fp : Nat → Int} (hm : ∀ i, 0 ≤ fm i ∧ fm i ≤ 255) (hp : ∀ i, 0 ≤ fp i ∧ fp i ≤ 255) (k : Nat) : 0 ≤ costS fm f fp k ∧ costS fm f fp k ≤ 1000000 * k := by
  induction k with
  | zero => simp [costS, recS]
  | succ k ih =>
    by_cases h : 0 < f k
    · rw [costS_t h]
      have := far_b (hm (k * 3)) (hm (k * 3 + 1)) (hm (k * 3 + 2)) (hp (((f k).toNat - 1) * 3)) (hp (((f k).toNat - 1) * 3 + 1)) (hp (((f k).toNat - 1) * 3 + 2))
      unfold farI
      omega
    · rw [costS_f h]; omega
/-- a loop over the cells alone comes to the same, where the others are bare -/
theorem cost_cells {fm f fp : Nat → Int} {p : Nat → Bool} (h : ∀ i, i < 144 → p i = false → f i = 0) (k : Nat) (hk : k ≤ 144) : recS (costStep fm f fp) 0 p k = costS fm f fp k := by
  induction k with
  | zero => rfl
  | succ k ih =>
    cases hp : p k
    · rw [recS_f hp, costS_f (by rw [h k (by omega) hp]; omega), ih (by omega)]
    · rw [recS_t hp, ih (by omega)]
      unfold costS
      rw [recS_t rfl]
theorem okPic_bare {a b : Int} {f : Nat → Int} (h : okPic a b f = true) (i : Nat) (hi : i < 144) (hc : cellN a b i = false) : f i = 0 := by
  unfold okPic at h
  rw [Bool.and_eq_true] at h
  have h1 := List.all_eq_true.1 h.2 i (by simpa using hi)
  unfold goodAt at h1
  rw [Bool.and_eq_true, Bool.or_eq_true] at h1
  rcases h1.2 with h2 | h2
  · unfold cellN at hc; rw [h2] at hc; cases hc
  · exact of_decide_eq_true h2
def costC (a b : Int) (fm : Nat → Int) (c d : Int) (f : Nat → Int) (n : Nat) (fp : Nat → Int) : Int := if okImg a b fm = false then 1 else if hasV c d f n fp = 1 then 1 else if a = c ∧ b = d then hasV c d f n fp else 4
def costV (a b : Int) (fm : Nat → Int) (c d : Int) (f : Nat → Int) (n : Nat) (fp : Nat → Int) : Int := if costC a b fm c d f n fp = 0 then costS fm f fp 144 else 0
theorem costV_0 {a b : Int} {fm : Nat → Int} {c d : Int} {f : Nat → Int} {n : Nat} {fp : Nat → Int} {k : Int} (h : costC a b fm c d f n fp = k) (hk : k ≠ 0) : costV a b fm c d f n fp = 0 := by unfold costV; rw [h]; exact if_neg hk
theorem costV_1 {a b : Int} {fm : Nat → Int} {c d : Int} {f : Nat → Int} {n : Nat} {fp : Nat → Int} (h : costC a b fm c d f n fp = 0) : costV a b fm c d f n fp = costS fm f fp 144 := by unfold costV; rw [h]; exact if_pos rfl
theorem hasV_cases (a b : Int) (f : Nat → Int) (n : Nat) (fp : Nat → Int) : (hasV a b f n fp = 1 ∧ (okPic a b f && okPal n fp) = false) ∨ (hasV a b f n fp = 2 ∧ (okPic a b f = true ∧ okPal n fp = true) ∧ hasC n f = false) ∨ (hasV a b f n fp = 0 ∧ (okPic a b f = true ∧ okPal n fp = true) ∧ hasC n f = true) := by
  unfold hasV
  cases h1 : okPic a b f <;> cases h2 : okPal n fp <;> cases h3 : hasC n f <;> simp
theorem costT_b {fm f fp : Nat → Int} (hm : ∀ i, 0 ≤ fm i ∧ fm i ≤ 255) (hp : ∀ i, 0 ≤ fp i ∧ fp i ≤ 255) (G : Nat → Nat) (j : Nat) : 0 ≤ recT (costStep fm f fp) 0 G j ∧ recT (costStep fm f fp) 0 G j ≤ 1000000 * j := by
  induction j with
  | zero => simp [recT]
  | succ j ih =>
    rw [recT]
    unfold costStep
    split
    · have := far_b (hm (G j * 3)) (hm (G j * 3 + 1)) (hm (G j * 3 + 2)) (hp (((f (G j)).toNat - 1) * 3)) (hp (((f (G j)).toNat - 1) * 3 + 1)) (hp (((f (G j)).toNat - 1) * 3 + 2))
      unfold farI
      have h1 : recT (fun s i => if 0 < f i then s + far (fm (i * 3)) (fm (i * 3 + 1)) (fm (i * 3 + 2)) (fp (((f i).toNat - 1) * 3)) (fp (((f i).toNat - 1) * 3 + 1)) (fp (((f i).toNat - 1) * 3 + 2)) else s) 0 G j = recT (costStep fm f fp) 0 G j := rfl
      rw [h1]
      omega
    · have h1 : recT (fun s i => if 0 < f i then s + farI fm f fp i else s) 0 G j = recT (costStep fm f fp) 0 G j := rfl
      rw [h1]
      omega
set_option maxHeartbeats 4000000 in
set_option maxRecDepth 100000 in
theorem costOf_impl (a b : Int) (fm : Nat → Int) (ha : -128 ≤ a ∧ a ≤ 127) (hb : -128 ≤ b ∧ b ≤ 127) (hfm : ∀ i, 0 ≤ fm i ∧ fm i ≤ 255) (c d : Int) (f : Nat → Int) (hc : -128 ≤ c ∧ c ≤ 127) (hd : -128 ≤ d ∧ d ≤ 127) (hf : ∀ i, 0 ≤ f i ∧ f i ≤ 255) (ad : Option Addr) (n cp : Nat) (fp : Nat → Int) (hfp : ∀ i, 0 ≤ fp i ∧ fp i ≤ 255) (hn : n ≤ 1048576) (hcp : n ≤ cp) (W : World) (hs : Sl W (.slice ad n cp) n 3 .u8 fp) :
    Calls Try.prog 40 #[.agg (pic 432 a b fm), .agg (pic 144 c d f), .slice ad n cp] W fun e w' => e = .returned (.tuple #[.int .i64 (costV a b fm c d f n fp), .int .i64 (costC a b fm c d f n fp)]) ∧ New W w' := by
  have hCd : Hid (costC a b fm c d f n fp = if okImg a b fm = false then 1 else if hasV c d f n fp = 1 then 1 else if a = c ∧ b = d then hasV c d f n fp else 4) := rfl
  have hs' := hide hs
  go_enter Try.func40, Try.ntmps40
  go_wp2_with (fail)
  generalize hw0 : ((W.alloc (Obj.cells (pic 432 a b fm) 43)).alloc (Obj.cells (pic 144 c d f) 37)) = w0
  have b1 : obj w0 W.heap.size = some (.cells (pic 432 a b fm) 43) := by subst hw0; go_simp
  have b2 : obj w0 (W.heap.size + 1) = some (.cells (pic 144 c d f) 37) := by subst hw0; go_simp
  have hN0 : New W w0 := by subst hw0; exact ((New.refl W).alloc _).alloc _
  clear hw0 hs
  refine (validImage_impl a b fm ha hb _).mono ?_
  rintro e w1 ⟨rfl, hn1⟩
  have c1 := (hn1.objs _ (obj_lt b1)).trans b1
  have c2 := (hn1.objs _ (obj_lt b2)).trans b2
  have hN1 := hN0.trans hn1
  clear b1 b2 hN0 hn1
  cases hok : okImg a b fm
  · have hC : Hid (costC a b fm c d f n fp = 1) := by show _ = _; rw [hCd.out, if_pos hok]
    clear hok
    go_wp2_with (fail)
    go_ret2
    exact ⟨by rw [costV_0 hC.out (by omega), hC.out]; rfl, hN1⟩
  have hCd2 : Hid (costC a b fm c d f n fp = if hasV c d f n fp = 1 then 1 else if a = c ∧ b = d then hasV c d f n fp else 4) := by show _ = _; rw [hCd.out, if_neg (by rw [hok]; simp)]
  clear hCd hok
  go_wp2_with (fail)
  refine (validPicture_impl c d f hc hd hf _).mono ?_
  rintro e w2 ⟨rfl, hn2⟩
  have d1 := (hn2.objs _ (obj_lt c1)).trans c1
  have d2 := (hn2.objs _ (obj_lt c2)).trans c2
  have hN2 := hN1.trans hn2
  clear c1 c2 hN1 hn2
  cases h1 : okPic c d f
  · have hC : Hid (costC a b fm c d f n fp = 1) := by show _ = _; rw [hCd2.out, if_pos]; unfold hasV; rw [h1]; exact if_pos rfl
    clear h1
    go_wp2_with (fail)
    go_ret2
    exact ⟨by rw [costV_0 hC.out (by omega), hC.out]; rfl, hN2⟩
  go_wp2_with (fail)
  refine (validPal_impl _ n _ fp hn hcp _ (hs'.out.new hN2)).mono ?_
  rintro e w3 ⟨rfl, hn3⟩
  have f1 := (hn3.objs _ (obj_lt d1)).trans d1
  have f2 := (hn3.objs _ (obj_lt d2)).trans d2
  have hN3 := hN2.trans hn3
  clear d1 d2 hN2 hn3
  cases h2 : okPal n fp
  · have hC : Hid (costC a b fm c d f n fp = 1) := by show _ = _; rw [hCd2.out, if_pos]; unfold hasV; rw [h2, Bool.and_false]; exact if_pos rfl
    clear h1 h2
    go_wp2_with (fail)
    go_ret2
    exact ⟨by rw [costV_0 hC.out (by omega), hC.out]; rfl, hN3⟩
  have hV : Hid (hasV c d f n fp = if hasC n f = false then 2 else 0) := by show _ = _; unfold hasV; rw [h1, h2]; exact if_neg (by simp)
  have hV1 : Hid (costC a b fm c d f n fp = if a = c ∧ b = d then (if hasC n f = false then 2 else 0) else 4) := by
    show _ = _
    rw [hCd2.out, hV.out, if_neg (by split <;> omega)]
  have hbare := hide (okPic_bare h1)
  have hp := okPal_pos h2
  clear hCd2 hV h1 h2
  by_cases e1 : a = c
  rotate_left
  · have hC : Hid (costC a b fm c d f n fp = 4) := by show _ = _; rw [hV1.out, if_neg (fun h => e1 h.1)]
    have m1 : (a != c) = true := by simp [e1]
    clear e1
    go_wp2_with (fail)
    go_ret2
    exact ⟨by rw [costV_0 hC.out (by omega), hC.out]; rfl, hN3⟩
  by_cases e2 : b = d
  rotate_left
  · have hC : Hid (costC a b fm c d f n fp = 4) := by show _ = _; rw [hV1.out, if_neg (fun h => e2 h.2)]
    have m1 : (a != c) = false := by simp [e1]
    have m2 : (b != d) = true := by simp [e2]
    clear e1 e2
    go_wp2_with (fail)
    go_ret2
    exact ⟨by rw [costV_0 hC.out (by omega), hC.out]; rfl, hN3⟩
  subst e1
  subst e2
  have m1 : (a != a) = false := by simp
  have m2 : (b != b) = false := by simp
  have hV2 : Hid (costC a b fm a b f n fp = if hasC n f = false then 2 else 0) := by show _ = _; rw [hV1.out]; exact if_pos ⟨rfl, rfl⟩
  clear hV1
  go_wp2_with (fail)
  refine (hasColours_any a b f hf _ n _ _).mono ?_
  rintro e w4 ⟨rfl, hn4⟩
  have g1 := (hn4.objs _ (obj_lt f1)).trans f1
  have g2 := (hn4.objs _ (obj_lt f2)).trans f2
  have hN4 := hN3.trans hn4
  clear f1 f2 hN3 hn4 m1 m2
  cases hh : hasC n f
  · have hC : Hid (costC a b fm a b f n fp = 2) := by show _ = _; rw [hV2.out, if_pos hh]
    clear hh
    go_wp2_with (fail)
    go_ret2
    exact ⟨by rw [costV_0 hC.out (by omega), hC.out]; rfl, hN4⟩
  have hC : Hid (costC a b fm a b f n fp = 0) := by show _ = _; rw [hV2.out, if_neg (by rw [hh]; simp)]
  have hhc := hide (hasC_e hh)
  clear hh hV2
  go_wp2_with (fail)
  refine (cells_any a b fm ha hb _).mono ?_
  rintro e w5 ⟨v, rfl, hrow, hn5⟩
  obtain ⟨x, y, rfl, _⟩ := hrow.reads
  have p1 := (hn5.objs _ (obj_lt g1)).trans g1
  have p2 := (hn5.objs _ (obj_lt g2)).trans g2
  have hN5 := hN4.trans hn5
  have hle := selN_le (p := cellN a b) 144
  have hT : Hid (recT (costStep fm f fp) 0 (selG (cellN a b) 144) (selN (cellN a b) 144) = costS fm f fp 144) := by
    show _ = _
    rw [rec_eq (Nat.le_refl _)]
    exact cost_cells hbare.out 144 (Nat.le_refl _)
  have hsel := hide (selG_lt (p := cellN a b) 144)
  have hsl := hrow.sl
  obtain ⟨gp, offp, curp, tp, frp, rfl, op, hel⟩ := elsPal (hs'.out.new hN5) hp.1
  have hel' := hide hel
  clear g1 g2 hN4 hn5 hrow hel hs'
  go_wp2_with (fail)
  generalize selN (cellN a b) 144 = N at hsl hle hT hsel ⊢
  go_loopw [47, 8] (fun i s wr => ∃ j : Nat, j ≤ N ∧ i = .int .i64 j ∧ s = .int .i64 (recT (costStep fm f fp) 0 (selG (cellN a b) 144) j) ∧ New w5 wr) (fun i _ _ => N - (intOf i).toNat)
  case atStart => exact ⟨0, by omega, rfl, rfl, New.refl _⟩
  case round =>
    obtain ⟨j, hj, rfl, rfl, hnw⟩ := hrel
    by_cases hlt : j < N
    · obtain ⟨hi1, hi2⟩ := hsel.out j hlt
      have hq : Hid (recT (costStep fm f fp) 0 (selG (cellN a b) 144) (j + 1) = costStep fm f fp (recT (costStep fm f fp) 0 (selG (cellN a b) 144) j) (selG (cellN a b) 144 j)) := rfl
      have hb1 := costT_b (f := f) hfm hfp (selG (cellN a b) 144) j
      obtain ⟨gl, off, cur, t, fr, rfl, o1, hel2⟩ := elInts (hsl.new hnw) (by omega)
      obtain ⟨l1, e1⟩ := hel2 j hlt
      try dsimp only at e1
      generalize selG (cellN a b) 144 j = i at hi1 hi2 hq e1
      have s1 := (hnw.objs _ (obj_lt p1)).trans p1
      have s2 := (hnw.objs _ (obj_lt p2)).trans p2
      have s3 := (hnw.objs _ (obj_lt op)).trans op
      have q1 := obj_lt s1
      have q2 := obj_lt s2
      have q3 := obj_lt s3
      have hfk := hf i
      clear hel2
      by_cases hpos : 0 < f i
      · have hle2 := hhc.out i hi1
        have ht : (f i).toNat - 1 < n := by omega
        obtain ⟨x2, l2⟩ := hel'.out _ ht
        have x1 : (pic 432 a b fm).extract (2 + i * 3) (2 + i * 3 + 3) = #[.int .u8 (fm (i * 3)), .int .u8 (fm (i * 3 + 1)), .int .u8 (fm (i * 3 + 2))] := pic3 (by omega) rfl
        have l3 : 2 + i * 3 + 3 ≤ 434 := by omega
        have hb2 := far_b (hfm (i * 3)) (hfm (i * 3 + 1)) (hfm (i * 3 + 2)) (hfp (((f i).toNat - 1) * 3)) (hfp (((f i).toNat - 1) * 3 + 1)) (hfp (((f i).toNat - 1) * 3 + 2))
        have hq2 : Hid (recT (costStep fm f fp) 0 (selG (cellN a b) 144) (j + 1) = recT (costStep fm f fp) 0 (selG (cellN a b) 144) j + far (fm (i * 3)) (fm (i * 3 + 1)) (fm (i * 3 + 2)) (fp (((f i).toNat - 1) * 3)) (fp (((f i).toNat - 1) * 3 + 1)) (fp (((f i).toNat - 1) * 3 + 2))) := by
          show _ = _
          rw [hq.out]
          exact if_pos hpos
        clear hle2 hq
        generalize recT (costStep fm f fp) 0 (selG (cellN a b) 144) j = S at hb1 hq2 ⊢
        go_wp2_with (fail)
        refine wp_region_new (by kernel_rfl) (by kernel_rfl) ?_
        repeat (go_big_quiet_step (first | fail | (go_at_call 94; with_reducible exact calls_new (far_impl _ _ _ (hfm _) (hfm _) (hfm _) _ _ _ (hfp _) (hfp _) (hfp _) _))))
        refine wpQuiet_nil ?_
        intro w1 hc1
        have hn1 := NewW.of hc1
        clear hc1
        have ho1 := hn1.objs
        have hz1 := hn1.le
        try simp at hz1
        go_wp2_with (fail)
        go_roundw
        case rel => exact ⟨j + 1, by omega, by go_num, by rw [hq2.out], hnw.trans hn1⟩
        case measure => simp [intOf]; omega
      · have hq2 : Hid (recT (costStep fm f fp) 0 (selG (cellN a b) 144) (j + 1) = recT (costStep fm f fp) 0 (selG (cellN a b) 144) j) := by
          show _ = _
          rw [hq.out]
          exact if_neg hpos
        clear hq
        go_wp2_with (fail)
        go_roundw
        case rel => exact ⟨j + 1, by omega, by go_num, by rw [hq2.out], hnw⟩
        case measure => simp [intOf]; omega
    · obtain rfl : j = N := by omega
      rw [hT.out]
      go_wp2_with (fail)
      go_ret2
      exact ⟨by rw [costV_1 hC.out, hC.out]; rfl, hN5.trans hnw⟩
end Go.Proofs.Ytmiafnlaooggjaa
