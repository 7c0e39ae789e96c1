/- The outline of a field: the reference and the program answer alike; no condition. -/
import Derived.Test.YtmmckoemkpfgbaaFldE
import Derived.Test.YtmmckoemkpfgbaaWithCol
set_option linter.unusedVariables false
namespace Go.Proofs.Ytmmckoemkpfgbaa
open Go.BigFrame
open Go.RowKit Go.Arr
/-- how many of the first ones -/
def cN (p : Nat → Bool) (l : List Nat) : Nat → Int
  | 0 => 0
  | j + 1 => if p (l.getD j 0) = true then cN p l j + 1 else cN p l j
theorem cN_b (p : Nat → Bool) (l : List Nat) (j : Nat) : 0 ≤ cN p l j ∧ cN p l j ≤ j := by
  induction j with
  | zero => simp [cN]
  | succ j ih => unfold cN; split <;> omega
theorem cN_t {p : Nat → Bool} {l : List Nat} {j : Nat} (h : p (l.getD j 0) = true) : cN p l (j + 1) = cN p l j + 1 := if_pos h
theorem cN_f {p : Nat → Bool} {l : List Nat} {j : Nat} (h : p (l.getD j 0) = false) : cN p l (j + 1) = cN p l j := if_neg (by rw [h]; simp)
theorem cN_congr {p q : Nat → Bool} {l : List Nat} (h : ∀ k ∈ l, p k = q k) (j : Nat) (hj : j ≤ l.length) : cN p l j = cN q l j := by
  induction j with
  | zero => rfl
  | succ j ih => unfold cN; rw [ih (by omega), h _ (QF_at (by omega))]
def outStep (a b : Int) (Q : List Nat) (s : Int) (i : Nat) : Int := s + 4 - cN (inF Q) (nbL a b i) (nbL a b i).length
def outS (a b : Int) (Q : List Nat) : Nat → Int := recS (outStep a b Q) 0 (inF Q)
theorem outT (a b : Int) (Q : List Nat) : recT (outStep a b Q) 0 (selG (inF Q) 144) (selN (inF Q) 144) = outS a b Q 144 := rec_eq (Nat.le_refl _)
theorem outStep_b {a b : Int} {Q : List Nat} {s : Int} {i : Nat} : s ≤ outStep a b Q s i ∧ outStep a b Q s i ≤ s + 4 := by
  have h1 := cN_b (inF Q) (nbL a b i) (nbL a b i).length
  have h2 := nbL_len a b i
  unfold outStep
  omega
theorem outS_b (a b : Int) (Q : List Nat) (k : Nat) : 0 ≤ outS a b Q k ∧ outS a b Q k ≤ 4 * k := by
  induction k with
  | zero => simp [outS, recS]
  | succ k ih =>
    cases hc : inF Q k
    · have e : outS a b Q (k + 1) = outS a b Q k := recS_f hc
      omega
    · have e : outS a b Q (k + 1) = outStep a b Q (outS a b Q k) k := recS_t hc
      have := outStep_b (a := a) (b := b) (Q := Q) (s := outS a b Q k) (i := k)
      omega
theorem outT_b (a b : Int) (Q : List Nat) (G : Nat → Nat) (k : Nat) : 0 ≤ recT (outStep a b Q) 0 G k ∧ recT (outStep a b Q) 0 G k ≤ 4 * k := by
  induction k with
  | zero => simp [recT]
  | succ k ih =>
    have e : recT (outStep a b Q) 0 G (k + 1) = outStep a b Q (recT (outStep a b Q) 0 G k) (G k) := rfl
    have := outStep_b (a := a) (b := b) (Q := Q) (s := recT (outStep a b Q) 0 G k) (i := G k)
    omega
def outV (a b : Int) (f : Nat → Int) (x y : Int) : Int := if fC a b f x y = 0 then outS a b (fQ a b f x y) 144 else 0
set_option maxHeartbeats 2000000 in
set_option maxRecDepth 100000 in
theorem outline_impl (a b : Int) (f : Nat → Int) (x y : Int) (ha : -128 ≤ a ∧ a ≤ 127) (hb : -128 ≤ b ∧ b ≤ 127) (hf : ∀ i, 0 ≤ f i ∧ f i ≤ 255) (w : World) :
    Calls Try.prog 12 #[.agg (pic 144 a b f), .int .i64 x, .int .i64 y] w fun e w' => e = .returned (.tuple #[.int .i64 (outV a b f x y), .int .i64 (fC a b f x y)]) ∧ New w w' := by
  have hFN : Hid (outV a b f x y = if fC a b f x y = 0 then outS a b (fQ a b f x y) 144 else 0) := rfl
  rcases codeB_cases (okPic a b f) (isCellB x y a b) with ⟨h1, h2, h3⟩ | ⟨h3, h1⟩ | ⟨h3, h1, h2⟩
  · obtain ⟨hd, hx, hy, he, hcell⟩ := place_cell h1 h2
    have hC : Hid (fC a b f x y = 0) := h3
    have hN : Hid (outV a b f x y = outS a b (fQ a b f x y) 144) := hFN.out.trans (if_pos h3)
    have hfq : Hid (fldQ a b f (x + 12 * y).toNat = fQ a b f x y) := rfl
    generalize (x + 12 * y).toNat = c0 at he hcell hfq
    have he' := hide he
    have hcl := hide fun (i k : Nat) => fldQ_closed (f := f) (i := i) (k := k) hd.1 hd.2 hcell
    have hcin := hide (fldQ_in (f := f) hd.1 hd.2 hcell)
    clear h1 h2 he
    go_enter Try.func12, Try.ntmps12
    go_wp2_with (fail)
    refine wp_region_new (by kernel_rfl) (by kernel_rfl) ?_
    repeat (go_big_quiet_step (first | fail | (go_at_call 25; with_reducible exact calls_new (validPicture_impl a b f ha hb hf _)) | (go_at_call 32; with_reducible exact calls_new (has_any a b f x y ha hb _)) | (go_at_call 31; with_reducible exact calls_new (new_same (codeOf_any _ _ _)))))
    refine wpQuiet_nil ?_
    intro w1 hc1
    have hn1 := NewW.of hc1
    clear hc1
    have ho1 := hn1.objs
    have hz1 := hn1.le
    try simp at hz1
    have b1 : obj w1 w.heap.size = some (.cells (pic 144 a b f) 27) := (hn1.objs _ (by simp)).trans (by go_simp)
    have hN1 : New w w1 := ((New.refl w).alloc _).trans hn1
    have r1 := obj_lt b1
    clear hn1 ho1
    go_wp2_with (fail)
    refine (field_any a b f ⟨by omega, by omega⟩ ⟨by omega, by omega⟩ hf c0 x y hx hy he'.out hcell _).mono ?_
    rintro e w3 ⟨v, rfl, hrow, hn3⟩
    rw [hfq.out] at hrow hcl hcin
    generalize fQ a b f x y = Q at hrow hcl hcin hN
    have hle := selN_le (p := inF Q) 144
    have hT := hide (outT a b Q)
    have hsel := hide (selG_lt (p := inF Q) 144)
    have d1 := (hn3.objs _ r1).trans b1
    have hN3 := hN1.trans hn3
    obtain ⟨x1, y1, rfl, _⟩ := hrow.reads
    have hrs := hrow.sl
    have r3 := obj_lt d1
    clear hfq b1 hn3 hrow
    go_wp2_with (fail)
    generalize selN (inF Q) 144 = N at hrs hle hT hsel ⊢
    go_loopw [34, 10] (fun i s wr => ∃ j : Nat, j ≤ N ∧ i = .int .i64 j ∧ s = .int .i64 (4 * ((N : Int) - j) + recT (outStep a b Q) 0 (selG (inF Q) 144) j) ∧ New w3 wr) (fun i _ _ => N - (intOf i).toNat)
    case atStart => exact ⟨0, by omega, rfl, by simp [recT], New.refl _⟩
    case round =>
      obtain ⟨j, hj, rfl, rfl, hnw⟩ := hrel
      by_cases hlt : j < N
      · obtain ⟨hi1, hi2⟩ := hsel.out j hlt
        have hq0 : Hid (recT (outStep a b Q) 0 (selG (inF Q) 144) (j + 1) = outStep a b Q (recT (outStep a b Q) 0 (selG (inF Q) 144) j) (selG (inF Q) 144 j)) := rfl
        have htb := outT_b a b Q (selG (inF Q) 144) j
        obtain ⟨gl, offl, curl, tl, frl, rfl, ol, hel2⟩ := elInts (hrs.new hnw) (by omega)
        obtain ⟨ll, el⟩ := hel2 j hlt
        try dsimp only at el
        generalize hS1 : recT (outStep a b Q) 0 (selG (inF Q) 144) (j + 1) = S1 at hq0
        have hS1h := hide hS1
        clear hS1
        generalize recT (outStep a b Q) 0 (selG (inF Q) 144) j = S at hq0 htb ⊢
        generalize selG (inF Q) 144 j = k at hi1 hi2 hq0 el
        have hkm : k ∈ Q := by simpa [inF] using hi2
        have hkc := (hcin.out k hkm).1
        have hkf := (hcin.out k hkm).2
        have hml := nbL_len a b k
        have hnm : Hid (∀ m ∈ nbL a b k, m < 144) := fun m hm => (cellN_e.1 (nbL_cell hd.1 hd.2 hkc hm)).1
        have hpq : Hid (∀ m ∈ nbL a b k, (f m == f k) = inF Q m) := fun m hm => by
          by_cases h : m ∈ Q
          · rw [inF_t h]
            have := (hcin.out m h).2
            simp [this, hkf]
          · rw [inF_f h]
            have : ¬ f m = f k := fun h2 => h (hcl.out k m hkm hm (h2.trans hkf))
            simp [this]
        have hS2 : Hid (S1 = S + 4 - cN (inF Q) (nbL a b k) (nbL a b k).length) := hq0.out
        have p1 := (hnw.objs _ r3).trans d1
        have q1 := obj_lt p1
        clear hel2 hkm hkf hi2 hq0
        go_wp2_with (fail)
        refine (beside_any a b (by omega) (by omega) k hkc _).mono ?_
        rintro e w5 ⟨nv, rfl, hnrow, hn5⟩
        obtain ⟨nx, ny, rfl, _⟩ := hnrow.reads
        have p5 := (hn5.objs _ q1).trans p1
        have hN5 := hnw.trans hn5
        have hns := hnrow.sl
        clear hnrow
        go_wp2_with (fail)
        generalize nbL a b k = l at hS2 hml hnm hns hpq ⊢
        go_loopw [45, 10] (fun i s wq => ∃ m : Nat, m ≤ l.length ∧ i = .int .i64 m ∧ s = .int .i64 (4 * ((N : Int) - j) + S - cN (inF Q) l m) ∧ New w5 wq) (fun i _ _ => l.length - (intOf i).toNat)
        case atStart => exact ⟨0, by omega, rfl, by simp [cN], New.refl _⟩
        case round =>
          obtain ⟨m, hm, rfl, rfl, hnq⟩ := hrel
          by_cases hlj : m < l.length
          · have hcb := cN_b (inF Q) l m
            have hkm := hnm.out _ (QF_at hlj)
            have hpm := hpq.out _ (QF_at hlj)
            have hkQ : QF l m = ((l.getD m 0 : Nat) : Int) := rfl
            obtain ⟨gn, offn, curn, tn, frn, rfl, on, heln⟩ := elInts (hns.new hnq) (by omega)
            obtain ⟨ln, en⟩ := heln m hlj
            rw [hkQ] at en
            have p6 := (hnq.objs _ (obj_lt p5)).trans p5
            have q6 := obj_lt p6
            cases hcm : inF Q (l.getD m 0)
            · have hq2 := hide (cN_f hcm)
              rw [hcm] at hpm
              generalize l.getD m 0 = t at hkm en hpm
              clear heln hkQ hcm
              go_wp2_with (fail)
              go_quiet (fail)
              go_wp2_with (fail)
              go_roundw
              case rel => exact ⟨m + 1, by omega, by go_num, by rw [hq2.out], hnq.drewN _⟩
              case measure => simp [intOf]; omega
            · have hq2 := hide (cN_t hcm)
              rw [hcm] at hpm
              generalize l.getD m 0 = t at hkm en hpm
              clear heln hkQ hcm
              go_wp2_with (fail)
              go_quiet (fail)
              go_wp2_with (fail)
              go_roundw
              case rel => exact ⟨m + 1, by omega, by go_num, by rw [hq2.out]; congr 1; omega, hnq.drewN _⟩
              case measure => simp [intOf]; omega
          · obtain rfl : m = l.length := by omega
            go_wp2_with (fail)
            go_roundw
            case rel => exact ⟨j + 1, by omega, by go_num, by rw [hS1h.out, hS2.out]; congr 1; omega, hN5.trans hnq⟩
            case measure => simp [intOf]; omega
      · obtain rfl : j = N := by omega
        have hT2 : Hid (4 * ((j : Int) - j) + recT (outStep a b Q) 0 (selG (inF Q) 144) j = outS a b Q 144) := by show _ = _; rw [hT.out]; omega
        rw [hT2.out]
        go_wp2_with (fail)
        go_ret2
        exact ⟨by rw [hC.out, hN.out]; rfl, hN3.trans hnw⟩
  all_goals
    have hC : Hid (fC a b f x y = _) := h3
    have hN : Hid (outV a b f x y = 0) := hFN.out.trans (if_neg (by unfold fC; rw [h3]; omega))
    clear h1
    try clear h2
    go_enter Try.func12, Try.ntmps12
    go_wp2_with (fail)
    refine wp_region_new (by kernel_rfl) (by kernel_rfl) ?_
    repeat (go_big_quiet_step (first | fail | (go_at_call 25; with_reducible exact calls_new (validPicture_impl a b f ha hb hf _)) | (go_at_call 32; with_reducible exact calls_new (has_any a b f x y ha hb _)) | (go_at_call 31; with_reducible exact calls_new (new_same (codeOf_any _ _ _)))))
    refine wpQuiet_nil ?_
    intro w2 hc2
    have hn2 := NewW.of hc2
    clear hc2
    have ho2 := hn2.objs
    have hz2 := hn2.le
    try simp at hz2
    have k2_0 : w.heap.size < w2.heap.size := by omega
    go_wp2_with (fail)
    go_ret2
    refine ⟨by rw [hN.out]; rfl, ?_⟩
    repeat' (first | exact New.refl _ | refine New.alloc ?_ _ | refine New.drew ?_ | refine New.drewN ?_ _ | refine New.setRow ?_ (by omega) _ | refine New.setCell ?_ (by first | omega | (simp; done) | (simp; omega)) _ | refine New.trans ?_ hn2 | refine New.trans ?_ hn1)
end Go.Proofs.Ytmmckoemkpfgbaa
