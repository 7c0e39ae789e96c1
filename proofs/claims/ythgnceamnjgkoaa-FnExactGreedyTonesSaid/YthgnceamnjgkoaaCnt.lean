/- How many cells have each colour; no condition. -/
import Derived.Test.YthgnceamnjgkoaaWithCol
import Derived.Test.YthgnceamnjgkoaaEqP
set_option linter.unusedVariables false
namespace Go.Proofs.Ythgnceamnjgkoaa
open Go.BigFrame
open Go.RowKit Go.Arr
def cntU (T : Nat → Bool) (v : Nat → Nat) : Nat → Nat → Int
  | 0 => fun _ => 0
  | k + 1 => if T k = true then upd (cntU T v k) (v k) (cntU T v k (v k) + 1) else cntU T v k
theorem cntU_le (T : Nat → Bool) (v : Nat → Nat) (k j : Nat) : 0 ≤ cntU T v k j ∧ cntU T v k j ≤ k := by
  induction k generalizing j with
  | zero => unfold cntU; omega
  | succ k ih =>
    unfold cntU
    by_cases h : T k = true
    · rw [if_pos h]
      unfold upd
      have h1 := ih j
      have h2 := ih (v k)
      by_cases e : j = v k
      · rw [if_pos e]; omega
      · rw [if_neg e]; omega
    · rw [if_neg h]
      have h1 := ih j
      omega
theorem cntU_skip (T : Nat → Bool) (v : Nat → Nat) (k m : Nat) (h : ∀ i, k ≤ i → i < k + m → T i = false) : cntU T v (k + m) = cntU T v k := by
  induction m with
  | zero => rfl
  | succ m ih =>
    show cntU T v (k + m + 1) = _
    rw [cntU, if_neg (by rw [h (k + m) (by omega) (by omega)]; simp), ih (fun i h1 h2 => h i h1 (by omega))]
def cntF (a b : Int) (f : Nat → Int) : Nat → Nat → Int := cntU (fun i => cellB i a b) (fun i => (f i).toNat)
theorem cellB_iff {a b : Int} {x y : Nat} (hx : x < 12) (hxy : x + 12 * y < 144) : cellB (x + 12 * y : Nat) a b = true ↔ (x : Int) < a ∧ (y : Int) < b := by
  rw [cellB_t hxy]
  unfold inside
  omega
theorem cntF_step {a b : Int} {f : Nat → Int} {x y : Nat} (ha : a ≤ 12) (hb : b ≤ 12) (hx : (x : Int) < a) (hy : (y : Int) < b) : cntF a b f (x + 1 + 12 * y) = upd (cntF a b f (x + 12 * y)) (f (x + 12 * y)).toNat (cntF a b f (x + 12 * y) (f (x + 12 * y)).toNat + 1) := by
  have e : x + 1 + 12 * y = (x + 12 * y) + 1 := by omega
  rw [e]
  show cntU _ _ (x + 12 * y + 1) = _
  rw [cntU, if_pos ((cellB_iff (by omega) (by omega)).2 ⟨hx, hy⟩)]
  rfl
theorem cntF_row {a b : Int} {f : Nat → Int} {x y : Nat} (ha : 0 ≤ a ∧ a ≤ 12) (hb : b ≤ 12) (hx : (x : Int) = a) (hy : (y : Int) < b) : cntF a b f (0 + 12 * (y + 1)) = cntF a b f (x + 12 * y) := by
  have e : 0 + 12 * (y + 1) = (x + 12 * y) + (12 - x) := by omega
  rw [e]
  refine cntU_skip _ _ _ _ fun i h1 h2 => ?_
  have e2 : i = (i - 12 * y) + 12 * y := by omega
  cases hc : cellB (i : Nat) a b with
  | false => rfl
  | true =>
    have hc2 : cellB ((i - 12 * y) + 12 * y : Nat) a b = true := by rw [← e2]; exact hc
    have := (cellB_iff (x := i - 12 * y) (y := y) (a := a) (b := b) (by omega) (by omega)).1 hc2
    omega
theorem cntF_all {a b : Int} {f : Nat → Int} {y : Nat} (ha : a ≤ 12) (hb : 0 ≤ b ∧ b ≤ 12) (hy : (y : Int) = b) : cntF a b f 144 = cntF a b f (0 + 12 * y) := by
  have e : 144 = (0 + 12 * y) + (144 - 12 * y) := by omega
  conv => lhs; rw [e]
  refine cntU_skip _ _ _ _ fun i h1 h2 => ?_
  cases hc : cellB (i : Nat) a b with
  | false => rfl
  | true =>
    have hi := (cellB_t (by omega)).1 hc
    unfold inside at hi
    omega
def cntA (a b : Int) (f : Nat → Int) : Value := if okPic a b f = true then .tuple #[.agg (arr 16 .i64 (cntF a b f 144)), .int .i64 0] else .tuple #[.agg (arr 16 .i64 fun _ => 0), .int .i64 1]
set_option maxHeartbeats 2000000 in
set_option maxRecDepth 100000 in
theorem l01Counts_any (g : Nat) (a b : Int) (f : Nat → Int) (ha : -128 ≤ a ∧ a ≤ 127) (hb : -128 ≤ b ∧ b ≤ 127) (hf : ∀ i, 0 ≤ f i ∧ f i ≤ 255) (hok : okPic a b f = true) (w : World) (hg : obj w g = some (.cells (pic 144 a b f) 41)) :
    Calls Try.prog 73 #[.pointer (some ⟨g, 0, none⟩)] w fun e w' => e = .returned (.agg (arr 16 .i64 (cntF a b f 144))) ∧ New w w' := by
  have hgl := obj_lt hg
  have hok' := hide hok
  have hg' := hide hg
  clear hok hg
  go_enter Try.func73, Try.ntmps73
  go_wp2_with (fail)
  go_loopw [4] (fun i wr => ∃ k : Nat, k ≤ 144 ∧ i = .int .i64 k ∧ Hid (obj wr w.heap.size = some (.cells (arr 16 .i64 fun _ => 0) 99)) ∧ Hid (obj wr (w.heap.size + 1) = some (.cells (arr 16 .i64 (cntF a b f k)) 99)) ∧ New w wr ∧ w.heap.size + 2 ≤ wr.heap.size) (fun i _ => 144 - (intOf i).toNat)
  case atStart =>
    refine ⟨0, by omega, rfl, ?_, ?_, ?_, by simp⟩
    · show _ = _
      go_simp
    · show _ = _
      go_simp
      try rfl
    · repeat' (first | exact New.refl _ | refine New.alloc ?_ _ | refine New.drew ?_ | refine New.drewN ?_ _ | refine New.setRow ?_ (by omega) _ | refine New.setCell ?_ (by first | omega | (simp; done) | (simp; omega)) _)
  case round =>
    obtain ⟨k, hk, rfl, hz1, hq1, hn, hlw⟩ := hrel
    have hz := hz1.out
    have hq := hq1.out
    have hp : obj wr g = some (.cells (pic 144 a b f) 41) := (hn.objs _ hgl).trans hg'.out
    have k0 : w.heap.size < wr.heap.size := by omega
    have k1 : w.heap.size + 1 < wr.heap.size := by omega
    by_cases hlt : k < 144
    · cases hc : cellB k a b
      · have ht : cntF a b f (k + 1) = cntF a b f k := by
          show cntU _ _ (k + 1) = _
          rw [cntU, if_neg (by rw [hc]; simp)]
          rfl
        have ht := hide ht
        go_wp2_with (fail)
        refine (l01Is_any _ 41 a b _ _ (by omega) (by omega) _ hp).mono ?_
        rintro e w1 ⟨rfl, rfl⟩
        go_wp2_with (fail)
        go_roundw
        case rel => exact ⟨k + 1, by omega, by go_num, hz1, by show _ = _; rw [hq, ht.out], hn, hlw⟩
        case measure => simp [intOf]; omega
      · have hv := (okPic_cell hok'.out k hlt).1
        have hv0 := hf k
        have hlec := cntU_le (fun i => cellB i a b) (fun i => (f i).toNat) k (f k).toNat
        have hlec : 0 ≤ cntF a b f k (f k).toNat ∧ cntF a b f k (f k).toNat ≤ k := hlec
        have ht : cntF a b f (k + 1) = upd (cntF a b f k) (f k).toNat (cntF a b f k (f k).toNat + 1) := by
          show cntU _ _ (k + 1) = _
          rw [cntU, if_pos hc]
          rfl
        have ht := hide ht
        have q1 : (f k).toNat < 16 := by omega
        have q2 : -9223372036854775808 ≤ cntF a b f k (f k).toNat + 1 := by omega
        have q3 : cntF a b f k (f k).toNat + 1 ≤ 9223372036854775807 := by omega
        go_wp2_with (fail)
        refine (l01Is_any _ 41 a b _ _ (by omega) (by omega) _ hp).mono ?_
        rintro e w1 ⟨rfl, rfl⟩
        go_wp2_with (fail)
        go_roundw
        case rel =>
          refine ⟨k + 1, by omega, by go_num, ?_, ?_, ?_, ?_⟩
          · show _ = _
            rw [obj_setCell_other _ _ _ _ _ (by omega), hz]
          · show _ = _
            rw [obj_set_arr hq _ (f k).toNat _ (by first | rfl | omega), ht.out]
          · exact hn.setCell (by show w.heap.size ≤ w.heap.size + 1; omega) _
          · rw [World.size_setCell]; omega
        case measure => simp [intOf]; omega
    · obtain rfl : k = 144 := by omega
      go_wp2_with (fail)
      refine ret_cell agg99 rfl rfl (c := arr 16 .i64 (cntF a b f 144)) (t := 99) (fr := (0, 0)) (by go_simp) size_arr rfl ⟨rfl, ?_⟩
      exact hn.setRow (by omega) _
end Go.Proofs.Ythgnceamnjgkoaa
