/- The great law on fields: what its loops count, in plain words; no condition. -/
import Derived.Test.YtmmckoemkpfgbaaFldP
import Derived.Test.YtmmckoemkpfgbaaFlds
import Derived.Test.YtmmckoemkpfgbaaFldsE
import Derived.Test.YtmmckoemkpfgbaaOutE
import Derived.Test.YtmmckoemkpfgbaaFilE
set_option linter.unusedVariables false
namespace Go.Proofs.Ytmmckoemkpfgbaa
open Go.BigFrame
open Go.RowKit Go.Arr
theorem selN_at {p : Nat → Bool} (n : Nat) : ∀ i, i < selN p n → selN p (selG p n i) = i := by
  induction n with
  | zero => intro i hi; simp [selN] at hi
  | succ n ih =>
    intro i hi
    cases hp : p n
    · rw [selN_f hp] at hi
      rw [selG_f hp]
      exact ih i hi
    · rw [selN_t hp] at hi
      by_cases e : i = selN p n
      · subst e
        rw [show selG p (n + 1) (selN p n) = n by rw [selG_t hp]; simp]
      · rw [show selG p (n + 1) i = selG p n i by rw [selG_t hp]; simp [e]]
        exact ih i (by omega)
theorem selN_mon2 {p : Nat → Bool} {n m : Nat} (h : n ≤ m) : selN p n ≤ selN p m := by
  induction m with
  | zero => have : n = 0 := by omega
            subst this; exact Nat.le_refl _
  | succ m ih =>
    by_cases e : n = m + 1
    · rw [e]; exact Nat.le_refl _
    · have := ih (by omega)
      cases hp : p m
      · rw [selN_f hp]; omega
      · rw [selN_t hp]; omega
theorem selN_below {p : Nat → Bool} {c n : Nat} (hc : c < n) (hp : p c = true) : selN p c < selN p n := by
  have h1 : selN p (c + 1) ≤ selN p n := selN_mon2 (by omega)
  rw [selN_t hp] at h1
  omega
theorem selG_back {p : Nat → Bool} {c n : Nat} (hc : c < n) (hp : p c = true) : selG p n (selN p c) = c := by
  obtain ⟨j, hj, he⟩ := selG_onto hc hp
  have := selN_at n j hj
  rw [he] at this
  rw [this, he]
section
variable {a b : Int} {f : Nat → Int}
/-- where a cell's field starts; the number of its row, and one -/
def sttN (a b : Int) (f : Nat → Int) (c : Nat) : Nat := selG (inF (fldQ a b f c)) 144 0
def ownN (a b : Int) (f : Nat → Int) (c : Nat) : Nat := if cellN a b c = true then selN (fsP a b f) (sttN a b f c) + 1 else 0
def rowQ (a b : Int) (f : Nat → Int) (i : Nat) : List Nat := fldQ a b f (selG (fsP a b f) 144 i)
theorem stt_e (ha : a ≤ 12) (hb : b ≤ 12) {s c : Nat} (hs : fsP a b f s = true) (hc : c ∈ fldQ a b f s) : sttN a b f c = s := by
  unfold sttN
  rw [fldQ_eq ha hb (fsP_cell hs) hc]
  exact (row_first ha hb hs).2
theorem own_row (ha : a ≤ 12) (hb : b ≤ 12) {i : Nat} (hi : i < fsN a b f 144) {c : Nat} : c ∈ rowQ a b f i ↔ ownN a b f c = i + 1 := by
  have hs := (selG_lt (p := fsP a b f) 144 i hi).2
  have hn : selN (fsP a b f) (selG (fsP a b f) 144 i) = i := selN_at 144 i hi
  constructor
  · intro hc
    have hcc := (fldQ_in ha hb (fsP_cell hs) c hc).1
    unfold ownN
    rw [if_pos hcc, stt_e ha hb hs hc, hn]
  · intro h
    have hcc : cellN a b c = true := by
      unfold ownN at h
      by_cases e : cellN a b c = true
      · exact e
      · rw [if_neg e] at h; omega
    obtain ⟨s, h1, h2, h3⟩ := start_of (f := f) hcc
    have hst := stt_e ha hb h2 h3
    unfold ownN at h
    rw [if_pos hcc, hst] at h
    have hs144 : s < 144 := (cellN_e.1 (fsP_cell h2)).1
    have h4 := selG_back hs144 h2
    rw [show selN (fsP a b f) s = i by omega] at h4
    unfold rowQ
    rw [h4]
    exact h3
theorem own_le (ha : a ≤ 12) (hb : b ≤ 12) (c : Nat) : ownN a b f c ≤ fsN a b f 144 := by
  unfold ownN
  by_cases e : cellN a b c = true
  · rw [if_pos e]
    obtain ⟨s, h1, h2, h3⟩ := start_of (f := f) e
    rw [stt_e ha hb h2 h3]
    exact selN_below (cellN_e.1 (fsP_cell h2)).1 h2
  · rw [if_neg e]; omega
theorem own_pos {c : Nat} : ownN a b f c ≠ 0 ↔ cellN a b c = true := by
  unfold ownN
  by_cases e : cellN a b c = true
  · rw [if_pos e]; simp [e]
  · rw [if_neg e]; simp [e]
/-- the owners, where i rows and k cells of the next one are done -/
def owU (a b : Int) (f : Nat → Int) (i k : Nat) (c : Nat) : Int := if ownN a b f c = 0 then 0 else if ownN a b f c ≤ i ∨ (ownN a b f c = i + 1 ∧ selN (inF (rowQ a b f i)) c < k) then (ownN a b f c : Nat) else 0
theorem owU_0 (c : Nat) : owU a b f 0 0 c = 0 := by
  unfold owU
  by_cases h : ownN a b f c = 0
  · rw [if_pos h]
  · rw [if_neg h, if_neg (by omega)]
theorem owU_free (ha : a ≤ 12) (hb : b ≤ 12) {i k : Nat} (hi : i < fsN a b f 144) (hk : k < fldM a b f (selG (fsP a b f) 144 i)) : owU a b f i k (selG (inF (rowQ a b f i)) 144 k) = 0 := by
  have hin := (selG_lt (p := inF (rowQ a b f i)) 144 k hk).2
  have ho := (own_row ha hb hi).1 (of_decide_eq_true hin)
  have hn := selN_at (p := inF (rowQ a b f i)) 144 k hk
  unfold owU
  rw [if_neg (by omega), if_neg (by omega)]
theorem owU_put (ha : a ≤ 12) (hb : b ≤ 12) {i k : Nat} (hi : i < fsN a b f 144) (hk : k < fldM a b f (selG (fsP a b f) 144 i)) (c : Nat) : upd (owU a b f i k) (selG (inF (rowQ a b f i)) 144 k) ((i : Int) + 1) c = owU a b f i (k + 1) c := by
  have hin := (selG_lt (p := inF (rowQ a b f i)) 144 k hk).2
  have ho := (own_row ha hb hi).1 (of_decide_eq_true hin)
  have hn := selN_at (p := inF (rowQ a b f i)) 144 k hk
  unfold upd
  by_cases e : c = selG (inF (rowQ a b f i)) 144 k
  · rw [if_pos e, e]
    unfold owU
    rw [if_neg (by omega), if_pos (by omega), ho]
    omega
  · rw [if_neg e]
    unfold owU
    by_cases h0 : ownN a b f c = 0
    · rw [if_pos h0, if_pos h0]
    · rw [if_neg h0, if_neg h0]
      by_cases h1 : ownN a b f c = i + 1
      · have hc := (own_row ha hb hi).2 h1
        have hcl : c < 144 := by
          have := fldQ_in ha hb (fsP_cell (selG_lt (p := fsP a b f) 144 i hi).2) c hc
          exact (cellN_e.1 this.1).1
        have hb2 := selG_back hcl (show inF (rowQ a b f i) c = true from decide_eq_true hc)
        have hne : selN (inF (rowQ a b f i)) c ≠ k := fun e2 => e (by rw [← e2]; exact hb2.symm)
        by_cases h2 : selN (inF (rowQ a b f i)) c < k
        · rw [if_pos (Or.inr ⟨h1, h2⟩), if_pos (Or.inr ⟨h1, by omega⟩)]
        · rw [if_neg (by omega), if_neg (by omega)]
      · by_cases h2 : ownN a b f c ≤ i
        · rw [if_pos (Or.inl h2), if_pos (Or.inl h2)]
        · rw [if_neg (by omega), if_neg (by omega)]
theorem owU_next (ha : a ≤ 12) (hb : b ≤ 12) {i : Nat} (hi : i < fsN a b f 144) (c : Nat) : owU a b f i (fldM a b f (selG (fsP a b f) 144 i)) c = owU a b f (i + 1) 0 c := by
  unfold owU
  by_cases h0 : ownN a b f c = 0
  · rw [if_pos h0, if_pos h0]
  · rw [if_neg h0, if_neg h0]
    by_cases h1 : ownN a b f c = i + 1
    · have hc := (own_row ha hb hi).2 h1
      have hcl : c < 144 := by
        have := fldQ_in ha hb (fsP_cell (selG_lt (p := fsP a b f) 144 i hi).2) c hc
        exact (cellN_e.1 this.1).1
      have hb2 : selN (inF (rowQ a b f i)) c < fldM a b f (selG (fsP a b f) 144 i) := selN_below hcl (show inF (rowQ a b f i) c = true from decide_eq_true hc)
      rw [if_pos (Or.inr ⟨h1, hb2⟩), if_pos (Or.inl (by omega))]
    · by_cases h2 : ownN a b f c ≤ i
      · rw [if_pos (Or.inl h2), if_pos (Or.inl (by omega))]
      · rw [if_neg (by omega), if_neg (by omega)]
theorem owU_end (ha : a ≤ 12) (hb : b ≤ 12) (c : Nat) : owU a b f (fsN a b f 144) 0 c = (ownN a b f c : Nat) := by
  have := own_le (f := f) ha hb c
  unfold owU
  by_cases h0 : ownN a b f c = 0
  · rw [if_pos h0, h0]; rfl
  · rw [if_neg h0, if_pos (Or.inl this)]
/-- the cells that have an owner -/
def owC (a b : Int) (f : Nat → Int) (i k : Nat) : Nat := selN (fun c => decide (owU a b f i k c ≠ 0)) 144
theorem owC_0 : owC a b f 0 0 = 0 := by
  unfold owC
  have : ∀ n, selN (fun c => decide (owU a b f 0 0 c ≠ 0)) n = 0 := by
    intro n
    induction n with
    | zero => rfl
    | succ n ih => rw [selN_f (by rw [owU_0]; simp), ih]
  exact this 144
theorem owC_put (ha : a ≤ 12) (hb : b ≤ 12) {i k : Nat} (hi : i < fsN a b f 144) (hk : k < fldM a b f (selG (fsP a b f) 144 i)) : owC a b f i (k + 1) = owC a b f i k + 1 := by
  unfold owC
  have h1 := (selG_lt (p := inF (rowQ a b f i)) 144 k hk).1
  rw [← selN_updB (p := fun c => decide (owU a b f i k c ≠ 0)) h1 (by rw [owU_free ha hb hi hk]; simp)]
  refine selN_congr fun c hc => ?_
  rw [← owU_put ha hb hi hk c]
  unfold updB upd
  by_cases e : c = selG (inF (rowQ a b f i)) 144 k
  · rw [if_pos e, if_pos e]; simp; omega
  · rw [if_neg e, if_neg e]
theorem owC_next (ha : a ≤ 12) (hb : b ≤ 12) {i : Nat} (hi : i < fsN a b f 144) : owC a b f i (fldM a b f (selG (fsP a b f) 144 i)) = owC a b f (i + 1) 0 := by
  unfold owC
  exact selN_congr fun c hc => by rw [owU_next ha hb hi c]
theorem owC_end (ha : a ≤ 12) (hb : b ≤ 12) : owC a b f (fsN a b f 144) 0 = selN (cellN a b) 144 := by
  unfold owC
  refine selN_congr fun c hc => ?_
  rw [owU_end ha hb c]
  have := own_pos (a := a) (b := b) (f := f) (c := c)
  cases h : cellN a b c
  · rw [h] at this
    have h0 : ownN a b f c = 0 := by
      by_cases e : ownN a b f c = 0
      · exact e
      · exact absurd (this.1 e) (by simp)
    rw [h0]; rfl
  · have h0 := this.2 h
    simp; omega
end
end Go.Proofs.Ytmmckoemkpfgbaa
