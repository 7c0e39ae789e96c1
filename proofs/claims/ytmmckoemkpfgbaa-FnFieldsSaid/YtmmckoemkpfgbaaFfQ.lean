/- The great law on fields: the outlines of all fields, fields that are filled, plain pictures, in plain words; no condition. -/
import Derived.Test.YtmmckoemkpfgbaaFfO
import Derived.Test.YtmmckoemkpfgbaaDif
import Derived.Test.YtmmckoemkpfgbaaDrawP
import Derived.Test.YtmmckoemkpfgbaaSpecC
set_option linter.unusedVariables false
namespace Go.Proofs.Ytmmckoemkpfgbaa
open Go.BigFrame
open Go.RowKit Go.Arr
section
variable {a b : Int} {f : Nat → Int}
/-- the outlines, where the cells ahead of c and k sides of c are counted -/
def outU (a b : Int) (f : Nat → Int) (c k j : Nat) : Int := outS a b (rowQ a b f j) c + (if ownN a b f c = j + 1 then ((edK a b (rowQ a b f j) c k : Nat) : Int) else (0 : Int))
theorem outU_0 (j : Nat) : outU a b f 0 0 j = 0 := by
  unfold outU
  rw [show outS a b (rowQ a b f j) 0 = 0 from rfl]
  split <;> rfl
theorem row_cell (ha : a ≤ 12) (hb : b ≤ 12) {j : Nat} (hj : j < fsN a b f 144) {c : Nat} (h : c ∈ rowQ a b f j) : cellN a b c = true ∧ f c = f (selG (fsP a b f) 144 j) :=
  fldQ_in ha hb (fsP_cell (selG_lt (p := fsP a b f) 144 j hj).2) c h
theorem outU_skip (ha : a ≤ 12) (hb : b ≤ 12) {c j : Nat} (hj : j < fsN a b f 144) (hc : cellN a b c = false) : outU a b f c 0 j = outU a b f (c + 1) 0 j := by
  have hn : inF (rowQ a b f j) c = false := by
    cases h : inF (rowQ a b f j) c
    · rfl
    · rw [(row_cell ha hb hj (of_decide_eq_true h)).1] at hc; cases hc
  have e : outS a b (rowQ a b f j) (c + 1) = outS a b (rowQ a b f j) c := recS_f hn
  unfold outU
  rw [e]
  have z : ∀ x, (if ownN a b f x = j + 1 then ((edK a b (rowQ a b f j) x 0 : Nat) : Int) else 0) = 0 := fun x => by split <;> rfl
  rw [z, z]
theorem outU_same {c k j i : Nat} (hi : ownN a b f c = i + 1) (h : bsC a b c k ∧ inF (rowQ a b f i) (bsN c k) = true) : outU a b f c (k + 1) j = outU a b f c k j := by
  unfold outU
  by_cases e : ownN a b f c = j + 1
  · have : j = i := by omega
    subst this
    rw [if_pos e, if_pos e, edK, if_pos h]
  · rw [if_neg e, if_neg e]
theorem outU_put {c k j i : Nat} (hi : ownN a b f c = i + 1) (h : ¬ (bsC a b c k ∧ inF (rowQ a b f i) (bsN c k) = true)) : upd (outU a b f c k) i (outU a b f c k i + 1) j = outU a b f c (k + 1) j := by
  unfold upd
  by_cases e : j = i
  · subst e
    rw [if_pos rfl]
    unfold outU
    rw [if_pos hi, if_pos hi, edK, if_neg h]
    omega
  · rw [if_neg e]
    unfold outU
    rw [if_neg (by omega), if_neg (by omega)]
theorem outU_next (ha : a ≤ 12) (hb : b ≤ 12) {c j : Nat} (hj : j < fsN a b f 144) : outU a b f c 4 j = outU a b f (c + 1) 0 j := by
  have z : ∀ x, (if ownN a b f x = j + 1 then ((edK a b (rowQ a b f j) x 0 : Nat) : Int) else 0) = 0 := fun x => by split <;> rfl
  unfold outU
  rw [z (c + 1), Int.add_zero]
  by_cases e : ownN a b f c = j + 1
  · have hin : inF (rowQ a b f j) c = true := decide_eq_true ((own_row ha hb hj).2 e)
    have e2 : outS a b (rowQ a b f j) (c + 1) = outStep a b (rowQ a b f j) (outS a b (rowQ a b f j) c) c := recS_t hin
    rw [if_pos e, e2, edK_4]
    unfold outStep
    omega
  · have hin : inF (rowQ a b f j) c = false := decide_eq_false fun h => e ((own_row ha hb hj).1 h)
    have e2 : outS a b (rowQ a b f j) (c + 1) = outS a b (rowQ a b f j) c := recS_f hin
    rw [if_neg e, e2]
    omega
theorem outU_end (j : Nat) : outU a b f 144 0 j = outS a b (rowQ a b f j) 144 := by
  unfold outU
  split <;> simp [edK]
/-- a neighbour of the same colour lies in the same field -/
theorem same_own (ha : a ≤ 12) (hb : b ≤ 12) {c k : Nat} (hk : k < 4) (hc : cellN a b c = true) (h : bsC a b c k) (hf : f (bsN c k) = f c) : ownN a b f (bsN c k) = ownN a b f c := by
  have hn := bs_nb hk h
  obtain ⟨i, hi⟩ : ∃ i, ownN a b f c = i + 1 := ⟨ownN a b f c - 1, by have := (own_pos (f := f)).2 hc; omega⟩
  have hi2 : i < fsN a b f 144 := by have := own_le (f := f) ha hb c; omega
  have hin := (own_row ha hb hi2).2 hi
  have hcell := row_cell ha hb hi2 hin
  have h2 : bsN c k ∈ rowQ a b f i := fldQ_closed ha hb (fsP_cell (selG_lt (p := fsP a b f) 144 i hi2).2) hin hn (by rw [hf]; exact hcell.2)
  rw [hi]
  exact (own_row ha hb hi2).1 h2
/-- a field that is filled -/
theorem fillS_e {Q : List Nat} {c : Int} (n j : Nat) : fillS Q c f n j = if j < n ∧ inF Q j = true then c else f j := by
  induction n with
  | zero => rw [if_neg (by omega)]; rfl
  | succ n ih =>
    cases h : inF Q n
    · have e : fillS Q c f (n + 1) = fillS Q c f n := recS_f h
      rw [e, ih]
      by_cases h2 : j < n ∧ inF Q j = true
      · rw [if_pos h2, if_pos ⟨by omega, h2.2⟩]
      · rw [if_neg h2]
        by_cases h3 : j = n
        · subst h3; rw [if_neg (by rw [h]; simp)]
        · rw [if_neg (fun h4 => h2 ⟨by omega, h4.2⟩)]
    · have e : fillS Q c f (n + 1) = upd (fillS Q c f n) n c := recS_t h
      rw [e]
      unfold upd
      by_cases h3 : j = n
      · subst h3; rw [if_pos rfl, if_pos ⟨by omega, h⟩]
      · rw [if_neg h3, ih]
        by_cases h2 : j < n ∧ inF Q j = true
        · rw [if_pos h2, if_pos ⟨by omega, h2.2⟩]
        · rw [if_neg h2, if_neg (fun h4 => h2 ⟨by omega, h4.2⟩)]
theorem fill_in {Q : List Nat} {c : Int} {j : Nat} (hj : j < 144) (h : j ∈ Q) : fillS Q c f 144 j = c := by
  rw [fillS_e, if_pos ⟨hj, decide_eq_true h⟩]
theorem fill_good {Q : List Nat} {c : Int} (hg : GoodQ a b f) (hq : ∀ k ∈ Q, cellN a b k = true) (hc : 0 ≤ c ∧ c < 16) : GoodQ a b (fillS Q c f 144) := by
  intro j
  rw [fillS_e]
  by_cases h : j < 144 ∧ inF Q j = true
  · rw [if_pos h]
    exact ⟨hc.1, hc.2, fun h2 => by rw [hq j (of_decide_eq_true h.2)] at h2; cases h2⟩
  · rw [if_neg h]
    exact hg j
/-- the filled field holds the old one -/
theorem fill_more (ha : a ≤ 12) (hb : b ≤ 12) {c0 : Nat} (hc0 : cellN a b c0 = true) (c : Int) : ∀ k ∈ fldQ a b f c0, k ∈ fldQ a b (fillS (fldQ a b f c0) c f 144) c0 := by
  have key := fldQ_least (a := a) (b := b) (f := f) (c := c0) (fun k => k ∈ fldQ a b f c0 ∧ k ∈ fldQ a b (fillS (fldQ a b f c0) c f 144) c0) ⟨fldQ_self, fldQ_self⟩ (fun i k hi hk hf => by
    have h1 := fldQ_closed ha hb hc0 hi.1 hk hf
    have hk144 : k < 144 := (cellN_e.1 (fldQ_in ha hb hc0 k h1).1).1
    have h0144 : c0 < 144 := (cellN_e.1 hc0).1
    refine ⟨h1, fldQ_closed ha hb hc0 hi.2 hk ?_⟩
    rw [fill_in hk144 h1, fill_in h0144 fldQ_self])
  exact fun k hk => (key k hk).2
theorem fill_len (ha : a ≤ 12) (hb : b ≤ 12) {c0 : Nat} (hc0 : cellN a b c0 = true) (c : Int) : selN (inF (fldQ a b f c0)) 144 ≤ selN (inF (fldQ a b (fillS (fldQ a b f c0) c f 144) c0)) 144 :=
  selN_sub (fun i h => decide_eq_true (fill_more ha hb hc0 c i (of_decide_eq_true h))) 144
/-- how many cells turn -/
theorem difN_fill {Q : List Nat} {c z : Int} (hz : ∀ k ∈ Q, f k = z) (n : Nat) (hn : n ≤ 144) : difN f (fillS Q c f 144) n = if z = c then 0 else selN (inF Q) n := by
  induction n with
  | zero => simp [difN, selN]
  | succ n ih =>
    unfold difN
    rw [ih (by omega)]
    cases h : inF Q n
    · have e : fillS Q c f 144 n = f n := by rw [fillS_e, if_neg (by rw [h]; simp)]
      rw [e, if_pos rfl, selN_f h]
    · have e : fillS Q c f 144 n = c := fill_in (by omega) (of_decide_eq_true h)
      rw [e, hz n (of_decide_eq_true h), selN_t h]
      by_cases hzc : z = c
      · rw [if_pos hzc, if_pos hzc, if_pos hzc]
      · rw [if_neg hzc, if_neg hzc, if_neg hzc]
/-- a plain picture is one field -/
theorem plain_all (ha : 1 ≤ a ∧ a ≤ 12) (hb : 1 ≤ b ∧ b ≤ 12) {z : Int} (hf : ∀ c, cellN a b c = true → f c = z) : ∀ n c, c ≤ n → cellN a b c = true → c ∈ fldQ a b f 0 := by
  have h0 : cellN a b 0 = true := by rw [cellN_e]; omega
  intro n
  induction n with
  | zero => intro c hc _; have : c = 0 := by omega
            subst this; exact fldQ_self
  | succ n ih =>
    intro c hc hcc
    have hc' := cellN_e.1 hcc
    by_cases h1 : 0 < c % 12
    · have hp : cellN a b (c - 1) = true := by rw [cellN_e]; omega
      exact fldQ_closed ha.2 hb.2 h0 (ih (c - 1) (by omega) hp) (by rw [nbL_e]; omega) (by rw [hf c hcc, hf 0 h0])
    · by_cases h2 : 12 ≤ c
      · have hp : cellN a b (c - 12) = true := by rw [cellN_e]; omega
        exact fldQ_closed ha.2 hb.2 h0 (ih (c - 12) (by omega) hp) (by rw [nbL_e]; omega) (by rw [hf c hcc, hf 0 h0])
      · have : c = 0 := by omega
        subst this; exact fldQ_self
theorem plain_one (ha : 1 ≤ a ∧ a ≤ 12) (hb : 1 ≤ b ∧ b ≤ 12) {z : Int} (hf : ∀ c, cellN a b c = true → f c = z) : fsN a b f 144 = 1 := by
  have h0 : cellN a b 0 = true := by rw [cellN_e]; omega
  have hs0 : fsP a b f 0 = true := by unfold fsP; rw [h0]; rfl
  have hs : ∀ i, fsP a b f i = true → i = 0 := fun i hi => by
    have h1 := plain_all ha hb hf i i (Nat.le_refl _) (fsP_cell hi)
    exact (start_one ha.2 hb.2 hi hs0 fldQ_self h1)
  have hk : ∀ n, selN (fsP a b f) (n + 1) = 1 := by
    intro n
    induction n with
    | zero => rw [selN_t hs0]; rfl
    | succ n ih =>
      cases h : fsP a b f (n + 1)
      · rw [selN_f h, ih]
      · have := hs _ h; omega
  exact hk 143
end
end Go.Proofs.Ytmmckoemkpfgbaa
