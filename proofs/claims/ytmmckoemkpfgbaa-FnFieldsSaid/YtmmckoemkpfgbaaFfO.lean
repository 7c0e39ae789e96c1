/- The great law on fields: outlines, fields that are filled, plain pictures, in plain words; no condition. -/
import Derived.Test.YtmmckoemkpfgbaaFfP
set_option linter.unusedVariables false
namespace Go.Proofs.Ytmmckoemkpfgbaa
open Go.BigFrame
open Go.RowKit Go.Arr
/-- the four places beside a cell: which are cells -/
def bsI (c k : Nat) : Int := if k = 0 then (c : Int) - 12 else if k = 1 then (c : Int) - 1 else if k = 2 then (c : Int) + 1 else (c : Int) + 12
def bsC (a b : Int) (c k : Nat) : Prop := if k = 0 then 12 ≤ c else if k = 1 then 0 < c % 12 else if k = 2 then ((c % 12 : Nat) : Int) + 1 < a else ((c / 12 : Nat) : Int) + 1 < b
instance (a b : Int) (c k : Nat) : Decidable (bsC a b c k) := by unfold bsC; infer_instance
def bsN (c k : Nat) : Nat := if k = 0 then c - 12 else if k = 1 then c - 1 else if k = 2 then c + 1 else c + 12
section
variable {a b : Int} {f : Nat → Int}
theorem bs_nb {c k : Nat} (hk : k < 4) (h : bsC a b c k) : bsN c k ∈ nbL a b c := by
  rw [nbL_e]
  have e : k = 0 ∨ k = 1 ∨ k = 2 ∨ k = 3 := by omega
  rcases e with rfl | rfl | rfl | rfl <;> simp [bsC, bsN] at * <;> omega
theorem bs_i {c k : Nat} (hk : k < 4) (h : bsC a b c k) : bsI c k = (bsN c k : Nat) := by
  have e : k = 0 ∨ k = 1 ∨ k = 2 ∨ k = 3 := by omega
  rcases e with rfl | rfl | rfl | rfl <;> simp [bsC, bsN, bsI] at * <;> omega
theorem cellB_n {d : Int} : cellB d a b = true ↔ 0 ≤ d ∧ cellN a b d.toNat = true := by
  constructor
  · intro h
    have h0 : 0 ≤ d := by
      unfold cellB at h
      simp only [Bool.and_eq_true, inB_t] at h
      omega
    refine ⟨h0, ?_⟩
    unfold cellN
    rw [show ((d.toNat : Nat) : Int) = d by omega]
    exact h
  · rintro ⟨h0, h⟩
    unfold cellN at h
    rw [show ((d.toNat : Nat) : Int) = d by omega] at h
    exact h
/-- what the law asks of a place beside a cell -/
theorem bs_in (ha : 1 ≤ a ∧ a ≤ 12) (hb : 1 ≤ b ∧ b ≤ 12) {c k : Nat} (hk : k < 4) (hc : cellN a b c = true) : (cellB (bsI c k) a b = true ∧ (k = 0 ∨ k = 3 ∨ Int.tdiv (bsI c k) 12 = ((c / 12 : Nat) : Int))) ↔ bsC a b c k := by
  rw [cellB_n, cellN_e]
  have hc' := cellN_e.1 hc
  have e : k = 0 ∨ k = 1 ∨ k = 2 ∨ k = 3 := by omega
  have ht : ∀ d : Int, 0 ≤ d → Int.tdiv d 12 = d / 12 := fun d h => Int.tdiv_eq_ediv_of_nonneg h
  rcases e with rfl | rfl | rfl | rfl
  · simp [bsC, bsI]; omega
  · simp [bsC, bsI]
    constructor
    · rintro ⟨⟨h1, h2, h3, h4⟩, h5⟩
      rw [ht _ (by omega)] at h5
      omega
    · intro h
      refine ⟨by omega, ?_⟩
      rw [ht _ (by omega)]
      omega
  · simp [bsC, bsI]
    constructor
    · rintro ⟨⟨h1, h2, h3, h4⟩, h5⟩
      rw [ht _ (by omega)] at h5
      omega
    · intro h
      refine ⟨by omega, ?_⟩
      rw [ht _ (by omega)]
      omega
  · simp [bsC, bsI]; omega
/-- the sides of a cell that bound its field, up to k -/
def edK (a b : Int) (Q : List Nat) (c : Nat) : Nat → Nat
  | 0 => 0
  | k + 1 => if bsC a b c k ∧ inF Q (bsN c k) = true then edK a b Q c k else edK a b Q c k + 1
theorem cN_all (p : Nat → Bool) (l : List Nat) : cN p l l.length = (l.countP p : Nat) := by
  have h : ∀ j, j ≤ l.length → cN p l j = ((l.take j).countP p : Nat) := by
    intro j
    induction j with
    | zero => intro _; simp [cN]
    | succ j ih =>
      intro hj
      have e : l.getD j 0 = l[j]'(by omega) := by rw [List.getD_eq_getElem?_getD, List.getElem?_eq_getElem (by omega)]; rfl
      rw [List.take_add_one, List.getElem?_eq_getElem (by omega), List.countP_append]
      unfold cN
      rw [ih (by omega), e]
      by_cases h : p (l[j]'(by omega)) = true
      · rw [if_pos h]; simp [h]
      · rw [if_neg h]; simp [h]
  rw [h l.length (Nat.le_refl _), List.take_length]
theorem countP_ite {P : Prop} [Decidable P] {p : Nat → Bool} {x : Nat} : (if P then [x] else []).countP p = if P ∧ p x = true then 1 else 0 := by
  by_cases h : P
  · rw [if_pos h]
    by_cases h2 : p x = true
    · rw [if_pos ⟨h, h2⟩]; simp [h2]
    · rw [if_neg (fun h3 => h2 h3.2)]; simp [h2]
  · rw [if_neg h, if_neg (fun h3 => h h3.1)]; rfl
theorem edK_4 (Q : List Nat) (c : Nat) : (edK a b Q c 4 : Int) = 4 - cN (inF Q) (nbL a b c) (nbL a b c).length := by
  rw [cN_all]
  unfold nbL
  simp only [List.countP_append, countP_ite]
  have h0 : edK a b Q c 1 = if 12 ≤ c ∧ inF Q (c - 12) = true then 0 else 1 := by simp [edK, bsC, bsN]
  have h1 : edK a b Q c 2 = edK a b Q c 1 + if 0 < c % 12 ∧ inF Q (c - 1) = true then 0 else 1 := by
    rw [edK]; simp only [bsC, bsN]; simp only [Nat.one_ne_zero, if_false, if_true]; split <;> omega
  have h2 : edK a b Q c 3 = edK a b Q c 2 + if ((c % 12 : Nat) : Int) + 1 < a ∧ inF Q (c + 1) = true then 0 else 1 := by
    rw [edK]; simp only [bsC, bsN]; simp; split <;> omega
  have h3 : edK a b Q c 4 = edK a b Q c 3 + if ((c / 12 : Nat) : Int) + 1 < b ∧ inF Q (c + 12) = true then 0 else 1 := by
    rw [edK]; simp only [bsC, bsN]; simp; split <;> omega
  rw [h3, h2, h1, h0]
  repeat' split
  all_goals omega
end
end Go.Proofs.Ytmmckoemkpfgbaa
