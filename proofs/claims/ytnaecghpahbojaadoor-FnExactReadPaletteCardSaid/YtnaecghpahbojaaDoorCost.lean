/- The cost of an image for a picture and a palette: the reference and the program answer alike; no condition. -/
import Derived.Test.YtnaecghpahbojaaDoorPicOf
import Derived.Test.YtnaecghpahbojaaDoorHas
set_option linter.unusedVariables false
namespace Go.Proofs.YtnaecghpahbojaaDoor
open Go.BigFrame
open Go.RowKit Go.Arr
def farI (fm f fp : Nat → Int) (i : Nat) : Int := far (fm (i * 3)) (fm (i * 3 + 1)) (fm (i * 3 + 2)) (fp (((f i).toNat - 1) * 3)) (fp (((f i).toNat - 1) * 3 + 1)) (fp (((f i).toNat - 1) * 3 + 2))
theorem far_b {a b c d e f : Int} (ha : 0 ≤ a ∧ a ≤ 255) (hb : 0 ≤ b ∧ b ≤ 255) (hc : 0 ≤ c ∧ c ≤ 255) (hd : 0 ≤ d ∧ d ≤ 255) (he : 0 ≤ e ∧ e ≤ 255) (hf : 0 ≤ f ∧ f ≤ 255) : 0 ≤ far a b c d e f ∧ far a b c d e f ≤ 1000000 := by
  have s1 := sq3 3 (a - d) (by omega) (by omega) (by omega)
  have s2 := sq3 6 (b - e) (by omega) (by omega) (by omega)
  have s3 := sq_le (c - f) (by omega) (by omega)
  unfold far
  omega
def costStep (fm f fp : Nat → Int) (s : Int) (i : Nat) : Int := if 0 < f i then s + farI fm f fp i else s
def costS (fm f fp : Nat → Int) : Nat → Int := recS (costStep fm f fp) 0 fun _ => true
theorem costS_t {fm f fp : Nat → Int} {k : Nat} (h : 0 < f k) : costS fm f fp (k + 1) = costS fm f fp k + farI fm f fp k := by
  unfold costS
  rw [recS_t rfl, costStep, if_pos h]
theorem costS_f {fm f fp : Nat → Int} {k : Nat} (h : ¬ 0 < f k) : costS fm f fp (k + 1) = costS fm f fp k := by
  unfold costS
  rw [recS_t rfl, costStep, if_neg h]
theorem costS_b {fm f fp : Nat → Int} (hm : ∀ i, 0 ≤ fm i ∧ fm i ≤ 255) (hp : ∀ i, 0 ≤ fp i ∧ fp i ≤ 255) (k : Nat) : 0 ≤ costS fm f fp k ∧ costS fm f fp k ≤ 1000000 * k := by
  induction k with
  | zero => simp [costS, recS]
  | succ k ih =>
    by_cases h : 0 < f k
    · rw [costS_t h]
      have := far_b (hm (k * 3)) (hm (k * 3 + 1)) (hm (k * 3 + 2)) (hp (((f k).toNat - 1) * 3)) (hp (((f k).toNat - 1) * 3 + 1)) (hp (((f k).toNat - 1) * 3 + 2))
      unfold farI
      omega
    · rw [costS_f h]; omega
/-- a loop over the cells alone comes to the same, where the others are bare -/
theorem cost_cells {fm f fp : Nat → Int} {p : Nat → Bool} (h : ∀ i, i < 144 → p i = false → f i = 0) (k : Nat) (hk : k ≤ 144) : recS (costStep fm f fp) 0 p k = costS fm f fp k := by
  induction k with
  | zero => rfl
  | succ k ih =>
    cases hp : p k
    · rw [recS_f hp, costS_f (by rw [h k (by omega) hp]; omega), ih (by omega)]
    · rw [recS_t hp, ih (by omega)]
      unfold costS
      rw [recS_t rfl]
theorem okPic_bare {a b : Int} {f : Nat → Int} (h : okPic a b f = true) (i : Nat) (hi : i < 144) (hc : cellN a b i = false) : f i = 0 := by
  unfold okPic at h
  rw [Bool.and_eq_true] at h
  have h1 := List.all_eq_true.1 h.2 i (by simpa using hi)
  unfold goodAt at h1
  rw [Bool.and_eq_true, Bool.or_eq_true] at h1
  rcases h1.2 with h2 | h2
  · unfold cellN at hc; rw [h2] at hc; cases hc
  · exact of_decide_eq_true h2
def costC (a b : Int) (fm : Nat → Int) (c d : Int) (f : Nat → Int) (n : Nat) (fp : Nat → Int) : Int := if okImg a b fm = false then 1 else if hasV c d f n fp = 1 then 1 else if a = c ∧ b = d then hasV c d f n fp else 4
def costV (a b : Int) (fm : Nat → Int) (c d : Int) (f : Nat → Int) (n : Nat) (fp : Nat → Int) : Int := if costC a b fm c d f n fp = 0 then costS fm f fp 144 else 0
theorem costV_0 {a b : Int} {fm : Nat → Int} {c d : Int} {f : Nat → Int} {n : Nat} {fp : Nat → Int} {k : Int} (h : costC a b fm c d f n fp = k) (hk : k ≠ 0) : costV a b fm c d f n fp = 0 := by unfold costV; rw [h]; exact if_neg hk
theorem costV_1 {a b : Int} {fm : Nat → Int} {c d : Int} {f : Nat → Int} {n : Nat} {fp : Nat → Int} (h : costC a b fm c d f n fp = 0) : costV a b fm c d f n fp = costS fm f fp 144 := by unfold costV; rw [h]; exact if_pos rfl
theorem hasV_cases (a b : Int) (f : Nat → Int) (n : Nat) (fp : Nat → Int) : (hasV a b f n fp = 1 ∧ (okPic a b f && okPal n fp) = false) ∨ (hasV a b f n fp = 2 ∧ (okPic a b f = true ∧ okPal n fp = true) ∧ hasC n f = false) ∨ (hasV a b f n fp = 0 ∧ (okPic a b f = true ∧ okPal n fp = true) ∧ hasC n f = true) := by
  unfold hasV
  cases h1 : okPic a b f <;> cases h2 : okPal n fp <;> cases h3 : hasC n f <;> simp
theorem costT_b {fm f fp : Nat → Int} (hm : ∀ i, 0 ≤ fm i ∧ fm i ≤ 255) (hp : ∀ i, 0 ≤ fp i ∧ fp i ≤ 255) (G : Nat → Nat) (j : Nat) : 0 ≤ recT (costStep fm f fp) 0 G j ∧ recT (costStep fm f fp) 0 G j ≤ 1000000 * j := by
  induction j with
  | zero => simp [recT]
  | succ j ih =>
    rw [recT]
    unfold costStep
    split
    · have := far_b (hm (G j * 3)) (hm (G j * 3 + 1)) (hm (G j * 3 + 2)) (hp (((f (G j)).toNat - 1) * 3)) (hp (((f (G j)).toNat - 1) * 3 + 1)) (hp (((f (G j)).toNat - 1) * 3 + 2))
      unfold farI
      have h1 : recT (fun s i => if 0 < f i then s + far (fm (i * 3)) (fm (i * 3 + 1)) (fm (i * 3 + 2)) (fp (((f i).toNat - 1) * 3)) (fp (((f i).toNat - 1) * 3 + 1)) (fp (((f i).toNat - 1) * 3 + 2)) else s) 0 G j = recT (costStep fm f fp) 0 G j := rfl
      rw [h1]
      omega
    · have h1 : recT (fun s i => if 0 < f i then s + farI fm f fp i else s) 0 G j = recT (costStep fm f fp) 0 G j := rfl
      rw [h1]
      omega
end Go.Proofs.YtnaecghpahbojaaDoor
