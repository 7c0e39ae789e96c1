/- The cells of an image as a list; a loop over the list and a loop over all cells come to the same; no condition. -/
import Derived.Test.YtmmckoemkpfgbaaImg
import Derived.Test.YtmmckoemkpfgbaaSlI
set_option linter.unusedVariables false
namespace Go.Proofs.Ytmmckoemkpfgbaa
open Go.BigFrame
open Go.RowKit Go.Arr
def selN (p : Nat → Bool) : Nat → Nat
  | 0 => 0
  | k + 1 => if p k = true then selN p k + 1 else selN p k
def selG (p : Nat → Bool) : Nat → Nat → Nat
  | 0 => fun _ => 0
  | k + 1 => if p k = true then (fun j => if j = selN p k then k else selG p k j) else selG p k
section
variable {p : Nat → Bool}
theorem selN_t {k : Nat} (h : p k = true) : selN p (k + 1) = selN p k + 1 := by rw [selN, if_pos h]
theorem selN_f {k : Nat} (h : p k = false) : selN p (k + 1) = selN p k := by rw [selN, if_neg (by simp [h])]
theorem selG_t {k : Nat} (h : p k = true) : selG p (k + 1) = fun j => if j = selN p k then k else selG p k j := by rw [selG, if_pos h]
theorem selG_f {k : Nat} (h : p k = false) : selG p (k + 1) = selG p k := by rw [selG, if_neg (by simp [h])]
theorem selN_le (k : Nat) : selN p k ≤ k := by
  induction k with
  | zero => simp [selN]
  | succ k ih => unfold selN; split <;> omega
theorem selN_mono {k m : Nat} : selN p k ≤ selN p (k + m) := by
  induction m with
  | zero => exact Nat.le_refl _
  | succ m ih => rw [← Nat.add_assoc, selN]; split <;> omega
theorem selG_lt (k : Nat) : ∀ j, j < selN p k → selG p k j < k ∧ p (selG p k j) = true := by
  induction k with
  | zero => intro j hj; simp [selN] at hj
  | succ k ih =>
    intro j hj
    cases h : p k
    · rw [selN_f h] at hj
      rw [selG_f h]
      have := ih j hj
      exact ⟨by omega, this.2⟩
    · rw [selN_t h] at hj
      rw [selG_t h]
      dsimp only
      by_cases e : j = selN p k
      · rw [if_pos e]; exact ⟨by omega, h⟩
      · rw [if_neg e]
        have := ih j (by omega)
        exact ⟨by omega, this.2⟩
theorem selG_keep (k m : Nat) : ∀ j, j < selN p k → selG p (k + m) j = selG p k j := by
  induction m with
  | zero => intro j _; rfl
  | succ m ih =>
    intro j hj
    have h1 := selN_mono (p := p) (k := k) (m := m)
    rw [← Nat.add_assoc]
    cases h : p (k + m)
    · rw [selG_f h]; exact ih j hj
    · rw [selG_t h]; dsimp only; rw [if_neg (by omega)]; exact ih j hj
theorem selG_at {k K : Nat} (hk : k < K) (hp : p k = true) : selG p K (selN p k) = k := by
  obtain ⟨m, rfl⟩ : ∃ m, K = k + 1 + m := ⟨K - k - 1, by omega⟩
  rw [selG_keep (k + 1) m _ (by rw [selN_t hp]; omega), selG_t hp]
  exact if_pos rfl
end
def recT {σ : Type} (step : σ → Nat → σ) (s0 : σ) (G : Nat → Nat) : Nat → σ
  | 0 => s0
  | j + 1 => step (recT step s0 G j) (G j)
def recS {σ : Type} (step : σ → Nat → σ) (s0 : σ) (p : Nat → Bool) : Nat → σ
  | 0 => s0
  | k + 1 => if p k = true then step (recS step s0 p k) k else recS step s0 p k
section
variable {σ : Type} {step : σ → Nat → σ} {s0 : σ} {p : Nat → Bool}
theorem recS_t {k : Nat} (h : p k = true) : recS step s0 p (k + 1) = step (recS step s0 p k) k := by rw [recS, if_pos h]
theorem recS_f {k : Nat} (h : p k = false) : recS step s0 p (k + 1) = recS step s0 p k := by rw [recS, if_neg (by simp [h])]
theorem rec_eq {k K : Nat} (h : k ≤ K) : recT step s0 (selG p K) (selN p k) = recS step s0 p k := by
  induction k with
  | zero => rfl
  | succ k ih =>
    cases hp : p k
    · rw [selN_f hp, recS_f hp]; exact ih (by omega)
    · rw [selN_t hp, recS_t hp, recT, ih (by omega), selG_at (by omega) hp]
end
def cellN (a b : Int) (k : Nat) : Bool := cellB k a b
theorem Row.sl {W : World} {base : Nat} {v : Value} {n : Nat} {f : Nat → Int} (h : Row W base v n f) : Sl W v n 1 .i64 f := by
  rcases h.shape with ⟨rfl, rfl⟩ | ⟨g, cap, cur, rfl, _, _, ho, _, _, _, hc⟩
  · exact ⟨none, 0, rfl, fun h => absurd h (by omega)⟩
  · exact Sl.of ho fun i hi => by rw [Nat.zero_add]; exact hc i (by omega)
theorem row_app2 {w' : World} {base n g cap : Nat} {f : Nat → Int} {x : Int} (h : w'.ownsRow base 2 1 (.slice (some ⟨g, 0, none⟩) (n + 1) cap) (n + 1) (irow n .i64 f ++ [.int .i64 x])) : Row w' base (.slice (some ⟨g, 0, none⟩) (n + 1) cap) (n + 1) (upd f n x) := by
  unfold Row
  rw [← irow_snoc]
  exact h
theorem row_empty2 {W : World} {base g : Nat} {f : Nat → Int} (h : obj W g = some (.cells #[] 2)) (hb : base ≤ g) : Row W base (.slice (some ⟨g, 0, none⟩) 0 0) 0 f :=
  Row.of h hb (Nat.le_refl _) (by unfold maxLen; omega) rfl fun j hj => absurd hj (by omega)
end Go.Proofs.Ytmmckoemkpfgbaa
