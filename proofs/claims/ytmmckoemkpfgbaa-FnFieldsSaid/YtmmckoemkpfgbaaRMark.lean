/- Rows behind a row are marked, and found marked; no condition. -/
import Derived.Test.YtmmckoemkpfgbaaRRow
set_option linter.unusedVariables false
namespace Go.Proofs.Ytmmckoemkpfgbaa
open Go.BigFrame
open Go.RowKit Go.Arr
theorem RR.turn {W W' : World} {base n : Nat} {v : Value} {vs : Nat → Value} {m : Nat → Nat} {F : Nat → Nat → Int} {i : Nat} {f : Nat → Int} (h : RR W base v n vs m F) (hi : i < n) (hr : Row W' base (vs i) (m i) f) (ho : ∀ b, (vs i).ownBlock ≠ some b → obj W' b = obj W b) :
    RR W' base v n vs m (fun r => if r = i then f else F r) := by
  refine ⟨?_, fun r hr2 => ?_, h.2.2.1, h.2.2.2⟩
  · have h1 := h.2.2.2
    obtain ⟨hl, h' | ⟨g, cap, cur, e1, e2, e3, e4⟩⟩ := h.1
    · exact ⟨hl, .inl h'⟩
    · refine ⟨hl, .inr ⟨g, cap, cur, e1, e2, ?_, e4⟩⟩
      have := ho g fun e => h1 i g hi e (by rw [e1]; rfl)
      exact this.trans e3
  · by_cases e : r = i
    · subst e; simp only [if_true]; exact hr
    · simp only [if_neg e]
      exact (h.2.1 r hr2).same fun b hb => ho b fun e2 => e (h.2.2.1 r i b hr2 hi hb e2)
theorem sumM_mono {m : Nat → Nat} (i d : Nat) : sumM m i ≤ sumM m (i + d) := by
  induction d with
  | zero => exact Nat.le_refl _
  | succ d ih => rw [← Nat.add_assoc, sumM]; omega
end Go.Proofs.Ytmmckoemkpfgbaa
