/- Slices of bytes that come in: their block is one that is there; no condition. -/
import Derived.Test.YtphjhegaplochaaGreatDoorU1
import Derived.Test.YtphjhegaplochaaGreatDoorU2
import Derived.ChangeSlices
set_option linter.unusedVariables false
namespace Go.Arr
open Go.ChangeShapes Go.WideShapes Go.ChangeAt Go.RowKit
theorem okWide_block {P : Program} {w : World} {r : Reach} {base : Nat} {t e : TypeId} {v : Value} (ht : P.underlying t = some (.slice e)) (h : Value.okWide P w r base t v) : ∀ a n c, v = .slice (some a) n c → a.block < w.heap.size := by
  intro a n c hv
  subst hv
  unfold Value.okWide at h
  simp only [ht] at h
  unfold Cell.okWide at h
  simp only [ht] at h
  unfold Cell.ok at h
  simp only [ht] at h
  obtain ⟨_, _, _, _, row, cells, hs, _⟩ := h
  unfold World.shape? at hs
  rcases Nat.lt_or_ge a.block w.heap.size with h | h
  · exact h
  · simp [h] at hs
end Go.Arr
