/- Statements that draw their order, hold calls that make memory, and lay what comes out in a variable of their own; no condition. -/
import Derived.Test.YtmmckoemkpfgbaaNewQ
import Derived.Deep.RegionHeld3
import Derived.Deep.DeepCutAuto
set_option linter.unusedVariables false
namespace Go.Arr
open Go.RowKit
section
variable {v W W' : World} {g1 g2 : Nat} {A B : Option Obj}
theorem held_begin (h1 : obj W g1 = A) (h2 : obj W g2 = B) : obj W.drew g1 = A ∧ obj W.drew g2 = B ∧ New W W.drew :=
  ⟨h1, h2, (New.refl W).drew⟩
theorem held_new (l1 : g1 < v.heap.size) (l2 : g2 < v.heap.size) (h : obj W g1 = A ∧ obj W g2 = B ∧ New v W) (hn : New W W') : obj W' g1 = A ∧ obj W' g2 = B ∧ New v W' := by
  have hv := h.2.2.le
  exact ⟨by rw [hn.objs _ (by omega), h.1], by rw [hn.objs _ (by omega), h.2.1], h.2.2.trans hn⟩
theorem held_row (l1 : g1 < v.heap.size) (l2 : g2 < v.heap.size) (h : obj W g1 = A ∧ obj W g2 = B ∧ New v W) {g : Nat} (hg : v.heap.size ≤ g) (c : Array Value) : obj (W.setRow g c) g1 = A ∧ obj (W.setRow g c) g2 = B ∧ New v (W.setRow g c) :=
  ⟨by rw [← h.1]; exact setRow_other W g _ c (by omega), by rw [← h.2.1]; exact setRow_other W g _ c (by omega), h.2.2.setRow (by omega) c⟩
theorem held_re (l1 : g1 < v.heap.size) (l2 : g2 < v.heap.size) {o : Obj} (h : obj (W.alloc o) g1 = A ∧ obj (W.alloc o) g2 = B ∧ New v (W.alloc o)) (hz : v.heap.size ≤ W.heap.size) (o' : Obj) : obj (W.alloc o') g1 = A ∧ obj (W.alloc o') g2 = B ∧ New v (W.alloc o') := by
  have e : ∀ b, b < W.heap.size → obj (W.alloc o') b = obj (W.alloc o) b := fun b hb => by rw [obj_alloc_past _ _ _ hb, obj_alloc_past _ _ _ hb]
  refine ⟨by rw [e _ (by omega), h.1], by rw [e _ (by omega), h.2.1], ?_⟩
  have hn := h.2.2
  refine ⟨hn.os, hn.tape, hn.output, by simp; omega, fun k hk => ?_⟩
  have := hn.block k hk
  have e2 := e k (by omega)
  unfold obj at e2
  rw [e2]
  exact this
theorem obj_made {o : Obj} (hn : New (W.alloc o) W') : obj W' W.heap.size = some o := (hn.objs _ (by simp)).trans (obj_alloc_at _ _ _ rfl)
theorem obj_made2 {o : Obj} (hn : New (W.alloc o).drew W') : obj W' W.heap.size = some o := (hn.objs _ (by simp)).trans ((obj_drew _ _).trans (obj_alloc_at _ _ _ rfl))
theorem lt_new (hn : New W W') : ∀ n, n < W.heap.size → n < W'.heap.size := fun n h => Nat.lt_of_lt_of_le h hn.le
end
end Go.Arr
