/- Rows of numbers: copied, held against each other; no condition. -/
import Derived.Test.YtmmckoemkpfgbaaTy
import Derived.Test.YtmmckoemkpfgbaaSli
import Derived.Test.YtmmckoemkpfgbaaSmall
set_option linter.unusedVariables false
namespace Go.Proofs.Ytmmckoemkpfgbaa
open Go.BigFrame
open Go.RowKit Go.Arr
theorem elInts {W : World} {a : Option Addr} {n c : Nat} {f : Nat → Int} (h : Sl W (.slice a n c) n 1 .i64 f) (hn : 0 < n) : ∃ g off cur t fr, a = some ⟨g, off, none⟩ ∧ obj W g = some (.cells cur t fr) ∧ ∀ j, j < n → ∃ l : off + j < cur.size, cur[off + j] = .int .i64 (f j) := by
  obtain ⟨g, off, cur, t, fr, rfl, ho, hc⟩ := h.at hn
  exact ⟨g, off, cur, t, fr, rfl, ho, fun j hj => Array.getElem?_eq_some_iff.1 (hc j (by omega))⟩
def Ints (W : World) (g n : Nat) (f : Nat → Int) : Prop := obj W g = some (.cells (arr n .i64 f) 2)
theorem Ints.new {W W' : World} {g n : Nat} {f : Nat → Int} (h : Ints W g n f) (hn : New W W') : Ints W' g n f := (hn.objs _ (obj_lt h)).trans h
theorem Ints.sl {W : World} {g n c : Nat} {f : Nat → Int} (h : Ints W g n f) : Sl W (.slice (some ⟨g, 0, none⟩) n c) n 1 .i64 f := Sl.arr h (by omega)
end Go.Proofs.Ytmmckoemkpfgbaa
