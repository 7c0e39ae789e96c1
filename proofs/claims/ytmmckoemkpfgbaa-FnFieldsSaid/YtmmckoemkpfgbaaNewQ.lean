/- Statements whose order is open and whose callees only make memory of their own; no condition. -/
import Derived.Test.YtmmckoemkpfgbaaArr
import Derived.Deep.QuietTactic
import Derived.BigQuiet
set_option linter.unusedVariables false
namespace Go.Arr
open Go.RowKit
/-- a world in which all that was there is as it was -/
structure NewW (W : World) where
  world : World
  is : New W world
instance (W : World) : Inhabited (NewW W) := ⟨⟨W, New.refl W⟩⟩
@[go_sem] theorem NewW.obj_ {W : World} (p : NewW W) (b : Nat) (h : b < W.heap.size) : obj p.world b = obj W b := p.is.objs b h
theorem NewW.of {W w : World} (h : ∃ p : NewW W, w = p.world) : New W w := by obtain ⟨p, rfl⟩ := h; exact p.is
theorem wp_region_new {P : Program} {id : Nat} {Q : Exit → Act → World → Prop} {a : Act} {w : World} {l : List Oper} (hm : P.follows .mixedOrders = true) (hB : Region.lexB .any l.toArray = true)
    (h : wpQuiet P l.toArray (fun w' => ∃ p : NewW w, w' = p.world) (fun a' => ∀ w', (∃ p : NewW w, w' = p.world) → Q .normal a' w') l a) : (Code.region id l.toArray true).wp P Q a w :=
  wp_region_quiet (C := fun w' => ∃ p : NewW w, w' = p.world) hm hB ⟨⟨_, (New.refl w).drew⟩, rfl⟩ (by simpa using h)
theorem calls_new {P : Program} {f : FuncId} {args : Array Value} {W : World} {p : NewW W} {v : Value}
    (h : Calls P f args p.world fun e w' => e = .returned v ∧ New p.world w') : Calls P f args p.world fun e w'' => e = .returned v ∧ ∃ q : NewW W, w'' = q.world :=
  h.mono fun _ w' ⟨he, hn⟩ => ⟨he, ⟨w', p.is.trans hn⟩, rfl⟩
end Go.Arr
