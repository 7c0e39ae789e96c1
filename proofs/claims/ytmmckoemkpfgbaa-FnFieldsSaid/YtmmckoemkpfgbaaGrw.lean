/- What one block's turning leaves; no condition. -/
import Derived.Test.YtmmckoemkpfgbaaSlc
import Derived.Test.YtmmckoemkpfgbaaSli
import Derived.Maps.AppendAt
set_option linter.unusedVariables false
namespace Go.Arr
open Go.RowKit
theorem Sl.grown {W w : World} {v : Value} {n m : Nat} {k : IntKind} {f : Nat → Int} {r : Option Nat} (h : Sl W v n m k f) (hg : W.grownBy w r) (hr : ∀ a c, v = .slice (some a) n c → some a.block ≠ r) : Sl w v n m k f := by
  obtain ⟨a, c, rfl, h⟩ := h
  refine ⟨a, c, rfl, fun hp => ?_⟩
  obtain ⟨g, off, cur, t, fr, rfl, ho, hc⟩ := h hp
  exact ⟨g, off, cur, t, fr, rfl, (grown_obj hg g (obj_lt ho) (hr _ _ rfl)).trans ho, hc⟩
theorem grown_new2 {W w w' : World} {r : Option Nat} (h : W.grownBy w r) (hn : New w w') : W.grownBy w' r :=
  ⟨hn.os.trans h.os, hn.tape.trans h.tape, hn.output.trans h.output, Nat.le_trans h.size hn.size, fun k hk hr => (hn.block k (Nat.lt_of_lt_of_le hk h.size)).trans (h.block k hk hr)⟩
theorem new_grown {W w : World} {r : Option Nat} (hn : New W w) : W.grownBy w r := ⟨hn.os, hn.tape, hn.output, hn.size, fun k hk _ => hn.block k hk⟩
theorem setCell_grown {W w : World} {g : Nat} (h : W.grownBy w (some g)) (o : Nat) (v : Value) : W.grownBy (w.setCell ⟨g, o, none⟩ v) (some g) :=
  ⟨h.os, h.tape, h.output, by simpa [World.setCell] using h.size, fun k hk hr => (obj_setCell_other _ _ _ _ _ fun e => hr (by rw [e])).trans (h.block k hk hr)⟩
theorem grown_step {W w : World} {g : Nat} (h : W.grownBy w (some g)) {b : Nat} (hb : b < W.heap.size) (hne : b ≠ g) : obj w b = obj W b := h.block b hb fun e => hne (Option.some.inj e)
theorem grown_over {W w w' : World} {g : Nat} {r : Option Nat} (h : W.grownBy w (some g)) (hg : w.grownBy w' r) (hr : ∀ q, r = some q → W.heap.size ≤ q ∨ q = g) : W.grownBy w' (some g) :=
  ⟨hg.os.trans h.os, hg.tape.trans h.tape, hg.output.trans h.output, Nat.le_trans h.size hg.size, fun k hk hne => (hg.block k (Nat.lt_of_lt_of_le hk h.size) fun e => (hr k e.symm).elim (fun h1 => absurd h1 (by omega)) (fun h1 => hne (by rw [h1]))).trans (h.block k hk hne)⟩
theorem grown_refl (W : World) (r : Option Nat) : W.grownBy W r := ⟨rfl, rfl, rfl, Nat.le_refl _, fun _ _ _ => rfl⟩
theorem setRow_grown {W w : World} {g : Nat} (h : W.grownBy w (some g)) (c : Array Value) : W.grownBy (w.setRow g c) (some g) :=
  ⟨h.os, h.tape, h.output, by simpa using h.size, fun k hk hr => (setRow_other w g k c fun e => hr (by rw [e])).trans (h.block k hk hr)⟩
end Go.Arr
