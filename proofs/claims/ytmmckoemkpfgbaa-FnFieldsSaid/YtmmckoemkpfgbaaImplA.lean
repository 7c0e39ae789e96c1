/- The program's mirrored, flipped and turned pictures; no condition. -/
import Derived.Test.YtmmckoemkpfgbaaSpecB
set_option linter.unusedVariables false
namespace Go.Proofs.Ytmmckoemkpfgbaa
open Go.BigFrame
open Go.RowKit Go.Arr
theorem enters {f : FuncId} {fn : Func} {c : Code} (hf : Try.prog.funcs[f]? = some fn) (hname : (fn.name == "runtime.NumGoroutine") = false) (hb : fn.body = some c) : ∀ (args : Array Value) (W : World), (callFunc f args).run Try.prog W = .ok (.enter f args) W := by
  intro args w
  have h1 : fn.name ≠ "runtime.NumGoroutine" := by simpa using hname
  simp [callFunc, hf, h1, hb, mark]
set_option maxHeartbeats 400000 in
set_option maxRecDepth 100000 in
theorem at_any (a b : Int) (f : Nat → Int) (x y : Int) (hx : 0 ≤ x ∧ x < 144) (hy : 0 ≤ y ∧ y < 144) (hxy : x + 12 * y < 144) (w : World) :
    Calls Try.prog 40 #[.agg (pic 144 a b f), .int .i64 x, .int .i64 y] w fun e w' => e = .returned (.int .u8 (f (x + 12 * y).toNat)) ∧ New w w' := by
  have h0 : 0 ≤ x + 12 * y := by omega
  have h1 : (x + 12 * y).toNat < 144 := by omega
  go_enter Try.func40, Try.ntmps40
  go_wp2_with (fail)
  go_ret
  refine ⟨rfl, ?_⟩
  repeat' (first | exact New.refl _ | refine New.alloc ?_ _ | refine New.drew ?_ | refine New.drewN ?_ _ | refine New.setRow ?_ (by omega) _ | refine New.setCell ?_ (by first | omega | (simp; done) | (simp; omega)) _)
end Go.Proofs.Ytmmckoemkpfgbaa
