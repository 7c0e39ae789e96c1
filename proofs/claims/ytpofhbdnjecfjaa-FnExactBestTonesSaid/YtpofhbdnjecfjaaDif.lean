/- The places in which two pictures differ: what the reference and the program return; no condition. -/
import Derived.Test.YtpofhbdnjecfjaaSlI
import Derived.Test.YtpofhbdnjecfjaaWithCol
set_option linter.unusedVariables false
namespace Go.Proofs.Ytpofhbdnjecfjaa
open Go.BigFrame
open Go.RowKit Go.Arr
def difN (f g : Nat → Int) : Nat → Nat
  | 0 => 0
  | k + 1 => if f k = g k then difN f g k else difN f g k + 1
def difF (f g : Nat → Int) : Nat → Nat → Int
  | 0 => fun _ => 0
  | k + 1 => if f k = g k then difF f g k else upd (difF f g k) (difN f g k) k
theorem difN_le (f g : Nat → Int) (k : Nat) : difN f g k ≤ k := by
  induction k with
  | zero => simp [difN]
  | succ k ih => unfold difN; split <;> omega
def difC (a b : Int) (f : Nat → Int) (c d : Int) (g : Nat → Int) : Int := if okPic a b f = true ∧ okPic c d g = true then (if a = c ∧ b = d then 0 else 4) else 1
def difM (a b : Int) (f : Nat → Int) (c d : Int) (g : Nat → Int) : Nat := if difC a b f c d g = 0 then difN f g 144 else 0
theorem difM_le (a b : Int) (f : Nat → Int) (c d : Int) (g : Nat → Int) : difM a b f c d g ≤ 144 := by
  have := difN_le f g 144
  unfold difM
  split <;> omega
theorem row_app {w' : World} {base n g cap : Nat} {f : Nat → Int} {x : Int} (h : w'.ownsRow base 2 1 (.slice (some ⟨g, 0, none⟩) (n + 1) cap) (n + 1) (irow n .i64 f ++ [.int .i64 x])) : Row w' base (.slice (some ⟨g, 0, none⟩) (n + 1) cap) (n + 1) (upd f n x) := by
  unfold Row
  rw [← irow_snoc]
  exact h
theorem row_empty {W : World} {base g : Nat} {f : Nat → Int} (h : obj W g = some (.cells #[] 2)) (hb : base ≤ g) : Row W base (.slice (some ⟨g, 0, none⟩) 0 0) 0 f :=
  Row.of h hb (Nat.le_refl _) (by unfold maxLen; omega) rfl fun j hj => absurd hj (by omega)
theorem bne_f {x y : Int} (h : x = y) : (x != y) = false := by subst h; simp
theorem bne_t {x y : Int} (h : ¬ x = y) : (x != y) = true := by simp [h]
end Go.Proofs.Ytpofhbdnjecfjaa
