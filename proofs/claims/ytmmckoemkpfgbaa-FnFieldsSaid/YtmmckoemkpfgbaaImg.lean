/- Images: copied; which are valid; no condition. -/
import Derived.Test.YtmmckoemkpfgbaaTy
import Derived.Test.YtmmckoemkpfgbaaSli
import Derived.Test.YtmmckoemkpfgbaaTone
import Derived.Test.YtmmckoemkpfgbaaValid
set_option linter.unusedVariables false
namespace Go.Proofs.Ytmmckoemkpfgbaa
open Go.BigFrame
open Go.RowKit Go.Arr
theorem run_index_arr3 {P : Program} {n : Nat} {f : Nat → Int} (t e u : TypeId) (ht : P.underlying t = some (.array n e)) (he : P.underlying e = some (.array 3 u)) (hsz : ∀ w, (sizeOf e).run P w = .ok 3 w) (ik : IntKind) (i : Int) (h0 : 0 ≤ i) (h1 : i < n) (w : World) :
    (Instr.index t (.agg (arr (n * 3) .u8 f)) (.int ik i)).run P w = .ok (.agg #[.int .u8 (f (i.toNat * 3)), .int .u8 (f (i.toNat * 3 + 1)), .int .u8 (f (i.toNat * 3 + 2))]) w := by
  have hlt : i.toNat < n := by omega
  have hx : (arr (n * 3) .u8 f).extract (i.toNat * 3) (i.toNat * 3 + 3) = #[.int .u8 (f (i.toNat * 3)), .int .u8 (f (i.toNat * 3 + 1)), .int .u8 (f (i.toNat * 3 + 2))] :=
    ext3 (by rw [get_arr, if_pos (by omega)]) (by rw [get_arr, if_pos (by omega)]) (by rw [get_arr, if_pos (by omega)]) rfl
  have hp : (part e (arr (n * 3) .u8 f) (i.toNat * 3)).run P w = .ok (.agg #[.int .u8 (f (i.toNat * 3)), .int .u8 (f (i.toNat * 3 + 1)), .int .u8 (f (i.toNat * 3 + 2))]) w := by
    simp [part, isAgg, run_underlying he, hsz, hx]
  simp [Instr.index, asIntOf, run_underlying ht, h0, h1, hsz, hp]
theorem pic3 {n o p : Nat} {a b : Int} {f : Nat → Int} (ho : o + 3 ≤ n) (hp : p = 2 + o + 3) : (pic n a b f).extract (2 + o) p = #[.int .u8 (f o), .int .u8 (f (o + 1)), .int .u8 (f (o + 2))] :=
  ext3 (by rw [get_pic', if_pos (by omega)]) (by rw [Nat.add_assoc, get_pic', if_pos (by omega)]) (by rw [Nat.add_assoc, get_pic', if_pos (by omega)]) hp
theorem arr3 {n o p : Nat} {f : Nat → Int} (ho : o + 3 ≤ n) (hp : p = o + 3) : (arr n .u8 f).extract o p = #[.int .u8 (f o), .int .u8 (f (o + 1)), .int .u8 (f (o + 2))] :=
  ext3 (by rw [get_arr, if_pos (by omega)]) (by rw [get_arr, if_pos (by omega)]) (by rw [get_arr, if_pos (by omega)]) hp
def goodTone (a b : Int) (f : Nat → Int) (i : Nat) : Bool := cellB i a b || eq3 (f (i * 3)) (f (i * 3 + 1)) (f (i * 3 + 2)) 0 0 0
def okImg (a b : Int) (f : Nat → Int) : Bool := isSizeB a b && (List.range 144).all (goodTone a b f)
theorem okImg_of (a b : Int) (f : Nat → Int) (h1 : isSizeB a b = true) (h2 : ∀ j, j < 144 → goodTone a b f j = true) : okImg a b f = true := by
  unfold okImg
  rw [h1, Bool.true_and, List.all_eq_true]
  intro i hi
  exact h2 i (by simpa using hi)
theorem okImg_not (a b : Int) (f : Nat → Int) (i : Nat) (hi : i < 144) (h : goodTone a b f i = false) : okImg a b f = false := by
  unfold okImg
  have : (List.range 144).all (goodTone a b f) = false := by
    rw [List.all_eq_false]
    exact ⟨i, by simpa using hi, by simp [h]⟩
  rw [this, Bool.and_false]
theorem okImg_size (a b : Int) (f : Nat → Int) (h : isSizeB a b = false) : okImg a b f = false := by
  unfold okImg; rw [h, Bool.false_and]
theorem upto_succ {p : Nat → Bool} {k : Nat} (h : ∀ j, j < k → p j = true) (hk : p k = true) : ∀ j, j < k + 1 → p j = true := by
  intro j hj
  rcases Nat.lt_succ_iff_lt_or_eq.1 hj with h1 | rfl
  · exact h j h1
  · exact hk
end Go.Proofs.Ytmmckoemkpfgbaa
