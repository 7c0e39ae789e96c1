/- The mean tone of some cells: the reference and the program answer alike; no condition. -/
import Derived.Test.YtnaecghpahbojaaDoorImg
import Derived.Test.YtnaecghpahbojaaDoorInts
set_option linter.unusedVariables false
namespace Go.Proofs.YtnaecghpahbojaaDoor
open Go.BigFrame
open Go.RowKit Go.Arr
theorem zeroTone (w : World) : (zeroValue 45).run Tryd.prog w = .ok (.agg (arr 3 .u8 fun _ => 0)) w := by kernel_rfl
theorem sizeInt (w : World) : (sizeOf 2).run Tryd.prog w = .ok 1 w := by kernel_rfl
theorem sizeByte (w : World) : (sizeOf 5).run Tryd.prog w = .ok 1 w := by kernel_rfl
theorem ixTone (f : Nat → Int) (ik : IntKind) (i : Int) (h0 : 0 ≤ i) (h1 : i < 3) (w : World) : (Instr.index 45 (.agg (arr 3 .u8 f)) (.int ik i)).run Tryd.prog w = .ok (.int .u8 (f i.toNat)) w := run_index_arr (n := 3) 45 5 Tryd.underlying45 Tryd.underlying5 sizeByte ik i h0 (by omega) w
theorem pic3a {n o p : Nat} {a b : Int} {f : Nat → Int} (ho : o + 3 ≤ n) (hp : p = 2 + o + 3) : (pic n a b f).extract (2 + o) p = arr 3 .u8 fun j => f (o + j) := pic3 ho hp
theorem arr3z : (arr 3 .u8 fun _ => 0) = #[.int .u8 0, .int .u8 0, .int .u8 0] := rfl
theorem tone_arr (g : Nat → Int) : arr 3 .u8 g = #[.int .u8 (g 0), .int .u8 (g 1), .int .u8 (g 2)] := rfl
def sumK (f c : Nat → Int) (k : Nat) : Nat → Int
  | 0 => 0
  | i + 1 => sumK f c k i + f ((c i).toNat * 3 + k)
theorem sumK_b {f c : Nat → Int} (hf : ∀ i, 0 ≤ f i ∧ f i ≤ 255) (k i : Nat) : 0 ≤ sumK f c k i ∧ sumK f c k i ≤ 255 * i := by
  induction i with
  | zero => simp [sumK]
  | succ i ih =>
    have := hf ((c i).toNat * 3 + k)
    unfold sumK
    omega
def meanZ (f c : Nat → Int) (n k : Nat) : Int := sumK f c k n / n
theorem meanZ_b {f c : Nat → Int} (hf : ∀ i, 0 ≤ f i ∧ f i ≤ 255) (n k : Nat) (hn : 0 < n) : 0 ≤ meanZ f c n k ∧ meanZ f c n k ≤ 255 := by
  have h := sumK_b (c := c) hf k n
  unfold meanZ
  refine ⟨Int.ediv_nonneg h.1 (by omega), ?_⟩
  have h1 : sumK f c k n / n ≤ (255 * n) / n := Int.ediv_le_ediv (by omega) h.2
  rwa [Int.mul_ediv_cancel _ (by omega)] at h1
def cellsOk (a b : Int) (n : Nat) (z : Nat → Int) : Bool := (List.range n).all fun i => cellB (z i) a b
def meanC (a b : Int) (f : Nat → Int) (n : Nat) (z : Nat → Int) : Int := if okImg a b f = false then 1 else if cellsOk a b n z = false then 2 else if n = 0 then 6 else 0
def meanV (a b : Int) (f : Nat → Int) (n : Nat) (z : Nat → Int) : Nat → Int := if meanC a b f n z = 0 then meanZ f z n else fun _ => 0
theorem cellB_b {i a b : Int} (h : cellB i a b = true) : 0 ≤ i ∧ i < 144 := by
  unfold cellB at h
  rw [Bool.and_eq_true] at h
  have := inB_t.1 h.1
  omega
theorem cellsOk_t {a b : Int} {n : Nat} {z : Nat → Int} (h : ∀ j, j < n → cellB (z j) a b = true) : cellsOk a b n z = true := List.all_eq_true.2 fun i hi => h i (by simpa using hi)
theorem cellsOk_f {a b : Int} {n i : Nat} {z : Nat → Int} (hi : i < n) (h : cellB (z i) a b = false) : cellsOk a b n z = false := List.all_eq_false.2 ⟨i, by simpa using hi, by simp [h]⟩
theorem cellsOk_e {a b : Int} {n : Nat} {z : Nat → Int} (h : cellsOk a b n z = true) : ∀ i, i < n → cellB (z i) a b = true := fun i hi => List.all_eq_true.1 h i (by simpa using hi)
theorem meanV_0 {a b : Int} {f : Nat → Int} {n : Nat} {z : Nat → Int} {k : Int} (h : meanC a b f n z = k) (hk : k ≠ 0) : meanV a b f n z = fun _ => 0 := by unfold meanV; rw [h]; exact if_neg hk
theorem meanV_1 {a b : Int} {f : Nat → Int} {n : Nat} {z : Nat → Int} (h : meanC a b f n z = 0) : meanV a b f n z = meanZ f z n := by unfold meanV; rw [h]; exact if_pos rfl
theorem upto_c {p : Nat → Bool} {k : Nat} (h : ∀ j, j < k → p j = true) (hk : p k = true) : ∀ j, j < k + 1 → p j = true := by
  intro j hj
  rcases Nat.lt_succ_iff_lt_or_eq.1 hj with h1 | rfl
  · exact h j h1
  · exact hk
def badZ (a b i : Int) : Bool := decide (i < 0) || !isCellB (i % 12) (i / 12) a b
theorem badZ_cell (a b i : Int) (ha : a ≤ 12) (hb : b ≤ 12) : badZ a b i = !cellB i a b := by
  unfold badZ cellB isCellB
  by_cases h : i < 0
  · rw [decide_eq_true h, show inB i 0 143 = false from inB_f.2 (by omega)]; rfl
  · rw [decide_eq_false h, Bool.false_or]
    congr 1
    have e1 : inB (i % 12) 0 (a - 1) = decide (i % 12 < a) := by unfold inB; rw [decide_eq_decide]; omega
    have e2 : inB (i / 12) 0 (b - 1) = decide (i / 12 < b) := by unfold inB; rw [decide_eq_decide]; omega
    rw [e1, e2]
    by_cases h2 : i / 12 < b
    · rw [show inB i 0 143 = true from inB_t.2 (by omega), Bool.true_and]
    · rw [decide_eq_false h2, Bool.and_false, Bool.and_false]
def anyBad (a b : Int) (n : Nat) (z : Nat → Int) : Bool := (List.range n).any fun i => badZ a b (z i)
theorem anyBad_ok (a b : Int) (n : Nat) (z : Nat → Int) (ha : a ≤ 12) (hb : b ≤ 12) : anyBad a b n z = !cellsOk a b n z := by
  unfold anyBad cellsOk
  rw [List.not_all_eq_any_not]
  congr 1
  funext i
  exact badZ_cell a b (z i) ha hb
end Go.Proofs.YtnaecghpahbojaaDoor
