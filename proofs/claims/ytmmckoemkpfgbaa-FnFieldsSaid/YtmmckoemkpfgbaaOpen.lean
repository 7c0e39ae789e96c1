/- Arguments that are arrays of numbers, opened; no condition. -/
import Derived.Test.YtmmckoemkpfgbaaArr
import Derived.ProofKit
import Derived.OpenShut
import Derived.ShutString
import Derived.ChangeOld
import Derived.Below
import Derived.SizedLaws
import Derived.Carry
set_option linter.unusedVariables false
namespace Go.Arr
open Go.ChangeShapes Go.WideShapes Go.ChangeAt Go.RowKit

def AllInts (k : IntKind) (cs : List Value) : Prop := ∀ (j : Nat) (v : Value), cs[j]? = some v → ∃ z, v = .int k z ∧ (Lit.int k z).wf = true
theorem AllInts.arr {k : IntKind} {cs : List Value} (h : AllInts k cs) : ∃ f : Nat → Int, cs = (arr cs.length k f).toList ∧ ∀ i, (Lit.int k (f i)).wf = true := by
  have w0 : (Lit.int k 0).wf = true := by cases k <;> decide
  let f : Nat → Int := fun i => match cs[i]? with | some (.int _ z) => z | _ => 0
  have hf : ∀ i v, cs[i]? = some v → v = .int k (f i) ∧ (Lit.int k (f i)).wf = true := by
    intro i v hv
    obtain ⟨z, rfl, hz⟩ := h i v hv
    have : f i = z := by simp only [f, hv]
    rw [this]
    exact ⟨rfl, hz⟩
  refine ⟨f, ?_, ?_⟩
  · apply List.ext_getElem?
    intro i
    have e0 : ((Arr.arr cs.length k f).toList)[i]? = (Arr.arr cs.length k f)[i]? := Array.getElem?_toList
    rw [e0, get_arr]
    by_cases hi : i < cs.length
    · rw [if_pos hi]
      have := hf i _ (List.getElem?_eq_getElem hi)
      rw [List.getElem?_eq_getElem hi, this.1]
    · rw [if_neg hi, List.getElem?_eq_none (by omega)]
  · intro i
    by_cases hi : i < cs.length
    · exact (hf i _ (List.getElem?_eq_getElem hi)).2
    · have : f i = 0 := by simp only [f, List.getElem?_eq_none (show cs.length ≤ i by omega)]
      rw [this]
      exact w0
section
variable {H : Type} {enc : TypeId × Value → H} {P : Program} {w : World} {base : Nat} {spare : Nat → Bool} {held : Bool} {fuel : Nat} {cs : List Value} {x : DataW H × List MemPlace} {t e : TypeId} {k : IntKind} {n m : Nat}
theorem ints_one (he : P.underlying e = some (.int k)) (h : DataW.trod enc P w base spare held fuel e cs = some x) : AllInts k cs := by
  obtain ⟨z, rfl, _, hw⟩ := DataW.trod_int he h
  intro j v hv
  match j, hv with
  | 0, hv => exact ⟨z, by simpa using hv.symm, hw⟩
  | j + 1, hv => simp at hv
theorem ints_array (ht : P.underlying t = some (.array n e)) (hm : P.cellsOf e = m) (hm0 : 0 < m) (hc : P.cellsOf t = n * m)
    (hel : ∀ (fuel : Nat) (cs : List Value) (x : DataW H × List MemPlace), DataW.trod enc P w base spare held fuel e cs = some x → AllInts k cs)
    (h : DataW.trod enc P w base spare held fuel t cs = some x) : cs.length = n * m ∧ AllInts k cs := by
  obtain ⟨xs, mm, _, _, hlen, hxl, hg⟩ := DataW.trod_array ht h
  rw [hc] at hlen
  refine ⟨hlen, fun j v hv => ?_⟩
  have hj : j < n * m := by
    have := (List.getElem?_eq_some_iff.1 hv).1
    omega
  have hi : j / m < n := (Nat.div_lt_iff_lt_mul hm0).2 hj
  have hx := hg (j / m) hi
  have hsome : xs[j / m]? = some (xs[j / m]'(by omega)) := List.getElem?_eq_getElem (by omega)
  rw [hsome, hm] at hx
  refine hel _ _ _ hx (j % m) v ?_
  have hlt : j % m < m := Nat.mod_lt _ hm0
  rw [List.getElem?_take, if_pos hlt, List.getElem?_drop]
  rw [show j / m * m + j % m = j from by rw [Nat.mul_comm]; exact Nat.div_add_mod j m]
  exact hv
/-- a struct of two small numbers and a row of bytes -/
theorem open_pic {r : Reach} {b0 : Nat} {v : Value} {d : DataW H} {p : List MemPlace} {n0 n1 n2 : Field} {t8 : TypeId} (hs : P.underlying t = some (.struct #[n0, n1, n2]))
    (h0 : n0.type = t8 ∧ n0.offset = 0) (h1 : n1.type = t8 ∧ n1.offset = 1) (h2 : n2.type = e ∧ n2.offset = 2) (h8 : P.underlying t8 = some (.int .i8)) (hc8 : P.cellsOf t8 = 1) (hc : P.cellsOf t = n + 2) (hce : P.cellsOf e = n)
    (hel : ∀ (fuel : Nat) (cs : List Value) (x : DataW H × List MemPlace), DataW.trod enc P w base spare held fuel e cs = some x → cs.length = n ∧ AllInts .u8 cs)
    (hv : Value.okWide P w r b0 t v) (h : DataW.Trod enc P w base spare held t v d p) :
    ∃ (a b : Int) (f : Nat → Int), v = .agg (pic n a b f) ∧ (-128 ≤ a ∧ a ≤ 127) ∧ (-128 ≤ b ∧ b ≤ 127) ∧ ∀ i, 0 ≤ f i ∧ f i ≤ 255 := by
  obtain ⟨cs, rfl, hsz⟩ := okWide_struct hs hv
  obtain ⟨l⟩ := cs
  obtain ⟨fuel, hf⟩ := h
  obtain ⟨xs, nn, _, hx, hcl, hlen, hg⟩ := DataW.trod_struct hs hf
  simp only [Value.cells] at hg hcl
  rw [hc] at hcl
  match l, hcl with
  | c0 :: c1 :: rest, hcl =>
    have hr : rest.length = n := by simpa using hcl
    have hxl : xs.length = 3 := by simpa using hlen
    match xs, hxl with
    | [y0, y1, y2], _ =>
      have g0 := hg 0 n0 rfl
      have g1 := hg 1 n1 rfl
      have g2 := hg 2 n2 rfl
      rw [h0.1, h0.2, hc8] at g0
      rw [h1.1, h1.2, hc8] at g1
      rw [h2.1, h2.2, hce] at g2
      have e2 : (rest.take n) = rest := by rw [← hr]; exact List.take_length
      simp only [List.drop_zero, List.take_succ_cons, List.take_zero, List.drop_succ_cons, e2, List.getElem?_cons_zero, List.getElem?_cons_succ] at g0 g1 g2
      obtain ⟨a, ea, _, wa⟩ := DataW.trod_int h8 g0
      obtain ⟨b, eb, _, wb⟩ := DataW.trod_int h8 g1
      obtain ⟨_, hai⟩ := hel _ _ _ g2
      obtain ⟨f, ef, wf⟩ := hai.arr
      simp only [List.cons.injEq, and_true] at ea eb
      subst ea eb
      refine ⟨a, b, f, ?_, bounds_i8 wa, bounds_i8 wb, fun i => bounds_u8 (wf i)⟩
      congr 1
      rw [ef, hr]
      simp [pic, arr]
/-- a row of three bytes -/
theorem open_tone {r : Reach} {b0 : Nat} {v : Value} {d : DataW H} {p : List MemPlace} (ht : P.underlying t = some (.array 3 e)) (he : P.underlying e = some (.int .u8)) (hce : P.cellsOf e = 1) (hct : P.cellsOf t = 3)
    (hv : Value.okWide P w r b0 t v) (h : DataW.Trod enc P w base spare held t v d p) :
    ∃ a b c : Int, v = .agg #[.int .u8 a, .int .u8 b, .int .u8 c] ∧ (0 ≤ a ∧ a ≤ 255) ∧ (0 ≤ b ∧ b ≤ 255) ∧ (0 ≤ c ∧ c ≤ 255) := by
  simp only [Value.okWide, ht] at hv
  obtain ⟨cs, rfl, _, _⟩ := hv
  obtain ⟨l⟩ := cs
  obtain ⟨fuel, hf⟩ := h
  obtain ⟨hl, hai⟩ := ints_array (m := 1) ht hce (by omega) hct (fun _ _ _ h => ints_one he h) hf
  simp only [Value.cells] at hl hai
  obtain ⟨f, ef, wf⟩ := hai.arr
  rw [hl] at ef
  refine ⟨f 0, f 1, f 2, ?_, bounds_u8 (wf 0), bounds_u8 (wf 1), bounds_u8 (wf 2)⟩
  congr 1
  rw [ef]
  rfl
end
end Go.Arr
