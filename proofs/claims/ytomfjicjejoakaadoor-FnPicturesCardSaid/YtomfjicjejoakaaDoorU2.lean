/- Arguments that are arrays of numbers, opened; no condition. -/
import Derived.Test.YtomfjicjejoakaaDoorU1
import Derived.ProofKit
import Derived.OpenShut
import Derived.ShutString
import Derived.ChangeOld
import Derived.Below
import Derived.SizedLaws
import Derived.Carry
import Derived.ChangeSlices
import Derived.Laws.MakeOwn
import Derived.Test.YtomfjicjejoakaaDoorRows
set_option linter.unusedVariables false
namespace Go.Arr
open Go.ChangeShapes Go.WideShapes Go.ChangeAt Go.RowKit

def AllInts (k : IntKind) (cs : List Value) : Prop := ∀ (j : Nat) (v : Value), cs[j]? = some v → ∃ z, v = .int k z ∧ (Lit.int k z).wf = true
theorem AllInts.arr {k : IntKind} {cs : List Value} (h : AllInts k cs) : ∃ f : Nat → Int, cs = (arr cs.length k f).toList ∧ ∀ i, (Lit.int k (f i)).wf = true := by
  have w0 : (Lit.int k 0).wf = true := by cases k <;> decide
  let f : Nat → Int := fun i => match cs[i]? with | some (.int _ z) => z | _ => 0
  have hf : ∀ i v, cs[i]? = some v → v = .int k (f i) ∧ (Lit.int k (f i)).wf = true := by
    intro i v hv
    obtain ⟨z, rfl, hz⟩ := h i v hv
    have : f i = z := by simp only [f, hv]
    rw [this]
    exact ⟨rfl, hz⟩
  refine ⟨f, ?_, ?_⟩
  · apply List.ext_getElem?
    intro i
    have e0 : ((Arr.arr cs.length k f).toList)[i]? = (Arr.arr cs.length k f)[i]? := Array.getElem?_toList
    rw [e0, get_arr]
    by_cases hi : i < cs.length
    · rw [if_pos hi]
      have := hf i _ (List.getElem?_eq_getElem hi)
      rw [List.getElem?_eq_getElem hi, this.1]
    · rw [if_neg hi, List.getElem?_eq_none (by omega)]
  · intro i
    by_cases hi : i < cs.length
    · exact (hf i _ (List.getElem?_eq_getElem hi)).2
    · have : f i = 0 := by simp only [f, List.getElem?_eq_none (show cs.length ≤ i by omega)]
      rw [this]
      exact w0
section
variable {H : Type} {enc : TypeId × Value → H} {P : Program} {w : World} {base : Nat} {spare : Nat → Bool} {held : Bool} {fuel : Nat} {cs : List Value} {x : DataW H × List MemPlace} {t e : TypeId} {k : IntKind} {n m : Nat}
theorem ints_one (he : P.underlying e = some (.int k)) (h : DataW.trod enc P w base spare held fuel e cs = some x) : AllInts k cs := by
  obtain ⟨z, rfl, _, hw⟩ := DataW.trod_int he h
  intro j v hv
  match j, hv with
  | 0, hv => exact ⟨z, by simpa using hv.symm, hw⟩
  | j + 1, hv => simp at hv
theorem ints_array (ht : P.underlying t = some (.array n e)) (hm : P.cellsOf e = m) (hm0 : 0 < m) (hc : P.cellsOf t = n * m)
    (hel : ∀ (fuel : Nat) (cs : List Value) (x : DataW H × List MemPlace), DataW.trod enc P w base spare held fuel e cs = some x → AllInts k cs)
    (h : DataW.trod enc P w base spare held fuel t cs = some x) : cs.length = n * m ∧ AllInts k cs := by
  obtain ⟨xs, mm, _, _, hlen, hxl, hg⟩ := DataW.trod_array ht h
  rw [hc] at hlen
  refine ⟨hlen, fun j v hv => ?_⟩
  have hj : j < n * m := by
    have := (List.getElem?_eq_some_iff.1 hv).1
    omega
  have hi : j / m < n := (Nat.div_lt_iff_lt_mul hm0).2 hj
  have hx := hg (j / m) hi
  have hsome : xs[j / m]? = some (xs[j / m]'(by omega)) := List.getElem?_eq_getElem (by omega)
  rw [hsome, hm] at hx
  refine hel _ _ _ hx (j % m) v ?_
  have hlt : j % m < m := Nat.mod_lt _ hm0
  rw [List.getElem?_take, if_pos hlt, List.getElem?_drop]
  rw [show j / m * m + j % m = j from by rw [Nat.mul_comm]; exact Nat.div_add_mod j m]
  exact hv
/-- a struct of two small numbers and a row of bytes -/
theorem open_pic {r : Reach} {b0 : Nat} {v : Value} {d : DataW H} {p : List MemPlace} {n0 n1 n2 : Field} {t8 : TypeId} (hs : P.underlying t = some (.struct #[n0, n1, n2]))
    (h0 : n0.type = t8 ∧ n0.offset = 0) (h1 : n1.type = t8 ∧ n1.offset = 1) (h2 : n2.type = e ∧ n2.offset = 2) (h8 : P.underlying t8 = some (.int .i8)) (hc8 : P.cellsOf t8 = 1) (hc : P.cellsOf t = n + 2) (hce : P.cellsOf e = n)
    (hel : ∀ (fuel : Nat) (cs : List Value) (x : DataW H × List MemPlace), DataW.trod enc P w base spare held fuel e cs = some x → cs.length = n ∧ AllInts .u8 cs)
    (hv : Value.okWide P w r b0 t v) (h : DataW.Trod enc P w base spare held t v d p) :
    ∃ (a b : Int) (f : Nat → Int), v = .agg (pic n a b f) ∧ (-128 ≤ a ∧ a ≤ 127) ∧ (-128 ≤ b ∧ b ≤ 127) ∧ ∀ i, 0 ≤ f i ∧ f i ≤ 255 := by
  obtain ⟨cs, rfl, hsz⟩ := okWide_struct hs hv
  obtain ⟨l⟩ := cs
  obtain ⟨fuel, hf⟩ := h
  obtain ⟨xs, nn, _, hx, hcl, hlen, hg⟩ := DataW.trod_struct hs hf
  simp only [Value.cells] at hg hcl
  rw [hc] at hcl
  match l, hcl with
  | c0 :: c1 :: rest, hcl =>
    have hr : rest.length = n := by simpa using hcl
    have hxl : xs.length = 3 := by simpa using hlen
    match xs, hxl with
    | [y0, y1, y2], _ =>
      have g0 := hg 0 n0 rfl
      have g1 := hg 1 n1 rfl
      have g2 := hg 2 n2 rfl
      rw [h0.1, h0.2, hc8] at g0
      rw [h1.1, h1.2, hc8] at g1
      rw [h2.1, h2.2, hce] at g2
      have e2 : (rest.take n) = rest := by rw [← hr]; exact List.take_length
      simp only [List.drop_zero, List.take_succ_cons, List.take_zero, List.drop_succ_cons, e2, List.getElem?_cons_zero, List.getElem?_cons_succ] at g0 g1 g2
      obtain ⟨a, ea, _, wa⟩ := DataW.trod_int h8 g0
      obtain ⟨b, eb, _, wb⟩ := DataW.trod_int h8 g1
      obtain ⟨_, hai⟩ := hel _ _ _ g2
      obtain ⟨f, ef, wf⟩ := hai.arr
      simp only [List.cons.injEq, and_true] at ea eb
      subst ea eb
      refine ⟨a, b, f, ?_, bounds_i8 wa, bounds_i8 wb, fun i => bounds_u8 (wf i)⟩
      congr 1
      rw [ef, hr]
      simp [pic, arr]
/-- a row of three bytes -/
theorem open_tone {r : Reach} {b0 : Nat} {v : Value} {d : DataW H} {p : List MemPlace} (ht : P.underlying t = some (.array 3 e)) (he : P.underlying e = some (.int .u8)) (hce : P.cellsOf e = 1) (hct : P.cellsOf t = 3)
    (hv : Value.okWide P w r b0 t v) (h : DataW.Trod enc P w base spare held t v d p) :
    ∃ a b c : Int, v = .agg #[.int .u8 a, .int .u8 b, .int .u8 c] ∧ (0 ≤ a ∧ a ≤ 255) ∧ (0 ≤ b ∧ b ≤ 255) ∧ (0 ≤ c ∧ c ≤ 255) := by
  simp only [Value.okWide, ht] at hv
  obtain ⟨cs, rfl, _, _⟩ := hv
  obtain ⟨l⟩ := cs
  obtain ⟨fuel, hf⟩ := h
  obtain ⟨hl, hai⟩ := ints_array (m := 1) ht hce (by omega) hct (fun _ _ _ h => ints_one he h) hf
  simp only [Value.cells] at hl hai
  obtain ⟨f, ef, wf⟩ := hai.arr
  rw [hl] at ef
  refine ⟨f 0, f 1, f 2, ?_, bounds_u8 (wf 0), bounds_u8 (wf 1), bounds_u8 (wf 2)⟩
  congr 1
  rw [ef]
  rfl
end
end Go.Arr
/- Rows of numbers behind slices that come in: opened, read, their loads; no condition. -/
set_option linter.unusedVariables false
namespace Go.Arr
open Go.ChangeShapes Go.WideShapes Go.ChangeAt Go.RowKit
/-- n elements of m numbers each behind a slice -/
def Sl (W : World) (v : Value) (n m : Nat) (k : IntKind) (f : Nat → Int) : Prop :=
  ∃ a cap, v = .slice a n cap ∧ (0 < n → ∃ g off cur t fr, a = some ⟨g, off, none⟩ ∧ obj W g = some (.cells cur t fr) ∧ ∀ i, i < n * m → cur[off + i]? = some (.int k (f i)))
section
variable {W W' : World} {v : Value} {n m : Nat} {k : IntKind} {f f' : Nat → Int}
theorem Sl.new (h : Sl W v n m k f) (hn : New W W') : Sl W' v n m k f := by
  obtain ⟨a, cap, rfl, h⟩ := h
  refine ⟨a, cap, rfl, fun hp => ?_⟩
  obtain ⟨g, off, cur, t, fr, rfl, ho, hc⟩ := h hp
  exact ⟨g, off, cur, t, fr, rfl, (hn.objs _ (obj_lt ho)).trans ho, hc⟩
theorem Sl.at {a : Option Addr} {c : Nat} (h : Sl W (.slice a n c) n m k f) (hp : 0 < n) : ∃ g off cur t fr, a = some ⟨g, off, none⟩ ∧ obj W g = some (.cells cur t fr) ∧ ∀ i, i < n * m → cur[off + i]? = some (.int k (f i)) := by
  obtain ⟨a', c', h1, h2⟩ := h
  simp only [Value.slice.injEq] at h1
  rw [h1.1]
  exact h2 hp
theorem Sl.of {g cap off : Nat} {cur : Array Value} {t : TypeId} {fr : Nat × Nat} (h : obj W g = some (.cells cur t fr)) (hf : ∀ i, i < n * m → cur[off + i]? = some (.int k (f i))) : Sl W (.slice (some ⟨g, off, none⟩) n cap) n m k f :=
  ⟨_, cap, rfl, fun _ => ⟨g, off, cur, t, fr, rfl, h, hf⟩⟩
theorem Sl.arr {g cap N : Nat} {t : TypeId} {fr : Nat × Nat} (h : obj W g = some (.cells (arr N k f) t fr)) (hN : N = n * m) : Sl W (.slice (some ⟨g, 0, none⟩) n cap) n m k f :=
  Sl.of h fun i hi => by rw [Nat.zero_add, get_arr, if_pos (by omega)]
theorem Sl.congr (h : Sl W v n m k f) (hf : ∀ i, i < n * m → f i = f' i) : Sl W v n m k f' := by
  obtain ⟨a, cap, rfl, h⟩ := h
  refine ⟨a, cap, rfl, fun hp => ?_⟩
  obtain ⟨g, off, cur, t, fr, rfl, ho, hc⟩ := h hp
  exact ⟨g, off, cur, t, fr, rfl, ho, fun i hi => by rw [hc i hi, hf i hi]⟩
end
theorem ext2 {c : Array Value} {o p : Nat} {x y : Value} (h0 : c[o]? = some x) (h1 : c[o + 1]? = some y) (hp : p = o + 2) : c.extract o p = #[x, y] := by
  subst hp
  obtain ⟨l1, _⟩ := Array.getElem?_eq_some_iff.1 h1
  apply Array.ext_getElem?
  intro j
  rw [Array.getElem?_extract]
  match j with
  | 0 => rw [if_pos (by omega)]; simpa using h0
  | 1 => rw [if_pos (by omega)]; simpa using h1
  | j + 2 => rw [if_neg (by omega)]; simp
theorem ext3 {c : Array Value} {o p : Nat} {x y z : Value} (h0 : c[o]? = some x) (h1 : c[o + 1]? = some y) (h2 : c[o + 2]? = some z) (hp : p = o + 3) : c.extract o p = #[x, y, z] := by
  subst hp
  obtain ⟨l1, _⟩ := Array.getElem?_eq_some_iff.1 h2
  apply Array.ext_getElem?
  intro j
  rw [Array.getElem?_extract]
  match j with
  | 0 => rw [if_pos (by omega)]; simpa using h0
  | 1 => rw [if_pos (by omega)]; simpa using h1
  | 2 => rw [if_pos (by omega)]; simpa using h2
  | j + 3 => rw [if_neg (by omega)]; simp
section
variable {H : Type} {enc : TypeId × Value → H} {P : Program} {w : World} {base : Nat} {spare : Nat → Bool} {held : Bool} {t e : TypeId} {k : IntKind} {m : Nat}
/-- a struct of two numbers -/
theorem ints_pair {n0 n1 : Field} {s : TypeId} {fuel : Nat} {cs : List Value} {x : DataW H × List MemPlace} (hs : P.underlying s = some (.struct #[n0, n1])) (h0 : n0.type = e ∧ n0.offset = 0) (h1 : n1.type = e ∧ n1.offset = 1) (he : P.underlying e = some (.int k)) (hce : P.cellsOf e = 1) (hc : P.cellsOf s = 2)
    (h : DataW.trod enc P w base spare held fuel s cs = some x) : AllInts k cs := by
  obtain ⟨xs, nn, _, hx, hcl, hlen, hg⟩ := DataW.trod_struct hs h
  rw [hc] at hcl
  match cs, hcl with
  | [c0, c1], hcl =>
    have hxl : xs.length = 2 := by simpa using hlen
    match xs, hxl with
    | [y0, y1], _ =>
      have g0 := hg 0 n0 rfl
      have g1 := hg 1 n1 rfl
      rw [h0.1, h0.2, hce] at g0
      rw [h1.1, h1.2, hce] at g1
      simp only [List.drop_zero, List.take_succ_cons, List.take_zero, List.drop_succ_cons, List.getElem?_cons_zero, List.getElem?_cons_succ] at g0 g1
      obtain ⟨a, ea, _, wa⟩ := DataW.trod_int he g0
      obtain ⟨b, eb, _, wb⟩ := DataW.trod_int he g1
      simp only [List.cons.injEq, and_true] at ea eb
      subst ea eb
      intro j v hv
      match j, hv with
      | 0, hv => exact ⟨a, by simpa using hv.symm, wa⟩
      | 1, hv => exact ⟨b, by simpa using hv.symm, wb⟩
      | j + 2, hv => simp at hv
theorem open_sl {r : Reach} {b0 : Nat} {v : Value} {d : DataW H} {p : List MemPlace} (ht : P.underlying t = some (.slice e)) (hm : P.cellsOf e = m) (hm0 : 0 < m)
    (hel : ∀ (fuel : Nat) (cs : List Value) (x : DataW H × List MemPlace), DataW.trod enc P w base spare held fuel e cs = some x → AllInts k cs)
    (hv : Value.okWide P w r b0 t v) (h : DataW.Trod enc P w base spare held t v d p) :
    ∃ (n : Nat) (f : Nat → Int), Sl w v n m k f ∧ (∀ i, (Lit.int k (f i)).wf = true) ∧ n ≤ maxLen := by
  have w0 : (Lit.int k 0).wf = true := by cases k <;> decide
  obtain ⟨a0, len, cap, rfl⟩ := okWide_slice ht hv
  obtain ⟨fuel, hf⟩ := h
  rcases DataW.trod_slice ht hf with ⟨hcs, _⟩ | ⟨a, len', cap', elems, rest, n, rfl, hcs, _, _, hl, hmx, hlen, hg, _, _⟩
  · simp [Value.cells] at hcs
    obtain ⟨rfl, rfl, rfl⟩ := hcs
    exact ⟨0, fun _ => 0, ⟨none, 0, rfl, fun h => absurd h (by omega)⟩, fun _ => w0, by omega⟩
  simp [Value.cells] at hcs
  obtain ⟨rfl, rfl, rfl⟩ := hcs
  rw [hm] at hg
  let F : Nat → Int := fun i => if i < len * m then (match w.cell? (a.add i) with | some (.int _ z) => z | _ => 0) else 0
  have key : ∀ i, i < len * m → w.cell? (a.add i) = some (.int k (F i)) ∧ (Lit.int k (F i)).wf = true := by
    intro i hi
    have hq : i / m < len := (Nat.div_lt_iff_lt_mul hm0).2 hi
    have hx := hg (i / m) hq
    rw [List.getElem?_eq_getElem (show i / m < elems.length by omega)] at hx
    obtain ⟨cs', h1, h2⟩ := Option.bind_eq_some_iff.1 hx
    obtain ⟨_, hcl, hcc⟩ := World.cells?_some h1
    have hr : i % m < m := Nat.mod_lt _ hm0
    have h3 := hcc (i % m) hr
    have e1 : (a.add (i / m * m)).add (i % m) = a.add i := by
      have e2 : i / m * m + i % m = i := by rw [Nat.mul_comm]; exact Nat.div_add_mod i m
      obtain ⟨b, o, s⟩ := a
      unfold Addr.add
      by_cases z1 : i / m * m = 0 <;> by_cases z2 : i % m = 0 <;> simp [z1, z2] <;> (try omega)
      all_goals (split <;> simp_all <;> omega)
    rw [e1, List.getElem?_eq_getElem (show i % m < cs'.length by omega)] at h3
    obtain ⟨z, hz, hw⟩ := hel _ _ _ h2 (i % m) _ (List.getElem?_eq_getElem (show i % m < cs'.length by omega))
    rw [hz] at h3
    have hF : F i = z := by simp only [F, if_pos hi, h3]
    rw [hF]
    exact ⟨h3, hw⟩
  refine ⟨len, F, ⟨some a, cap, rfl, fun hp => ?_⟩, fun i => ?_, by omega⟩
  · have hp0 : 0 < len * m := Nat.mul_pos hp hm0
    have h0 := (key 0 hp0).1
    obtain ⟨b, off, spot⟩ := a
    have hs : spot = none := by simpa [Addr.add] using World.cell?_spot h0
    subst hs
    have hob : ∃ cur t fr, obj w b = some (.cells cur t fr) := by
      rw [add_plain, cell_obj] at h0
      unfold cellOf at h0
      split at h0
      · rename_i cur t fr ho
        exact ⟨cur, t, fr, ho⟩
      · cases h0
    obtain ⟨cur, t, fr, ho⟩ := hob
    refine ⟨b, off, cur, t, fr, rfl, ho, fun i hi => ?_⟩
    have h1 := (key i hi).1
    rw [add_plain, cell_obj, ho, cellOf_cells] at h1
    exact h1
  · by_cases hi : i < len * m
    · exact (key i hi).2
    · have : F i = 0 := by simp only [F, if_neg hi]
      rw [this]; exact w0
end
theorem madeCells_arr {z : Array Value} {k : IntKind} (n : Nat) (hz : ∀ i, z[i % z.size]! = .int k 0) : madeCells z n = arr n k fun _ => 0 := by
  apply Array.ext_getElem?
  intro j
  rw [get_arr]
  by_cases hj : j < n
  · rw [if_pos hj]; simp [madeCells, hj, hz]
  · rw [if_neg hj]; simp [madeCells, hj]
theorem made1 (k : IntKind) : ∀ i, (Value.int k 0).cells[i % (Value.int k 0).cells.size]! = .int k 0 := by
  intro i
  simp [Value.cells, Nat.mod_one]
theorem made2 (k : IntKind) : ∀ i, (Value.agg #[.int k 0, .int k 0]).cells[i % (Value.agg #[.int k 0, .int k 0]).cells.size]! = .int k 0 := by
  intro i
  simp only [Value.cells, List.size_toArray, List.length_cons, List.length_nil]
  have h : i % 2 < 2 := Nat.mod_lt _ (by omega)
  generalize i % 2 = j at h
  match j, h with
  | 0, _ => rfl
  | 1, _ => rfl
theorem made3 (k : IntKind) : ∀ i, (Value.agg #[.int k 0, .int k 0, .int k 0]).cells[i % (Value.agg #[.int k 0, .int k 0, .int k 0]).cells.size]! = .int k 0 := by
  intro i
  simp only [Value.cells, List.size_toArray, List.length_cons, List.length_nil]
  have h : i % 3 < 3 := Nat.mod_lt _ (by omega)
  generalize i % 3 = j at h
  match j, h with
  | 0, _ => rfl
  | 1, _ => rfl
  | 2, _ => rfl
theorem mkrow {P : Program} {t e : TypeId} {z : Value} {k : IntKind} {m bytes : Nat} (ht : P.underlying t = some (.slice e)) (hi : (P.info? e).map (fun i => (i.zero, i.size, i.bytes)) = some (some z, m, bytes)) (hz : ∀ i, z.cells[i % z.cells.size]! = .int k 0) (hb : bytes ≤ 1000) (n : Nat) (hn : n ≤ 1048576) (w : World) :
    (Instr.makeSlice t (.int .i64 n) (.int .i64 n)).run P w = .ok (.slice (some ⟨w.heap.size, 0, none⟩) n n) (w.alloc (.cells (arr (n * m) k fun _ => 0) e)) := by
  obtain ⟨i, h1, h2⟩ := Option.map_eq_some_iff.1 hi
  simp only [Prod.mk.injEq] at h2
  obtain ⟨hz0, hs, hbb⟩ := h2
  have h3 : (bytes : Int) * (n : Int) ≤ 1000 * 1048576 := Int.mul_le_mul (by omega) (by omega) (by omega) (by omega)
  have hr := run_make (P := P) w t e i z ht h1 hz0 .i64 .i64 n n (by omega) (Int.le_refl _) (by rw [hbb]; omega) (by omega)
  simp only [Int.toNat_natCast, hs] at hr
  rw [hr, madeCells_arr _ hz]
/-- two tones, two corners alike -/
def eq3 (a b c d e f : Int) : Bool := a == d && b == e && c == f
def eq2 (a b c d : Int) : Bool := a == c && b == d
theorem eq3_t {a b c d e f : Int} : eq3 a b c d e f = true ↔ a = d ∧ b = e ∧ c = f := by simp [eq3, and_assoc]
theorem eq2_t {a b c d : Int} : eq2 a b c d = true ↔ a = c ∧ b = d := by simp [eq2]
@[simp, go_sem] theorem ext_all3 (x y z : Value) : (#[x, y, z] : Array Value).extract 0 3 = #[x, y, z] := rfl
@[simp, go_sem] theorem ext_all2 (x y : Value) : (#[x, y] : Array Value).extract 0 2 = #[x, y] := rfl
@[simp, go_sem] theorem seg_all3 (x y z a b c : Value) : seg #[x, y, z] 0 #[a, b, c] = #[a, b, c] := rfl
@[simp, go_sem] theorem seg_all2 (x y a b : Value) : seg #[x, y] 0 #[a, b] = #[a, b] := rfl
theorem ones_two (k : IntKind) (x y : Int) : ones #[.int k x, .int k y] := by intro v hv; simp at hv; rcases hv with rfl | rfl <;> rfl
theorem ones_three (k : IntKind) (x y z : Int) : ones #[.int k x, .int k y, .int k z] := by intro v hv; simp at hv; rcases hv with rfl | rfl | rfl <;> rfl
attribute [simp, go_sem] ones_two ones_three
theorem get_seg (c d : Array Value) (o i : Nat) (h : o + d.size ≤ c.size) : (seg c o d)[i]? = if o ≤ i ∧ i < o + d.size then d[i - o]? else c[i]? := by
  unfold seg
  rw [List.getElem?_toArray]
  have h1 : (List.take o c.toList).length = o := by rw [List.length_take, Array.length_toList]; omega
  by_cases h2 : i < o
  · rw [if_neg (by omega), List.append_assoc, List.getElem?_append_left (by omega), List.getElem?_take, if_pos h2, Array.getElem?_toList]
  · by_cases h3 : i < o + d.size
    · rw [if_pos (by omega), List.append_assoc, List.getElem?_append_right (by omega), List.getElem?_append_left (by rw [h1, Array.length_toList]; omega), h1, Array.getElem?_toList]
    · rw [if_neg (by omega), List.getElem?_append_right (by rw [List.length_append, h1, Array.length_toList]; omega), List.getElem?_drop, List.length_append, h1, Array.length_toList, Array.getElem?_toList]
      congr 1
      omega
theorem seg_arr3 (N o : Nat) (k : IntKind) (F G : Nat → Int) (x y z : Int) (h : o + 3 ≤ N) (h0 : G o = x) (h1 : G (o + 1) = y) (h2 : G (o + 2) = z) (hG : ∀ i, i < N → i < o ∨ o + 3 ≤ i → G i = F i) : seg (arr N k F) o #[.int k x, .int k y, .int k z] = arr N k G := by
  apply Array.ext_getElem?
  intro i
  rw [get_seg _ _ _ _ (by simp; omega), get_arr, get_arr]
  simp only [List.size_toArray, List.length_cons, List.length_nil]
  by_cases hi : o ≤ i ∧ i < o + (0 + 1 + 1 + 1)
  · rw [if_pos hi, if_pos (show i < N by omega)]
    obtain ⟨j, rfl⟩ : ∃ j, i = o + j := ⟨i - o, by omega⟩
    have hj : j < 3 := by omega
    rw [Nat.add_sub_cancel_left]
    match j, hj with
    | 0, _ => simp [h0]
    | 1, _ => simp [h1]
    | 2, _ => simp [h2]
  · rw [if_neg hi]
    by_cases hN : i < N
    · rw [if_pos hN, if_pos hN, hG i hN (by omega)]
    · rw [if_neg hN, if_neg hN]
theorem seg_arr2 (N o : Nat) (k : IntKind) (F G : Nat → Int) (x y : Int) (h : o + 2 ≤ N) (h0 : G o = x) (h1 : G (o + 1) = y) (hG : ∀ i, i < N → i < o ∨ o + 2 ≤ i → G i = F i) : seg (arr N k F) o #[.int k x, .int k y] = arr N k G := by
  apply Array.ext_getElem?
  intro i
  rw [get_seg _ _ _ _ (by simp; omega), get_arr, get_arr]
  simp only [List.size_toArray, List.length_cons, List.length_nil]
  by_cases hi : o ≤ i ∧ i < o + (0 + 1 + 1)
  · rw [if_pos hi, if_pos (show i < N by omega)]
    obtain ⟨j, rfl⟩ : ∃ j, i = o + j := ⟨i - o, by omega⟩
    have hj : j < 2 := by omega
    rw [Nat.add_sub_cancel_left]
    match j, hj with
    | 0, _ => simp [h0]
    | 1, _ => simp [h1]
  · rw [if_neg hi]
    by_cases hN : i < N
    · rw [if_pos hN, if_pos hN, hG i hN (by omega)]
    · rw [if_neg hN, if_neg hN]
end Go.Arr
/- What loads, stores and zero values of the array and struct types come to; no condition. -/
namespace Go.Proofs.YtomfjicjejoakaaDoor
open Go.RowKit Go.Arr

theorem agg25 : AggTy Tryd.prog 25 144 := ⟨⟨_, Tryd.underlying25, rfl⟩, by kernel_rfl⟩
theorem zero25 (w : World) : (zeroValue 25).run Tryd.prog w = .ok (.agg (arr 144 .u8 fun _ => 0)) w := by kernel_rfl
theorem lv25 : loadVar 25 = aggLoad 25 := rfl
theorem sv25 : storeVar 25 = aggStore 25 := rfl
theorem ld25 (g off : Nat) (w : World) : (aggLoad 25 ⟨g, off, none⟩).run Tryd.prog w = segOr (obj w g) off 144 w ((aggLoadOld 25 ⟨g, off, none⟩).run Tryd.prog w) := run_aggLoad 25 144 _ Tryd.underlying25 rfl (by kernel_rfl) g off w
theorem st25 (g off : Nat) (v : Value) (w : World) : (aggStore 25 ⟨g, off, none⟩ v).run Tryd.prog w = segStoreOr (obj w g) g off 144 v w ((aggStoreOld 25 ⟨g, off, none⟩ v).run Tryd.prog w) := run_aggStore 25 144 (by kernel_rfl) g off v w
theorem agg27 : AggTy Tryd.prog 27 146 := ⟨⟨_, Tryd.underlying27, rfl⟩, by kernel_rfl⟩
theorem zero27 (w : World) : (zeroValue 27).run Tryd.prog w = .ok (.agg (pic 144 0 0 fun _ => 0)) w := by kernel_rfl
theorem lv27 : loadVar 27 = aggLoad 27 := rfl
theorem sv27 : storeVar 27 = aggStore 27 := rfl
theorem ld27 (g off : Nat) (w : World) : (aggLoad 27 ⟨g, off, none⟩).run Tryd.prog w = segOr (obj w g) off 146 w ((aggLoadOld 27 ⟨g, off, none⟩).run Tryd.prog w) := run_aggLoad 27 146 _ Tryd.underlying27 rfl (by kernel_rfl) g off w
theorem st27 (g off : Nat) (v : Value) (w : World) : (aggStore 27 ⟨g, off, none⟩ v).run Tryd.prog w = segStoreOr (obj w g) g off 146 v w ((aggStoreOld 27 ⟨g, off, none⟩ v).run Tryd.prog w) := run_aggStore 27 146 (by kernel_rfl) g off v w
theorem agg41 : AggTy Tryd.prog 41 16 := ⟨⟨_, Tryd.underlying41, rfl⟩, by kernel_rfl⟩
theorem zero41 (w : World) : (zeroValue 41).run Tryd.prog w = .ok (.agg (arr 16 .i64 fun _ => 0)) w := by kernel_rfl
theorem lv41 : loadVar 41 = aggLoad 41 := rfl
theorem sv41 : storeVar 41 = aggStore 41 := rfl
theorem ld41 (g off : Nat) (w : World) : (aggLoad 41 ⟨g, off, none⟩).run Tryd.prog w = segOr (obj w g) off 16 w ((aggLoadOld 41 ⟨g, off, none⟩).run Tryd.prog w) := run_aggLoad 41 16 _ Tryd.underlying41 rfl (by kernel_rfl) g off w
theorem st41 (g off : Nat) (v : Value) (w : World) : (aggStore 41 ⟨g, off, none⟩ v).run Tryd.prog w = segStoreOr (obj w g) g off 16 v w ((aggStoreOld 41 ⟨g, off, none⟩ v).run Tryd.prog w) := run_aggStore 41 16 (by kernel_rfl) g off v w
theorem size5 (w : World) : (sizeOf 5).run Tryd.prog w = .ok 1 w := by kernel_rfl
theorem eq25 (w : World) (f g : Nat → Int) : (Op.equalIn 9999 25 (.agg (arr 144 .u8 f)) (.agg (arr 144 .u8 g))).run Tryd.prog w = .ok (eqUpto 144 f g) w := run_equalIn_arr w 9997 25 5 Tryd.underlying25 Tryd.underlying5 size5
theorem ix25 (f : Nat → Int) (ik : IntKind) (i : Int) (h0 : 0 ≤ i) (h1 : i < 144) (w : World) : (Instr.index 25 (.agg (arr 144 .u8 f)) (.int ik i)).run Tryd.prog w = .ok (.int .u8 (f i.toNat)) w := run_index_arr (n := 144) 25 5 Tryd.underlying25 Tryd.underlying5 size5 ik i h0 (by omega) w
theorem size2 (w : World) : (sizeOf 2).run Tryd.prog w = .ok 1 w := by kernel_rfl
theorem ix41 (f : Nat → Int) (ik : IntKind) (i : Int) (h0 : 0 ≤ i) (h1 : i < 16) (w : World) : (Instr.index 41 (.agg (arr 16 .i64 f)) (.int ik i)).run Tryd.prog w = .ok (.int .i64 (f i.toNat)) w := run_index_arr (n := 16) 41 2 Tryd.underlying41 Tryd.underlying2 size2 ik i h0 (by omega) w
attribute [go_sem ↓] zero25 lv25 sv25 zero27 lv27 sv27 zero41 lv41 sv41
attribute [go_sem] ld25 st25 ld27 st27 ld41 st41
attribute [go_sem high] eq25 ix25 ix41
set_option maxHeartbeats 400000 in
set_option maxRecDepth 100000 in
theorem eql27 (w : World) (a b c d : Int) (f g : Nat → Int) : (binOp .eql 27 (.agg (pic 144 a b f)) (.agg (pic 144 c d g))).run Tryd.prog w = .ok (.bool (eqPic 144 a b f c d g)) w := by
  go_simp
  unfold eqPic
  by_cases h1 : a = c <;> by_cases h2 : b = d <;> cases eqUpto 144 f g <;> simp [h1, h2]
set_option maxHeartbeats 400000 in
set_option maxRecDepth 100000 in
theorem neq27 (w : World) (a b c d : Int) (f g : Nat → Int) : (binOp .neq 27 (.agg (pic 144 a b f)) (.agg (pic 144 c d g))).run Tryd.prog w = .ok (.bool (!eqPic 144 a b f c d g)) w := by
  go_simp
  unfold eqPic
  by_cases h1 : a = c <;> by_cases h2 : b = d <;> cases eqUpto 144 f g <;> simp [h1, h2]
attribute [go_sem high] eql27 neq27
end Go.Proofs.YtomfjicjejoakaaDoor
/- Bounds, places and codes: what the small functions of the program and of the reference return; no condition. -/
set_option linter.unusedVariables false
namespace Go.Proofs.YtomfjicjejoakaaDoor
open Go.BigFrame
open Go.RowKit Go.Arr
def inB (n lo hi : Int) : Bool := decide (lo ≤ n ∧ n ≤ hi)
theorem inB_t {n lo hi : Int} : inB n lo hi = true ↔ lo ≤ n ∧ n ≤ hi := by unfold inB; simp
theorem inB_f {n lo hi : Int} : inB n lo hi = false ↔ n < lo ∨ hi < n := by unfold inB; simp; omega
theorem ret_b {a b : Bool} (h : a = b) : Ending.returned (.bool a) = .returned (.bool b) := by rw [h]
set_option maxHeartbeats 400000 in
theorem l00In_any (n lo hi : Int) (w : World) : Calls Tryd.prog 50 #[.int .i64 n, .int .i64 lo, .int .i64 hi] w fun e w' => e = .returned (.bool (inB n lo hi)) ∧ w = w' := by
  by_cases h : lo ≤ n
  · go_enter Tryd.func50, Tryd.ntmps50
    go_wp2
    go_ret
    exact ⟨ret_b (by simp [inB, h]), rfl⟩
  · go_enter Tryd.func50, Tryd.ntmps50
    go_wp2
    go_ret
    exact ⟨ret_b (by simp [inB]; omega), rfl⟩
set_option maxHeartbeats 400000 in
theorem within_any (n lo hi : Int) (w : World) : Calls Tryd.prog 46 #[.int .i64 n, .int .i64 lo, .int .i64 hi] w fun e w' => e = .returned (.bool (inB n lo hi)) ∧ w = w' := by
  by_cases h : lo ≤ n
  · go_enter Tryd.func46, Tryd.ntmps46
    go_wp2
    go_ret
    exact ⟨ret_b (by simp [inB, h]), rfl⟩
  · go_enter Tryd.func46, Tryd.ntmps46
    go_wp2
    go_ret
    exact ⟨ret_b (by simp [inB]; omega), rfl⟩
def isSizeB (a b : Int) : Bool := inB a 1 12 && inB b 1 12
set_option maxHeartbeats 400000 in
theorem isSize_any (a b : Int) (w : World) : Calls Tryd.prog 30 #[.int .i64 a, .int .i64 b] w fun e w' => e = .returned (.bool (isSizeB a b)) ∧ w = w' := by
  cases h : inB a 1 12
  all_goals
    go_enter Tryd.func30, Tryd.ntmps30
    go_wp2_with (go_at_call 46; refine (within_any _ _ _ _).mono ?_; rintro e w' ⟨rfl, rfl⟩)
    go_ret
    exact ⟨ret_b (by simp [isSizeB, h]), rfl⟩
def isCellB (x y a b : Int) : Bool := inB x 0 (a - 1) && inB y 0 (b - 1)
set_option maxHeartbeats 400000 in
theorem isCell_any (x y a b : Int) (ha : -128 ≤ a ∧ a ≤ 127) (hb : -128 ≤ b ∧ b ≤ 127) (w : World) : Calls Tryd.prog 67 #[.int .i64 x, .int .i64 y, .int .i8 a, .int .i8 b] w fun e w' => e = .returned (.bool (isCellB x y a b)) ∧ w = w' := by
  cases h : inB x 0 (a - 1)
  all_goals
    go_enter Tryd.func67, Tryd.ntmps67
    go_wp2_with (go_at_call 46; refine (within_any _ _ _ _).mono ?_; rintro e w' ⟨rfl, rfl⟩)
    go_ret
    exact ⟨ret_b (by simp [isCellB, h]), rfl⟩
def codeB (a b : Bool) : Int := if a = false then 1 else if b = false then 2 else 0
set_option maxHeartbeats 400000 in
theorem codeOf_any (a b : Bool) (w : World) : Calls Tryd.prog 45 #[.bool a, .bool b] w fun e w' => e = .returned (.int .i64 (codeB a b)) ∧ w = w' := by
  cases a <;> cases b
  all_goals
    go_enter Tryd.func45, Tryd.ntmps45
    go_wp2
    go_ret
    exact ⟨rfl, rfl⟩
set_option maxHeartbeats 400000 in
theorem isColour_any (n : Int) (w : World) : Calls Tryd.prog 53 #[.int .i64 n] w fun e w' => e = .returned (.bool (inB n 0 15)) ∧ w = w' := by
  go_enter Tryd.func53, Tryd.ntmps53
  go_wp2_with (go_at_call 46; refine (within_any _ _ _ _).mono ?_; rintro e w' ⟨rfl, rfl⟩)
  go_ret
  exact ⟨rfl, rfl⟩
set_option maxHeartbeats 400000 in
theorem l01Colour_any (n : Int) (w : World) : Calls Tryd.prog 55 #[.int .i64 n] w fun e w' => e = .returned (.bool (inB n 0 15)) ∧ w = w' := by
  go_enter Tryd.func55, Tryd.ntmps55
  go_wp2_with (go_at_call 50; refine (l00In_any _ _ _ _).mono ?_; rintro e w' ⟨rfl, rfl⟩)
  go_ret
  exact ⟨rfl, rfl⟩
end Go.Proofs.YtomfjicjejoakaaDoor
/- Which pictures are valid: the reference and the program answer alike; no condition. -/
set_option linter.unusedVariables false
namespace Go.Proofs.YtomfjicjejoakaaDoor
open Go.BigFrame
open Go.RowKit Go.Arr
def cellB (i : Int) (a b : Int) : Bool := inB i 0 143 && (decide (i % 12 < a) && decide (i / 12 < b))
def goodAt (a b : Int) (f : Nat → Int) (i : Nat) : Bool := decide (f i < 16) && (cellB i a b || decide (f i = 0))
def goodUpto (a b : Int) (f : Nat → Int) (n : Nat) : Prop := ∀ j, j < n → goodAt a b f j = true
def okPic (a b : Int) (f : Nat → Int) : Bool := isSizeB a b && (List.range 144).all (goodAt a b f)
theorem okPic_of (a b : Int) (f : Nat → Int) (h1 : isSizeB a b = true) (h2 : goodUpto a b f 144) : okPic a b f = true := by
  unfold okPic
  rw [h1, Bool.true_and, List.all_eq_true]
  intro i hi
  exact h2 i (by simpa using hi)
theorem okPic_not (a b : Int) (f : Nat → Int) (i : Nat) (hi : i < 144) (h : goodAt a b f i = false) : okPic a b f = false := by
  unfold okPic
  have : (List.range 144).all (goodAt a b f) = false := by
    rw [List.all_eq_false]
    exact ⟨i, by simpa using hi, by simp [h]⟩
  rw [this, Bool.and_false]
theorem okPic_size (a b : Int) (f : Nat → Int) (h : isSizeB a b = false) : okPic a b f = false := by
  unfold okPic; rw [h, Bool.false_and]
theorem goodUpto_succ {a b : Int} {f : Nat → Int} {k : Nat} (h : goodUpto a b f k) (hk : goodAt a b f k = true) : goodUpto a b f (k + 1) := by
  intro j hj
  rcases Nat.lt_succ_iff_lt_or_eq.1 hj with h1 | rfl
  · exact h j h1
  · exact hk
theorem cell_isCell (k : Nat) (hk : k < 144) (a b : Int) : isCellB ((k : Int) % 12) ((k : Int) / 12) a b = cellB k a b := by
  unfold isCellB cellB
  have e1 : inB ((k : Int) % 12) 0 (a - 1) = decide ((k : Int) % 12 < a) := by unfold inB; rw [decide_eq_decide]; omega
  have e2 : inB ((k : Int) / 12) 0 (b - 1) = decide ((k : Int) / 12 < b) := by unfold inB; rw [decide_eq_decide]; omega
  have e3 : inB k 0 143 = true := inB_t.2 (by omega)
  rw [e1, e2, e3, Bool.true_and]
set_option maxHeartbeats 400000 in
set_option maxRecDepth 100000 in
theorem l01Is_any (g : Nat) (t : TypeId) (a b : Int) (f : Nat → Int) (i : Int) (ha : -128 ≤ a ∧ a ≤ 127) (hb : -128 ≤ b ∧ b ≤ 127) (w : World) (ho : obj w g = some (.cells (pic 144 a b f) t)) :
    Calls Tryd.prog 51 #[.pointer (some ⟨g, 0, none⟩), .int .i64 i] w fun e w' => e = .returned (.bool (cellB i a b)) ∧ w = w' := by
  cases h : inB i 0 143
  · go_enter Tryd.func51, Tryd.ntmps51
    go_wp2_with (go_at_call 50; refine (l00In_any _ _ _ _).mono ?_; rintro e w' ⟨rfl, rfl⟩)
    go_ret
    exact ⟨ret_b (by simp [cellB, h]), rfl⟩
  · have h2 := inB_t.1 h
    have h3 := h2.1
    have h4 := h2.2
    by_cases h5 : i % 12 < a
    all_goals
      go_enter Tryd.func51, Tryd.ntmps51
      go_wp2_with (go_at_call 50; refine (l00In_any _ _ _ _).mono ?_; rintro e w' ⟨rfl, rfl⟩)
      go_ret
      exact ⟨ret_b (by first | (simp [cellB, h, h5]; done) | (simp [cellB, h]; omega)), rfl⟩
set_option maxHeartbeats 400000 in
set_option maxRecDepth 100000 in
theorem has_any (a b : Int) (f : Nat → Int) (x y : Int) (ha : -128 ≤ a ∧ a ≤ 127) (hb : -128 ≤ b ∧ b ≤ 127) (w : World) :
    Calls Tryd.prog 41 #[.agg (pic 144 a b f), .int .i64 x, .int .i64 y] w fun e w' => e = .returned (.bool (isCellB x y a b)) ∧ New w w' := by
  go_enter Tryd.func41, Tryd.ntmps41
  go_wp2_with (go_at_call 67; refine (isCell_any _ _ _ _ ha hb _).mono ?_; rintro e w' ⟨rfl, rfl⟩)
  go_ret
  exact ⟨rfl, (New.refl w).alloc _⟩
set_option maxHeartbeats 1000000 in
set_option maxRecDepth 100000 in
theorem l01Ok_any (g : Nat) (t : TypeId) (a b : Int) (f : Nat → Int) (ha : -128 ≤ a ∧ a ≤ 127) (hb : -128 ≤ b ∧ b ≤ 127) (hf : ∀ i, 0 ≤ f i ∧ f i ≤ 255) (w : World) (ho : obj w g = some (.cells (pic 144 a b f) t)) :
    Calls Tryd.prog 37 #[.pointer (some ⟨g, 0, none⟩)] w fun e w' => e = .returned (.bool (okPic a b f)) ∧ w = w' := by
  cases h1 : inB a 1 12
  · go_enter Tryd.func37, Tryd.ntmps37
    go_wp2_with (go_at_call 50; refine (l00In_any _ _ _ _).mono ?_; rintro e w' ⟨rfl, rfl⟩)
    go_ret
    exact ⟨ret_b (okPic_size a b f (by simp [isSizeB, h1])).symm, rfl⟩
  cases h2 : inB b 1 12
  · go_enter Tryd.func37, Tryd.ntmps37
    go_wp2_with (go_at_call 50; refine (l00In_any _ _ _ _).mono ?_; rintro e w' ⟨rfl, rfl⟩)
    go_ret
    exact ⟨ret_b (okPic_size a b f (by simp [isSizeB, h1, h2])).symm, rfl⟩
  have hsz : Hid (isSizeB a b = true) := by show _ = _; simp [isSizeB, h1, h2]
  go_enter Tryd.func37, Tryd.ntmps37
  go_wp2_with (go_at_call 50; refine (l00In_any _ _ _ _).mono ?_; rintro e w' ⟨rfl, rfl⟩)
  go_loop [3] (fun i => ∃ k : Nat, k ≤ 144 ∧ i = .int .i64 k ∧ Hid (goodUpto a b f k)) (fun i => 144 - (intOf i).toNat)
  case atStart => exact ⟨0, by omega, rfl, fun j hj => absurd hj (by omega)⟩
  case round =>
    obtain ⟨k, hk, rfl, hg⟩ := hrel
    by_cases hlt : k < 144
    · have hfk := hf k
      by_cases h16 : f k < 16
      · cases hc : cellB k a b
        · by_cases hz : f k = 0
          · have hgk : Hid (goodAt a b f k = true) := by show _ = _; simp [goodAt, hz]
            have hz1 : (f k != 0) = false := by simp [hz]
            clear hz
            go_wp2_with (go_at_call 51; refine (l01Is_any g t a b f _ ha hb _ ho).mono ?_; rintro e w' ⟨rfl, rfl⟩)
            go_round
            case rel => exact ⟨k + 1, by omega, by go_num, goodUpto_succ hg.out hgk.out⟩
            case measure => simp [intOf]; omega
          · have hgk : Hid (okPic a b f = false) := okPic_not a b f k hlt (by simp [goodAt, hc, hz])
            have hz1 : (f k != 0) = true := by simp [hz]
            clear hz
            go_wp2_with (go_at_call 51; refine (l01Is_any g t a b f _ ha hb _ ho).mono ?_; rintro e w' ⟨rfl, rfl⟩)
            go_ret
            exact ⟨ret_b hgk.out.symm, rfl⟩
        · have hgk : Hid (goodAt a b f k = true) := by show _ = _; simp [goodAt, h16, hc]
          go_wp2_with (go_at_call 51; refine (l01Is_any g t a b f _ ha hb _ ho).mono ?_; rintro e w' ⟨rfl, rfl⟩)
          go_round
          case rel => exact ⟨k + 1, by omega, by go_num, goodUpto_succ hg.out hgk.out⟩
          case measure => simp [intOf]; omega
      · have hgk : Hid (okPic a b f = false) := okPic_not a b f k hlt (by simp [goodAt, h16])
        go_wp2_with (go_at_call 51; refine (l01Is_any g t a b f _ ha hb _ ho).mono ?_; rintro e w' ⟨rfl, rfl⟩)
        go_ret
        exact ⟨ret_b hgk.out.symm, rfl⟩
    · obtain rfl : k = 144 := by omega
      go_wp2_with (fail)
      go_ret
      exact ⟨ret_b (okPic_of a b f hsz.out hg.out).symm, rfl⟩
set_option maxHeartbeats 1000000 in
set_option maxRecDepth 100000 in
theorem validPicture_impl (a b : Int) (f : Nat → Int) (ha : -128 ≤ a ∧ a ≤ 127) (hb : -128 ≤ b ∧ b ≤ 127) (hf : ∀ i, 0 ≤ f i ∧ f i ≤ 255) (w : World) :
    Calls Tryd.prog 12 #[.agg (pic 144 a b f)] w fun e w' => e = .returned (.bool (okPic a b f)) ∧ New w w' := by
  cases hs : isSizeB a b
  · go_enter Tryd.func12, Tryd.ntmps12
    go_wp2_with (go_at_call 30; refine (isSize_any _ _ _).mono ?_; rintro e w' ⟨rfl, rfl⟩)
    go_ret
    exact ⟨ret_b (okPic_size a b f hs).symm, (New.refl w).alloc _⟩
  have hsz : Hid (isSizeB a b = true) := hs
  go_enter Tryd.func12, Tryd.ntmps12
  go_wp2_with (go_at_call 30; refine (isSize_any _ _ _).mono ?_; rintro e w' ⟨rfl, rfl⟩)
  clear hs
  go_loopw [15] (fun i wr => ∃ k : Nat, k ≤ 144 ∧ i = .int .i64 k ∧ Hid (goodUpto a b f k) ∧ Hid (obj wr w.heap.size = some (.cells (pic 144 a b f) 27)) ∧ New w wr ∧ w.heap.size < wr.heap.size) (fun i _ => 144 - (intOf i).toNat)
  case atStart => exact ⟨0, by omega, rfl, fun j hj => absurd hj (by omega), by show _ = _; go_simp, (New.refl w).alloc _, by simp⟩
  case round =>
    obtain ⟨k, hk, rfl, hg, ho1, hn, hlw⟩ := hrel
    have ho := ho1.out
    by_cases hlt : k < 144
    · have hfk := hf k
      have hcc : isCellB ((k : Int) % 12) ((k : Int) / 12) a b = cellB k a b := cell_isCell k hlt a b
      have fin : ∀ w1, New wr w1 → Hid (obj w1 w.heap.size = some (.cells (pic 144 a b f) 27)) ∧ New w w1 ∧ w.heap.size < w1.heap.size := fun w1 h1 => ⟨(h1.objs _ hlw).trans ho, hn.trans h1, Nat.lt_of_lt_of_le hlw h1.le⟩
      have hF := hide fin
      clear fin
      by_cases h16 : f k < 16
      · cases hc : cellB k a b
        · by_cases hz : f k = 0
          · have hgk : Hid (goodAt a b f k = true) := by show _ = _; simp [goodAt, hz]
            have hz1 : (f k != 0) = false := by simp [hz]
            clear hz
            go_wp2_with (fail)
            refine (has_any a b f _ _ ha hb _).mono ?_
            rintro e w1 ⟨rfl, hn1⟩
            go_wp2_with (fail)
            go_roundw
            case rel => exact ⟨k + 1, by omega, by go_num, goodUpto_succ hg.out hgk.out, hF.out w1 hn1⟩
            case measure => simp [intOf]; omega
          · have hgk : Hid (okPic a b f = false) := okPic_not a b f k hlt (by simp [goodAt, hc, hz])
            have hz1 : (f k != 0) = true := by simp [hz]
            clear hz
            go_wp2_with (fail)
            refine (has_any a b f _ _ ha hb _).mono ?_
            rintro e w1 ⟨rfl, hn1⟩
            go_wp2_with (fail)
            go_ret
            exact ⟨ret_b hgk.out.symm, hn.trans hn1⟩
        · have hgk : Hid (goodAt a b f k = true) := by show _ = _; simp [goodAt, h16, hc]
          go_wp2_with (fail)
          refine (has_any a b f _ _ ha hb _).mono ?_
          rintro e w1 ⟨rfl, hn1⟩
          go_wp2_with (fail)
          go_roundw
          case rel => exact ⟨k + 1, by omega, by go_num, goodUpto_succ hg.out hgk.out, hF.out w1 hn1⟩
          case measure => simp [intOf]; omega
      · have hgk : Hid (okPic a b f = false) := okPic_not a b f k hlt (by simp [goodAt, h16])
        go_wp2_with (fail)
        refine (has_any a b f _ _ ha hb _).mono ?_
        rintro e w1 ⟨rfl, hn1⟩
        go_wp2_with (fail)
        all_goals go_ret
        all_goals exact ⟨ret_b hgk.out.symm, hn.trans hn1⟩
    · obtain rfl : k = 144 := by omega
      go_wp2_with (fail)
      go_ret
      exact ⟨ret_b (okPic_of a b f hsz.out hg.out).symm, hn⟩
end Go.Proofs.YtomfjicjejoakaaDoor
/- Pictures: what comes in is handed on, and two are held against each other; no condition. -/
set_option linter.unusedVariables false
namespace Go.Proofs.YtomfjicjejoakaaDoor
open Go.BigFrame
open Go.RowKit Go.Arr
set_option maxHeartbeats 400000 in
set_option maxRecDepth 100000 in
theorem samePicture_impl (a b c d : Int) (f g : Nat → Int) (w : World) :
    Calls Tryd.prog 13 #[.agg (pic 144 a b f), .agg (pic 144 c d g)] w fun e w' => e = .returned (.bool (eqPic 144 a b f c d g)) ∧ New w w' := by
  go_enter Tryd.func13, Tryd.ntmps13
  go_wp2
  go_ret
  exact ⟨rfl, ((New.refl w).alloc _).alloc _⟩
end Go.Proofs.YtomfjicjejoakaaDoor
