/- Rows of numbers behind slices that come in: opened, read, their loads; no condition. -/
import Derived.Test.YtmmckoemkpfgbaaArr
import Derived.Test.YtmmckoemkpfgbaaOpen
import Derived.Test.YtmmckoemkpfgbaaSlc
import Derived.ChangeSlices
import Derived.Laws.MakeOwn
set_option linter.unusedVariables false
namespace Go.Arr
open Go.ChangeShapes Go.WideShapes Go.ChangeAt Go.RowKit
/-- n elements of m numbers each behind a slice -/
def Sl (W : World) (v : Value) (n m : Nat) (k : IntKind) (f : Nat → Int) : Prop :=
  ∃ a cap, v = .slice a n cap ∧ (0 < n → ∃ g off cur t fr, a = some ⟨g, off, none⟩ ∧ obj W g = some (.cells cur t fr) ∧ ∀ i, i < n * m → cur[off + i]? = some (.int k (f i)))
section
variable {W W' : World} {v : Value} {n m : Nat} {k : IntKind} {f f' : Nat → Int}
theorem Sl.new (h : Sl W v n m k f) (hn : New W W') : Sl W' v n m k f := by
  obtain ⟨a, cap, rfl, h⟩ := h
  refine ⟨a, cap, rfl, fun hp => ?_⟩
  obtain ⟨g, off, cur, t, fr, rfl, ho, hc⟩ := h hp
  exact ⟨g, off, cur, t, fr, rfl, (hn.objs _ (obj_lt ho)).trans ho, hc⟩
theorem Sl.at {a : Option Addr} {c : Nat} (h : Sl W (.slice a n c) n m k f) (hp : 0 < n) : ∃ g off cur t fr, a = some ⟨g, off, none⟩ ∧ obj W g = some (.cells cur t fr) ∧ ∀ i, i < n * m → cur[off + i]? = some (.int k (f i)) := by
  obtain ⟨a', c', h1, h2⟩ := h
  simp only [Value.slice.injEq] at h1
  rw [h1.1]
  exact h2 hp
theorem Sl.of {g cap off : Nat} {cur : Array Value} {t : TypeId} {fr : Nat × Nat} (h : obj W g = some (.cells cur t fr)) (hf : ∀ i, i < n * m → cur[off + i]? = some (.int k (f i))) : Sl W (.slice (some ⟨g, off, none⟩) n cap) n m k f :=
  ⟨_, cap, rfl, fun _ => ⟨g, off, cur, t, fr, rfl, h, hf⟩⟩
theorem Sl.arr {g cap N : Nat} {t : TypeId} {fr : Nat × Nat} (h : obj W g = some (.cells (arr N k f) t fr)) (hN : N = n * m) : Sl W (.slice (some ⟨g, 0, none⟩) n cap) n m k f :=
  Sl.of h fun i hi => by rw [Nat.zero_add, get_arr, if_pos (by omega)]
theorem Sl.congr (h : Sl W v n m k f) (hf : ∀ i, i < n * m → f i = f' i) : Sl W v n m k f' := by
  obtain ⟨a, cap, rfl, h⟩ := h
  refine ⟨a, cap, rfl, fun hp => ?_⟩
  obtain ⟨g, off, cur, t, fr, rfl, ho, hc⟩ := h hp
  exact ⟨g, off, cur, t, fr, rfl, ho, fun i hi => by rw [hc i hi, hf i hi]⟩
end
theorem ext2 {c : Array Value} {o p : Nat} {x y : Value} (h0 : c[o]? = some x) (h1 : c[o + 1]? = some y) (hp : p = o + 2) : c.extract o p = #[x, y] := by
  subst hp
  obtain ⟨l1, _⟩ := Array.getElem?_eq_some_iff.1 h1
  apply Array.ext_getElem?
  intro j
  rw [Array.getElem?_extract]
  match j with
  | 0 => rw [if_pos (by omega)]; simpa using h0
  | 1 => rw [if_pos (by omega)]; simpa using h1
  | j + 2 => rw [if_neg (by omega)]; simp
theorem ext3 {c : Array Value} {o p : Nat} {x y z : Value} (h0 : c[o]? = some x) (h1 : c[o + 1]? = some y) (h2 : c[o + 2]? = some z) (hp : p = o + 3) : c.extract o p = #[x, y, z] := by
  subst hp
  obtain ⟨l1, _⟩ := Array.getElem?_eq_some_iff.1 h2
  apply Array.ext_getElem?
  intro j
  rw [Array.getElem?_extract]
  match j with
  | 0 => rw [if_pos (by omega)]; simpa using h0
  | 1 => rw [if_pos (by omega)]; simpa using h1
  | 2 => rw [if_pos (by omega)]; simpa using h2
  | j + 3 => rw [if_neg (by omega)]; simp
section
variable {H : Type} {enc : TypeId × Value → H} {P : Program} {w : World} {base : Nat} {spare : Nat → Bool} {held : Bool} {t e : TypeId} {k : IntKind} {m : Nat}
/-- a struct of two numbers -/
theorem ints_pair {n0 n1 : Field} {s : TypeId} {fuel : Nat} {cs : List Value} {x : DataW H × List MemPlace} (hs : P.underlying s = some (.struct #[n0, n1])) (h0 : n0.type = e ∧ n0.offset = 0) (h1 : n1.type = e ∧ n1.offset = 1) (he : P.underlying e = some (.int k)) (hce : P.cellsOf e = 1) (hc : P.cellsOf s = 2)
    (h : DataW.trod enc P w base spare held fuel s cs = some x) : AllInts k cs := by
  obtain ⟨xs, nn, _, hx, hcl, hlen, hg⟩ := DataW.trod_struct hs h
  rw [hc] at hcl
  match cs, hcl with
  | [c0, c1], hcl =>
    have hxl : xs.length = 2 := by simpa using hlen
    match xs, hxl with
    | [y0, y1], _ =>
      have g0 := hg 0 n0 rfl
      have g1 := hg 1 n1 rfl
      rw [h0.1, h0.2, hce] at g0
      rw [h1.1, h1.2, hce] at g1
      simp only [List.drop_zero, List.take_succ_cons, List.take_zero, List.drop_succ_cons, List.getElem?_cons_zero, List.getElem?_cons_succ] at g0 g1
      obtain ⟨a, ea, _, wa⟩ := DataW.trod_int he g0
      obtain ⟨b, eb, _, wb⟩ := DataW.trod_int he g1
      simp only [List.cons.injEq, and_true] at ea eb
      subst ea eb
      intro j v hv
      match j, hv with
      | 0, hv => exact ⟨a, by simpa using hv.symm, wa⟩
      | 1, hv => exact ⟨b, by simpa using hv.symm, wb⟩
      | j + 2, hv => simp at hv
theorem open_sl {r : Reach} {b0 : Nat} {v : Value} {d : DataW H} {p : List MemPlace} (ht : P.underlying t = some (.slice e)) (hm : P.cellsOf e = m) (hm0 : 0 < m)
    (hel : ∀ (fuel : Nat) (cs : List Value) (x : DataW H × List MemPlace), DataW.trod enc P w base spare held fuel e cs = some x → AllInts k cs)
    (hv : Value.okWide P w r b0 t v) (h : DataW.Trod enc P w base spare held t v d p) :
    ∃ (n : Nat) (f : Nat → Int), Sl w v n m k f ∧ (∀ i, (Lit.int k (f i)).wf = true) ∧ n ≤ maxLen := by
  have w0 : (Lit.int k 0).wf = true := by cases k <;> decide
  obtain ⟨a0, len, cap, rfl⟩ := okWide_slice ht hv
  obtain ⟨fuel, hf⟩ := h
  rcases DataW.trod_slice ht hf with ⟨hcs, _⟩ | ⟨a, len', cap', elems, rest, n, rfl, hcs, _, _, hl, hmx, hlen, hg, _, _⟩
  · simp [Value.cells] at hcs
    obtain ⟨rfl, rfl, rfl⟩ := hcs
    exact ⟨0, fun _ => 0, ⟨none, 0, rfl, fun h => absurd h (by omega)⟩, fun _ => w0, by omega⟩
  simp [Value.cells] at hcs
  obtain ⟨rfl, rfl, rfl⟩ := hcs
  rw [hm] at hg
  let F : Nat → Int := fun i => if i < len * m then (match w.cell? (a.add i) with | some (.int _ z) => z | _ => 0) else 0
  have key : ∀ i, i < len * m → w.cell? (a.add i) = some (.int k (F i)) ∧ (Lit.int k (F i)).wf = true := by
    intro i hi
    have hq : i / m < len := (Nat.div_lt_iff_lt_mul hm0).2 hi
    have hx := hg (i / m) hq
    rw [List.getElem?_eq_getElem (show i / m < elems.length by omega)] at hx
    obtain ⟨cs', h1, h2⟩ := Option.bind_eq_some_iff.1 hx
    obtain ⟨_, hcl, hcc⟩ := World.cells?_some h1
    have hr : i % m < m := Nat.mod_lt _ hm0
    have h3 := hcc (i % m) hr
    have e1 : (a.add (i / m * m)).add (i % m) = a.add i := by
      have e2 : i / m * m + i % m = i := by rw [Nat.mul_comm]; exact Nat.div_add_mod i m
      obtain ⟨b, o, s⟩ := a
      unfold Addr.add
      by_cases z1 : i / m * m = 0 <;> by_cases z2 : i % m = 0 <;> simp [z1, z2] <;> (try omega)
      all_goals (split <;> simp_all <;> omega)
    rw [e1, List.getElem?_eq_getElem (show i % m < cs'.length by omega)] at h3
    obtain ⟨z, hz, hw⟩ := hel _ _ _ h2 (i % m) _ (List.getElem?_eq_getElem (show i % m < cs'.length by omega))
    rw [hz] at h3
    have hF : F i = z := by simp only [F, if_pos hi, h3]
    rw [hF]
    exact ⟨h3, hw⟩
  refine ⟨len, F, ⟨some a, cap, rfl, fun hp => ?_⟩, fun i => ?_, by omega⟩
  · have hp0 : 0 < len * m := Nat.mul_pos hp hm0
    have h0 := (key 0 hp0).1
    obtain ⟨b, off, spot⟩ := a
    have hs : spot = none := by simpa [Addr.add] using World.cell?_spot h0
    subst hs
    have hob : ∃ cur t fr, obj w b = some (.cells cur t fr) := by
      rw [add_plain, cell_obj] at h0
      unfold cellOf at h0
      split at h0
      · rename_i cur t fr ho
        exact ⟨cur, t, fr, ho⟩
      · cases h0
    obtain ⟨cur, t, fr, ho⟩ := hob
    refine ⟨b, off, cur, t, fr, rfl, ho, fun i hi => ?_⟩
    have h1 := (key i hi).1
    rw [add_plain, cell_obj, ho, cellOf_cells] at h1
    exact h1
  · by_cases hi : i < len * m
    · exact (key i hi).2
    · have : F i = 0 := by simp only [F, if_neg hi]
      rw [this]; exact w0
end
theorem madeCells_arr {z : Array Value} {k : IntKind} (n : Nat) (hz : ∀ i, z[i % z.size]! = .int k 0) : madeCells z n = arr n k fun _ => 0 := by
  apply Array.ext_getElem?
  intro j
  rw [get_arr]
  by_cases hj : j < n
  · rw [if_pos hj]; simp [madeCells, hj, hz]
  · rw [if_neg hj]; simp [madeCells, hj]
theorem made1 (k : IntKind) : ∀ i, (Value.int k 0).cells[i % (Value.int k 0).cells.size]! = .int k 0 := by
  intro i
  simp [Value.cells, Nat.mod_one]
theorem made2 (k : IntKind) : ∀ i, (Value.agg #[.int k 0, .int k 0]).cells[i % (Value.agg #[.int k 0, .int k 0]).cells.size]! = .int k 0 := by
  intro i
  simp only [Value.cells, List.size_toArray, List.length_cons, List.length_nil]
  have h : i % 2 < 2 := Nat.mod_lt _ (by omega)
  generalize i % 2 = j at h
  match j, h with
  | 0, _ => rfl
  | 1, _ => rfl
theorem made3 (k : IntKind) : ∀ i, (Value.agg #[.int k 0, .int k 0, .int k 0]).cells[i % (Value.agg #[.int k 0, .int k 0, .int k 0]).cells.size]! = .int k 0 := by
  intro i
  simp only [Value.cells, List.size_toArray, List.length_cons, List.length_nil]
  have h : i % 3 < 3 := Nat.mod_lt _ (by omega)
  generalize i % 3 = j at h
  match j, h with
  | 0, _ => rfl
  | 1, _ => rfl
  | 2, _ => rfl
theorem mkrow {P : Program} {t e : TypeId} {z : Value} {k : IntKind} {m bytes : Nat} (ht : P.underlying t = some (.slice e)) (hi : (P.info? e).map (fun i => (i.zero, i.size, i.bytes)) = some (some z, m, bytes)) (hz : ∀ i, z.cells[i % z.cells.size]! = .int k 0) (hb : bytes ≤ 1000) (n : Nat) (hn : n ≤ 1048576) (w : World) :
    (Instr.makeSlice t (.int .i64 n) (.int .i64 n)).run P w = .ok (.slice (some ⟨w.heap.size, 0, none⟩) n n) (w.alloc (.cells (arr (n * m) k fun _ => 0) e)) := by
  obtain ⟨i, h1, h2⟩ := Option.map_eq_some_iff.1 hi
  simp only [Prod.mk.injEq] at h2
  obtain ⟨hz0, hs, hbb⟩ := h2
  have h3 : (bytes : Int) * (n : Int) ≤ 1000 * 1048576 := Int.mul_le_mul (by omega) (by omega) (by omega) (by omega)
  have hr := run_make (P := P) w t e i z ht h1 hz0 .i64 .i64 n n (by omega) (Int.le_refl _) (by rw [hbb]; omega) (by omega)
  simp only [Int.toNat_natCast, hs] at hr
  rw [hr, madeCells_arr _ hz]
/-- two tones, two corners alike -/
def eq3 (a b c d e f : Int) : Bool := a == d && b == e && c == f
def eq2 (a b c d : Int) : Bool := a == c && b == d
theorem eq3_t {a b c d e f : Int} : eq3 a b c d e f = true ↔ a = d ∧ b = e ∧ c = f := by simp [eq3, and_assoc]
theorem eq2_t {a b c d : Int} : eq2 a b c d = true ↔ a = c ∧ b = d := by simp [eq2]
@[simp, go_sem] theorem ext_all3 (x y z : Value) : (#[x, y, z] : Array Value).extract 0 3 = #[x, y, z] := rfl
@[simp, go_sem] theorem ext_all2 (x y : Value) : (#[x, y] : Array Value).extract 0 2 = #[x, y] := rfl
@[simp, go_sem] theorem seg_all3 (x y z a b c : Value) : seg #[x, y, z] 0 #[a, b, c] = #[a, b, c] := rfl
@[simp, go_sem] theorem seg_all2 (x y a b : Value) : seg #[x, y] 0 #[a, b] = #[a, b] := rfl
theorem ones_two (k : IntKind) (x y : Int) : ones #[.int k x, .int k y] := by intro v hv; simp at hv; rcases hv with rfl | rfl <;> rfl
theorem ones_three (k : IntKind) (x y z : Int) : ones #[.int k x, .int k y, .int k z] := by intro v hv; simp at hv; rcases hv with rfl | rfl | rfl <;> rfl
attribute [simp, go_sem] ones_two ones_three
theorem get_seg (c d : Array Value) (o i : Nat) (h : o + d.size ≤ c.size) : (seg c o d)[i]? = if o ≤ i ∧ i < o + d.size then d[i - o]? else c[i]? := by
  unfold seg
  rw [List.getElem?_toArray]
  have h1 : (List.take o c.toList).length = o := by rw [List.length_take, Array.length_toList]; omega
  by_cases h2 : i < o
  · rw [if_neg (by omega), List.append_assoc, List.getElem?_append_left (by omega), List.getElem?_take, if_pos h2, Array.getElem?_toList]
  · by_cases h3 : i < o + d.size
    · rw [if_pos (by omega), List.append_assoc, List.getElem?_append_right (by omega), List.getElem?_append_left (by rw [h1, Array.length_toList]; omega), h1, Array.getElem?_toList]
    · rw [if_neg (by omega), List.getElem?_append_right (by rw [List.length_append, h1, Array.length_toList]; omega), List.getElem?_drop, List.length_append, h1, Array.length_toList, Array.getElem?_toList]
      congr 1
      omega
theorem seg_arr3 (N o : Nat) (k : IntKind) (F G : Nat → Int) (x y z : Int) (h : o + 3 ≤ N) (h0 : G o = x) (h1 : G (o + 1) = y) (h2 : G (o + 2) = z) (hG : ∀ i, i < N → i < o ∨ o + 3 ≤ i → G i = F i) : seg (arr N k F) o #[.int k x, .int k y, .int k z] = arr N k G := by
  apply Array.ext_getElem?
  intro i
  rw [get_seg _ _ _ _ (by simp; omega), get_arr, get_arr]
  simp only [List.size_toArray, List.length_cons, List.length_nil]
  by_cases hi : o ≤ i ∧ i < o + (0 + 1 + 1 + 1)
  · rw [if_pos hi, if_pos (show i < N by omega)]
    obtain ⟨j, rfl⟩ : ∃ j, i = o + j := ⟨i - o, by omega⟩
    have hj : j < 3 := by omega
    rw [Nat.add_sub_cancel_left]
    match j, hj with
    | 0, _ => simp [h0]
    | 1, _ => simp [h1]
    | 2, _ => simp [h2]
  · rw [if_neg hi]
    by_cases hN : i < N
    · rw [if_pos hN, if_pos hN, hG i hN (by omega)]
    · rw [if_neg hN, if_neg hN]
theorem seg_arr2 (N o : Nat) (k : IntKind) (F G : Nat → Int) (x y : Int) (h : o + 2 ≤ N) (h0 : G o = x) (h1 : G (o + 1) = y) (hG : ∀ i, i < N → i < o ∨ o + 2 ≤ i → G i = F i) : seg (arr N k F) o #[.int k x, .int k y] = arr N k G := by
  apply Array.ext_getElem?
  intro i
  rw [get_seg _ _ _ _ (by simp; omega), get_arr, get_arr]
  simp only [List.size_toArray, List.length_cons, List.length_nil]
  by_cases hi : o ≤ i ∧ i < o + (0 + 1 + 1)
  · rw [if_pos hi, if_pos (show i < N by omega)]
    obtain ⟨j, rfl⟩ : ∃ j, i = o + j := ⟨i - o, by omega⟩
    have hj : j < 2 := by omega
    rw [Nat.add_sub_cancel_left]
    match j, hj with
    | 0, _ => simp [h0]
    | 1, _ => simp [h1]
  · rw [if_neg hi]
    by_cases hN : i < N
    · rw [if_pos hN, if_pos hN, hG i hN (by omega)]
    · rw [if_neg hN, if_neg hN]
end Go.Arr
