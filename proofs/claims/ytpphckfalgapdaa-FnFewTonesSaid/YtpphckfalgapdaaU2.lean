/- Rows of numbers behind slices that come in: opened, read, their loads; no condition. -/
import Derived.Test.YtpphckfalgapdaaU1
import Derived.ChangeSlices
import Derived.Laws.MakeOwn
import Derived.Test.YtpphckfalgapdaaRows
import Derived.Maps.AppendAt
import Derived.Laws.Bits64
import Derived.Conc.WgArith
import Derived.IntWalk
set_option linter.unusedVariables false
namespace Go.Arr
open Go.ChangeShapes Go.WideShapes Go.ChangeAt Go.RowKit
/-- n elements of m numbers each behind a slice -/
def Sl (W : World) (v : Value) (n m : Nat) (k : IntKind) (f : Nat → Int) : Prop :=
  ∃ a cap, v = .slice a n cap ∧ (0 < n → ∃ g off cur t fr, a = some ⟨g, off, none⟩ ∧ obj W g = some (.cells cur t fr) ∧ ∀ i, i < n * m → cur[off + i]? = some (.int k (f i)))
section
variable {W W' : World} {v : Value} {n m : Nat} {k : IntKind} {f f' : Nat → Int}
theorem Sl.new (h : Sl W v n m k f) (hn : New W W') : Sl W' v n m k f := by
  obtain ⟨a, cap, rfl, h⟩ := h
  refine ⟨a, cap, rfl, fun hp => ?_⟩
  obtain ⟨g, off, cur, t, fr, rfl, ho, hc⟩ := h hp
  exact ⟨g, off, cur, t, fr, rfl, (hn.objs _ (obj_lt ho)).trans ho, hc⟩
theorem Sl.at {a : Option Addr} {c : Nat} (h : Sl W (.slice a n c) n m k f) (hp : 0 < n) : ∃ g off cur t fr, a = some ⟨g, off, none⟩ ∧ obj W g = some (.cells cur t fr) ∧ ∀ i, i < n * m → cur[off + i]? = some (.int k (f i)) := by
  obtain ⟨a', c', h1, h2⟩ := h
  simp only [Value.slice.injEq] at h1
  rw [h1.1]
  exact h2 hp
theorem Sl.of {g cap off : Nat} {cur : Array Value} {t : TypeId} {fr : Nat × Nat} (h : obj W g = some (.cells cur t fr)) (hf : ∀ i, i < n * m → cur[off + i]? = some (.int k (f i))) : Sl W (.slice (some ⟨g, off, none⟩) n cap) n m k f :=
  ⟨_, cap, rfl, fun _ => ⟨g, off, cur, t, fr, rfl, h, hf⟩⟩
theorem Sl.arr {g cap N : Nat} {t : TypeId} {fr : Nat × Nat} (h : obj W g = some (.cells (arr N k f) t fr)) (hN : N = n * m) : Sl W (.slice (some ⟨g, 0, none⟩) n cap) n m k f :=
  Sl.of h fun i hi => by rw [Nat.zero_add, get_arr, if_pos (by omega)]
theorem Sl.congr (h : Sl W v n m k f) (hf : ∀ i, i < n * m → f i = f' i) : Sl W v n m k f' := by
  obtain ⟨a, cap, rfl, h⟩ := h
  refine ⟨a, cap, rfl, fun hp => ?_⟩
  obtain ⟨g, off, cur, t, fr, rfl, ho, hc⟩ := h hp
  exact ⟨g, off, cur, t, fr, rfl, ho, fun i hi => by rw [hc i hi, hf i hi]⟩
end
theorem ext2 {c : Array Value} {o p : Nat} {x y : Value} (h0 : c[o]? = some x) (h1 : c[o + 1]? = some y) (hp : p = o + 2) : c.extract o p = #[x, y] := by
  subst hp
  obtain ⟨l1, _⟩ := Array.getElem?_eq_some_iff.1 h1
  apply Array.ext_getElem?
  intro j
  rw [Array.getElem?_extract]
  match j with
  | 0 => rw [if_pos (by omega)]; simpa using h0
  | 1 => rw [if_pos (by omega)]; simpa using h1
  | j + 2 => rw [if_neg (by omega)]; simp
theorem ext3 {c : Array Value} {o p : Nat} {x y z : Value} (h0 : c[o]? = some x) (h1 : c[o + 1]? = some y) (h2 : c[o + 2]? = some z) (hp : p = o + 3) : c.extract o p = #[x, y, z] := by
  subst hp
  obtain ⟨l1, _⟩ := Array.getElem?_eq_some_iff.1 h2
  apply Array.ext_getElem?
  intro j
  rw [Array.getElem?_extract]
  match j with
  | 0 => rw [if_pos (by omega)]; simpa using h0
  | 1 => rw [if_pos (by omega)]; simpa using h1
  | 2 => rw [if_pos (by omega)]; simpa using h2
  | j + 3 => rw [if_neg (by omega)]; simp
section
variable {H : Type} {enc : TypeId × Value → H} {P : Program} {w : World} {base : Nat} {spare : Nat → Bool} {held : Bool} {t e : TypeId} {k : IntKind} {m : Nat}
/-- a struct of two numbers -/
theorem ints_pair {n0 n1 : Field} {s : TypeId} {fuel : Nat} {cs : List Value} {x : DataW H × List MemPlace} (hs : P.underlying s = some (.struct #[n0, n1])) (h0 : n0.type = e ∧ n0.offset = 0) (h1 : n1.type = e ∧ n1.offset = 1) (he : P.underlying e = some (.int k)) (hce : P.cellsOf e = 1) (hc : P.cellsOf s = 2)
    (h : DataW.trod enc P w base spare held fuel s cs = some x) : AllInts k cs := by
  obtain ⟨xs, nn, _, hx, hcl, hlen, hg⟩ := DataW.trod_struct hs h
  rw [hc] at hcl
  match cs, hcl with
  | [c0, c1], hcl =>
    have hxl : xs.length = 2 := by simpa using hlen
    match xs, hxl with
    | [y0, y1], _ =>
      have g0 := hg 0 n0 rfl
      have g1 := hg 1 n1 rfl
      rw [h0.1, h0.2, hce] at g0
      rw [h1.1, h1.2, hce] at g1
      simp only [List.drop_zero, List.take_succ_cons, List.take_zero, List.drop_succ_cons, List.getElem?_cons_zero, List.getElem?_cons_succ] at g0 g1
      obtain ⟨a, ea, _, wa⟩ := DataW.trod_int he g0
      obtain ⟨b, eb, _, wb⟩ := DataW.trod_int he g1
      simp only [List.cons.injEq, and_true] at ea eb
      subst ea eb
      intro j v hv
      match j, hv with
      | 0, hv => exact ⟨a, by simpa using hv.symm, wa⟩
      | 1, hv => exact ⟨b, by simpa using hv.symm, wb⟩
      | j + 2, hv => simp at hv
theorem open_sl {r : Reach} {b0 : Nat} {v : Value} {d : DataW H} {p : List MemPlace} (ht : P.underlying t = some (.slice e)) (hm : P.cellsOf e = m) (hm0 : 0 < m)
    (hel : ∀ (fuel : Nat) (cs : List Value) (x : DataW H × List MemPlace), DataW.trod enc P w base spare held fuel e cs = some x → AllInts k cs)
    (hv : Value.okWide P w r b0 t v) (h : DataW.Trod enc P w base spare held t v d p) :
    ∃ (n : Nat) (f : Nat → Int), Sl w v n m k f ∧ (∀ i, (Lit.int k (f i)).wf = true) ∧ n ≤ maxLen := by
  have w0 : (Lit.int k 0).wf = true := by cases k <;> decide
  obtain ⟨a0, len, cap, rfl⟩ := okWide_slice ht hv
  obtain ⟨fuel, hf⟩ := h
  rcases DataW.trod_slice ht hf with ⟨hcs, _⟩ | ⟨a, len', cap', elems, rest, n, rfl, hcs, _, _, hl, hmx, hlen, hg, _, _⟩
  · simp [Value.cells] at hcs
    obtain ⟨rfl, rfl, rfl⟩ := hcs
    exact ⟨0, fun _ => 0, ⟨none, 0, rfl, fun h => absurd h (by omega)⟩, fun _ => w0, by omega⟩
  simp [Value.cells] at hcs
  obtain ⟨rfl, rfl, rfl⟩ := hcs
  rw [hm] at hg
  let F : Nat → Int := fun i => if i < len * m then (match w.cell? (a.add i) with | some (.int _ z) => z | _ => 0) else 0
  have key : ∀ i, i < len * m → w.cell? (a.add i) = some (.int k (F i)) ∧ (Lit.int k (F i)).wf = true := by
    intro i hi
    have hq : i / m < len := (Nat.div_lt_iff_lt_mul hm0).2 hi
    have hx := hg (i / m) hq
    rw [List.getElem?_eq_getElem (show i / m < elems.length by omega)] at hx
    obtain ⟨cs', h1, h2⟩ := Option.bind_eq_some_iff.1 hx
    obtain ⟨_, hcl, hcc⟩ := World.cells?_some h1
    have hr : i % m < m := Nat.mod_lt _ hm0
    have h3 := hcc (i % m) hr
    have e1 : (a.add (i / m * m)).add (i % m) = a.add i := by
      have e2 : i / m * m + i % m = i := by rw [Nat.mul_comm]; exact Nat.div_add_mod i m
      obtain ⟨b, o, s⟩ := a
      unfold Addr.add
      by_cases z1 : i / m * m = 0 <;> by_cases z2 : i % m = 0 <;> simp [z1, z2] <;> (try omega)
      all_goals (split <;> simp_all <;> omega)
    rw [e1, List.getElem?_eq_getElem (show i % m < cs'.length by omega)] at h3
    obtain ⟨z, hz, hw⟩ := hel _ _ _ h2 (i % m) _ (List.getElem?_eq_getElem (show i % m < cs'.length by omega))
    rw [hz] at h3
    have hF : F i = z := by simp only [F, if_pos hi, h3]
    rw [hF]
    exact ⟨h3, hw⟩
  refine ⟨len, F, ⟨some a, cap, rfl, fun hp => ?_⟩, fun i => ?_, by omega⟩
  · have hp0 : 0 < len * m := Nat.mul_pos hp hm0
    have h0 := (key 0 hp0).1
    obtain ⟨b, off, spot⟩ := a
    have hs : spot = none := by simpa [Addr.add] using World.cell?_spot h0
    subst hs
    have hob : ∃ cur t fr, obj w b = some (.cells cur t fr) := by
      rw [add_plain, cell_obj] at h0
      unfold cellOf at h0
      split at h0
      · rename_i cur t fr ho
        exact ⟨cur, t, fr, ho⟩
      · cases h0
    obtain ⟨cur, t, fr, ho⟩ := hob
    refine ⟨b, off, cur, t, fr, rfl, ho, fun i hi => ?_⟩
    have h1 := (key i hi).1
    rw [add_plain, cell_obj, ho, cellOf_cells] at h1
    exact h1
  · by_cases hi : i < len * m
    · exact (key i hi).2
    · have : F i = 0 := by simp only [F, if_neg hi]
      rw [this]; exact w0
end
theorem madeCells_arr {z : Array Value} {k : IntKind} (n : Nat) (hz : ∀ i, z[i % z.size]! = .int k 0) : madeCells z n = arr n k fun _ => 0 := by
  apply Array.ext_getElem?
  intro j
  rw [get_arr]
  by_cases hj : j < n
  · rw [if_pos hj]; simp [madeCells, hj, hz]
  · rw [if_neg hj]; simp [madeCells, hj]
theorem made1 (k : IntKind) : ∀ i, (Value.int k 0).cells[i % (Value.int k 0).cells.size]! = .int k 0 := by
  intro i
  simp [Value.cells, Nat.mod_one]
theorem made2 (k : IntKind) : ∀ i, (Value.agg #[.int k 0, .int k 0]).cells[i % (Value.agg #[.int k 0, .int k 0]).cells.size]! = .int k 0 := by
  intro i
  simp only [Value.cells, List.size_toArray, List.length_cons, List.length_nil]
  have h : i % 2 < 2 := Nat.mod_lt _ (by omega)
  generalize i % 2 = j at h
  match j, h with
  | 0, _ => rfl
  | 1, _ => rfl
theorem made3 (k : IntKind) : ∀ i, (Value.agg #[.int k 0, .int k 0, .int k 0]).cells[i % (Value.agg #[.int k 0, .int k 0, .int k 0]).cells.size]! = .int k 0 := by
  intro i
  simp only [Value.cells, List.size_toArray, List.length_cons, List.length_nil]
  have h : i % 3 < 3 := Nat.mod_lt _ (by omega)
  generalize i % 3 = j at h
  match j, h with
  | 0, _ => rfl
  | 1, _ => rfl
  | 2, _ => rfl
theorem mkrow {P : Program} {t e : TypeId} {z : Value} {k : IntKind} {m bytes : Nat} (ht : P.underlying t = some (.slice e)) (hi : (P.info? e).map (fun i => (i.zero, i.size, i.bytes)) = some (some z, m, bytes)) (hz : ∀ i, z.cells[i % z.cells.size]! = .int k 0) (hb : bytes ≤ 1000) (n : Nat) (hn : n ≤ 1048576) (w : World) :
    (Instr.makeSlice t (.int .i64 n) (.int .i64 n)).run P w = .ok (.slice (some ⟨w.heap.size, 0, none⟩) n n) (w.alloc (.cells (arr (n * m) k fun _ => 0) e)) := by
  obtain ⟨i, h1, h2⟩ := Option.map_eq_some_iff.1 hi
  simp only [Prod.mk.injEq] at h2
  obtain ⟨hz0, hs, hbb⟩ := h2
  have h3 : (bytes : Int) * (n : Int) ≤ 1000 * 1048576 := Int.mul_le_mul (by omega) (by omega) (by omega) (by omega)
  have hr := run_make (P := P) w t e i z ht h1 hz0 .i64 .i64 n n (by omega) (Int.le_refl _) (by rw [hbb]; omega) (by omega)
  simp only [Int.toNat_natCast, hs] at hr
  rw [hr, madeCells_arr _ hz]
/-- two tones, two corners alike -/
def eq3 (a b c d e f : Int) : Bool := a == d && b == e && c == f
def eq2 (a b c d : Int) : Bool := a == c && b == d
theorem eq3_t {a b c d e f : Int} : eq3 a b c d e f = true ↔ a = d ∧ b = e ∧ c = f := by simp [eq3, and_assoc]
theorem eq2_t {a b c d : Int} : eq2 a b c d = true ↔ a = c ∧ b = d := by simp [eq2]
@[simp, go_sem] theorem ext_all3 (x y z : Value) : (#[x, y, z] : Array Value).extract 0 3 = #[x, y, z] := rfl
@[simp, go_sem] theorem ext_all2 (x y : Value) : (#[x, y] : Array Value).extract 0 2 = #[x, y] := rfl
@[simp, go_sem] theorem seg_all3 (x y z a b c : Value) : seg #[x, y, z] 0 #[a, b, c] = #[a, b, c] := rfl
@[simp, go_sem] theorem seg_all2 (x y a b : Value) : seg #[x, y] 0 #[a, b] = #[a, b] := rfl
theorem ones_two (k : IntKind) (x y : Int) : ones #[.int k x, .int k y] := by intro v hv; simp at hv; rcases hv with rfl | rfl <;> rfl
theorem ones_three (k : IntKind) (x y z : Int) : ones #[.int k x, .int k y, .int k z] := by intro v hv; simp at hv; rcases hv with rfl | rfl | rfl <;> rfl
attribute [simp, go_sem] ones_two ones_three
theorem get_seg (c d : Array Value) (o i : Nat) (h : o + d.size ≤ c.size) : (seg c o d)[i]? = if o ≤ i ∧ i < o + d.size then d[i - o]? else c[i]? := by
  unfold seg
  rw [List.getElem?_toArray]
  have h1 : (List.take o c.toList).length = o := by rw [List.length_take, Array.length_toList]; omega
  by_cases h2 : i < o
  · rw [if_neg (by omega), List.append_assoc, List.getElem?_append_left (by omega), List.getElem?_take, if_pos h2, Array.getElem?_toList]
  · by_cases h3 : i < o + d.size
    · rw [if_pos (by omega), List.append_assoc, List.getElem?_append_right (by omega), List.getElem?_append_left (by rw [h1, Array.length_toList]; omega), h1, Array.getElem?_toList]
    · rw [if_neg (by omega), List.getElem?_append_right (by rw [List.length_append, h1, Array.length_toList]; omega), List.getElem?_drop, List.length_append, h1, Array.length_toList, Array.getElem?_toList]
      congr 1
      omega
theorem seg_arr3 (N o : Nat) (k : IntKind) (F G : Nat → Int) (x y z : Int) (h : o + 3 ≤ N) (h0 : G o = x) (h1 : G (o + 1) = y) (h2 : G (o + 2) = z) (hG : ∀ i, i < N → i < o ∨ o + 3 ≤ i → G i = F i) : seg (arr N k F) o #[.int k x, .int k y, .int k z] = arr N k G := by
  apply Array.ext_getElem?
  intro i
  rw [get_seg _ _ _ _ (by simp; omega), get_arr, get_arr]
  simp only [List.size_toArray, List.length_cons, List.length_nil]
  by_cases hi : o ≤ i ∧ i < o + (0 + 1 + 1 + 1)
  · rw [if_pos hi, if_pos (show i < N by omega)]
    obtain ⟨j, rfl⟩ : ∃ j, i = o + j := ⟨i - o, by omega⟩
    have hj : j < 3 := by omega
    rw [Nat.add_sub_cancel_left]
    match j, hj with
    | 0, _ => simp [h0]
    | 1, _ => simp [h1]
    | 2, _ => simp [h2]
  · rw [if_neg hi]
    by_cases hN : i < N
    · rw [if_pos hN, if_pos hN, hG i hN (by omega)]
    · rw [if_neg hN, if_neg hN]
theorem seg_arr2 (N o : Nat) (k : IntKind) (F G : Nat → Int) (x y : Int) (h : o + 2 ≤ N) (h0 : G o = x) (h1 : G (o + 1) = y) (hG : ∀ i, i < N → i < o ∨ o + 2 ≤ i → G i = F i) : seg (arr N k F) o #[.int k x, .int k y] = arr N k G := by
  apply Array.ext_getElem?
  intro i
  rw [get_seg _ _ _ _ (by simp; omega), get_arr, get_arr]
  simp only [List.size_toArray, List.length_cons, List.length_nil]
  by_cases hi : o ≤ i ∧ i < o + (0 + 1 + 1)
  · rw [if_pos hi, if_pos (show i < N by omega)]
    obtain ⟨j, rfl⟩ : ∃ j, i = o + j := ⟨i - o, by omega⟩
    have hj : j < 2 := by omega
    rw [Nat.add_sub_cancel_left]
    match j, hj with
    | 0, _ => simp [h0]
    | 1, _ => simp [h1]
  · rw [if_neg hi]
    by_cases hN : i < N
    · rw [if_pos hN, if_pos hN, hG i hN (by omega)]
    · rw [if_neg hN, if_neg hN]
end Go.Arr
/- What loads, stores and zero values of the array and struct types come to; no condition. -/
namespace Go.Proofs.Ytpphckfalgapdaa
open Go.RowKit Go.Arr

theorem agg39 : AggTy Try.prog 39 144 := ⟨⟨_, Try.underlying39, rfl⟩, by kernel_rfl⟩
theorem zero39 (w : World) : (zeroValue 39).run Try.prog w = .ok (.agg (arr 144 .u8 fun _ => 0)) w := by kernel_rfl
theorem lv39 : loadVar 39 = aggLoad 39 := rfl
theorem sv39 : storeVar 39 = aggStore 39 := rfl
theorem ld39 (g off : Nat) (w : World) : (aggLoad 39 ⟨g, off, none⟩).run Try.prog w = segOr (obj w g) off 144 w ((aggLoadOld 39 ⟨g, off, none⟩).run Try.prog w) := run_aggLoad 39 144 _ Try.underlying39 rfl (by kernel_rfl) g off w
theorem st39 (g off : Nat) (v : Value) (w : World) : (aggStore 39 ⟨g, off, none⟩ v).run Try.prog w = segStoreOr (obj w g) g off 144 v w ((aggStoreOld 39 ⟨g, off, none⟩ v).run Try.prog w) := run_aggStore 39 144 (by kernel_rfl) g off v w
theorem agg41 : AggTy Try.prog 41 146 := ⟨⟨_, Try.underlying41, rfl⟩, by kernel_rfl⟩
theorem zero41 (w : World) : (zeroValue 41).run Try.prog w = .ok (.agg (pic 144 0 0 fun _ => 0)) w := by kernel_rfl
theorem lv41 : loadVar 41 = aggLoad 41 := rfl
theorem sv41 : storeVar 41 = aggStore 41 := rfl
theorem ld41 (g off : Nat) (w : World) : (aggLoad 41 ⟨g, off, none⟩).run Try.prog w = segOr (obj w g) off 146 w ((aggLoadOld 41 ⟨g, off, none⟩).run Try.prog w) := run_aggLoad 41 146 _ Try.underlying41 rfl (by kernel_rfl) g off w
theorem st41 (g off : Nat) (v : Value) (w : World) : (aggStore 41 ⟨g, off, none⟩ v).run Try.prog w = segStoreOr (obj w g) g off 146 v w ((aggStoreOld 41 ⟨g, off, none⟩ v).run Try.prog w) := run_aggStore 41 146 (by kernel_rfl) g off v w
theorem agg25 : AggTy Try.prog 25 3 := ⟨⟨_, Try.underlying25, rfl⟩, by kernel_rfl⟩
theorem lv25 : loadVar 25 = aggLoad 25 := rfl
theorem sv25 : storeVar 25 = aggStore 25 := rfl
theorem ld25 (g off : Nat) (w : World) : (aggLoad 25 ⟨g, off, none⟩).run Try.prog w = segOr (obj w g) off 3 w ((aggLoadOld 25 ⟨g, off, none⟩).run Try.prog w) := run_aggLoad 25 3 _ Try.underlying25 rfl (by kernel_rfl) g off w
theorem st25 (g off : Nat) (v : Value) (w : World) : (aggStore 25 ⟨g, off, none⟩ v).run Try.prog w = segStoreOr (obj w g) g off 3 v w ((aggStoreOld 25 ⟨g, off, none⟩ v).run Try.prog w) := run_aggStore 25 3 (by kernel_rfl) g off v w
theorem agg26 : AggTy Try.prog 26 3 := ⟨⟨_, Try.underlying26, rfl⟩, by kernel_rfl⟩
theorem lv26 : loadVar 26 = aggLoad 26 := rfl
theorem sv26 : storeVar 26 = aggStore 26 := rfl
theorem ld26 (g off : Nat) (w : World) : (aggLoad 26 ⟨g, off, none⟩).run Try.prog w = segOr (obj w g) off 3 w ((aggLoadOld 26 ⟨g, off, none⟩).run Try.prog w) := run_aggLoad 26 3 _ Try.underlying26 rfl (by kernel_rfl) g off w
theorem st26 (g off : Nat) (v : Value) (w : World) : (aggStore 26 ⟨g, off, none⟩ v).run Try.prog w = segStoreOr (obj w g) g off 3 v w ((aggStoreOld 26 ⟨g, off, none⟩ v).run Try.prog w) := run_aggStore 26 3 (by kernel_rfl) g off v w
theorem agg27 : AggTy Try.prog 27 432 := ⟨⟨_, Try.underlying27, rfl⟩, by kernel_rfl⟩
theorem zero27 (w : World) : (zeroValue 27).run Try.prog w = .ok (.agg (arr 432 .u8 fun _ => 0)) w := by kernel_rfl
theorem lv27 : loadVar 27 = aggLoad 27 := rfl
theorem sv27 : storeVar 27 = aggStore 27 := rfl
theorem ld27 (g off : Nat) (w : World) : (aggLoad 27 ⟨g, off, none⟩).run Try.prog w = segOr (obj w g) off 432 w ((aggLoadOld 27 ⟨g, off, none⟩).run Try.prog w) := run_aggLoad 27 432 _ Try.underlying27 rfl (by kernel_rfl) g off w
theorem st27 (g off : Nat) (v : Value) (w : World) : (aggStore 27 ⟨g, off, none⟩ v).run Try.prog w = segStoreOr (obj w g) g off 432 v w ((aggStoreOld 27 ⟨g, off, none⟩ v).run Try.prog w) := run_aggStore 27 432 (by kernel_rfl) g off v w
theorem agg29 : AggTy Try.prog 29 434 := ⟨⟨_, Try.underlying29, rfl⟩, by kernel_rfl⟩
theorem zero29 (w : World) : (zeroValue 29).run Try.prog w = .ok (.agg (pic 432 0 0 fun _ => 0)) w := by kernel_rfl
theorem lv29 : loadVar 29 = aggLoad 29 := rfl
theorem sv29 : storeVar 29 = aggStore 29 := rfl
theorem ld29 (g off : Nat) (w : World) : (aggLoad 29 ⟨g, off, none⟩).run Try.prog w = segOr (obj w g) off 434 w ((aggLoadOld 29 ⟨g, off, none⟩).run Try.prog w) := run_aggLoad 29 434 _ Try.underlying29 rfl (by kernel_rfl) g off w
theorem st29 (g off : Nat) (v : Value) (w : World) : (aggStore 29 ⟨g, off, none⟩ v).run Try.prog w = segStoreOr (obj w g) g off 434 v w ((aggStoreOld 29 ⟨g, off, none⟩ v).run Try.prog w) := run_aggStore 29 434 (by kernel_rfl) g off v w
theorem agg100 : AggTy Try.prog 100 3 := ⟨⟨_, Try.underlying100, rfl⟩, by kernel_rfl⟩
theorem mk32 (n : Nat) (hn : n ≤ 1048576) (w : World) : (Instr.makeSlice 32 (.int .i64 n) (.int .i64 n)).run Try.prog w = .ok (.slice (some ⟨w.heap.size, 0, none⟩) n n) (w.alloc (.cells (arr (n * 3) .u8 fun _ => 0) 26)) := mkrow Try.underlying32 (z := .agg #[.int .u8 0, .int .u8 0, .int .u8 0]) (bytes := 3) (by kernel_rfl) (made3 _) (by omega) n hn w
theorem mk31 (n : Nat) (hn : n ≤ 1048576) (w : World) : (Instr.makeSlice 31 (.int .i64 n) (.int .i64 n)).run Try.prog w = .ok (.slice (some ⟨w.heap.size, 0, none⟩) n n) (w.alloc (.cells (arr (n * 3) .u8 fun _ => 0) 26)) := mkrow Try.underlying31 (z := .agg #[.int .u8 0, .int .u8 0, .int .u8 0]) (bytes := 3) (by kernel_rfl) (made3 _) (by omega) n hn w
theorem mk35 (n : Nat) (hn : n ≤ 1048576) (w : World) : (Instr.makeSlice 35 (.int .i64 n) (.int .i64 n)).run Try.prog w = .ok (.slice (some ⟨w.heap.size, 0, none⟩) n n) (w.alloc (.cells (arr (n * 1) .i64 fun _ => 0) 2)) := mkrow Try.underlying35 (z := .int .i64 0) (bytes := 8) (by kernel_rfl) (made1 _) (by omega) n hn w
theorem size5 (w : World) : (sizeOf 5).run Try.prog w = .ok 1 w := by kernel_rfl
theorem eqt26_9999 (w : World) (x0 x1 x2 y0 y1 y2 : Int) : (Op.equalIn 9999 26 (.agg #[.int .u8 x0, .int .u8 x1, .int .u8 x2]) (.agg #[.int .u8 y0, .int .u8 y1, .int .u8 y2])).run Try.prog w = .ok (eq3 x0 x1 x2 y0 y1 y2) w := by
  rw [show (#[.int .u8 x0, .int .u8 x1, .int .u8 x2] : Array Value) = arr 3 .u8 (fun i => if i = 0 then x0 else if i = 1 then x1 else x2) from rfl, show (#[.int .u8 y0, .int .u8 y1, .int .u8 y2] : Array Value) = arr 3 .u8 (fun i => if i = 0 then y0 else if i = 1 then y1 else y2) from rfl]
  exact (run_equalIn_arr w 9997 26 5 Try.underlying26 Try.underlying5 size5).trans (by simp [eqUpto, eq3, List.range_succ, Bool.and_assoc])
theorem eqt26_10000 (w : World) (x0 x1 x2 y0 y1 y2 : Int) : (Op.equalIn 10000 26 (.agg #[.int .u8 x0, .int .u8 x1, .int .u8 x2]) (.agg #[.int .u8 y0, .int .u8 y1, .int .u8 y2])).run Try.prog w = .ok (eq3 x0 x1 x2 y0 y1 y2) w := by
  rw [show (#[.int .u8 x0, .int .u8 x1, .int .u8 x2] : Array Value) = arr 3 .u8 (fun i => if i = 0 then x0 else if i = 1 then x1 else x2) from rfl, show (#[.int .u8 y0, .int .u8 y1, .int .u8 y2] : Array Value) = arr 3 .u8 (fun i => if i = 0 then y0 else if i = 1 then y1 else y2) from rfl]
  exact (run_equalIn_arr w 9998 26 5 Try.underlying26 Try.underlying5 size5).trans (by simp [eqUpto, eq3, List.range_succ, Bool.and_assoc])
attribute [go_sem high] eqt26_9999 eqt26_10000
set_option maxHeartbeats 400000 in
theorem eql26 (w : World) (x0 x1 x2 y0 y1 y2 : Int) : (binOp .eql 26 (.agg #[.int .u8 x0, .int .u8 x1, .int .u8 x2]) (.agg #[.int .u8 y0, .int .u8 y1, .int .u8 y2])).run Try.prog w = .ok (.bool (eq3 x0 x1 x2 y0 y1 y2)) w := by
  go_simp
  try unfold eq3
  try (by_cases h0 : x0 = y0 <;> by_cases h1 : x1 = y1 <;> by_cases h2 : x2 = y2 <;> simp [h0, h1, h2])
set_option maxHeartbeats 400000 in
theorem neq26 (w : World) (x0 x1 x2 y0 y1 y2 : Int) : (binOp .neq 26 (.agg #[.int .u8 x0, .int .u8 x1, .int .u8 x2]) (.agg #[.int .u8 y0, .int .u8 y1, .int .u8 y2])).run Try.prog w = .ok (.bool (!eq3 x0 x1 x2 y0 y1 y2)) w := by
  go_simp
  try unfold eq3
  try (by_cases h0 : x0 = y0 <;> by_cases h1 : x1 = y1 <;> by_cases h2 : x2 = y2 <;> simp [h0, h1, h2])
theorem eq39 (w : World) (f g : Nat → Int) : (Op.equalIn 9999 39 (.agg (arr 144 .u8 f)) (.agg (arr 144 .u8 g))).run Try.prog w = .ok (eqUpto 144 f g) w := run_equalIn_arr w 9997 39 5 Try.underlying39 Try.underlying5 size5
theorem ix39 (f : Nat → Int) (ik : IntKind) (i : Int) (h0 : 0 ≤ i) (h1 : i < 144) (w : World) : (Instr.index 39 (.agg (arr 144 .u8 f)) (.int ik i)).run Try.prog w = .ok (.int .u8 (f i.toNat)) w := run_index_arr (n := 144) 39 5 Try.underlying39 Try.underlying5 size5 ik i h0 (by omega) w
attribute [go_sem ↓] zero39 lv39 sv39 zero41 lv41 sv41 lv25 sv25 lv26 sv26 zero27 lv27 sv27 zero29 lv29 sv29
attribute [go_sem] ld39 st39 ld41 st41 ld25 st25 ld26 st26 ld27 st27 ld29 st29 mk32 mk31 mk35
attribute [go_sem high] eql26 neq26 eq39 ix39
set_option maxHeartbeats 400000 in
set_option maxRecDepth 100000 in
theorem eql41 (w : World) (a b c d : Int) (f g : Nat → Int) : (binOp .eql 41 (.agg (pic 144 a b f)) (.agg (pic 144 c d g))).run Try.prog w = .ok (.bool (eqPic 144 a b f c d g)) w := by
  go_simp
  unfold eqPic
  by_cases h1 : a = c <;> by_cases h2 : b = d <;> cases eqUpto 144 f g <;> simp [h1, h2]
set_option maxHeartbeats 400000 in
set_option maxRecDepth 100000 in
theorem neq41 (w : World) (a b c d : Int) (f g : Nat → Int) : (binOp .neq 41 (.agg (pic 144 a b f)) (.agg (pic 144 c d g))).run Try.prog w = .ok (.bool (!eqPic 144 a b f c d g)) w := by
  go_simp
  unfold eqPic
  by_cases h1 : a = c <;> by_cases h2 : b = d <;> cases eqUpto 144 f g <;> simp [h1, h2]
attribute [go_sem high] eql41 neq41
end Go.Proofs.Ytpphckfalgapdaa
/- Bounds, places and codes: what the small functions of the program and of the reference return; no condition. -/
set_option linter.unusedVariables false
namespace Go.Proofs.Ytpphckfalgapdaa
open Go.BigFrame
open Go.RowKit Go.Arr
def inB (n lo hi : Int) : Bool := decide (lo ≤ n ∧ n ≤ hi)
theorem inB_t {n lo hi : Int} : inB n lo hi = true ↔ lo ≤ n ∧ n ≤ hi := by unfold inB; simp
theorem inB_f {n lo hi : Int} : inB n lo hi = false ↔ n < lo ∨ hi < n := by unfold inB; simp; omega
theorem ret_b {a b : Bool} (h : a = b) : Ending.returned (.bool a) = .returned (.bool b) := by rw [h]
set_option maxHeartbeats 400000 in
theorem l00In_any (n lo hi : Int) (w : World) : Calls Try.prog 47 #[.int .i64 n, .int .i64 lo, .int .i64 hi] w fun e w' => e = .returned (.bool (inB n lo hi)) ∧ w = w' := by
  by_cases h : lo ≤ n
  · go_enter Try.func47, Try.ntmps47
    go_wp2
    go_ret
    exact ⟨ret_b (by simp [inB, h]), rfl⟩
  · go_enter Try.func47, Try.ntmps47
    go_wp2
    go_ret
    exact ⟨ret_b (by simp [inB]; omega), rfl⟩
set_option maxHeartbeats 400000 in
theorem within_any (n lo hi : Int) (w : World) : Calls Try.prog 28 #[.int .i64 n, .int .i64 lo, .int .i64 hi] w fun e w' => e = .returned (.bool (inB n lo hi)) ∧ w = w' := by
  by_cases h : lo ≤ n
  · go_enter Try.func28, Try.ntmps28
    go_wp2
    go_ret
    exact ⟨ret_b (by simp [inB, h]), rfl⟩
  · go_enter Try.func28, Try.ntmps28
    go_wp2
    go_ret
    exact ⟨ret_b (by simp [inB]; omega), rfl⟩
def isSizeB (a b : Int) : Bool := inB a 1 12 && inB b 1 12
set_option maxHeartbeats 400000 in
theorem isSize_any (a b : Int) (w : World) : Calls Try.prog 64 #[.int .i64 a, .int .i64 b] w fun e w' => e = .returned (.bool (isSizeB a b)) ∧ w = w' := by
  cases h : inB a 1 12
  all_goals
    go_enter Try.func64, Try.ntmps64
    go_wp2_with (go_at_call 28; refine (within_any _ _ _ _).mono ?_; rintro e w' ⟨rfl, rfl⟩)
    go_ret
    exact ⟨ret_b (by simp [isSizeB, h]), rfl⟩
def isCellB (x y a b : Int) : Bool := inB x 0 (a - 1) && inB y 0 (b - 1)
set_option maxHeartbeats 400000 in
theorem isCell_any (x y a b : Int) (ha : -128 ≤ a ∧ a ≤ 127) (hb : -128 ≤ b ∧ b ≤ 127) (w : World) : Calls Try.prog 60 #[.int .i64 x, .int .i64 y, .int .i8 a, .int .i8 b] w fun e w' => e = .returned (.bool (isCellB x y a b)) ∧ w = w' := by
  cases h : inB x 0 (a - 1)
  all_goals
    go_enter Try.func60, Try.ntmps60
    go_wp2_with (go_at_call 28; refine (within_any _ _ _ _).mono ?_; rintro e w' ⟨rfl, rfl⟩)
    go_ret
    exact ⟨ret_b (by simp [isCellB, h]), rfl⟩
def codeB (a b : Bool) : Int := if a = false then 1 else if b = false then 2 else 0
set_option maxHeartbeats 400000 in
theorem codeOf_any (a b : Bool) (w : World) : Calls Try.prog 25 #[.bool a, .bool b] w fun e w' => e = .returned (.int .i64 (codeB a b)) ∧ w = w' := by
  cases a <;> cases b
  all_goals
    go_enter Try.func25, Try.ntmps25
    go_wp2
    go_ret
    exact ⟨rfl, rfl⟩
end Go.Proofs.Ytpphckfalgapdaa
/- What one block's turning leaves; no condition. -/
set_option linter.unusedVariables false
namespace Go.Arr
open Go.RowKit
theorem Sl.grown {W w : World} {v : Value} {n m : Nat} {k : IntKind} {f : Nat → Int} {r : Option Nat} (h : Sl W v n m k f) (hg : W.grownBy w r) (hr : ∀ a c, v = .slice (some a) n c → some a.block ≠ r) : Sl w v n m k f := by
  obtain ⟨a, c, rfl, h⟩ := h
  refine ⟨a, c, rfl, fun hp => ?_⟩
  obtain ⟨g, off, cur, t, fr, rfl, ho, hc⟩ := h hp
  exact ⟨g, off, cur, t, fr, rfl, (grown_obj hg g (obj_lt ho) (hr _ _ rfl)).trans ho, hc⟩
theorem grown_new2 {W w w' : World} {r : Option Nat} (h : W.grownBy w r) (hn : New w w') : W.grownBy w' r :=
  ⟨hn.os.trans h.os, hn.tape.trans h.tape, hn.output.trans h.output, Nat.le_trans h.size hn.size, fun k hk hr => (hn.block k (Nat.lt_of_lt_of_le hk h.size)).trans (h.block k hk hr)⟩
theorem new_grown {W w : World} {r : Option Nat} (hn : New W w) : W.grownBy w r := ⟨hn.os, hn.tape, hn.output, hn.size, fun k hk _ => hn.block k hk⟩
theorem setCell_grown {W w : World} {g : Nat} (h : W.grownBy w (some g)) (o : Nat) (v : Value) : W.grownBy (w.setCell ⟨g, o, none⟩ v) (some g) :=
  ⟨h.os, h.tape, h.output, by simpa [World.setCell] using h.size, fun k hk hr => (obj_setCell_other _ _ _ _ _ fun e => hr (by rw [e])).trans (h.block k hk hr)⟩
theorem grown_step {W w : World} {g : Nat} (h : W.grownBy w (some g)) {b : Nat} (hb : b < W.heap.size) (hne : b ≠ g) : obj w b = obj W b := h.block b hb fun e => hne (Option.some.inj e)
theorem grown_over {W w w' : World} {g : Nat} {r : Option Nat} (h : W.grownBy w (some g)) (hg : w.grownBy w' r) (hr : ∀ q, r = some q → W.heap.size ≤ q ∨ q = g) : W.grownBy w' (some g) :=
  ⟨hg.os.trans h.os, hg.tape.trans h.tape, hg.output.trans h.output, Nat.le_trans h.size hg.size, fun k hk hne => (hg.block k (Nat.lt_of_lt_of_le hk h.size) fun e => (hr k e.symm).elim (fun h1 => absurd h1 (by omega)) (fun h1 => hne (by rw [h1]))).trans (h.block k hk hne)⟩
theorem grown_refl (W : World) (r : Option Nat) : W.grownBy W r := ⟨rfl, rfl, rfl, Nat.le_refl _, fun _ _ _ => rfl⟩
theorem setRow_grown {W w : World} {g : Nat} (h : W.grownBy w (some g)) (c : Array Value) : W.grownBy (w.setRow g c) (some g) :=
  ⟨h.os, h.tape, h.output, by simpa using h.size, fun k hk hr => (setRow_other w g k c fun e => hr (by rw [e])).trans (h.block k hk hr)⟩
end Go.Arr
/- The source of what is drawn: its steps; no condition. -/
set_option linter.unusedVariables false
namespace Go.Proofs.Ytpphckfalgapdaa
open Go.BigFrame
open Go.RowKit Go.Arr
/-- a source that has been asked so often at most -/
def Src (W : World) (g : Nat) (ad : Option Addr) (n c : Nat) (f : Nat → Int) (A : Nat) : Prop :=
  (∃ (at_ : Nat) (sd : Int), obj W g = some (.cells #[.slice ad n c, .int .i64 at_, .int .u64 sd] 93) ∧ at_ ≤ A ∧ 0 ≤ sd ∧ sd ≤ 18446744073709551615) ∧
  Sl W (.slice ad n c) n 1 .u8 f ∧ ∀ a, ad = some a → a.block ≠ g
theorem Src.more {W : World} {g : Nat} {ad : Option Addr} {n c A B : Nat} {f : Nat → Int} (h : Src W g ad n c f A) (hB : A ≤ B) : Src W g ad n c f B := by
  obtain ⟨⟨t, s, h1, h2, h3⟩, h4⟩ := h
  exact ⟨⟨t, s, h1, by omega, h3⟩, h4⟩
theorem Src.lt {W : World} {g : Nat} {ad : Option Addr} {n c A : Nat} {f : Nat → Int} (h : Src W g ad n c f A) : g < W.heap.size := by
  obtain ⟨⟨t, s, h1, _⟩, _⟩ := h
  exact obj_lt h1
theorem Src.new {W w : World} {g : Nat} {ad : Option Addr} {n c A : Nat} {f : Nat → Int} (h : Src W g ad n c f A) (hn : New W w) : Src w g ad n c f A := by
  obtain ⟨⟨t, s, h1, h2, h3⟩, h4, h5⟩ := h
  exact ⟨⟨t, s, (hn.objs _ (obj_lt h1)).trans h1, h2, h3⟩, h4.new hn, h5⟩
theorem elBytes {W : World} {a : Option Addr} {n c : Nat} {f : Nat → Int} (h : Sl W (.slice a n c) n 1 .u8 f) (hn : 0 < n) : ∃ g off cur t fr, a = some ⟨g, off, none⟩ ∧ obj W g = some (.cells cur t fr) ∧ ∀ j, j < n → ∃ l : off + j < cur.size, cur[off + j] = .int .u8 (f j) := by
  obtain ⟨g, off, cur, t, fr, rfl, ho, hc⟩ := h.at hn
  exact ⟨g, off, cur, t, fr, rfl, ho, fun j hj => Array.getElem?_eq_some_iff.1 (hc j (by omega))⟩
theorem drewN_grown {W w : World} {r : Option Nat} (h : W.grownBy w r) (n : Nat) : W.grownBy (w.drewN n) r := grown_new2 h ((New.refl _).drewN n)
/-- a number as the source's own kind -/
def U64 (x : Int) : Prop := 0 ≤ x ∧ x ≤ 18446744073709551615
theorem and255 (x : Int) (h0 : 0 ≤ x) (h1 : x < 9223372036854775808) : bits .and .u64 x 255 = x % 256 := by
  have h := bits_mask .u64 63 (by decide) Go.ConcN.wraps_u64_63 8 (by decide) x (by omega) (by omega)
  have e : ((2 : Int) ^ 8 - 1) = 255 := by decide
  have e2 : ((2 : Int) ^ 8) = 256 := by decide
  rw [e, e2] at h
  exact h
theorem low8 (s : Int) (h : U64 s) : 0 ≤ wrap64 (bits .and .u64 (s / 1099511627776) 255) ∧ wrap64 (bits .and .u64 (s / 1099511627776) 255) ≤ 255 := by
  obtain ⟨h0, h1⟩ := h
  rw [and255 _ (by omega) (by omega)]
  rw [IntWalk.wrap64_in _ ⟨by omega, by omega⟩]
  omega
theorem u64_wrap (x : Int) : U64 (IntKind.u64.wrap x) := by
  rw [IntKind.wrap_u64]
  unfold U64
  omega
theorem src_step {W : World} {g : Nat} {ad : Option Addr} {n c A t : Nat} {f : Nat → Int} {s sd : Int} (a b : Nat) (ho : obj W g = some (.cells #[.slice ad n c, .int .i64 t, .int .u64 sd] 93)) (ht : t ≤ A) (hs : U64 s) (hsl : Sl W (.slice ad n c) n 1 .u8 f) (hne : ∀ a, ad = some a → a.block ≠ g) :
    Src ((((W.drewN a).setCell ⟨g, 1, none⟩ (.int .i64 ((t : Int) + 1))).setCell ⟨g, 2, none⟩ (.int .u64 s)).drewN b) g ad n c f (A + 1) ∧ W.grownBy ((((W.drewN a).setCell ⟨g, 1, none⟩ (.int .i64 ((t : Int) + 1))).setCell ⟨g, 2, none⟩ (.int .u64 s)).drewN b) (some g) := by
  have hg : W.grownBy ((((W.drewN a).setCell ⟨g, 1, none⟩ (.int .i64 ((t : Int) + 1))).setCell ⟨g, 2, none⟩ (.int .u64 s)).drewN b) (some g) := drewN_grown (setCell_grown (setCell_grown (drewN_grown (grown_refl _ _) _) _ _) _ _) _
  refine ⟨⟨⟨t + 1, s, ?_, by omega, hs.1, hs.2⟩, hsl.grown hg fun a' c' e => ?_, hne⟩, hg⟩
  · have e0 : obj (W.drewN a) g = _ := ho
    show obj (((W.drewN a).setCell ⟨g, 1, none⟩ (.int .i64 ((t : Int) + 1))).setCell ⟨g, 2, none⟩ (.int .u64 s)) g = _
    rw [obj_setCell_same, obj_setCell_same, e0]
    rfl
  · simp only [Value.slice.injEq] at e
    exact fun e2 => hne a' e.1 (Option.some.inj e2)
set_option maxHeartbeats 4000000 in
set_option maxRecDepth 100000 in
theorem next_any (g : Nat) (ad : Option Addr) (n c A : Nat) (f : Nat → Int) (hA : A ≤ 1000000) (hn : n ≤ 1000000) (hf : ∀ i, 0 ≤ f i ∧ f i ≤ 255) (W : World) (hs : Src W g ad n c f A) :
    Calls Try.prog 80 #[.pointer (some ⟨g, 0, none⟩)] W fun e w' => ∃ x : Int, e = .returned (.int .i64 x) ∧ (0 ≤ x ∧ x ≤ 255) ∧ Src w' g ad n c f (A + 1) ∧ W.grownBy w' (some g) := by
  obtain ⟨⟨t, sd, ho, ht, hsd⟩, hsl, hne⟩ := hs
  have hg := obj_lt ho
  have hneh := hide hne
  have hsl' := hide hsl
  clear hne
  by_cases hlt : t < n
  · obtain ⟨gq, offq, curq, tq, frq, rfl, oq, helq⟩ := elBytes hsl (by omega)
    obtain ⟨lq, eq⟩ := helq t hlt
    have hne' := hneh.out _ rfl
    dsimp only at hne'
    have hft := hf t
    have hqg := obj_lt oq
    clear hsl helq
    go_enter Try.func80, Try.ntmps80
    go_wp2_with (fail)
    go_quiet (fail)
    go_wp2_with (fail)
    go_quiet (fail)
    go_wp2_with (fail)
    go_quiet (fail)
    go_wp2_with (fail)
    go_ret
    exact ⟨_, rfl, hft, src_step _ _ ho ht (u64_wrap _) hsl'.out hneh.out⟩
  · clear hsl
    go_enter Try.func80, Try.ntmps80
    go_wp2_with (fail)
    go_quiet (fail)
    go_wp2_with (fail)
    go_quiet (fail)
    go_wp2_with (fail)
    go_ret
    exact ⟨_, rfl, low8 _ (u64_wrap _), src_step _ _ ho ht (u64_wrap _) hsl'.out hneh.out⟩
set_option maxHeartbeats 2000000 in
set_option maxRecDepth 100000 in
theorem pick_any (g : Nat) (ad : Option Addr) (n c A : Nat) (f : Nat → Int) (m : Int) (hm : m ≤ 100000) (hA : A ≤ 900000) (hn : n ≤ 1000000) (hf : ∀ i, 0 ≤ f i ∧ f i ≤ 255) (W : World) (hs : Src W g ad n c f A) :
    Calls Try.prog 61 #[.pointer (some ⟨g, 0, none⟩), .int .i64 m] W fun e w' => ∃ x : Int, e = .returned (.int .i64 x) ∧ (0 ≤ x ∧ (x < m ∨ x = 0)) ∧ Src w' g ad n c f (A + 2) ∧ W.grownBy w' (some g) := by
  by_cases h1 : m ≤ 1
  · go_enter Try.func61, Try.ntmps61
    go_wp2_with (fail)
    go_ret
    exact ⟨_, rfl, ⟨by omega, Or.inr rfl⟩, hs.more (by omega), grown_refl _ _⟩
  by_cases h2 : 200 < m
  · go_enter Try.func61, Try.ntmps61
    go_wp2_with (fail)
    refine (next_any g ad n c A f (by omega) hn hf _ hs).mono ?_
    rintro e w1 ⟨x, rfl, hx, hs1, hg1⟩
    go_wp2_with (fail)
    refine (next_any g ad n c (A + 1) f (by omega) hn hf _ hs1).mono ?_
    rintro e w2 ⟨y, rfl, hy, hs2, hg2⟩
    go_wp2_with (fail)
    go_ret
    refine ⟨_, rfl, ?_, hs2, hg1.trans hg2⟩
    have h3 := Int.emod_nonneg (x * 256 + y) (by omega : m ≠ 0)
    have h4 := Int.emod_lt_of_pos (x * 256 + y) (by omega : 0 < m)
    exact ⟨h3, Or.inl h4⟩
  · go_enter Try.func61, Try.ntmps61
    go_wp2_with (fail)
    refine (next_any g ad n c A f (by omega) hn hf _ hs).mono ?_
    rintro e w1 ⟨x, rfl, hx, hs1, hg1⟩
    go_wp2_with (fail)
    go_ret
    refine ⟨_, rfl, ?_, hs1.more (by omega), hg1⟩
    have h3 := Int.emod_nonneg x (by omega : m ≠ 0)
    have h4 := Int.emod_lt_of_pos x (by omega : 0 < m)
    exact ⟨h3, Or.inl h4⟩
end Go.Proofs.Ytpphckfalgapdaa
