/- Rows of numbers behind slices that come in: opened, read, their loads; no condition. -/
import Derived.Test.YtphjhegaplochaaGreatDoorU1
import Derived.ChangeSlices
import Derived.Laws.MakeOwn
import Derived.Test.YtphjhegaplochaaGreatDoorRows
import Derived.Laws.BytesString
import Derived.Lib.Builder
import Derived.Lib.UnsafeStr
import Derived.Lib.Strings
import Derived.Lib.Walk
import Derived.WalkKit
import Derived.Laws.Externs
set_option linter.unusedVariables false
namespace Go.Arr
open Go.ChangeShapes Go.WideShapes Go.ChangeAt Go.RowKit
/-- n elements of m numbers each behind a slice -/
def Sl (W : World) (v : Value) (n m : Nat) (k : IntKind) (f : Nat → Int) : Prop :=
  ∃ a cap, v = .slice a n cap ∧ (0 < n → ∃ g off cur t fr, a = some ⟨g, off, none⟩ ∧ obj W g = some (.cells cur t fr) ∧ ∀ i, i < n * m → cur[off + i]? = some (.int k (f i)))
section
variable {W W' : World} {v : Value} {n m : Nat} {k : IntKind} {f f' : Nat → Int}
theorem Sl.new (h : Sl W v n m k f) (hn : New W W') : Sl W' v n m k f := by
  obtain ⟨a, cap, rfl, h⟩ := h
  refine ⟨a, cap, rfl, fun hp => ?_⟩
  obtain ⟨g, off, cur, t, fr, rfl, ho, hc⟩ := h hp
  exact ⟨g, off, cur, t, fr, rfl, (hn.objs _ (obj_lt ho)).trans ho, hc⟩
theorem Sl.at {a : Option Addr} {c : Nat} (h : Sl W (.slice a n c) n m k f) (hp : 0 < n) : ∃ g off cur t fr, a = some ⟨g, off, none⟩ ∧ obj W g = some (.cells cur t fr) ∧ ∀ i, i < n * m → cur[off + i]? = some (.int k (f i)) := by
  obtain ⟨a', c', h1, h2⟩ := h
  simp only [Value.slice.injEq] at h1
  rw [h1.1]
  exact h2 hp
theorem Sl.of {g cap off : Nat} {cur : Array Value} {t : TypeId} {fr : Nat × Nat} (h : obj W g = some (.cells cur t fr)) (hf : ∀ i, i < n * m → cur[off + i]? = some (.int k (f i))) : Sl W (.slice (some ⟨g, off, none⟩) n cap) n m k f :=
  ⟨_, cap, rfl, fun _ => ⟨g, off, cur, t, fr, rfl, h, hf⟩⟩
theorem Sl.arr {g cap N : Nat} {t : TypeId} {fr : Nat × Nat} (h : obj W g = some (.cells (arr N k f) t fr)) (hN : N = n * m) : Sl W (.slice (some ⟨g, 0, none⟩) n cap) n m k f :=
  Sl.of h fun i hi => by rw [Nat.zero_add, get_arr, if_pos (by omega)]
theorem Sl.congr (h : Sl W v n m k f) (hf : ∀ i, i < n * m → f i = f' i) : Sl W v n m k f' := by
  obtain ⟨a, cap, rfl, h⟩ := h
  refine ⟨a, cap, rfl, fun hp => ?_⟩
  obtain ⟨g, off, cur, t, fr, rfl, ho, hc⟩ := h hp
  exact ⟨g, off, cur, t, fr, rfl, ho, fun i hi => by rw [hc i hi, hf i hi]⟩
end
theorem ext2 {c : Array Value} {o p : Nat} {x y : Value} (h0 : c[o]? = some x) (h1 : c[o + 1]? = some y) (hp : p = o + 2) : c.extract o p = #[x, y] := by
  subst hp
  obtain ⟨l1, _⟩ := Array.getElem?_eq_some_iff.1 h1
  apply Array.ext_getElem?
  intro j
  rw [Array.getElem?_extract]
  match j with
  | 0 => rw [if_pos (by omega)]; simpa using h0
  | 1 => rw [if_pos (by omega)]; simpa using h1
  | j + 2 => rw [if_neg (by omega)]; simp
theorem ext3 {c : Array Value} {o p : Nat} {x y z : Value} (h0 : c[o]? = some x) (h1 : c[o + 1]? = some y) (h2 : c[o + 2]? = some z) (hp : p = o + 3) : c.extract o p = #[x, y, z] := by
  subst hp
  obtain ⟨l1, _⟩ := Array.getElem?_eq_some_iff.1 h2
  apply Array.ext_getElem?
  intro j
  rw [Array.getElem?_extract]
  match j with
  | 0 => rw [if_pos (by omega)]; simpa using h0
  | 1 => rw [if_pos (by omega)]; simpa using h1
  | 2 => rw [if_pos (by omega)]; simpa using h2
  | j + 3 => rw [if_neg (by omega)]; simp
section
variable {H : Type} {enc : TypeId × Value → H} {P : Program} {w : World} {base : Nat} {spare : Nat → Bool} {held : Bool} {t e : TypeId} {k : IntKind} {m : Nat}
/-- a struct of two numbers -/
theorem ints_pair {n0 n1 : Field} {s : TypeId} {fuel : Nat} {cs : List Value} {x : DataW H × List MemPlace} (hs : P.underlying s = some (.struct #[n0, n1])) (h0 : n0.type = e ∧ n0.offset = 0) (h1 : n1.type = e ∧ n1.offset = 1) (he : P.underlying e = some (.int k)) (hce : P.cellsOf e = 1) (hc : P.cellsOf s = 2)
    (h : DataW.trod enc P w base spare held fuel s cs = some x) : AllInts k cs := by
  obtain ⟨xs, nn, _, hx, hcl, hlen, hg⟩ := DataW.trod_struct hs h
  rw [hc] at hcl
  match cs, hcl with
  | [c0, c1], hcl =>
    have hxl : xs.length = 2 := by simpa using hlen
    match xs, hxl with
    | [y0, y1], _ =>
      have g0 := hg 0 n0 rfl
      have g1 := hg 1 n1 rfl
      rw [h0.1, h0.2, hce] at g0
      rw [h1.1, h1.2, hce] at g1
      simp only [List.drop_zero, List.take_succ_cons, List.take_zero, List.drop_succ_cons, List.getElem?_cons_zero, List.getElem?_cons_succ] at g0 g1
      obtain ⟨a, ea, _, wa⟩ := DataW.trod_int he g0
      obtain ⟨b, eb, _, wb⟩ := DataW.trod_int he g1
      simp only [List.cons.injEq, and_true] at ea eb
      subst ea eb
      intro j v hv
      match j, hv with
      | 0, hv => exact ⟨a, by simpa using hv.symm, wa⟩
      | 1, hv => exact ⟨b, by simpa using hv.symm, wb⟩
      | j + 2, hv => simp at hv
theorem open_sl {r : Reach} {b0 : Nat} {v : Value} {d : DataW H} {p : List MemPlace} (ht : P.underlying t = some (.slice e)) (hm : P.cellsOf e = m) (hm0 : 0 < m)
    (hel : ∀ (fuel : Nat) (cs : List Value) (x : DataW H × List MemPlace), DataW.trod enc P w base spare held fuel e cs = some x → AllInts k cs)
    (hv : Value.okWide P w r b0 t v) (h : DataW.Trod enc P w base spare held t v d p) :
    ∃ (n : Nat) (f : Nat → Int), Sl w v n m k f ∧ (∀ i, (Lit.int k (f i)).wf = true) ∧ n ≤ maxLen := by
  have w0 : (Lit.int k 0).wf = true := by cases k <;> decide
  obtain ⟨a0, len, cap, rfl⟩ := okWide_slice ht hv
  obtain ⟨fuel, hf⟩ := h
  rcases DataW.trod_slice ht hf with ⟨hcs, _⟩ | ⟨a, len', cap', elems, rest, n, rfl, hcs, _, _, hl, hmx, hlen, hg, _, _⟩
  · simp [Value.cells] at hcs
    obtain ⟨rfl, rfl, rfl⟩ := hcs
    exact ⟨0, fun _ => 0, ⟨none, 0, rfl, fun h => absurd h (by omega)⟩, fun _ => w0, by omega⟩
  simp [Value.cells] at hcs
  obtain ⟨rfl, rfl, rfl⟩ := hcs
  rw [hm] at hg
  let F : Nat → Int := fun i => if i < len * m then (match w.cell? (a.add i) with | some (.int _ z) => z | _ => 0) else 0
  have key : ∀ i, i < len * m → w.cell? (a.add i) = some (.int k (F i)) ∧ (Lit.int k (F i)).wf = true := by
    intro i hi
    have hq : i / m < len := (Nat.div_lt_iff_lt_mul hm0).2 hi
    have hx := hg (i / m) hq
    rw [List.getElem?_eq_getElem (show i / m < elems.length by omega)] at hx
    obtain ⟨cs', h1, h2⟩ := Option.bind_eq_some_iff.1 hx
    obtain ⟨_, hcl, hcc⟩ := World.cells?_some h1
    have hr : i % m < m := Nat.mod_lt _ hm0
    have h3 := hcc (i % m) hr
    have e1 : (a.add (i / m * m)).add (i % m) = a.add i := by
      have e2 : i / m * m + i % m = i := by rw [Nat.mul_comm]; exact Nat.div_add_mod i m
      obtain ⟨b, o, s⟩ := a
      unfold Addr.add
      by_cases z1 : i / m * m = 0 <;> by_cases z2 : i % m = 0 <;> simp [z1, z2] <;> (try omega)
      all_goals (split <;> simp_all <;> omega)
    rw [e1, List.getElem?_eq_getElem (show i % m < cs'.length by omega)] at h3
    obtain ⟨z, hz, hw⟩ := hel _ _ _ h2 (i % m) _ (List.getElem?_eq_getElem (show i % m < cs'.length by omega))
    rw [hz] at h3
    have hF : F i = z := by simp only [F, if_pos hi, h3]
    rw [hF]
    exact ⟨h3, hw⟩
  refine ⟨len, F, ⟨some a, cap, rfl, fun hp => ?_⟩, fun i => ?_, by omega⟩
  · have hp0 : 0 < len * m := Nat.mul_pos hp hm0
    have h0 := (key 0 hp0).1
    obtain ⟨b, off, spot⟩ := a
    have hs : spot = none := by simpa [Addr.add] using World.cell?_spot h0
    subst hs
    have hob : ∃ cur t fr, obj w b = some (.cells cur t fr) := by
      rw [add_plain, cell_obj] at h0
      unfold cellOf at h0
      split at h0
      · rename_i cur t fr ho
        exact ⟨cur, t, fr, ho⟩
      · cases h0
    obtain ⟨cur, t, fr, ho⟩ := hob
    refine ⟨b, off, cur, t, fr, rfl, ho, fun i hi => ?_⟩
    have h1 := (key i hi).1
    rw [add_plain, cell_obj, ho, cellOf_cells] at h1
    exact h1
  · by_cases hi : i < len * m
    · exact (key i hi).2
    · have : F i = 0 := by simp only [F, if_neg hi]
      rw [this]; exact w0
end
theorem madeCells_arr {z : Array Value} {k : IntKind} (n : Nat) (hz : ∀ i, z[i % z.size]! = .int k 0) : madeCells z n = arr n k fun _ => 0 := by
  apply Array.ext_getElem?
  intro j
  rw [get_arr]
  by_cases hj : j < n
  · rw [if_pos hj]; simp [madeCells, hj, hz]
  · rw [if_neg hj]; simp [madeCells, hj]
theorem made1 (k : IntKind) : ∀ i, (Value.int k 0).cells[i % (Value.int k 0).cells.size]! = .int k 0 := by
  intro i
  simp [Value.cells, Nat.mod_one]
theorem made2 (k : IntKind) : ∀ i, (Value.agg #[.int k 0, .int k 0]).cells[i % (Value.agg #[.int k 0, .int k 0]).cells.size]! = .int k 0 := by
  intro i
  simp only [Value.cells, List.size_toArray, List.length_cons, List.length_nil]
  have h : i % 2 < 2 := Nat.mod_lt _ (by omega)
  generalize i % 2 = j at h
  match j, h with
  | 0, _ => rfl
  | 1, _ => rfl
theorem made3 (k : IntKind) : ∀ i, (Value.agg #[.int k 0, .int k 0, .int k 0]).cells[i % (Value.agg #[.int k 0, .int k 0, .int k 0]).cells.size]! = .int k 0 := by
  intro i
  simp only [Value.cells, List.size_toArray, List.length_cons, List.length_nil]
  have h : i % 3 < 3 := Nat.mod_lt _ (by omega)
  generalize i % 3 = j at h
  match j, h with
  | 0, _ => rfl
  | 1, _ => rfl
  | 2, _ => rfl
theorem mkrow {P : Program} {t e : TypeId} {z : Value} {k : IntKind} {m bytes : Nat} (ht : P.underlying t = some (.slice e)) (hi : (P.info? e).map (fun i => (i.zero, i.size, i.bytes)) = some (some z, m, bytes)) (hz : ∀ i, z.cells[i % z.cells.size]! = .int k 0) (hb : bytes ≤ 1000) (n : Nat) (hn : n ≤ 1048576) (w : World) :
    (Instr.makeSlice t (.int .i64 n) (.int .i64 n)).run P w = .ok (.slice (some ⟨w.heap.size, 0, none⟩) n n) (w.alloc (.cells (arr (n * m) k fun _ => 0) e)) := by
  obtain ⟨i, h1, h2⟩ := Option.map_eq_some_iff.1 hi
  simp only [Prod.mk.injEq] at h2
  obtain ⟨hz0, hs, hbb⟩ := h2
  have h3 : (bytes : Int) * (n : Int) ≤ 1000 * 1048576 := Int.mul_le_mul (by omega) (by omega) (by omega) (by omega)
  have hr := run_make (P := P) w t e i z ht h1 hz0 .i64 .i64 n n (by omega) (Int.le_refl _) (by rw [hbb]; omega) (by omega)
  simp only [Int.toNat_natCast, hs] at hr
  rw [hr, madeCells_arr _ hz]
/-- two tones, two corners alike -/
def eq3 (a b c d e f : Int) : Bool := a == d && b == e && c == f
def eq2 (a b c d : Int) : Bool := a == c && b == d
theorem eq3_t {a b c d e f : Int} : eq3 a b c d e f = true ↔ a = d ∧ b = e ∧ c = f := by simp [eq3, and_assoc]
theorem eq2_t {a b c d : Int} : eq2 a b c d = true ↔ a = c ∧ b = d := by simp [eq2]
@[simp, go_sem] theorem ext_all3 (x y z : Value) : (#[x, y, z] : Array Value).extract 0 3 = #[x, y, z] := rfl
@[simp, go_sem] theorem ext_all2 (x y : Value) : (#[x, y] : Array Value).extract 0 2 = #[x, y] := rfl
@[simp, go_sem] theorem seg_all3 (x y z a b c : Value) : seg #[x, y, z] 0 #[a, b, c] = #[a, b, c] := rfl
@[simp, go_sem] theorem seg_all2 (x y a b : Value) : seg #[x, y] 0 #[a, b] = #[a, b] := rfl
theorem ones_two (k : IntKind) (x y : Int) : ones #[.int k x, .int k y] := by intro v hv; simp at hv; rcases hv with rfl | rfl <;> rfl
theorem ones_three (k : IntKind) (x y z : Int) : ones #[.int k x, .int k y, .int k z] := by intro v hv; simp at hv; rcases hv with rfl | rfl | rfl <;> rfl
attribute [simp, go_sem] ones_two ones_three
theorem get_seg (c d : Array Value) (o i : Nat) (h : o + d.size ≤ c.size) : (seg c o d)[i]? = if o ≤ i ∧ i < o + d.size then d[i - o]? else c[i]? := by
  unfold seg
  rw [List.getElem?_toArray]
  have h1 : (List.take o c.toList).length = o := by rw [List.length_take, Array.length_toList]; omega
  by_cases h2 : i < o
  · rw [if_neg (by omega), List.append_assoc, List.getElem?_append_left (by omega), List.getElem?_take, if_pos h2, Array.getElem?_toList]
  · by_cases h3 : i < o + d.size
    · rw [if_pos (by omega), List.append_assoc, List.getElem?_append_right (by omega), List.getElem?_append_left (by rw [h1, Array.length_toList]; omega), h1, Array.getElem?_toList]
    · rw [if_neg (by omega), List.getElem?_append_right (by rw [List.length_append, h1, Array.length_toList]; omega), List.getElem?_drop, List.length_append, h1, Array.length_toList, Array.getElem?_toList]
      congr 1
      omega
theorem seg_arr3 (N o : Nat) (k : IntKind) (F G : Nat → Int) (x y z : Int) (h : o + 3 ≤ N) (h0 : G o = x) (h1 : G (o + 1) = y) (h2 : G (o + 2) = z) (hG : ∀ i, i < N → i < o ∨ o + 3 ≤ i → G i = F i) : seg (arr N k F) o #[.int k x, .int k y, .int k z] = arr N k G := by
  apply Array.ext_getElem?
  intro i
  rw [get_seg _ _ _ _ (by simp; omega), get_arr, get_arr]
  simp only [List.size_toArray, List.length_cons, List.length_nil]
  by_cases hi : o ≤ i ∧ i < o + (0 + 1 + 1 + 1)
  · rw [if_pos hi, if_pos (show i < N by omega)]
    obtain ⟨j, rfl⟩ : ∃ j, i = o + j := ⟨i - o, by omega⟩
    have hj : j < 3 := by omega
    rw [Nat.add_sub_cancel_left]
    match j, hj with
    | 0, _ => simp [h0]
    | 1, _ => simp [h1]
    | 2, _ => simp [h2]
  · rw [if_neg hi]
    by_cases hN : i < N
    · rw [if_pos hN, if_pos hN, hG i hN (by omega)]
    · rw [if_neg hN, if_neg hN]
theorem seg_arr2 (N o : Nat) (k : IntKind) (F G : Nat → Int) (x y : Int) (h : o + 2 ≤ N) (h0 : G o = x) (h1 : G (o + 1) = y) (hG : ∀ i, i < N → i < o ∨ o + 2 ≤ i → G i = F i) : seg (arr N k F) o #[.int k x, .int k y] = arr N k G := by
  apply Array.ext_getElem?
  intro i
  rw [get_seg _ _ _ _ (by simp; omega), get_arr, get_arr]
  simp only [List.size_toArray, List.length_cons, List.length_nil]
  by_cases hi : o ≤ i ∧ i < o + (0 + 1 + 1)
  · rw [if_pos hi, if_pos (show i < N by omega)]
    obtain ⟨j, rfl⟩ : ∃ j, i = o + j := ⟨i - o, by omega⟩
    have hj : j < 2 := by omega
    rw [Nat.add_sub_cancel_left]
    match j, hj with
    | 0, _ => simp [h0]
    | 1, _ => simp [h1]
  · rw [if_neg hi]
    by_cases hN : i < N
    · rw [if_pos hN, if_pos hN, hG i hN (by omega)]
    · rw [if_neg hN, if_neg hN]
end Go.Arr
/- What loads, stores and zero values of the array and struct types come to; no condition. -/
namespace Go.Proofs.YtphjhegaplochaaGreatDoor
open Go.RowKit Go.Arr

theorem agg37 : AggTy Tryz.prog 37 144 := ⟨⟨_, Tryz.underlying37, rfl⟩, by kernel_rfl⟩
theorem zero37 (w : World) : (zeroValue 37).run Tryz.prog w = .ok (.agg (arr 144 .u8 fun _ => 0)) w := by kernel_rfl
theorem lv37 : loadVar 37 = aggLoad 37 := rfl
theorem sv37 : storeVar 37 = aggStore 37 := rfl
theorem ld37 (g off : Nat) (w : World) : (aggLoad 37 ⟨g, off, none⟩).run Tryz.prog w = segOr (obj w g) off 144 w ((aggLoadOld 37 ⟨g, off, none⟩).run Tryz.prog w) := run_aggLoad 37 144 _ Tryz.underlying37 rfl (by kernel_rfl) g off w
theorem st37 (g off : Nat) (v : Value) (w : World) : (aggStore 37 ⟨g, off, none⟩ v).run Tryz.prog w = segStoreOr (obj w g) g off 144 v w ((aggStoreOld 37 ⟨g, off, none⟩ v).run Tryz.prog w) := run_aggStore 37 144 (by kernel_rfl) g off v w
theorem agg39 : AggTy Tryz.prog 39 146 := ⟨⟨_, Tryz.underlying39, rfl⟩, by kernel_rfl⟩
theorem zero39 (w : World) : (zeroValue 39).run Tryz.prog w = .ok (.agg (pic 144 0 0 fun _ => 0)) w := by kernel_rfl
theorem lv39 : loadVar 39 = aggLoad 39 := rfl
theorem sv39 : storeVar 39 = aggStore 39 := rfl
theorem ld39 (g off : Nat) (w : World) : (aggLoad 39 ⟨g, off, none⟩).run Tryz.prog w = segOr (obj w g) off 146 w ((aggLoadOld 39 ⟨g, off, none⟩).run Tryz.prog w) := run_aggLoad 39 146 _ Tryz.underlying39 rfl (by kernel_rfl) g off w
theorem st39 (g off : Nat) (v : Value) (w : World) : (aggStore 39 ⟨g, off, none⟩ v).run Tryz.prog w = segStoreOr (obj w g) g off 146 v w ((aggStoreOld 39 ⟨g, off, none⟩ v).run Tryz.prog w) := run_aggStore 39 146 (by kernel_rfl) g off v w
theorem agg25 : AggTy Tryz.prog 25 3 := ⟨⟨_, Tryz.underlying25, rfl⟩, by kernel_rfl⟩
theorem lv25 : loadVar 25 = aggLoad 25 := rfl
theorem sv25 : storeVar 25 = aggStore 25 := rfl
theorem ld25 (g off : Nat) (w : World) : (aggLoad 25 ⟨g, off, none⟩).run Tryz.prog w = segOr (obj w g) off 3 w ((aggLoadOld 25 ⟨g, off, none⟩).run Tryz.prog w) := run_aggLoad 25 3 _ Tryz.underlying25 rfl (by kernel_rfl) g off w
theorem st25 (g off : Nat) (v : Value) (w : World) : (aggStore 25 ⟨g, off, none⟩ v).run Tryz.prog w = segStoreOr (obj w g) g off 3 v w ((aggStoreOld 25 ⟨g, off, none⟩ v).run Tryz.prog w) := run_aggStore 25 3 (by kernel_rfl) g off v w
theorem agg26 : AggTy Tryz.prog 26 3 := ⟨⟨_, Tryz.underlying26, rfl⟩, by kernel_rfl⟩
theorem lv26 : loadVar 26 = aggLoad 26 := rfl
theorem sv26 : storeVar 26 = aggStore 26 := rfl
theorem ld26 (g off : Nat) (w : World) : (aggLoad 26 ⟨g, off, none⟩).run Tryz.prog w = segOr (obj w g) off 3 w ((aggLoadOld 26 ⟨g, off, none⟩).run Tryz.prog w) := run_aggLoad 26 3 _ Tryz.underlying26 rfl (by kernel_rfl) g off w
theorem st26 (g off : Nat) (v : Value) (w : World) : (aggStore 26 ⟨g, off, none⟩ v).run Tryz.prog w = segStoreOr (obj w g) g off 3 v w ((aggStoreOld 26 ⟨g, off, none⟩ v).run Tryz.prog w) := run_aggStore 26 3 (by kernel_rfl) g off v w
theorem agg27 : AggTy Tryz.prog 27 432 := ⟨⟨_, Tryz.underlying27, rfl⟩, by kernel_rfl⟩
theorem zero27 (w : World) : (zeroValue 27).run Tryz.prog w = .ok (.agg (arr 432 .u8 fun _ => 0)) w := by kernel_rfl
theorem lv27 : loadVar 27 = aggLoad 27 := rfl
theorem sv27 : storeVar 27 = aggStore 27 := rfl
theorem ld27 (g off : Nat) (w : World) : (aggLoad 27 ⟨g, off, none⟩).run Tryz.prog w = segOr (obj w g) off 432 w ((aggLoadOld 27 ⟨g, off, none⟩).run Tryz.prog w) := run_aggLoad 27 432 _ Tryz.underlying27 rfl (by kernel_rfl) g off w
theorem st27 (g off : Nat) (v : Value) (w : World) : (aggStore 27 ⟨g, off, none⟩ v).run Tryz.prog w = segStoreOr (obj w g) g off 432 v w ((aggStoreOld 27 ⟨g, off, none⟩ v).run Tryz.prog w) := run_aggStore 27 432 (by kernel_rfl) g off v w
theorem agg29 : AggTy Tryz.prog 29 434 := ⟨⟨_, Tryz.underlying29, rfl⟩, by kernel_rfl⟩
theorem zero29 (w : World) : (zeroValue 29).run Tryz.prog w = .ok (.agg (pic 432 0 0 fun _ => 0)) w := by kernel_rfl
theorem lv29 : loadVar 29 = aggLoad 29 := rfl
theorem sv29 : storeVar 29 = aggStore 29 := rfl
theorem ld29 (g off : Nat) (w : World) : (aggLoad 29 ⟨g, off, none⟩).run Tryz.prog w = segOr (obj w g) off 434 w ((aggLoadOld 29 ⟨g, off, none⟩).run Tryz.prog w) := run_aggLoad 29 434 _ Tryz.underlying29 rfl (by kernel_rfl) g off w
theorem st29 (g off : Nat) (v : Value) (w : World) : (aggStore 29 ⟨g, off, none⟩ v).run Tryz.prog w = segStoreOr (obj w g) g off 434 v w ((aggStoreOld 29 ⟨g, off, none⟩ v).run Tryz.prog w) := run_aggStore 29 434 (by kernel_rfl) g off v w
theorem agg96 : AggTy Tryz.prog 96 16 := ⟨⟨_, Tryz.underlying96, rfl⟩, by kernel_rfl⟩
theorem zero96 (w : World) : (zeroValue 96).run Tryz.prog w = .ok (.agg (arr 16 .i64 fun _ => 0)) w := by kernel_rfl
theorem lv96 : loadVar 96 = aggLoad 96 := rfl
theorem sv96 : storeVar 96 = aggStore 96 := rfl
theorem ld96 (g off : Nat) (w : World) : (aggLoad 96 ⟨g, off, none⟩).run Tryz.prog w = segOr (obj w g) off 16 w ((aggLoadOld 96 ⟨g, off, none⟩).run Tryz.prog w) := run_aggLoad 96 16 _ Tryz.underlying96 rfl (by kernel_rfl) g off w
theorem st96 (g off : Nat) (v : Value) (w : World) : (aggStore 96 ⟨g, off, none⟩ v).run Tryz.prog w = segStoreOr (obj w g) g off 16 v w ((aggStoreOld 96 ⟨g, off, none⟩ v).run Tryz.prog w) := run_aggStore 96 16 (by kernel_rfl) g off v w
theorem agg84 : AggTy Tryz.prog 84 432 := ⟨⟨_, Tryz.underlying84, rfl⟩, by kernel_rfl⟩
theorem zero84 (w : World) : (zeroValue 84).run Tryz.prog w = .ok (.agg (arr 432 .i64 fun _ => 0)) w := by kernel_rfl
theorem lv84 : loadVar 84 = aggLoad 84 := rfl
theorem sv84 : storeVar 84 = aggStore 84 := rfl
theorem ld84 (g off : Nat) (w : World) : (aggLoad 84 ⟨g, off, none⟩).run Tryz.prog w = segOr (obj w g) off 432 w ((aggLoadOld 84 ⟨g, off, none⟩).run Tryz.prog w) := run_aggLoad 84 432 _ Tryz.underlying84 rfl (by kernel_rfl) g off w
theorem st84 (g off : Nat) (v : Value) (w : World) : (aggStore 84 ⟨g, off, none⟩ v).run Tryz.prog w = segStoreOr (obj w g) g off 432 v w ((aggStoreOld 84 ⟨g, off, none⟩ v).run Tryz.prog w) := run_aggStore 84 432 (by kernel_rfl) g off v w
theorem agg83 : AggTy Tryz.prog 83 3 := ⟨⟨_, Tryz.underlying83, rfl⟩, by kernel_rfl⟩
theorem mk32 (n : Nat) (hn : n ≤ 1048576) (w : World) : (Instr.makeSlice 32 (.int .i64 n) (.int .i64 n)).run Tryz.prog w = .ok (.slice (some ⟨w.heap.size, 0, none⟩) n n) (w.alloc (.cells (arr (n * 3) .u8 fun _ => 0) 26)) := mkrow Tryz.underlying32 (z := .agg #[.int .u8 0, .int .u8 0, .int .u8 0]) (bytes := 3) (by kernel_rfl) (made3 _) (by omega) n hn w
theorem mk31 (n : Nat) (hn : n ≤ 1048576) (w : World) : (Instr.makeSlice 31 (.int .i64 n) (.int .i64 n)).run Tryz.prog w = .ok (.slice (some ⟨w.heap.size, 0, none⟩) n n) (w.alloc (.cells (arr (n * 3) .u8 fun _ => 0) 26)) := mkrow Tryz.underlying31 (z := .agg #[.int .u8 0, .int .u8 0, .int .u8 0]) (bytes := 3) (by kernel_rfl) (made3 _) (by omega) n hn w
theorem mk54 (n : Nat) (hn : n ≤ 1048576) (w : World) : (Instr.makeSlice 54 (.int .i64 n) (.int .i64 n)).run Tryz.prog w = .ok (.slice (some ⟨w.heap.size, 0, none⟩) n n) (w.alloc (.cells (arr (n * 1) .i64 fun _ => 0) 2)) := mkrow Tryz.underlying54 (z := .int .i64 0) (bytes := 8) (by kernel_rfl) (made1 _) (by omega) n hn w
theorem size5 (w : World) : (sizeOf 5).run Tryz.prog w = .ok 1 w := by kernel_rfl
theorem eqt26_9999 (w : World) (x0 x1 x2 y0 y1 y2 : Int) : (Op.equalIn 9999 26 (.agg #[.int .u8 x0, .int .u8 x1, .int .u8 x2]) (.agg #[.int .u8 y0, .int .u8 y1, .int .u8 y2])).run Tryz.prog w = .ok (eq3 x0 x1 x2 y0 y1 y2) w := by
  rw [show (#[.int .u8 x0, .int .u8 x1, .int .u8 x2] : Array Value) = arr 3 .u8 (fun i => if i = 0 then x0 else if i = 1 then x1 else x2) from rfl, show (#[.int .u8 y0, .int .u8 y1, .int .u8 y2] : Array Value) = arr 3 .u8 (fun i => if i = 0 then y0 else if i = 1 then y1 else y2) from rfl]
  exact (run_equalIn_arr w 9997 26 5 Tryz.underlying26 Tryz.underlying5 size5).trans (by simp [eqUpto, eq3, List.range_succ, Bool.and_assoc])
theorem eqt26_10000 (w : World) (x0 x1 x2 y0 y1 y2 : Int) : (Op.equalIn 10000 26 (.agg #[.int .u8 x0, .int .u8 x1, .int .u8 x2]) (.agg #[.int .u8 y0, .int .u8 y1, .int .u8 y2])).run Tryz.prog w = .ok (eq3 x0 x1 x2 y0 y1 y2) w := by
  rw [show (#[.int .u8 x0, .int .u8 x1, .int .u8 x2] : Array Value) = arr 3 .u8 (fun i => if i = 0 then x0 else if i = 1 then x1 else x2) from rfl, show (#[.int .u8 y0, .int .u8 y1, .int .u8 y2] : Array Value) = arr 3 .u8 (fun i => if i = 0 then y0 else if i = 1 then y1 else y2) from rfl]
  exact (run_equalIn_arr w 9998 26 5 Tryz.underlying26 Tryz.underlying5 size5).trans (by simp [eqUpto, eq3, List.range_succ, Bool.and_assoc])
attribute [go_sem high] eqt26_9999 eqt26_10000
set_option maxHeartbeats 400000 in
theorem eql26 (w : World) (x0 x1 x2 y0 y1 y2 : Int) : (binOp .eql 26 (.agg #[.int .u8 x0, .int .u8 x1, .int .u8 x2]) (.agg #[.int .u8 y0, .int .u8 y1, .int .u8 y2])).run Tryz.prog w = .ok (.bool (eq3 x0 x1 x2 y0 y1 y2)) w := by
  go_simp
  try unfold eq3
  try (by_cases h0 : x0 = y0 <;> by_cases h1 : x1 = y1 <;> by_cases h2 : x2 = y2 <;> simp [h0, h1, h2])
set_option maxHeartbeats 400000 in
theorem neq26 (w : World) (x0 x1 x2 y0 y1 y2 : Int) : (binOp .neq 26 (.agg #[.int .u8 x0, .int .u8 x1, .int .u8 x2]) (.agg #[.int .u8 y0, .int .u8 y1, .int .u8 y2])).run Tryz.prog w = .ok (.bool (!eq3 x0 x1 x2 y0 y1 y2)) w := by
  go_simp
  try unfold eq3
  try (by_cases h0 : x0 = y0 <;> by_cases h1 : x1 = y1 <;> by_cases h2 : x2 = y2 <;> simp [h0, h1, h2])
theorem eq37 (w : World) (f g : Nat → Int) : (Op.equalIn 9999 37 (.agg (arr 144 .u8 f)) (.agg (arr 144 .u8 g))).run Tryz.prog w = .ok (eqUpto 144 f g) w := run_equalIn_arr w 9997 37 5 Tryz.underlying37 Tryz.underlying5 size5
theorem ix37 (f : Nat → Int) (ik : IntKind) (i : Int) (h0 : 0 ≤ i) (h1 : i < 144) (w : World) : (Instr.index 37 (.agg (arr 144 .u8 f)) (.int ik i)).run Tryz.prog w = .ok (.int .u8 (f i.toNat)) w := run_index_arr (n := 144) 37 5 Tryz.underlying37 Tryz.underlying5 size5 ik i h0 (by omega) w
theorem size2 (w : World) : (sizeOf 2).run Tryz.prog w = .ok 1 w := by kernel_rfl
theorem ix96 (f : Nat → Int) (ik : IntKind) (i : Int) (h0 : 0 ≤ i) (h1 : i < 16) (w : World) : (Instr.index 96 (.agg (arr 16 .i64 f)) (.int ik i)).run Tryz.prog w = .ok (.int .i64 (f i.toNat)) w := run_index_arr (n := 16) 96 2 Tryz.underlying96 Tryz.underlying2 size2 ik i h0 (by omega) w
attribute [go_sem ↓] zero37 lv37 sv37 zero39 lv39 sv39 lv25 sv25 lv26 sv26 zero27 lv27 sv27 zero29 lv29 sv29 zero96 lv96 sv96 zero84 lv84 sv84
attribute [go_sem] ld37 st37 ld39 st39 ld25 st25 ld26 st26 ld27 st27 ld29 st29 ld96 st96 ld84 st84 mk32 mk31 mk54
attribute [go_sem high] eql26 neq26 eq37 ix37 ix96
set_option maxHeartbeats 400000 in
set_option maxRecDepth 100000 in
theorem eql39 (w : World) (a b c d : Int) (f g : Nat → Int) : (binOp .eql 39 (.agg (pic 144 a b f)) (.agg (pic 144 c d g))).run Tryz.prog w = .ok (.bool (eqPic 144 a b f c d g)) w := by
  go_simp
  unfold eqPic
  by_cases h1 : a = c <;> by_cases h2 : b = d <;> cases eqUpto 144 f g <;> simp [h1, h2]
set_option maxHeartbeats 400000 in
set_option maxRecDepth 100000 in
theorem neq39 (w : World) (a b c d : Int) (f g : Nat → Int) : (binOp .neq 39 (.agg (pic 144 a b f)) (.agg (pic 144 c d g))).run Tryz.prog w = .ok (.bool (!eqPic 144 a b f c d g)) w := by
  go_simp
  unfold eqPic
  by_cases h1 : a = c <;> by_cases h2 : b = d <;> cases eqUpto 144 f g <;> simp [h1, h2]
attribute [go_sem high] eql39 neq39
end Go.Proofs.YtphjhegaplochaaGreatDoor
/- Strings of bytes that a call has gathered; no condition. -/
set_option linter.unusedVariables false
namespace Go.Arr
open Go.RowKit
def bytesOf (l : List Int) : List UInt8 := l.map fun z => UInt8.ofNat z.toNat
/-- a string out of numbers -/
def bstr (l : List Int) : ByteArray := ⟨(bytesOf l).toArray⟩
theorem foldl_push (l : List Int) : ∀ s : ByteArray, l.foldl (fun r z => r.push (UInt8.ofNat z.toNat)) s = ⟨(s.data.toList ++ bytesOf l).toArray⟩ := by
  induction l with
  | nil => intro s; simp [bytesOf]
  | cons z l ih => intro s; rw [List.foldl_cons, ih]; simp [bytesOf, ByteArray.push]
theorem run_string {P : Program} {w : World} {src dst e : TypeId} (hs : P.underlying src = some (.slice e)) (he : P.underlying e = some (.int .u8)) (hd : P.underlying dst = some .string)
    {g off len cap : Nat} {cur : Array Value} {t : TypeId} {fr : Nat × Nat} {l : List Int} (ho : obj w g = some (.cells cur t fr)) (hl : l.length = len) (hc : ∀ j, j < len → cur[off + j]? = some (.int .u8 (l.getD j 0))) :
    (convert src dst (.slice (some ⟨g, off, none⟩) len cap)).run P w = .ok (.string (bstr l)) w := by
  rw [run_convert_bytes_string w src dst e _ _ _ hs he hd]
  rw [run_bytesToString w ⟨g, off, none⟩ len cap l]
  · rw [foldl_push]; rfl
  · have h := run_loadCells_list (P := P) w ⟨g, off, none⟩ (l.map (Value.int .u8)) (fun j v hv => by
      rw [addr_add, cell_of_row w g _ cur t fr ho]
      have hj : j < l.length := by
        have := (List.getElem?_eq_some_iff.1 hv).1
        simpa using this
      rw [hc j (by omega)]
      simp only [List.getElem?_map, List.getElem?_eq_getElem hj, Option.map_some] at hv
      rw [← hv]
      simp [List.getD, hj])
    rw [List.length_map, hl] at h
    exact h
end Go.Arr
/- A strings.Builder that a call has made itself: a byte written, the string read; no condition. -/
set_option linter.unusedVariables false
namespace Go.Proofs.YtphjhegaplochaaGreatDoor
open Go.BigFrame
open Go.RowKit Go.Arr
theorem shape_of {w : World} {b : Nat} {cs : Array Value} {T : TypeId} (h : obj w b = some (.cells cs T)) : w.shape? b = some (T, cs.size) := by
  unfold obj at h
  simp [World.shape?, h]
set_option maxHeartbeats 1000000 in
set_option maxRecDepth 100000 in
theorem copyCheck_used (b : Nat) (v : Value) (w : World) (hb : obj w b = some (.cells #[.pointer (some ⟨b, 0, none⟩), v] 117)) :
    Calls Tryz.prog 105 #[.pointer (some ⟨b, 0, none⟩)] w fun e w' => e = .returned (.tuple #[]) ∧ w' = w := by
  obtain ⟨j, hj, _⟩ := Option.map_eq_some_iff.1 (show (Tryz.prog.info? 117).map (·.size) = some 2 by kernel_rfl)
  have hl := obj_lt hb
  have hne := fun w' : World => Lib.run_neq_ptr_same (P := Tryz.prog) w' (tp := 115) ⟨b, 0, none⟩ Tryz.underlying115 hj
  go_enter Tryz.func105, Tryz.ntmps105
  go_wp2_with (fail)
  go_end0
  exact ⟨rfl, rfl⟩
set_option maxHeartbeats 1000000 in
set_option maxRecDepth 100000 in
theorem copyCheck_fresh (b : Nat) (v : Value) (w : World) (hb : obj w b = some (.cells #[.pointer none, v] 117)) :
    Calls Tryz.prog 105 #[.pointer (some ⟨b, 0, none⟩)] w fun e w' => e = .returned (.tuple #[]) ∧ w' = w.setCell ⟨b, 0, none⟩ (.pointer (some ⟨b, 0, none⟩)) := by
  obtain ⟨j, hj, hjs⟩ := Option.map_eq_some_iff.1 (show (Tryz.prog.info? 117).map (·.size) = some 2 by kernel_rfl)
  have hl := obj_lt hb
  have hsh := shape_of hb
  have hto := Lib.run_to_unsafe (P := Tryz.prog) w (src := 115) (dst := 157) ⟨b, 0, none⟩ Tryz.underlying115 Tryz.underlying157 hj (by rw [hjs]; decide) hsh (Nat.zero_lt_succ 1)
  have hfrom := Lib.run_from_unsafe (P := Tryz.prog) w (src := 157) (dst := 115) ⟨b, 0, none⟩ Tryz.underlying157 Tryz.underlying115 hj hsh (by kernel_rfl)
  go_enter Tryz.func105, Tryz.ntmps105
  go_wp2_with (fail)
  rw [run_callFunc_extern Tryz.func126 (by kernel_rfl) (by kernel_rfl) (by kernel_rfl) (e := Extern.AbiNoEscape.same) (by kernel_rfl)]
  rw [Lib.run_noEscape]
  simp only [Result.andThen]
  rw [Oper.upon_value]
  go_wp2_with (fail)
  go_end0
  exact ⟨rfl, rfl⟩
theorem copyCheck_any (B b : Nat) (bs : List Value) (w : World) (h : Lib.IsBuilder 117 5 B b bs w) :
    Calls Tryz.prog 105 #[.pointer (some ⟨b, 0, none⟩)] w fun e w' => e = .returned (.tuple #[]) ∧ (Lib.BuilderAt 117 5 B b (.pointer (some ⟨b, 0, none⟩)) bs w' ∧ Below B w w') := by
  rcases h with h | h
  · obtain ⟨hB, v, hb, hown, hne⟩ := id h
    refine (copyCheck_fresh b v w hb).mono ?_
    rintro e w' ⟨rfl, rfl⟩
    exact ⟨rfl, h.used _, (Below.refl B w).setCell (p := ⟨b, 0, none⟩) h.1 _⟩
  · obtain ⟨hB, v, hb, hown, hne⟩ := id h
    refine (copyCheck_used b v w hb).mono ?_
    rintro e w' ⟨rfl, rfl⟩
    exact ⟨rfl, h, Below.refl B _⟩
theorem slBytes3 : SlTy Tryz.prog 22 5 (.int .u8 0) 1 1 := ⟨Tryz.underlying22, by kernel_rfl, rfl, by omega⟩
end Go.Proofs.YtphjhegaplochaaGreatDoor
