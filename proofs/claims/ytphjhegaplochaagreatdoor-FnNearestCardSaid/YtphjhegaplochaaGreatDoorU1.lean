/- Plain facts on arrays of numbers held in memory; no condition. -/
import Derived.WalkKit
import Derived.WalkSpells
import Derived.WalkLawsBesides
import Derived.ProofKit
import Derived.OpenShut
import Derived.ShutString
import Derived.ChangeOld
import Derived.Below
import Derived.SizedLaws
import Derived.Carry
import Derived.Deep.QuietTactic
import Derived.BigQuiet
import Derived.Deep.AppendLies
import Derived.Deep.RegionLaw
import Derived.OwnWalk
set_option linter.unusedVariables false
namespace Go.Arr
open Go.RowKit

theorem hide {p : Prop} (h : p) : Hid p := h
/-- an array of n numbers of one kind, told by a function of the place -/
def arr (n : Nat) (k : IntKind) (f : Nat → Int) : Array Value := ((List.range n).map fun i => Value.int k (f i)).toArray
def upd (f : Nat → Int) (i : Nat) (v : Int) : Nat → Int := fun j => if j = i then v else f j
/-- two small numbers, then an array of bytes -/
def pic (n : Nat) (w h : Int) (f : Nat → Int) : Array Value := (Value.int .i8 w :: Value.int .i8 h :: (List.range n).map fun i => Value.int .u8 (f i)).toArray

section
variable {n : Nat} {k : IntKind} {f g : Nat → Int}
@[simp, go_sem] theorem size_arr : (arr n k f).size = n := by simp [arr]
@[simp, go_sem] theorem get_arr (i : Nat) : (arr n k f)[i]? = if i < n then some (.int k (f i)) else none := by
  by_cases h : i < n <;> simp [arr, h]
@[simp, go_sem] theorem elem_arr (i : Nat) (h : i < (arr n k f).size) : (arr n k f)[i] = .int k (f i) := by simp [arr]
theorem arr_congr (h : ∀ i, i < n → f i = g i) : arr n k f = arr n k g := by
  unfold arr
  congr 1
  refine List.map_congr_left fun i hi => ?_
  rw [h i (by simpa using hi)]
@[simp, go_sem] theorem set_arr (i : Nat) (v : Int) : (arr n k f).setIfInBounds i (.int k v) = arr n k (upd f i v) := by
  apply Array.ext_getElem?
  intro j
  rw [Array.getElem?_setIfInBounds, get_arr, get_arr, size_arr]
  unfold upd
  by_cases hj : j = i
  · subst hj; simp
  · rw [if_neg (fun e => hj e.symm)]; simp [hj]
variable {w h : Int}
@[simp, go_sem] theorem size_pic : (pic n w h f).size = n + 2 := by simp [pic]
@[simp, go_sem] theorem get_pic_0 : (pic n w h f)[0]? = some (.int .i8 w) := by simp [pic]
@[simp, go_sem] theorem get_pic_1 : (pic n w h f)[1]? = some (.int .i8 h) := by simp [pic]
@[simp, go_sem] theorem elem_pic_0 (h' : 0 < (pic n w h f).size) : (pic n w h f)[0] = .int .i8 w := by simp [pic]
@[simp, go_sem] theorem elem_pic_1 (h' : 1 < (pic n w h f).size) : (pic n w h f)[1] = .int .i8 h := by simp [pic]
theorem get_pic (i : Nat) : (pic n w h f)[i + 2]? = if i < n then some (.int .u8 (f i)) else none := by
  by_cases h : i < n <;> simp [pic, h]
@[simp, go_sem] theorem get_pic' (i : Nat) : (pic n w h f)[2 + i]? = if i < n then some (.int .u8 (f i)) else none := by
  rw [Nat.add_comm]; exact get_pic i
@[simp, go_sem] theorem elem_pic (i : Nat) (h' : 2 + i < (pic n w h f).size) : (pic n w h f)[2 + i] = .int .u8 (f i) := by
  have h1 := get_pic' (n := n) (w := w) (h := h) (f := f) i
  rw [Array.getElem?_eq_getElem h', if_pos (by simp at h'; omega)] at h1
  exact Option.some.inj h1
@[simp, go_sem] theorem pic_ne : (pic n w h f = #[]) = False := by simp [pic]
theorem pic_congr (h' : ∀ i, i < n → f i = g i) : pic n w h f = pic n w h g := by
  unfold pic
  congr 3
  refine List.map_congr_left fun i hi => ?_
  rw [h' i (by simpa using hi)]
@[simp, go_sem] theorem set_pic_0 (v : Int) : (pic n w h f).setIfInBounds 0 (.int .i8 v) = pic n v h f := by simp [pic]
@[simp, go_sem] theorem set_pic_1 (v : Int) : (pic n w h f).setIfInBounds 1 (.int .i8 v) = pic n w v f := by simp [pic]
@[simp, go_sem] theorem set_pic' (i : Nat) (v : Int) : (pic n w h f).setIfInBounds (2 + i) (.int .u8 v) = pic n w h (upd f i v) := by
  apply Array.ext_getElem?
  intro j
  rw [Array.getElem?_setIfInBounds, size_pic]
  match j with
  | 0 => rw [if_neg (by omega), get_pic_0, get_pic_0]
  | 1 => rw [if_neg (by omega), get_pic_1, get_pic_1]
  | j + 2 =>
    rw [get_pic, get_pic]
    unfold upd
    by_cases hj : j = i
    · subst hj
      rw [if_pos (by omega)]
      by_cases hn : j < n
      · rw [if_pos (by omega), if_pos hn, if_pos rfl]
      · rw [if_neg (by omega), if_neg hn]
    · rw [if_neg (by omega), if_neg hj]
@[simp, go_sem] theorem extract_arr_all (m : Nat) (hm : m = n) : (arr n k f).extract 0 m = arr n k f := by
  have : m = (arr n k f).size := by simp [hm]
  rw [this]
  exact Array.extract_size
@[simp, go_sem] theorem extract_pic_all (m : Nat) (hm : m = n + 2) : (pic n w h f).extract 0 m = pic n w h f := by
  have : m = (pic n w h f).size := by simp [hm]
  rw [this]
  exact Array.extract_size
@[simp, go_sem] theorem extract_pic_cells (m : Nat) (hm : m = n + 2) : (pic n w h f).extract 2 m = arr n .u8 f := by
  subst hm
  apply Array.ext_getElem?
  intro j
  rw [Array.getElem?_extract, size_pic, get_arr, get_pic']
  by_cases hj : j < n
  · rw [if_pos (by omega), if_pos hj]
  · rw [if_neg (by omega), if_neg hj]
end

/-- the block of a number -/
def obj (w : World) (g : Nat) : Option Obj := w.heap[g]?
/-- what a load of n cells of a block comes to -/
def segOr (o : Option Obj) (off n : Nat) (w : World) (other : Result Value) : Result Value :=
  match o with
  | some (.cells c _ _) => if off + n ≤ c.size then .ok (.agg (c.extract off (off + n))) w else other
  | _ => other
@[go_sem] theorem segOr_cells (c : Array Value) (t : TypeId) (fr : Nat × Nat) (off n : Nat) (w : World) (other : Result Value) (h : off + n ≤ c.size) :
    segOr (some (.cells c t fr)) off n w other = .ok (.agg (c.extract off (off + n))) w := by
  unfold segOr; simp only; rw [if_pos h]
/-- each cell is one that a store takes -/
def ones (c : Array Value) : Prop := ∀ v ∈ c.toList, v.oneCell' = true
/-- cells laid over a part of a row -/
def seg (c : Array Value) (off : Nat) (news : Array Value) : Array Value := (c.toList.take off ++ news.toList ++ c.toList.drop (off + news.size)).toArray
open Classical in
noncomputable def segStoreOr (o : Option Obj) (g off n : Nat) (v : Value) (w : World) (other : Result Unit) : Result Unit :=
  match o, v with
  | some (.cells c _ fr), .agg news => if news.size = n ∧ off + n ≤ c.size ∧ fr = (0, 0) ∧ ones news then .ok () (w.setRow g (seg c off news)) else other
  | _, _ => other
def aggLoad (t : TypeId) (a : Addr) : Sem Value := loadVar t a
def aggStore (t : TypeId) (a : Addr) (v : Value) : Sem Unit := storeVar t a v
def aggLoadOld (t : TypeId) (a : Addr) : Sem Value := loadVar t a
def aggStoreOld (t : TypeId) (a : Addr) (v : Value) : Sem Unit := storeVar t a v

section
variable {P : Program}
theorem addr_add (g off j : Nat) : (⟨g, off, none⟩ : Addr).add j = ⟨g, off + j, none⟩ := by unfold Addr.add; split <;> simp_all
theorem run_aggLoad (ty : TypeId) (n : Nat) (d : TypeDesc) (hu : P.underlying ty = some d) (hd : (match d with | .struct _ | .array _ _ => true | _ => false) = true)
    (hi : (P.info? ty).map (·.size) = some n) (g off : Nat) (w : World) :
    (aggLoad ty ⟨g, off, none⟩).run P w = segOr (obj w g) off n w ((aggLoadOld ty ⟨g, off, none⟩).run P w) := by
  unfold segOr obj aggLoad aggLoadOld
  split
  · rename_i c t fr hg
    split
    · rename_i hle
      have hs : ((c.extract off (off + n)).toList).length = n := by simp; omega
      have hl := run_loadCells_list (P := P) w ⟨g, off, none⟩ (c.extract off (off + n)).toList (fun j v hv => by
        rw [addr_add, cell_of_row w g _ c t fr hg]
        have hj : j < n := by
          have := (List.getElem?_eq_some_iff.1 hv).1
          omega
        simp only [Array.getElem?_toList] at hv
        rw [Array.getElem?_extract, if_pos (by omega)] at hv
        exact hv)
      rw [hs] at hl
      cases hq : P.info? ty with
      | none => simp [hq] at hi
      | some i =>
        have hsz : i.size = n := by simpa [hq] using hi
        have hagg : (isAgg ty).run P w = .ok true w := by
          unfold isAgg
          rw [Sem.run_bind, run_underlying hu w]
          cases d <;> simp_all
        simp only [Array.toArray_toList] at hl
        simp [loadVar, Sem.run_bind, hagg, sizeOf, typeInfo, hq, hsz, hl]
    · rfl
  · rfl
theorem run_aggStore (ty : TypeId) (n : Nat) (hi : (P.info? ty).map (·.size) = some n) (g off : Nat) (v : Value) (w : World) :
    (aggStore ty ⟨g, off, none⟩ v).run P w = segStoreOr (obj w g) g off n v w ((aggStoreOld ty ⟨g, off, none⟩ v).run P w) := by
  unfold segStoreOr obj aggStore aggStoreOld
  split
  · rename_i c t fr news hg
    split
    · rename_i hle
      obtain ⟨h1, h2, rfl, h4⟩ := hle
      have hl := run_storeCells_at (P := P) g off t news.toList 0 c w hg (by simp; omega) (fun v hv => by
        exact h4 v hv)
      cases hq : P.info? ty with
      | none => simp [hq] at hi
      | some i =>
        have hsz : i.size = n := by simpa [hq] using hi
        simp only [Nat.add_zero, Array.length_toList] at hl
        simp [storeVar, Sem.run_bind, sizeOf, typeInfo, hq, hsz, Value.cells, h1, seg, hl]
    · rfl
  · rfl
@[go_sem] theorem obj_alloc_at (w : World) (o : Obj) (n : Nat) (h : n = w.heap.size) : obj (w.alloc o) n = some o := by
  subst h; exact heap_alloc_new w o
@[go_sem] theorem obj_alloc_past (w : World) (o : Obj) (n : Nat) (h : n < w.heap.size) : obj (w.alloc o) n = obj w n := heap_alloc_old w o h
@[go_sem] theorem obj_drew (w : World) (n : Nat) : obj w.drew n = obj w n := rfl
@[go_sem] theorem obj_drewN (w : World) (n k : Nat) : obj (w.drewN k) n = obj w n := rfl
@[go_sem] theorem segStore_cells (c : Array Value) (t : TypeId) (g off n : Nat) (news : Array Value) (w : World) (other : Result Unit) (h1 : news.size = n) (h2 : off + n ≤ c.size) (h3 : ones news) :
    segStoreOr (some (.cells c t)) g off n (.agg news) w other = .ok () (w.setRow g (seg c off news)) := by
  unfold segStoreOr; simp only; rw [if_pos ⟨h1, h2, rfl, h3⟩]
@[go_sem] theorem setRow_alloc_at (w : World) (c d : Array Value) (t : TypeId) (fr : Nat × Nat) (n : Nat) (h : n = w.heap.size) : (w.alloc (.cells c t fr)).setRow n d = w.alloc (.cells d t fr) := by
  subst h
  unfold World.setRow World.alloc
  congr 1
  apply Array.ext_getElem?
  intro j
  rw [Array.getElem?_modify, Array.getElem?_push, Array.getElem?_push]
  by_cases hj : w.heap.size = j
  · subst hj; simp
  · rw [if_neg hj, if_neg (fun e => hj e.symm), if_neg (fun e => hj e.symm)]
@[go_sem] theorem setRow_drew (w : World) (d : Array Value) (n : Nat) : w.drew.setRow n d = (w.setRow n d).drew := rfl
@[go_sem] theorem setRow_drewN (w : World) (d : Array Value) (n k : Nat) : (w.drewN k).setRow n d = (w.setRow n d).drewN k := rfl
@[go_sem] theorem setRow_alloc_past (w : World) (o : Obj) (d : Array Value) (n : Nat) (h : n < w.heap.size) : (w.alloc o).setRow n d = (w.setRow n d).alloc o := by
  unfold World.setRow World.alloc
  congr 1
  apply Array.ext_getElem?
  intro j
  rw [Array.getElem?_modify, Array.getElem?_push, Array.getElem?_push, Array.getElem?_modify, Array.size_modify]
  by_cases hj : n = j
  · subst hj; rw [if_pos rfl, if_neg (by omega), if_neg (by omega), if_pos rfl]
  · rw [if_neg hj, if_neg hj]
end
section
variable {n m : Nat} {k : IntKind} {f g : Nat → Int} {w h : Int}
@[simp, go_sem] theorem ones_arr : ones (arr n k f) := by
  intro v hv
  simp [arr] at hv
  obtain ⟨i, _, rfl⟩ := hv
  rfl
@[simp, go_sem] theorem ones_pic : ones (pic n w h f) := by
  intro v hv
  simp [pic] at hv
  rcases hv with rfl | rfl | ⟨i, _, rfl⟩ <;> rfl
theorem seg_all (c d : Array Value) (h : c.size = d.size) : seg c 0 d = d := by
  have hd : c.toList.drop d.size = [] := List.drop_eq_nil_of_le (by simp; omega)
  unfold seg
  simp [hd]
@[simp, go_sem] theorem seg_arr_arr : seg (arr n k f) 0 (arr n k g) = arr n k g := seg_all _ _ (by simp)
@[simp, go_sem] theorem seg_pic_pic {w' h' : Int} : seg (pic n w h f) 0 (pic n w' h' g) = pic n w' h' g := seg_all _ _ (by simp)
@[simp, go_sem] theorem seg_pic_arr : seg (pic n w h f) 2 (arr n .u8 g) = pic n w h g := by
  unfold seg pic arr
  simp
  omega
end

def aggD : TypeDesc → Bool
  | .struct _ => true
  | .array _ _ => true
  | _ => false
/-- a type whose values are rows of n cells -/
def AggTy (P : Program) (ty : TypeId) (n : Nat) : Prop := (∃ d, P.underlying ty = some d ∧ aggD d = true) ∧ (P.info? ty).map (·.size) = some n
section
variable {P : Program} {fn : Func} {R : Ending → World → Prop} {a : Act} {w : World} {p u : Tmp} {ty : TypeId} {n g : Nat} {c : Array Value} {t : TypeId} {fr : Nat × Nat}
theorem ret_cell (h : AggTy P ty n) (hf : fn.results = #[.cell p ty]) (hp : a.tmps.getD p undef = .pointer (some ⟨g, 0, none⟩)) (hg : obj w g = some (.cells c t fr)) (hn : c.size = n) (hd : a.defers = [])
    (hR : R (.returned (.agg c)) w) : bodyPost P fn R .ret a w := by
  obtain ⟨⟨d, hu, ha⟩, hi⟩ := h
  exact bodyPost_ret (results_cell_row hf a.tmps w g t c fr d hp hg hu (by cases d <;> first | rfl | cases ha) (by rw [hi, hn])) hd hR
theorem ret_cell_tmp (h : AggTy P ty n) (hf : fn.results = #[.cell p ty, .tmp u]) (hp : a.tmps.getD p undef = .pointer (some ⟨g, 0, none⟩)) (hg : obj w g = some (.cells c t fr)) (hn : c.size = n) (hd : a.defers = [])
    (hR : R (.returned (.tuple #[.agg c, a.tmps.getD u undef])) w) : bodyPost P fn R .ret a w := by
  obtain ⟨⟨d, hu, ha⟩, hi⟩ := h
  refine bodyPost_ret (v := .tuple #[.agg c, a.tmps.getD u undef]) ?_ hd hR
  rw [results_cell_tmp hf, hp]
  simp [asAddr, run_loadVar_row w g t ty c fr d hg hu (by cases d <;> first | rfl | cases ha) (by rw [hi, hn]), Result.andThen]
end

/-- what was there is as it was -/
def New (w w' : World) : Prop := Below w.heap.size w w'
section
variable {a w w' : World}
theorem New.refl (w : World) : New w w := Below.refl _ _
theorem New.le (h : New a w) : a.heap.size ≤ w.heap.size := Below.size h
theorem New.alloc (h : New a w) (o : Obj) : New a (w.alloc o) := Below.alloc h h.le o
theorem New.drew (h : New a w) : New a w.drew := Below.drew h
theorem New.drewN (h : New a w) (n : Nat) : New a (w.drewN n) := ⟨h.os, h.tape, h.output, h.size, h.block⟩
theorem New.trans (h : New a w) (k : New w w') : New a w' := Below.trans h (Below.mono k h.le)
theorem New.setCell (h : New a w) {p : Addr} (hp : a.heap.size ≤ p.block) (u : Value) : New a (w.setCell p u) := Below.setCell h hp u
theorem New.setRow (h : New a w) {g : Nat} (hp : a.heap.size ≤ g) (c : Array Value) : New a (w.setRow g c) := by
  refine ⟨h.os, h.tape, h.output, by rw [size_setRow]; exact h.size, fun k hk => ?_⟩
  rw [setRow_other w g k c (by omega)]
  exact h.block k hk
theorem New.cells (h : New a w) : ∀ b o, b < a.heap.size → w.cell? ⟨b, o, none⟩ = a.cell? ⟨b, o, none⟩ := fun b o hb => Below.cell h (p := ⟨b, o, none⟩) hb
theorem New.frees (h : New a w) : ∀ b o, b < a.heap.size → w.frozen? ⟨b, o, none⟩ = a.frozen? ⟨b, o, none⟩ := fun b o hb => Below.frozen h (p := ⟨b, o, none⟩) hb
theorem New.objs (h : New a w) : ∀ b, b < a.heap.size → obj w b = obj a b := fun b hb => Below.block h b hb
theorem New.all (h : New a w) : (∀ b o, b < a.heap.size → w.cell? ⟨b, o, none⟩ = a.cell? ⟨b, o, none⟩) ∧ (∀ b o, b < a.heap.size → w.frozen? ⟨b, o, none⟩ = a.frozen? ⟨b, o, none⟩) ∧ (∀ b, b < a.heap.size → obj w b = obj a b) ∧ a.heap.size ≤ w.heap.size := ⟨h.cells, h.frees, h.objs, h.le⟩
end

/-- whether two arrays are alike up to a place -/
def eqUpto (n : Nat) (f g : Nat → Int) : Bool := (List.range n).all fun i => f i == g i
theorem eqUpto_iff {n : Nat} {f g : Nat → Int} : eqUpto n f g = true ↔ ∀ i, i < n → f i = g i := by
  unfold eqUpto; simp
def eqPic (n : Nat) (a b : Int) (f : Nat → Int) (c d : Int) (g : Nat → Int) : Bool := a == c && b == d && eqUpto n f g
section
variable {P : Program} {n : Nat} {k : IntKind} {f g : Nat → Int}
theorem run_part_arr (e : TypeId) (he : P.underlying e = some (.int k)) (i : Nat) (hi : i < n) (w : World) : (part e (arr n k f) (i * 1)).run P w = .ok (.int k (f i)) w := by
  simp [part, isAgg, run_underlying he, hi]
theorem run_index_arr (t e : TypeId) (ht : P.underlying t = some (.array n e)) (he : P.underlying e = some (.int k)) (hsz : ∀ w, (sizeOf e).run P w = .ok 1 w) (ik : IntKind) (i : Int) (h0 : 0 ≤ i) (h1 : i < n) (w : World) :
    (Instr.index t (.agg (arr n k f)) (.int ik i)).run P w = .ok (.int k (f i.toNat)) w := by
  have hp := run_part_arr (P := P) (n := n) (f := f) (k := k) e he i.toNat (by omega) w
  simp only [Nat.mul_one] at hp
  simp [Instr.index, asIntOf, run_underlying ht, h0, h1, hsz, hp]
theorem run_equalIn_arr (w : World) (d : Nat) (t e : TypeId) (ht : P.underlying t = some (.array n e)) (he : P.underlying e = some (.int k)) (hsz : ∀ w, (sizeOf e).run P w = .ok 1 w) :
    (Op.equalIn (d + 2) t (.agg (arr n k f)) (.agg (arr n k g))).run P w = .ok (eqUpto n f g) w := by
  unfold eqUpto
  rw [List.range_eq_range', Op.equalIn]
  simp only [Sem.run_bind, run_underlying ht, Result.andThen_ok, hsz, Std.Legacy.Range.forIn_eq_forIn_range', Std.Legacy.Range.size, Nat.sub_zero, Nat.add_sub_cancel, Nat.div_one]
  have hl : ∀ i ∈ List.range' 0 n 1, i < n := fun i hi => by simpa using (List.mem_range'_1.1 hi).2
  generalize List.range' 0 n 1 = l at hl ⊢
  induction l with
  | nil => simp
  | cons i l ih =>
    have hi : i < n := hl i (by simp)
    have px := run_part_arr (P := P) (f := f) e he i hi w
    have py := run_part_arr (P := P) (f := g) e he i hi w
    have pe : (Op.equalIn (d + 1) e (.int k (f i)) (.int k (g i))).run P w = .ok (f i == g i) w := run_equalIn_int w d e k k _ _ he
    simp only [List.forIn_cons, Sem.run_bind, px, py, pe, Result.andThen_ok, List.all_cons]
    cases hb : (f i == g i)
    · simp
    · simp only [Bool.not_true, Bool.false_eq_true, if_false, Sem.run_pure, Result.andThen_ok, Bool.true_and]
      exact ih fun j hj => hl j (by simp [hj])
end

def cellOf (o : Option Obj) (i : Nat) : Option Value := match o with | some (.cells c _ _) => c[i]? | _ => none
def frzOf (o : Option Obj) (i : Nat) : Bool := match o with | some (.cells _ _ (lo, hi)) => lo ≤ i && i < hi | _ => false
def reCells (d : Array Value) : Obj → Obj
  | .cells _ t fr => .cells d t fr
  | o => o
def reCell (i : Nat) (v : Value) : Obj → Obj
  | .cells c t fr => .cells (c.setIfInBounds i v) t fr
  | o => o
section
variable (w : World) (g i : Nat) (c d : Array Value) (t : TypeId) (fr : Nat × Nat) (v : Value)
@[go_sem high] theorem cell_obj : w.cell? ⟨g, i, none⟩ = cellOf (obj w g) i := by unfold World.cell? cellOf obj; rfl
@[go_sem high] theorem frozen_obj : w.frozen? ⟨g, i, none⟩ = frzOf (obj w g) i := by unfold World.frozen? frzOf obj; rfl
@[go_sem] theorem cellOf_cells : cellOf (some (.cells c t fr)) i = c[i]? := rfl
@[go_sem] theorem frzOf_cells : frzOf (some (.cells c t)) i = false := by simp [frzOf]
@[go_sem] theorem reCells_cells : reCells d (.cells c t fr) = .cells d t fr := rfl
@[go_sem] theorem reCell_cells : reCell i v (.cells c t fr) = .cells (c.setIfInBounds i v) t fr := rfl
@[go_sem] theorem obj_setRow_same : obj (w.setRow g d) g = (obj w g).map (reCells d) := by
  unfold obj World.setRow
  rw [Array.getElem?_modify, if_pos rfl]
  rfl
@[go_sem] theorem obj_setRow_other (g' : Nat) (h : g' ≠ g) : obj (w.setRow g d) g' = obj w g' := by
  unfold obj World.setRow
  rw [Array.getElem?_modify, if_neg (fun e => h e.symm)]
@[go_sem] theorem obj_setCell_same : obj (w.setCell ⟨g, i, none⟩ v) g = (obj w g).map (reCell i v) := by
  unfold obj World.setCell
  rw [Array.getElem?_modify, if_pos rfl]
  rfl
@[go_sem] theorem obj_setCell_other (g' : Nat) (h : g' ≠ g) : obj (w.setCell ⟨g, i, none⟩ v) g' = obj w g' := by
  unfold obj World.setCell
  rw [Array.getElem?_modify, if_neg (fun e => h e.symm)]
theorem obj_set_pic {w : World} {g n : Nat} {a b : Int} {f : Nat → Int} {t : TypeId} {fr : Nat × Nat} (h : obj w g = some (.cells (pic n a b f) t fr)) (off i : Nat) (v : Int) (ho : off = 2 + i) : obj (w.setCell ⟨g, off, none⟩ (.int .u8 v)) g = some (.cells (pic n a b (upd f i v)) t fr) := by
  subst ho
  rw [obj_setCell_same, h]
  simp only [Option.map_some, reCell_cells, set_pic']
theorem obj_set_arr {w : World} {g n : Nat} {k : IntKind} {f : Nat → Int} {t : TypeId} {fr : Nat × Nat} (h : obj w g = some (.cells (arr n k f) t fr)) (off i : Nat) (v : Int) (ho : off = i) : obj (w.setCell ⟨g, off, none⟩ (.int k v)) g = some (.cells (arr n k (upd f i v)) t fr) := by
  subst ho
  rw [obj_setCell_same, h]
  simp only [Option.map_some, reCell_cells, set_arr]
theorem New.old {a w : World} (h : New a w) : (∀ b, b < a.heap.size → obj w b = obj a b) ∧ a.heap.size ≤ w.heap.size := ⟨h.objs, h.le⟩
end

/-- an array of yes and no -/
def brr (n : Nat) (f : Nat → Bool) : Array Value := ((List.range n).map fun i => Value.bool (f i)).toArray
def updB (f : Nat → Bool) (i : Nat) (v : Bool) : Nat → Bool := fun j => if j = i then v else f j
section
variable {n : Nat} {f g : Nat → Bool}
@[simp, go_sem] theorem size_brr : (brr n f).size = n := by simp [brr]
@[simp, go_sem] theorem get_brr (i : Nat) : (brr n f)[i]? = if i < n then some (.bool (f i)) else none := by
  by_cases h : i < n <;> simp [brr, h]
@[simp, go_sem] theorem elem_brr (i : Nat) (h : i < (brr n f).size) : (brr n f)[i] = .bool (f i) := by simp [brr]
theorem brr_congr (h : ∀ i, i < n → f i = g i) : brr n f = brr n g := by
  unfold brr
  congr 1
  refine List.map_congr_left fun i hi => ?_
  rw [h i (by simpa using hi)]
@[simp, go_sem] theorem set_brr (i : Nat) (v : Bool) : (brr n f).setIfInBounds i (.bool v) = brr n (updB f i v) := by
  apply Array.ext_getElem?
  intro j
  rw [Array.getElem?_setIfInBounds, get_brr, get_brr, size_brr]
  unfold updB
  by_cases hj : j = i
  · subst hj; simp
  · rw [if_neg (fun e => hj e.symm)]; simp [hj]
@[simp, go_sem] theorem ones_brr : ones (brr n f) := by
  intro v hv
  simp [brr] at hv
  obtain ⟨i, _, rfl⟩ := hv
  rfl
@[simp, go_sem] theorem extract_brr_all (m : Nat) (hm : m = n) : (brr n f).extract 0 m = brr n f := by
  have : m = (brr n f).size := by simp [hm]
  rw [this]
  exact Array.extract_size
@[simp, go_sem] theorem seg_brr_brr : seg (brr n f) 0 (brr n g) = brr n g := seg_all _ _ (by simp)
end

theorem obj_lt {w : World} {g : Nat} {o : Obj} (h : obj w g = some o) : g < w.heap.size := by
  rcases Nat.lt_or_ge g w.heap.size with hlt | hge
  · exact hlt
  · unfold obj at h; rw [Array.getElem?_eq_none hge] at h; cases h
/-- cells that are filled one after the other -/
def fold (init : Nat → Int) (test : Nat → Bool) (dst : Nat → Nat) (val : Nat → Int) : Nat → Nat → Int
  | 0 => init
  | k + 1 => if test k = true then upd (fold init test dst val k) (dst k) (val k) else fold init test dst val k
theorem fold_at (init : Nat → Int) (test : Nat → Bool) (dst src : Nat → Nat) (val : Nat → Int) (n : Nat) (H : ∀ i, i < n → test i = true → src (dst i) = i) (j : Nat) :
    fold init test dst val n j = if src j < n ∧ test (src j) = true ∧ dst (src j) = j then val (src j) else init j := by
  induction n with
  | zero => unfold fold; rw [if_neg (by omega)]
  | succ n ih =>
    have ih := ih (fun i hi => H i (by omega))
    unfold fold
    by_cases ht : test n = true
    · rw [if_pos ht]
      unfold upd
      by_cases hj : j = dst n
      · have hs : src j = n := by rw [hj]; exact H n (by omega) ht
        rw [if_pos hj, if_pos ⟨by omega, by rw [hs]; exact ht, by rw [hs]; exact hj.symm⟩, hs]
      · rw [if_neg hj, ih]
        by_cases hc : src j < n ∧ test (src j) = true ∧ dst (src j) = j
        · rw [if_pos hc, if_pos ⟨by omega, hc.2⟩]
        · rw [if_neg hc, if_neg]
          rintro ⟨h1, h2, h3⟩
          rcases Nat.lt_succ_iff_lt_or_eq.1 h1 with h4 | h4
          · exact hc ⟨h4, h2, h3⟩
          · rw [h4] at h3; exact hj h3.symm
    · rw [if_neg ht, ih]
      by_cases hc : src j < n ∧ test (src j) = true ∧ dst (src j) = j
      · rw [if_pos hc, if_pos ⟨by omega, hc.2⟩]
      · rw [if_neg hc, if_neg]
        rintro ⟨h1, h2, h3⟩
        rcases Nat.lt_succ_iff_lt_or_eq.1 h1 with h4 | h4
        · exact hc ⟨h4, h2, h3⟩
        · rw [h4] at h2; exact ht h2
end Go.Arr
/- Arguments that are arrays of numbers, opened; no condition. -/
set_option linter.unusedVariables false
namespace Go.Arr
open Go.ChangeShapes Go.WideShapes Go.ChangeAt Go.RowKit

def AllInts (k : IntKind) (cs : List Value) : Prop := ∀ (j : Nat) (v : Value), cs[j]? = some v → ∃ z, v = .int k z ∧ (Lit.int k z).wf = true
theorem AllInts.arr {k : IntKind} {cs : List Value} (h : AllInts k cs) : ∃ f : Nat → Int, cs = (arr cs.length k f).toList ∧ ∀ i, (Lit.int k (f i)).wf = true := by
  have w0 : (Lit.int k 0).wf = true := by cases k <;> decide
  let f : Nat → Int := fun i => match cs[i]? with | some (.int _ z) => z | _ => 0
  have hf : ∀ i v, cs[i]? = some v → v = .int k (f i) ∧ (Lit.int k (f i)).wf = true := by
    intro i v hv
    obtain ⟨z, rfl, hz⟩ := h i v hv
    have : f i = z := by simp only [f, hv]
    rw [this]
    exact ⟨rfl, hz⟩
  refine ⟨f, ?_, ?_⟩
  · apply List.ext_getElem?
    intro i
    have e0 : ((Arr.arr cs.length k f).toList)[i]? = (Arr.arr cs.length k f)[i]? := Array.getElem?_toList
    rw [e0, get_arr]
    by_cases hi : i < cs.length
    · rw [if_pos hi]
      have := hf i _ (List.getElem?_eq_getElem hi)
      rw [List.getElem?_eq_getElem hi, this.1]
    · rw [if_neg hi, List.getElem?_eq_none (by omega)]
  · intro i
    by_cases hi : i < cs.length
    · exact (hf i _ (List.getElem?_eq_getElem hi)).2
    · have : f i = 0 := by simp only [f, List.getElem?_eq_none (show cs.length ≤ i by omega)]
      rw [this]
      exact w0
section
variable {H : Type} {enc : TypeId × Value → H} {P : Program} {w : World} {base : Nat} {spare : Nat → Bool} {held : Bool} {fuel : Nat} {cs : List Value} {x : DataW H × List MemPlace} {t e : TypeId} {k : IntKind} {n m : Nat}
theorem ints_one (he : P.underlying e = some (.int k)) (h : DataW.trod enc P w base spare held fuel e cs = some x) : AllInts k cs := by
  obtain ⟨z, rfl, _, hw⟩ := DataW.trod_int he h
  intro j v hv
  match j, hv with
  | 0, hv => exact ⟨z, by simpa using hv.symm, hw⟩
  | j + 1, hv => simp at hv
theorem ints_array (ht : P.underlying t = some (.array n e)) (hm : P.cellsOf e = m) (hm0 : 0 < m) (hc : P.cellsOf t = n * m)
    (hel : ∀ (fuel : Nat) (cs : List Value) (x : DataW H × List MemPlace), DataW.trod enc P w base spare held fuel e cs = some x → AllInts k cs)
    (h : DataW.trod enc P w base spare held fuel t cs = some x) : cs.length = n * m ∧ AllInts k cs := by
  obtain ⟨xs, mm, _, _, hlen, hxl, hg⟩ := DataW.trod_array ht h
  rw [hc] at hlen
  refine ⟨hlen, fun j v hv => ?_⟩
  have hj : j < n * m := by
    have := (List.getElem?_eq_some_iff.1 hv).1
    omega
  have hi : j / m < n := (Nat.div_lt_iff_lt_mul hm0).2 hj
  have hx := hg (j / m) hi
  have hsome : xs[j / m]? = some (xs[j / m]'(by omega)) := List.getElem?_eq_getElem (by omega)
  rw [hsome, hm] at hx
  refine hel _ _ _ hx (j % m) v ?_
  have hlt : j % m < m := Nat.mod_lt _ hm0
  rw [List.getElem?_take, if_pos hlt, List.getElem?_drop]
  rw [show j / m * m + j % m = j from by rw [Nat.mul_comm]; exact Nat.div_add_mod j m]
  exact hv
/-- a struct of two small numbers and a row of bytes -/
theorem open_pic {r : Reach} {b0 : Nat} {v : Value} {d : DataW H} {p : List MemPlace} {n0 n1 n2 : Field} {t8 : TypeId} (hs : P.underlying t = some (.struct #[n0, n1, n2]))
    (h0 : n0.type = t8 ∧ n0.offset = 0) (h1 : n1.type = t8 ∧ n1.offset = 1) (h2 : n2.type = e ∧ n2.offset = 2) (h8 : P.underlying t8 = some (.int .i8)) (hc8 : P.cellsOf t8 = 1) (hc : P.cellsOf t = n + 2) (hce : P.cellsOf e = n)
    (hel : ∀ (fuel : Nat) (cs : List Value) (x : DataW H × List MemPlace), DataW.trod enc P w base spare held fuel e cs = some x → cs.length = n ∧ AllInts .u8 cs)
    (hv : Value.okWide P w r b0 t v) (h : DataW.Trod enc P w base spare held t v d p) :
    ∃ (a b : Int) (f : Nat → Int), v = .agg (pic n a b f) ∧ (-128 ≤ a ∧ a ≤ 127) ∧ (-128 ≤ b ∧ b ≤ 127) ∧ ∀ i, 0 ≤ f i ∧ f i ≤ 255 := by
  obtain ⟨cs, rfl, hsz⟩ := okWide_struct hs hv
  obtain ⟨l⟩ := cs
  obtain ⟨fuel, hf⟩ := h
  obtain ⟨xs, nn, _, hx, hcl, hlen, hg⟩ := DataW.trod_struct hs hf
  simp only [Value.cells] at hg hcl
  rw [hc] at hcl
  match l, hcl with
  | c0 :: c1 :: rest, hcl =>
    have hr : rest.length = n := by simpa using hcl
    have hxl : xs.length = 3 := by simpa using hlen
    match xs, hxl with
    | [y0, y1, y2], _ =>
      have g0 := hg 0 n0 rfl
      have g1 := hg 1 n1 rfl
      have g2 := hg 2 n2 rfl
      rw [h0.1, h0.2, hc8] at g0
      rw [h1.1, h1.2, hc8] at g1
      rw [h2.1, h2.2, hce] at g2
      have e2 : (rest.take n) = rest := by rw [← hr]; exact List.take_length
      simp only [List.drop_zero, List.take_succ_cons, List.take_zero, List.drop_succ_cons, e2, List.getElem?_cons_zero, List.getElem?_cons_succ] at g0 g1 g2
      obtain ⟨a, ea, _, wa⟩ := DataW.trod_int h8 g0
      obtain ⟨b, eb, _, wb⟩ := DataW.trod_int h8 g1
      obtain ⟨_, hai⟩ := hel _ _ _ g2
      obtain ⟨f, ef, wf⟩ := hai.arr
      simp only [List.cons.injEq, and_true] at ea eb
      subst ea eb
      refine ⟨a, b, f, ?_, bounds_i8 wa, bounds_i8 wb, fun i => bounds_u8 (wf i)⟩
      congr 1
      rw [ef, hr]
      simp [pic, arr]
/-- a row of three bytes -/
theorem open_tone {r : Reach} {b0 : Nat} {v : Value} {d : DataW H} {p : List MemPlace} (ht : P.underlying t = some (.array 3 e)) (he : P.underlying e = some (.int .u8)) (hce : P.cellsOf e = 1) (hct : P.cellsOf t = 3)
    (hv : Value.okWide P w r b0 t v) (h : DataW.Trod enc P w base spare held t v d p) :
    ∃ a b c : Int, v = .agg #[.int .u8 a, .int .u8 b, .int .u8 c] ∧ (0 ≤ a ∧ a ≤ 255) ∧ (0 ≤ b ∧ b ≤ 255) ∧ (0 ≤ c ∧ c ≤ 255) := by
  simp only [Value.okWide, ht] at hv
  obtain ⟨cs, rfl, _, _⟩ := hv
  obtain ⟨l⟩ := cs
  obtain ⟨fuel, hf⟩ := h
  obtain ⟨hl, hai⟩ := ints_array (m := 1) ht hce (by omega) hct (fun _ _ _ h => ints_one he h) hf
  simp only [Value.cells] at hl hai
  obtain ⟨f, ef, wf⟩ := hai.arr
  rw [hl] at ef
  refine ⟨f 0, f 1, f 2, ?_, bounds_u8 (wf 0), bounds_u8 (wf 1), bounds_u8 (wf 2)⟩
  congr 1
  rw [ef]
  rfl
end
end Go.Arr
/- Loops taken out of a function's body; no condition. -/
set_option linter.unusedVariables false
namespace Go.Proofs.YtphjhegaplochaaGreatDoor
def loopsOf : Code → List Code
  | .loop c => [c]
  | .seq a b => loopsOf a ++ loopsOf b
  | .block _ c => loopsOf c
  | .scope c => loopsOf c
  | .cond _ a b => loopsOf a ++ loopsOf b
  | _ => []
noncomputable def loopIn (c : Code) (n : Nat) : Code := ((loopsOf c)[n]?).getD .skip
end Go.Proofs.YtphjhegaplochaaGreatDoor
/- Statements whose order is open and whose callees only make memory of their own; no condition. -/
set_option linter.unusedVariables false
namespace Go.Arr
open Go.RowKit
/-- a world in which all that was there is as it was -/
structure NewW (W : World) where
  world : World
  is : New W world
instance (W : World) : Inhabited (NewW W) := ⟨⟨W, New.refl W⟩⟩
@[go_sem] theorem NewW.obj_ {W : World} (p : NewW W) (b : Nat) (h : b < W.heap.size) : obj p.world b = obj W b := p.is.objs b h
theorem NewW.of {W w : World} (h : ∃ p : NewW W, w = p.world) : New W w := by obtain ⟨p, rfl⟩ := h; exact p.is
theorem wp_region_new {P : Program} {id : Nat} {Q : Exit → Act → World → Prop} {a : Act} {w : World} {l : List Oper} (hm : P.follows .mixedOrders = true) (hB : Region.lexB .any l.toArray = true)
    (h : wpQuiet P l.toArray (fun w' => ∃ p : NewW w, w' = p.world) (fun a' => ∀ w', (∃ p : NewW w, w' = p.world) → Q .normal a' w') l a) : (Code.region id l.toArray true).wp P Q a w :=
  wp_region_quiet (C := fun w' => ∃ p : NewW w, w' = p.world) hm hB ⟨⟨_, (New.refl w).drew⟩, rfl⟩ (by simpa using h)
theorem calls_new {P : Program} {f : FuncId} {args : Array Value} {W : World} {p : NewW W} {v : Value}
    (h : Calls P f args p.world fun e w' => e = .returned v ∧ New p.world w') : Calls P f args p.world fun e w'' => e = .returned v ∧ ∃ q : NewW W, w'' = q.world :=
  h.mono fun _ w' ⟨he, hn⟩ => ⟨he, ⟨w', p.is.trans hn⟩, rfl⟩
end Go.Arr
/- Slices of numbers that a call makes: append, reading, keeping; no condition. -/
set_option linter.unusedVariables false
namespace Go.Arr
open Go.RowKit
/-- the facts on a slice type that an append asks -/
def SlTy (P : Program) (t e : TypeId) (z : Value) (size bytes : Nat) : Prop :=
  P.underlying t = some (.slice e) ∧ (P.info? e).map (fun i => (i.zero, i.size, i.bytes)) = some (some z, size, bytes) ∧ z.cells.size = size ∧ 0 < size
theorem grown_new {a w w' : World} {row : Option Nat} (h : New a w) (hg : w.grownBy w' row) (hr : ∀ k, row = some k → a.heap.size ≤ k) : New a w' := Below.grown h hg h.le hr
theorem grown_obj {w w' : World} {row : Option Nat} (hg : w.grownBy w' row) : ∀ b, b < w.heap.size → some b ≠ row → obj w' b = obj w b := fun b hb hne => hg.block b hb hne
theorem grown_le {w w' : World} {row : Option Nat} (hg : w.grownBy w' row) : w.heap.size ≤ w'.heap.size := hg.size
/-- the cells of a block that has just been made -/
theorem news_new (w : World) (cs : Array Value) (t : TypeId) (fr : Nat × Nat) (n : Nat) (hn : n = w.heap.size) : ∀ j u, cs.toList[j]? = some u → (w.alloc (.cells cs t fr)).cell? ((⟨n, 0, none⟩ : Addr).add j) = some u := by
  subst hn
  exact World.news_of_block (heap_alloc_new w _)
theorem news_obj {w : World} {g : Nat} {cs : Array Value} {t : TypeId} {fr : Nat × Nat} (h : obj w g = some (.cells cs t fr)) : ∀ j u, cs.toList[j]? = some u → w.cell? ((⟨g, 0, none⟩ : Addr).add j) = some u := World.news_of_block h
section
variable {P : Program}
theorem wpList_app {w : World} {ops : Array Oper} {rest : List Oper} {o : Oper} {a : Act} {Q : Exit → Act → World → Prop} {t e : TypeId} {z : Value} {size bytes : Nat} (hs : SlTy P t e z size bytes) (hgd : o.guard = none) (s x : Operand)
    (ho : o.op = .call { callee := .builtin .append, args := #[s, x], argTypes := #[t, t] })
    (base : Nat) (v : Value) (n : Nat) (xs : List Value) (hv : a.eval s = v) (hown : w.ownsRow base e size v n xs)
    (ad : Addr) (m c : Nat) (news : List Value) (hx : a.eval x = .slice (some ad) m c) (hl : news.length = m * size) (hnews : ∀ j u, news[j]? = some u → w.cell? (ad.add j) = some u) (h1 : ∀ u ∈ news, u.oneCell' = true)
    (hm : 0 < m) (h63 : n + m ≤ maxLen) (hbytes : (n + m) * bytes ≤ 140737488355328) (hbase : base ≤ w.heap.size)
    (h : ∀ g cap w', w'.ownsRow base e size (.slice (some ⟨g, 0, none⟩) (n + m) cap) (n + m) (xs ++ news) → w.grownBy w' v.ownBlock → (v.ownBlock = some g ∨ g = w.heap.size) → g < w'.heap.size → wpList P ops Q rest (a.put o.dst (.slice (some ⟨g, 0, none⟩) (n + m) cap)) w') :
    wpList P ops Q (o :: rest) a w := by
  obtain ⟨ht, hi, hzs, hsz⟩ := hs
  obtain ⟨i, hi0, hz, h2, h3⟩ := info_parts hi
  exact wpList_append_lies w hgd s x t ho base e i z size bytes ht hi0 hz h2 h3 hzs hsz v n xs hv hown ad m c news hx hl hnews h1 hm h63 hbytes hbase w.heap.size rfl h
theorem step_app {w : World} {ops : Array Oper} {o : Oper} {a : Act} {K : Act → World → Prop} {Q : Exit → Act → World → Prop} {E : Prop} {t e : TypeId} {z : Value} {size bytes : Nat} (hs : SlTy P t e z size bytes) (hgd : o.guard = none) (s x : Operand)
    (ho : o.op = .call { callee := .builtin .append, args := #[s, x], argTypes := #[t, t] })
    (base : Nat) (v : Value) (n : Nat) (xs : List Value) (hv : a.eval s = v) (hown : w.ownsRow base e size v n xs)
    (ad : Addr) (m c : Nat) (news : List Value) (hx : a.eval x = .slice (some ad) m c) (hl : news.length = m * size) (hnews : ∀ j u, news[j]? = some u → w.cell? (ad.add j) = some u) (h1 : ∀ u ∈ news, u.oneCell' = true)
    (hm : 0 < m) (h63 : n + m ≤ maxLen) (hbytes : (n + m) * bytes ≤ 140737488355328) (hbase : base ≤ w.heap.size)
    (h : ∀ g cap w', w'.ownsRow base e size (.slice (some ⟨g, 0, none⟩) (n + m) cap) (n + m) (xs ++ news) → w.grownBy w' v.ownBlock → (v.ownBlock = some g ∨ g = w.heap.size) → g < w'.heap.size → K (a.put o.dst (.slice (some ⟨g, 0, none⟩) (n + m) cap)) w') :
    if Region.wanted o (yielded ops a.tmps) = true then Oper.wp P o a w K Q else E := by
  obtain ⟨ht, hi, hzs, hsz⟩ := hs
  obtain ⟨i, hi0, hz, h2, h3⟩ := info_parts hi
  exact step_append_lies w hgd s x t ho base e i z size bytes ht hi0 hz h2 h3 hzs hsz v n xs hv hown ad m c news hx hl hnews h1 hm h63 hbytes hbase w.heap.size rfl h
end
section
variable {w w' : World} {base : Nat} {e : TypeId} {size n : Nat} {v : Value} {xs : List Value}
theorem own_new (h : w.ownsRow base e size v n xs) (hn : New w w') : w'.ownsRow base e size v n xs :=
  h.kept (row := none) ⟨hn.os, hn.tape, hn.output, hn.size, fun i hi _ => hn.block i hi⟩ (by cases hb : v.ownBlock with | none => exact .inl rfl | some _ => exact .inr (by simp))
theorem own_lower {b : Nat} (h : w.ownsRow base e size v n xs) (hb : b ≤ base) : w.ownsRow b e size v n xs := by
  obtain ⟨hl, h | ⟨g, cap, cur, h1, h2, h3⟩⟩ := h
  · exact ⟨hl, .inl h⟩
  · exact ⟨hl, .inr ⟨g, cap, cur, h1, by omega, h3⟩⟩
/-- what an owned row's block holds -/
theorem own_obj {g cap : Nat} (h : w.ownsRow base e size (.slice (some ⟨g, 0, none⟩) n cap) n xs) : ∃ cur, obj w g = some (.cells cur e) ∧ base ≤ g ∧ g < w.heap.size ∧ n * size ≤ cur.size ∧ n ≤ cap ∧ cap ≤ maxLen ∧ ∀ j, j < n * size → cur[j]? = xs[j]? := by
  obtain ⟨hl, h | ⟨g', cap', cur, h1, h2, h3, h4, h5, h6, h7⟩⟩ := h
  · cases h.1
  · simp only [Value.slice.injEq, Option.some.injEq, Addr.mk.injEq, and_true] at h1
    obtain ⟨rfl, _, rfl⟩ := h1
    refine ⟨cur, h3, h2, ?_, ?_, h4, h5, fun j hj => ?_⟩
    · rcases Nat.lt_or_ge g w.heap.size with hlt | hge
      · exact hlt
      · rw [Array.getElem?_eq_none hge] at h3; cases h3
    · rw [h6]; exact Nat.mul_le_mul_right _ h4
    · rw [← h7, List.getElem?_take, if_pos hj, Array.getElem?_toList]
theorem own_of_obj {g cap : Nat} {cur : Array Value} (h : obj w g = some (.cells cur e)) (hb : base ≤ g) (hn : n ≤ cap) (hc : cap ≤ maxLen) (hs : cur.size = cap * size) : w.ownsRow base e size (.slice (some ⟨g, 0, none⟩) n cap) n (cur.toList.take (n * size)) :=
  ⟨by rw [List.length_take, Array.length_toList, hs]; exact Nat.min_eq_left (Nat.mul_le_mul_right _ hn), .inr ⟨g, cap, cur, rfl, hb, h, hn, hc, hs, rfl⟩⟩
end
/-- numbers as cells -/
def irow (n : Nat) (k : IntKind) (f : Nat → Int) : List Value := (List.range n).map fun i => Value.int k (f i)
section
variable {n : Nat} {k : IntKind} {f g : Nat → Int}
theorem irow_toList : (arr n k f).toList = irow n k f := by simp [arr, irow]
@[simp] theorem length_irow : (irow n k f).length = n := by simp [irow]
theorem get_irow (i : Nat) (h : i < n) : (irow n k f)[i]? = some (.int k (f i)) := by simp [irow, h]
theorem irow_snoc (v : Int) : irow n k f ++ [.int k v] = irow (n + 1) k (upd f n v) := by
  unfold irow
  rw [List.range_succ, List.map_append]
  congr 1
  · refine List.map_congr_left fun i hi => ?_
    have : i < n := by simpa using hi
    unfold upd
    rw [if_neg (by omega)]
  · simp [upd]
theorem irow_congr (h : ∀ i, i < n → f i = g i) : irow n k f = irow n k g := by
  unfold irow
  refine List.map_congr_left fun i hi => ?_
  rw [h i (by simpa using hi)]
theorem irow_one : ∀ u ∈ irow n k f, u.oneCell' = true := by
  intro u hu
  simp [irow] at hu
  obtain ⟨i, _, rfl⟩ := hu
  rfl
end
end Go.Arr
