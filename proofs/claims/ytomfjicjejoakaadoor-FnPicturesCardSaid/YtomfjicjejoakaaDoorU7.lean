/- A picture with its kind: built, laid in a row, loaded; no condition. -/
import Derived.Test.YtomfjicjejoakaaDoorU4
import Derived.Great.BuildSlice
import Derived.Test.YtomfjicjejoakaaDoorU1
import Derived.Deep.RegionHeld3
import Derived.Deep.DeepCutAuto
import Derived.Test.YtomfjicjejoakaaDoorU3
import Derived.Test.YtomfjicjejoakaaDoorU2
import Derived.Test.YtomfjicjejoakaaDoorU6
import Derived.Maps.AppendAt
import Derived.Laws.Bits64
import Derived.Conc.WgArith
import Derived.IntWalk
set_option linter.unusedVariables false
namespace Go.Proofs.YtomfjicjejoakaaDoor
open Go.BigFrame
open Go.RowKit Go.Arr
def pk (a b : Int) (f : Nat → Int) (k : Int) : Array Value := (pic 144 a b f).push (.int .i64 k)
theorem size_pk {a b k : Int} {f : Nat → Int} : (pk a b f k).size = 147 := by simp [pk]
def bldOp (t : TypeId) (parts : Array (Nat × Value)) : Sem Value := Instr.build t parts
def sldOp (t : TypeId) (n : Nat) (parts : Array (Nat × Value)) : Sem Value := Instr.buildSlice t n parts
theorem bvK : Instr.build 68 = bldOp 68 := rfl
theorem svS : Instr.buildSlice 69 = sldOp 69 := rfl
set_option maxRecDepth 100000 in
theorem bldK (w : World) (a b k : Int) (f : Nat → Int) : (bldOp 68 #[(0, .agg (pic 144 a b f)), (1, .int .i64 k)]).run Tryd.prog w = .ok (.agg (pk a b f k)) w := by kernel_rfl
def row4 (c1 c2 c3 c4 : Array Value) : Array Value := c1 ++ c2 ++ c3 ++ c4
theorem lvK : loadVar 68 = aggLoad 68 := rfl
theorem svK : storeVar 68 = aggStore 68 := rfl
theorem ldK (g off : Nat) (w : World) : (aggLoad 68 ⟨g, off, none⟩).run Tryd.prog w = segOr (obj w g) off 147 w ((aggLoadOld 68 ⟨g, off, none⟩).run Tryd.prog w) := run_aggLoad 68 147 _ Tryd.underlying68 rfl (by kernel_rfl) g off w
theorem stK (g off : Nat) (v : Value) (w : World) : (aggStore 68 ⟨g, off, none⟩ v).run Tryd.prog w = segStoreOr (obj w g) g off 147 v w ((aggStoreOld 68 ⟨g, off, none⟩ v).run Tryd.prog w) := run_aggStore 68 147 (by kernel_rfl) g off v w
set_option maxRecDepth 100000 in
theorem zeroK (w : World) : (zeroValue 68).run Tryd.prog w = .ok (.agg (pk 0 0 (fun _ => 0) 0)) w := by kernel_rfl
theorem ones_pk {a b k : Int} {f : Nat → Int} : ones (pk a b f k) := by
  intro v hv
  simp only [pk, Array.toList_push, List.mem_append, List.mem_singleton] at hv
  rcases hv with h | rfl
  · exact ones_pic v h
  · rfl
theorem seg_pk {a b k a' b' k' : Int} {f f' : Nat → Int} : seg (pk a b f k) 0 (pk a' b' f' k') = pk a' b' f' k' := seg_all _ _ (by rw [size_pk, size_pk])
theorem ext_pk_all {a b k : Int} {f : Nat → Int} : (pk a b f k).extract 0 147 = pk a b f k := by
  have : 147 = (pk a b f k).size := size_pk.symm
  rw [this]
  exact Array.extract_size
theorem ext_pk_pic {a b k : Int} {f : Nat → Int} : (pk a b f k).extract 0 146 = pic 144 a b f := by
  apply Array.ext_getElem?
  intro j
  rw [Array.getElem?_extract, size_pk]
  by_cases hj : j < 146
  · rw [if_pos (by omega), Nat.zero_add, pk, Array.getElem?_push, if_neg (by rw [size_pic]; omega)]
  · rw [if_neg (by omega), Array.getElem?_eq_none (by rw [size_pic]; omega)]
theorem pop_pk {a b k : Int} {f : Nat → Int} : (pk a b f k).pop = pic 144 a b f := by simp [pk]
theorem get_pk_k {a b k : Int} {f : Nat → Int} : (pk a b f k)[146]? = some (.int .i64 k) := by
  rw [pk, Array.getElem?_push, if_pos (by rw [size_pic])]
theorem get_pk_e {a b k : Int} {f : Nat → Int} (h : 146 < (pk a b f k).size) : (pk a b f k)[146]'h = .int .i64 k := by
  have := get_pk_k (a := a) (b := b) (k := k) (f := f)
  rw [Array.getElem?_eq_getElem h] at this
  exact Option.some.inj this
theorem row4_0 {c1 c2 c3 c4 : Array Value} (h1 : c1.size = 147) (h2 : c2.size = 147) (h3 : c3.size = 147) (h4 : c4.size = 147) : (row4 c1 c2 c3 c4).extract 0 147 = c1 ∧ (row4 c1 c2 c3 c4).extract 147 294 = c2 ∧ (row4 c1 c2 c3 c4).extract 294 441 = c3 ∧ (row4 c1 c2 c3 c4).extract 441 588 = c4 ∧ (row4 c1 c2 c3 c4).size = 588 := by
  have hg : ∀ (o : Nat) (c : Array Value), c.size = 147 → (∀ j, j < 147 → (row4 c1 c2 c3 c4)[o + j]? = c[j]?) → o + 147 ≤ (row4 c1 c2 c3 c4).size → (row4 c1 c2 c3 c4).extract o (o + 147) = c := by
    intro o c hc h hs
    apply Array.ext_getElem?
    intro j
    rw [Array.getElem?_extract]
    by_cases hj : j < 147
    · rw [if_pos (by omega), h j hj]
    · rw [if_neg (by omega), Array.getElem?_eq_none (by omega)]
  have hs : (row4 c1 c2 c3 c4).size = 588 := by simp [row4, h1, h2, h3, h4]
  refine ⟨hg 0 c1 h1 ?_ (by omega), hg 147 c2 h2 ?_ (by omega), hg 294 c3 h3 ?_ (by omega), hg 441 c4 h4 ?_ (by omega), hs⟩
  all_goals
    intro j hj
    unfold row4
    simp only [Array.getElem?_append, Array.size_append, h1, h2, h3]
  · rw [if_pos (by omega), if_pos (by omega), if_pos (by omega), Nat.zero_add]
  · rw [if_pos (by omega), if_pos (by omega), if_neg (by omega), Nat.add_sub_cancel_left]
  · rw [if_pos (by omega), if_neg (by omega), show 294 + j - (147 + 147) = j by omega]
  · rw [if_neg (by omega), show 441 + j - (147 + 147 + 147) = j by omega]
theorem get_put (off : Nat) (l : List Value) : ∀ (k : Nat) (cs : Array Value) (i : Nat), off + k + l.length ≤ cs.size → ((l.zipIdx k).foldl (fun cs (x : Value × Nat) => cs.setIfInBounds (off + x.2) x.1) cs)[i]? = if off + k ≤ i ∧ i < off + k + l.length then l[i - (off + k)]? else cs[i]? := by
  induction l with
  | nil => intro k cs i _; rw [List.length_nil, if_neg (by omega)]; rfl
  | cons c l ih =>
    intro k cs i h
    rw [List.length_cons] at h ⊢
    rw [List.zipIdx_cons, List.foldl_cons, ih (k + 1) _ i (by rw [Array.size_setIfInBounds]; omega), Array.getElem?_setIfInBounds]
    dsimp only
    by_cases h1 : off + (k + 1) ≤ i ∧ i < off + (k + 1) + l.length
    · rw [if_pos h1, if_pos (by omega)]
      obtain ⟨d, rfl⟩ : ∃ d, i = off + (k + 1) + d := ⟨i - (off + (k + 1)), by omega⟩
      rw [show off + (k + 1) + d - (off + (k + 1)) = d by omega, show off + (k + 1) + d - (off + k) = d + 1 by omega, List.getElem?_cons_succ]
    · rw [if_neg h1]
      by_cases h2 : off + k = i
      · subst h2
        rw [if_pos rfl, if_pos (by omega), if_pos (by omega), Nat.sub_self, List.getElem?_cons_zero]
      · rw [if_neg h2, if_neg (by omega)]
theorem fill_row {place : Nat → Option (Nat × Nat)} {i off n : Nat} {v cs : Array Value} {rest : List (Nat × Value)} (hp : place i = some (off, n)) (hv : v.size = n) (hl : off + n ≤ cs.size) : ∃ ds : Array Value, ds.size = cs.size ∧ (∀ j, ds[j]? = if off ≤ j ∧ j < off + n then v[j - off]? else cs[j]?) ∧ Instr.fill place cs ((i, .agg v) :: rest) = Instr.fill place ds rest := by
  refine ⟨v.zipIdx.foldl (fun cs (x : Value × Nat) => cs.setIfInBounds (off + x.2) x.1) cs, ?_, fun j => ?_, ?_⟩
  · rw [← Array.foldl_toList]
    generalize v.zipIdx.toList = l
    induction l generalizing cs with
    | nil => rfl
    | cons x l ih => rw [List.foldl_cons, ih (by rw [Array.size_setIfInBounds]; exact hl), Array.size_setIfInBounds]
  · have h := get_put off v.toList 0 cs j (by rw [Array.length_toList]; omega)
    rw [Nat.add_zero, Array.length_toList, hv, Array.getElem?_toList] at h
    rw [← Array.foldl_toList, Array.toList_zipIdx]
    exact h
  · have hc : (Value.agg v).cells = v := rfl
    rw [Instr.fill]
    simp only [hp, hc, hv]
    rw [if_neg (by simp; omega)]
set_option maxRecDepth 100000 in
theorem bldS (w : World) (a1 b1 a2 b2 a3 b3 a4 b4 k1 k2 k3 k4 : Int) (f1 f2 f3 f4 : Nat → Int) : (sldOp 69 4 #[(0, .agg (pk a1 b1 f1 k1)), (1, .agg (pk a2 b2 f2 k2)), (2, .agg (pk a3 b3 f3 k3)), (3, .agg (pk a4 b4 f4 k4))]).run Tryd.prog w = .ok (.slice (some ⟨w.heap.size, 0, none⟩) 4 4) (w.alloc (.cells (row4 (pk a1 b1 f1 k1) (pk a2 b2 f2 k2) (pk a3 b3 f3 k3) (pk a4 b4 f4 k4)) 68)) := by
  obtain ⟨ie, hie, h2⟩ := Option.map_eq_some_iff.1 (show (Tryd.prog.info? 68).map (fun i => (i.zero, i.size)) = some (some (.agg (pk 0 0 (fun _ => 0) 0)), 147) by kernel_rfl)
  simp only [Prod.mk.injEq] at h2
  obtain ⟨hz, hsz⟩ := h2
  refine run_buildSlice (P := Tryd.prog) w 69 68 4 _ _ ie _ Tryd.underlying69 hie hz (by rw [hsz]; decide) (by rw [hsz]; decide) ?_
  rw [hsz]
  have hs0 : ((Array.range (4 * 147)).map ((Value.agg (pk 0 0 (fun _ => 0) 0)).cells[· % (Value.agg (pk 0 0 (fun _ => 0) 0)).cells.size]!)).size = 588 := by rw [Array.size_map, Array.size_range]
  generalize (Array.range (4 * 147)).map ((Value.agg (pk 0 0 (fun _ => 0) 0)).cells[· % (Value.agg (pk 0 0 (fun _ => 0) 0)).cells.size]!) = c0 at hs0 ⊢
  have z1 := size_pk (a := a1) (b := b1) (k := k1) (f := f1)
  have z2 := size_pk (a := a2) (b := b2) (k := k2) (f := f2)
  have z3 := size_pk (a := a3) (b := b3) (k := k3) (f := f3)
  have z4 := size_pk (a := a4) (b := b4) (k := k4) (f := f4)
  generalize pk a1 b1 f1 k1 = p1 at z1 ⊢
  generalize pk a2 b2 f2 k2 = p2 at z2 ⊢
  generalize pk a3 b3 f3 k3 = p3 at z3 ⊢
  generalize pk a4 b4 f4 k4 = p4 at z4 ⊢
  have e0 : (#[((0 : Nat), Value.agg p1), (1, Value.agg p2), (2, Value.agg p3), (3, Value.agg p4)] : Array (Nat × Value)).toList = [(0, Value.agg p1), (1, Value.agg p2), (2, Value.agg p3), (3, Value.agg p4)] := rfl
  rw [e0]
  obtain ⟨d1, s1, g1, e1⟩ := fill_row (place := fun i => some (i * 147, 147)) (i := 0) (off := 0) (n := 147) (cs := c0) (rest := [(1, Value.agg p2), (2, Value.agg p3), (3, Value.agg p4)]) rfl z1 (by omega)
  obtain ⟨d2, s2, g2, e2⟩ := fill_row (place := fun i => some (i * 147, 147)) (i := 1) (off := 147) (n := 147) (cs := d1) (rest := [(2, Value.agg p3), (3, Value.agg p4)]) rfl z2 (by omega)
  obtain ⟨d3, s3, g3, e3⟩ := fill_row (place := fun i => some (i * 147, 147)) (i := 2) (off := 294) (n := 147) (cs := d2) (rest := [(3, Value.agg p4)]) rfl z3 (by omega)
  obtain ⟨d4, s4, g4, e4⟩ := fill_row (place := fun i => some (i * 147, 147)) (i := 3) (off := 441) (n := 147) (cs := d3) (rest := []) rfl z4 (by omega)
  rw [e1, e2, e3, e4]
  show some d4 = some (row4 p1 p2 p3 p4)
  congr 1
  apply Array.ext_getElem?
  intro j
  rw [g4, g3, g2, g1]
  unfold row4
  simp only [Array.getElem?_append, Array.size_append, z1, z2, z3]
  by_cases h1 : j < 147
  · rw [if_neg (by omega), if_neg (by omega), if_neg (by omega), if_pos (by omega), if_pos (by omega), if_pos (by omega), if_pos (by omega), Nat.sub_zero]
  · by_cases h2 : j < 294
    · rw [if_neg (by omega), if_neg (by omega), if_pos (by omega), if_pos (by omega), if_pos (by omega), if_neg (by omega)]
    · by_cases h3 : j < 441
      · rw [if_neg (by omega), if_pos (by omega), if_pos (by omega), if_neg (by omega)]
      · by_cases h4 : j < 588
        · rw [if_pos (by omega), if_neg (by omega)]
        · rw [if_neg (by omega), if_neg (by omega), if_neg (by omega), if_neg (by omega), if_neg (by omega), Array.getElem?_eq_none (by omega), Array.getElem?_eq_none (by omega)]
end Go.Proofs.YtomfjicjejoakaaDoor
/- Statements that draw their order, hold calls that make memory, and lay what comes out in a variable of their own; no condition. -/
set_option linter.unusedVariables false
namespace Go.Arr
open Go.RowKit
section
variable {v W W' : World} {g1 g2 : Nat} {A B : Option Obj}
theorem held_begin (h1 : obj W g1 = A) (h2 : obj W g2 = B) : obj W.drew g1 = A ∧ obj W.drew g2 = B ∧ New W W.drew :=
  ⟨h1, h2, (New.refl W).drew⟩
theorem held_new (l1 : g1 < v.heap.size) (l2 : g2 < v.heap.size) (h : obj W g1 = A ∧ obj W g2 = B ∧ New v W) (hn : New W W') : obj W' g1 = A ∧ obj W' g2 = B ∧ New v W' := by
  have hv := h.2.2.le
  exact ⟨by rw [hn.objs _ (by omega), h.1], by rw [hn.objs _ (by omega), h.2.1], h.2.2.trans hn⟩
theorem held_row (l1 : g1 < v.heap.size) (l2 : g2 < v.heap.size) (h : obj W g1 = A ∧ obj W g2 = B ∧ New v W) {g : Nat} (hg : v.heap.size ≤ g) (c : Array Value) : obj (W.setRow g c) g1 = A ∧ obj (W.setRow g c) g2 = B ∧ New v (W.setRow g c) :=
  ⟨by rw [← h.1]; exact setRow_other W g _ c (by omega), by rw [← h.2.1]; exact setRow_other W g _ c (by omega), h.2.2.setRow (by omega) c⟩
theorem held_re (l1 : g1 < v.heap.size) (l2 : g2 < v.heap.size) {o : Obj} (h : obj (W.alloc o) g1 = A ∧ obj (W.alloc o) g2 = B ∧ New v (W.alloc o)) (hz : v.heap.size ≤ W.heap.size) (o' : Obj) : obj (W.alloc o') g1 = A ∧ obj (W.alloc o') g2 = B ∧ New v (W.alloc o') := by
  have e : ∀ b, b < W.heap.size → obj (W.alloc o') b = obj (W.alloc o) b := fun b hb => by rw [obj_alloc_past _ _ _ hb, obj_alloc_past _ _ _ hb]
  refine ⟨by rw [e _ (by omega), h.1], by rw [e _ (by omega), h.2.1], ?_⟩
  have hn := h.2.2
  refine ⟨hn.os, hn.tape, hn.output, by simp; omega, fun k hk => ?_⟩
  have := hn.block k hk
  have e2 := e k (by omega)
  unfold obj at e2
  rw [e2]
  exact this
theorem obj_made {o : Obj} (hn : New (W.alloc o) W') : obj W' W.heap.size = some o := (hn.objs _ (by simp)).trans (obj_alloc_at _ _ _ rfl)
theorem obj_made2 {o : Obj} (hn : New (W.alloc o).drew W') : obj W' W.heap.size = some o := (hn.objs _ (by simp)).trans ((obj_drew _ _).trans (obj_alloc_at _ _ _ rfl))
theorem lt_new (hn : New W W') : ∀ n, n < W.heap.size → n < W'.heap.size := fun n h => Nat.lt_of_lt_of_le h hn.le
end
end Go.Arr
/- The symmetries of a picture: the reference and the program answer alike, and the law; no condition. -/
set_option linter.unusedVariables false
namespace Go.Proofs.YtomfjicjejoakaaDoor
open Go.BigFrame
open Go.RowKit Go.Arr
def symM (a b : Int) (f : Nat → Int) : Nat → Bool
  | 0 => eqPic 144 a b (paint a b (mirH a f)) a b f
  | 1 => eqPic 144 a b (paint a b (flipH b f)) a b f
  | 2 => eqPic 144 a b (paint a b (turnH a (paint b a (turnH b f)))) a b f
  | _ => eqPic 144 b a (paint b a (turnH b f)) a b f
def kindN : Nat → Int
  | 0 => 1
  | 1 => 2
  | 2 => 4
  | _ => 8
def symU (m : Nat → Bool) : Nat → Int
  | 0 => 0
  | j + 1 => if m j = true then symU m j + kindN j else symU m j
theorem symU_t {m : Nat → Bool} {j : Nat} (h : m j = true) : symU m (j + 1) = symU m j + kindN j := if_pos h
theorem symU_f {m : Nat → Bool} {j : Nat} (h : m j = false) : symU m (j + 1) = symU m j := if_neg (by rw [h]; simp)
theorem kindN_b (j : Nat) : 1 ≤ kindN j ∧ kindN j ≤ 8 := by
  match j with
  | 0 => decide
  | 1 => decide
  | 2 => decide
  | j + 3 => exact ⟨by simp [kindN], by simp [kindN]⟩
theorem symU_b (m : Nat → Bool) (j : Nat) : 0 ≤ symU m j ∧ symU m j ≤ 8 * j := by
  induction j with
  | zero => simp [symU]
  | succ j ih =>
    have := kindN_b j
    unfold symU
    split <;> omega
def symV (a b : Int) (f : Nat → Int) : Int := if okPic a b f = true then symU (symM a b f) 4 else 0
def symC (a b : Int) (f : Nat → Int) : Int := if okPic a b f = true then 0 else 1
attribute [local go_sem high] bldK bldS
attribute [local go_sem ↓] lvK svK zeroK bvK svS
attribute [local go_sem] ldK stK size_pk ones_pk seg_pk ext_pk_all ext_pk_pic get_pk_k get_pk_e pop_pk
set_option maxHeartbeats 4000000 in
set_option maxRecDepth 100000 in
theorem sym_impl (a b : Int) (f : Nat → Int) (ha : -128 ≤ a ∧ a ≤ 127) (hb : -128 ≤ b ∧ b ≤ 127) (hf : ∀ i, 0 ≤ f i ∧ f i ≤ 255) (w : World) :
    Calls Tryd.prog 16 #[.agg (pic 144 a b f)] w fun e w' => e = .returned (.tuple #[.int .i64 (symV a b f), .int .i64 (symC a b f)]) ∧ New w w' := by
  cases h1 : okPic a b f
  · have hV : Hid (symV a b f = 0) := if_neg (by rw [h1]; simp)
    have hC : Hid (symC a b f = 1) := if_neg (by rw [h1]; simp)
    go_enter Tryd.func16, Tryd.ntmps16
    go_wp2_with (fail)
    refine (valid_v a b f ha hb hf _ h1 _).mono ?_
    rintro e1 w1 ⟨rfl, hn1⟩
    have ho1 := hn1.objs
    have hz1 := hn1.le
    try simp at hz1
    have k1_0 : w.heap.size < w1.heap.size := by omega
    clear h1
    go_wp2_with (fail)
    go_ret2
    refine ⟨by rw [hV.out, hC.out]; rfl, ?_⟩
    repeat' (first | exact New.refl _ | refine New.alloc ?_ _ | refine New.drew ?_ | refine New.drewN ?_ _ | refine New.setRow ?_ (by omega) _ | refine New.setCell ?_ (by first | omega | (simp; done) | (simp; omega)) _ | refine New.trans ?_ hn1)
  have gd := okPic_dims h1
  have hV : Hid (symV a b f = symU (symM a b f) 4) := if_pos h1
  have hC : Hid (symC a b f = 0) := if_pos h1
  have hm0 : Hid (symM a b f 0 = eqPic 144 a b (paint a b (mirH a f)) a b f) := rfl
  have hm1 : Hid (symM a b f 1 = eqPic 144 a b (paint a b (flipH b f)) a b f) := rfl
  have hm2 : Hid (symM a b f 2 = eqPic 144 a b (paint a b (turnH a (paint b a (turnH b f)))) a b f) := rfl
  have hm3 : Hid (symM a b f 3 = eqPic 144 b a (paint b a (turnH b f)) a b f) := rfl
  go_enter Tryd.func16, Tryd.ntmps16
  go_wp2_with (fail)
  refine (valid_v a b f ha hb hf _ h1 _).mono ?_
  rintro e2 w2 ⟨rfl, hn2⟩
  have ho2 := hn2.objs
  have hz2 := hn2.le
  try simp at hz2
  have c1 : obj w2 w.heap.size = some (.cells (pic 144 a b f) 27) := (hn2.objs _ (by simp)).trans (by go_simp)
  have hN2 : New w w2 := ((New.refl w).alloc _).trans hn2
  have r1 := obj_lt c1
  clear h1 hn2 ho2
  have c2 := c1
  go_wp2_with (fail)
  go_region_held3 (fun W' => obj W' w.heap.size = some (.cells (pic 144 a b f) 27) ∧ obj W' w.heap.size = some (.cells (pic 144 a b f) 27) ∧ New w2 W') (first | exact held_begin (by assumption) (by assumption) | exact held_new (by assumption) (by assumption) (by assumption) (by assumption) | exact held_new (by assumption) (by assumption) (by assumption) ((New.refl _).alloc _)) (first | (go_at_call 36; refine (mirrored_any _ _ _ (by omega) (by omega) _).mono ?_; rintro e1 w3 ⟨rfl, hn3⟩) | (go_at_call 39; refine (flipped_any _ _ _ (by omega) (by omega) _).mono ?_; rintro e1 w3 ⟨rfl, hn3⟩) | (go_at_call 42; refine (turned_any _ _ _ (by omega) (by omega) _).mono ?_; rintro e1 w3 ⟨rfl, hn3⟩))
  obtain ⟨d1, _, hN3⟩ := ‹obj (w3.alloc _) w.heap.size = _ ∧ _ ∧ New w2 _›
  go_wp2_with (fail)
  generalize paint a b (mirH a f) = g1 at hm0 d1 hN3 ⊢
  generalize paint a b (flipH b f) = g2 at hm1 d1 hN3 ⊢
  generalize paint b a (turnH b f) = g4 at hm2 hm3 d1 hN3 ⊢
  generalize paint a b (turnH a g4) = g3 at hm2 d1 hN3 ⊢
  generalize hw4 : w3.alloc (Obj.cells (row4 (pk a b g1 1) (pk a b g2 2) (pk a b g3 4) (pk b a g4 8)) 68) = w4 at d1 hN3 ⊢
  have d2 : obj w4 w3.heap.size = some (.cells (row4 (pk a b g1 1) (pk a b g2 2) (pk a b g3 4) (pk b a g4 8)) 68) := by rw [← hw4]; exact obj_alloc_at _ _ _ rfl
  obtain ⟨x0, x1, x2, x3, xs⟩ := row4_0 (size_pk (a := a) (b := b) (k := 1) (f := g1)) (size_pk (a := a) (b := b) (k := 2) (f := g2)) (size_pk (a := a) (b := b) (k := 4) (f := g3)) (size_pk (a := b) (b := a) (k := 8) (f := g4))
  generalize row4 (pk a b g1 1) (pk a b g2 2) (pk a b g3 4) (pk b a g4 8) = R at d2 x0 x1 x2 x3 xs
  have hN4 : New w w4 := hN2.trans hN3
  have s1 := obj_lt d1
  have s2 := obj_lt d2
  clear hw4 c1 c2
  generalize symM a b f = m at hm0 hm1 hm2 hm3 hV
  go_loopw [25, 4] (fun i s wr => ∃ j : Nat, j ≤ 4 ∧ i = .int .i64 j ∧ s = .int .i64 (symU m j) ∧ New w4 wr) (fun i _ _ => 4 - (intOf i).toNat)
  case atStart => exact ⟨0, by omega, rfl, rfl, New.refl _⟩
  case round =>
    obtain ⟨j, hj, rfl, rfl, hnw⟩ := hrel
    have p1 := (hnw.objs _ s1).trans d1
    have p2 := (hnw.objs _ s2).trans d2
    have q1 := obj_lt p1
    have q2 := obj_lt p2
    have hub := symU_b m j
    by_cases hlt : j < 4
    · have hjj : j = 0 ∨ j = 1 ∨ j = 2 ∨ j = 3 := by omega
      rcases hjj with rfl | rfl | rfl | rfl
      · cases hc : m 0
        · have hq := hide (symU_f hc)
          have he : eqPic 144 a b g1 a b f = false := by rw [← hm0.out]; exact hc
          go_wp2_with (fail)
          go_roundw
          case rel => exact ⟨1, by omega, by go_num, by rw [hq.out] <;> rfl, hnw.alloc _⟩
          case measure => simp [intOf]
        · have hq := hide (symU_t hc)
          have he : eqPic 144 a b g1 a b f = true := by rw [← hm0.out]; exact hc
          go_wp2_with (fail)
          go_roundw
          case rel => exact ⟨1, by omega, by go_num, by rw [hq.out] <;> rfl, hnw.alloc _⟩
          case measure => simp [intOf]
      · cases hc : m 1
        · have hq := hide (symU_f hc)
          have he : eqPic 144 a b g2 a b f = false := by rw [← hm1.out]; exact hc
          go_wp2_with (fail)
          go_roundw
          case rel => exact ⟨2, by omega, by go_num, by rw [hq.out] <;> rfl, hnw.alloc _⟩
          case measure => simp [intOf]
        · have hq := hide (symU_t hc)
          have he : eqPic 144 a b g2 a b f = true := by rw [← hm1.out]; exact hc
          go_wp2_with (fail)
          go_roundw
          case rel => exact ⟨2, by omega, by go_num, by rw [hq.out] <;> rfl, hnw.alloc _⟩
          case measure => simp [intOf]
      · cases hc : m 2
        · have hq := hide (symU_f hc)
          have he : eqPic 144 a b g3 a b f = false := by rw [← hm2.out]; exact hc
          go_wp2_with (fail)
          go_roundw
          case rel => exact ⟨3, by omega, by go_num, by rw [hq.out] <;> rfl, hnw.alloc _⟩
          case measure => simp [intOf]
        · have hq := hide (symU_t hc)
          have he : eqPic 144 a b g3 a b f = true := by rw [← hm2.out]; exact hc
          go_wp2_with (fail)
          go_roundw
          case rel => exact ⟨3, by omega, by go_num, by rw [hq.out] <;> rfl, hnw.alloc _⟩
          case measure => simp [intOf]
      · cases hc : m 3
        · have hq := hide (symU_f hc)
          have he : eqPic 144 b a g4 a b f = false := by rw [← hm3.out]; exact hc
          go_wp2_with (fail)
          go_roundw
          case rel => exact ⟨4, by omega, by go_num, by rw [hq.out] <;> rfl, hnw.alloc _⟩
          case measure => simp [intOf]
        · have hq := hide (symU_t hc)
          have he : eqPic 144 b a g4 a b f = true := by rw [← hm3.out]; exact hc
          go_wp2_with (fail)
          go_roundw
          case rel => exact ⟨4, by omega, by go_num, by rw [hq.out] <;> rfl, hnw.alloc _⟩
          case measure => simp [intOf]
    · obtain rfl : j = 4 := by omega
      go_wp2_with (fail)
      go_ret2
      exact ⟨by rw [hV.out, hC.out]; rfl, hN4.trans hnw⟩
end Go.Proofs.YtomfjicjejoakaaDoor
/- The symmetries of a picture by the reference, and the law; no condition. -/
set_option linter.unusedVariables false
namespace Go.Proofs.YtomfjicjejoakaaDoor
open Go.BigFrame
open Go.RowKit Go.Arr
def sumB (b0 b1 b2 b3 : Bool) : Int := (if b0 then 1 else 0) + (if b1 then 2 else 0) + (if b2 then 4 else 0) + (if b3 then 8 else 0)
theorem symU_4 (m : Nat → Bool) : symU m 4 = sumB (m 0) (m 1) (m 2) (m 3) := by
  have e : ∀ j, symU m (j + 1) = if m j = true then symU m j + kindN j else symU m j := fun j => rfl
  rw [e 3, e 2, e 1, e 0]
  unfold sumB
  cases m 0 <;> cases m 1 <;> cases m 2 <;> cases m 3 <;> rfl
end Go.Proofs.YtomfjicjejoakaaDoor
/- What one block's turning leaves; no condition. -/
set_option linter.unusedVariables false
namespace Go.Arr
open Go.RowKit
theorem Sl.grown {W w : World} {v : Value} {n m : Nat} {k : IntKind} {f : Nat → Int} {r : Option Nat} (h : Sl W v n m k f) (hg : W.grownBy w r) (hr : ∀ a c, v = .slice (some a) n c → some a.block ≠ r) : Sl w v n m k f := by
  obtain ⟨a, c, rfl, h⟩ := h
  refine ⟨a, c, rfl, fun hp => ?_⟩
  obtain ⟨g, off, cur, t, fr, rfl, ho, hc⟩ := h hp
  exact ⟨g, off, cur, t, fr, rfl, (grown_obj hg g (obj_lt ho) (hr _ _ rfl)).trans ho, hc⟩
theorem grown_new2 {W w w' : World} {r : Option Nat} (h : W.grownBy w r) (hn : New w w') : W.grownBy w' r :=
  ⟨hn.os.trans h.os, hn.tape.trans h.tape, hn.output.trans h.output, Nat.le_trans h.size hn.size, fun k hk hr => (hn.block k (Nat.lt_of_lt_of_le hk h.size)).trans (h.block k hk hr)⟩
theorem new_grown {W w : World} {r : Option Nat} (hn : New W w) : W.grownBy w r := ⟨hn.os, hn.tape, hn.output, hn.size, fun k hk _ => hn.block k hk⟩
theorem setCell_grown {W w : World} {g : Nat} (h : W.grownBy w (some g)) (o : Nat) (v : Value) : W.grownBy (w.setCell ⟨g, o, none⟩ v) (some g) :=
  ⟨h.os, h.tape, h.output, by simpa [World.setCell] using h.size, fun k hk hr => (obj_setCell_other _ _ _ _ _ fun e => hr (by rw [e])).trans (h.block k hk hr)⟩
theorem grown_step {W w : World} {g : Nat} (h : W.grownBy w (some g)) {b : Nat} (hb : b < W.heap.size) (hne : b ≠ g) : obj w b = obj W b := h.block b hb fun e => hne (Option.some.inj e)
theorem grown_over {W w w' : World} {g : Nat} {r : Option Nat} (h : W.grownBy w (some g)) (hg : w.grownBy w' r) (hr : ∀ q, r = some q → W.heap.size ≤ q ∨ q = g) : W.grownBy w' (some g) :=
  ⟨hg.os.trans h.os, hg.tape.trans h.tape, hg.output.trans h.output, Nat.le_trans h.size hg.size, fun k hk hne => (hg.block k (Nat.lt_of_lt_of_le hk h.size) fun e => (hr k e.symm).elim (fun h1 => absurd h1 (by omega)) (fun h1 => hne (by rw [h1]))).trans (h.block k hk hne)⟩
theorem grown_refl (W : World) (r : Option Nat) : W.grownBy W r := ⟨rfl, rfl, rfl, Nat.le_refl _, fun _ _ _ => rfl⟩
theorem setRow_grown {W w : World} {g : Nat} (h : W.grownBy w (some g)) (c : Array Value) : W.grownBy (w.setRow g c) (some g) :=
  ⟨h.os, h.tape, h.output, by simpa using h.size, fun k hk hr => (setRow_other w g k c fun e => hr (by rw [e])).trans (h.block k hk hr)⟩
end Go.Arr
/- The source of what is drawn: its steps; no condition. -/
set_option linter.unusedVariables false
namespace Go.Proofs.YtomfjicjejoakaaDoor
open Go.BigFrame
open Go.RowKit Go.Arr
/-- a source that has been asked so often at most -/
def Src (W : World) (g : Nat) (ad : Option Addr) (n c : Nat) (f : Nat → Int) (A : Nat) : Prop :=
  (∃ (at_ : Nat) (sd : Int), obj W g = some (.cells #[.slice ad n c, .int .i64 at_, .int .u64 sd] 81) ∧ at_ ≤ A ∧ 0 ≤ sd ∧ sd ≤ 18446744073709551615) ∧
  Sl W (.slice ad n c) n 1 .u8 f ∧ ∀ a, ad = some a → a.block ≠ g
theorem Src.more {W : World} {g : Nat} {ad : Option Addr} {n c A B : Nat} {f : Nat → Int} (h : Src W g ad n c f A) (hB : A ≤ B) : Src W g ad n c f B := by
  obtain ⟨⟨t, s, h1, h2, h3⟩, h4⟩ := h
  exact ⟨⟨t, s, h1, by omega, h3⟩, h4⟩
theorem Src.lt {W : World} {g : Nat} {ad : Option Addr} {n c A : Nat} {f : Nat → Int} (h : Src W g ad n c f A) : g < W.heap.size := by
  obtain ⟨⟨t, s, h1, _⟩, _⟩ := h
  exact obj_lt h1
theorem Src.new {W w : World} {g : Nat} {ad : Option Addr} {n c A : Nat} {f : Nat → Int} (h : Src W g ad n c f A) (hn : New W w) : Src w g ad n c f A := by
  obtain ⟨⟨t, s, h1, h2, h3⟩, h4, h5⟩ := h
  exact ⟨⟨t, s, (hn.objs _ (obj_lt h1)).trans h1, h2, h3⟩, h4.new hn, h5⟩
theorem elBytes {W : World} {a : Option Addr} {n c : Nat} {f : Nat → Int} (h : Sl W (.slice a n c) n 1 .u8 f) (hn : 0 < n) : ∃ g off cur t fr, a = some ⟨g, off, none⟩ ∧ obj W g = some (.cells cur t fr) ∧ ∀ j, j < n → ∃ l : off + j < cur.size, cur[off + j] = .int .u8 (f j) := by
  obtain ⟨g, off, cur, t, fr, rfl, ho, hc⟩ := h.at hn
  exact ⟨g, off, cur, t, fr, rfl, ho, fun j hj => Array.getElem?_eq_some_iff.1 (hc j (by omega))⟩
theorem drewN_grown {W w : World} {r : Option Nat} (h : W.grownBy w r) (n : Nat) : W.grownBy (w.drewN n) r := grown_new2 h ((New.refl _).drewN n)
/-- a number as the source's own kind -/
def U64 (x : Int) : Prop := 0 ≤ x ∧ x ≤ 18446744073709551615
theorem and255 (x : Int) (h0 : 0 ≤ x) (h1 : x < 9223372036854775808) : bits .and .u64 x 255 = x % 256 := by
  have h := bits_mask .u64 63 (by decide) Go.ConcN.wraps_u64_63 8 (by decide) x (by omega) (by omega)
  have e : ((2 : Int) ^ 8 - 1) = 255 := by decide
  have e2 : ((2 : Int) ^ 8) = 256 := by decide
  rw [e, e2] at h
  exact h
theorem low8 (s : Int) (h : U64 s) : 0 ≤ wrap64 (bits .and .u64 (s / 1099511627776) 255) ∧ wrap64 (bits .and .u64 (s / 1099511627776) 255) ≤ 255 := by
  obtain ⟨h0, h1⟩ := h
  rw [and255 _ (by omega) (by omega)]
  rw [IntWalk.wrap64_in _ ⟨by omega, by omega⟩]
  omega
theorem u64_wrap (x : Int) : U64 (IntKind.u64.wrap x) := by
  rw [IntKind.wrap_u64]
  unfold U64
  omega
theorem src_step {W : World} {g : Nat} {ad : Option Addr} {n c A t : Nat} {f : Nat → Int} {s sd : Int} (a b : Nat) (ho : obj W g = some (.cells #[.slice ad n c, .int .i64 t, .int .u64 sd] 81)) (ht : t ≤ A) (hs : U64 s) (hsl : Sl W (.slice ad n c) n 1 .u8 f) (hne : ∀ a, ad = some a → a.block ≠ g) :
    Src ((((W.drewN a).setCell ⟨g, 1, none⟩ (.int .i64 ((t : Int) + 1))).setCell ⟨g, 2, none⟩ (.int .u64 s)).drewN b) g ad n c f (A + 1) ∧ W.grownBy ((((W.drewN a).setCell ⟨g, 1, none⟩ (.int .i64 ((t : Int) + 1))).setCell ⟨g, 2, none⟩ (.int .u64 s)).drewN b) (some g) := by
  have hg : W.grownBy ((((W.drewN a).setCell ⟨g, 1, none⟩ (.int .i64 ((t : Int) + 1))).setCell ⟨g, 2, none⟩ (.int .u64 s)).drewN b) (some g) := drewN_grown (setCell_grown (setCell_grown (drewN_grown (grown_refl _ _) _) _ _) _ _) _
  refine ⟨⟨⟨t + 1, s, ?_, by omega, hs.1, hs.2⟩, hsl.grown hg fun a' c' e => ?_, hne⟩, hg⟩
  · have e0 : obj (W.drewN a) g = _ := ho
    show obj (((W.drewN a).setCell ⟨g, 1, none⟩ (.int .i64 ((t : Int) + 1))).setCell ⟨g, 2, none⟩ (.int .u64 s)) g = _
    rw [obj_setCell_same, obj_setCell_same, e0]
    rfl
  · simp only [Value.slice.injEq] at e
    exact fun e2 => hne a' e.1 (Option.some.inj e2)
set_option maxHeartbeats 4000000 in
set_option maxRecDepth 100000 in
theorem next_any (g : Nat) (ad : Option Addr) (n c A : Nat) (f : Nat → Int) (hA : A ≤ 1000000) (hn : n ≤ 1000000) (hf : ∀ i, 0 ≤ f i ∧ f i ≤ 255) (W : World) (hs : Src W g ad n c f A) :
    Calls Tryd.prog 69 #[.pointer (some ⟨g, 0, none⟩)] W fun e w' => ∃ x : Int, e = .returned (.int .i64 x) ∧ (0 ≤ x ∧ x ≤ 255) ∧ Src w' g ad n c f (A + 1) ∧ W.grownBy w' (some g) := by
  obtain ⟨⟨t, sd, ho, ht, hsd⟩, hsl, hne⟩ := hs
  have hg := obj_lt ho
  have hneh := hide hne
  have hsl' := hide hsl
  clear hne
  by_cases hlt : t < n
  · obtain ⟨gq, offq, curq, tq, frq, rfl, oq, helq⟩ := elBytes hsl (by omega)
    obtain ⟨lq, eq⟩ := helq t hlt
    have hne' := hneh.out _ rfl
    dsimp only at hne'
    have hft := hf t
    have hqg := obj_lt oq
    clear hsl helq
    go_enter Tryd.func69, Tryd.ntmps69
    go_wp2_with (fail)
    go_quiet (fail)
    go_wp2_with (fail)
    go_quiet (fail)
    go_wp2_with (fail)
    go_quiet (fail)
    go_wp2_with (fail)
    go_ret
    exact ⟨_, rfl, hft, src_step _ _ ho ht (u64_wrap _) hsl'.out hneh.out⟩
  · clear hsl
    go_enter Tryd.func69, Tryd.ntmps69
    go_wp2_with (fail)
    go_quiet (fail)
    go_wp2_with (fail)
    go_quiet (fail)
    go_wp2_with (fail)
    go_ret
    exact ⟨_, rfl, low8 _ (u64_wrap _), src_step _ _ ho ht (u64_wrap _) hsl'.out hneh.out⟩
set_option maxHeartbeats 2000000 in
set_option maxRecDepth 100000 in
theorem pick_any (g : Nat) (ad : Option Addr) (n c A : Nat) (f : Nat → Int) (m : Int) (hm : m ≤ 100000) (hA : A ≤ 900000) (hn : n ≤ 1000000) (hf : ∀ i, 0 ≤ f i ∧ f i ≤ 255) (W : World) (hs : Src W g ad n c f A) :
    Calls Tryd.prog 57 #[.pointer (some ⟨g, 0, none⟩), .int .i64 m] W fun e w' => ∃ x : Int, e = .returned (.int .i64 x) ∧ (0 ≤ x ∧ (x < m ∨ x = 0)) ∧ Src w' g ad n c f (A + 2) ∧ W.grownBy w' (some g) := by
  by_cases h1 : m ≤ 1
  · go_enter Tryd.func57, Tryd.ntmps57
    go_wp2_with (fail)
    go_ret
    exact ⟨_, rfl, ⟨by omega, Or.inr rfl⟩, hs.more (by omega), grown_refl _ _⟩
  by_cases h2 : 200 < m
  · go_enter Tryd.func57, Tryd.ntmps57
    go_wp2_with (fail)
    refine (next_any g ad n c A f (by omega) hn hf _ hs).mono ?_
    rintro e w1 ⟨x, rfl, hx, hs1, hg1⟩
    go_wp2_with (fail)
    refine (next_any g ad n c (A + 1) f (by omega) hn hf _ hs1).mono ?_
    rintro e w2 ⟨y, rfl, hy, hs2, hg2⟩
    go_wp2_with (fail)
    go_ret
    refine ⟨_, rfl, ?_, hs2, hg1.trans hg2⟩
    have h3 := Int.emod_nonneg (x * 256 + y) (by omega : m ≠ 0)
    have h4 := Int.emod_lt_of_pos (x * 256 + y) (by omega : 0 < m)
    exact ⟨h3, Or.inl h4⟩
  · go_enter Tryd.func57, Tryd.ntmps57
    go_wp2_with (fail)
    refine (next_any g ad n c A f (by omega) hn hf _ hs).mono ?_
    rintro e w1 ⟨x, rfl, hx, hs1, hg1⟩
    go_wp2_with (fail)
    go_ret
    refine ⟨_, rfl, ?_, hs1.more (by omega), hg1⟩
    have h3 := Int.emod_nonneg x (by omega : m ≠ 0)
    have h4 := Int.emod_lt_of_pos x (by omega : 0 < m)
    exact ⟨h3, Or.inl h4⟩
end Go.Proofs.YtomfjicjejoakaaDoor
/- Images: copied; which are valid; no condition. -/
set_option linter.unusedVariables false
namespace Go.Proofs.YtomfjicjejoakaaDoor
open Go.BigFrame
open Go.RowKit Go.Arr
theorem run_index_arr3 {P : Program} {n : Nat} {f : Nat → Int} (t e u : TypeId) (ht : P.underlying t = some (.array n e)) (he : P.underlying e = some (.array 3 u)) (hsz : ∀ w, (sizeOf e).run P w = .ok 3 w) (ik : IntKind) (i : Int) (h0 : 0 ≤ i) (h1 : i < n) (w : World) :
    (Instr.index t (.agg (arr (n * 3) .u8 f)) (.int ik i)).run P w = .ok (.agg #[.int .u8 (f (i.toNat * 3)), .int .u8 (f (i.toNat * 3 + 1)), .int .u8 (f (i.toNat * 3 + 2))]) w := by
  have hlt : i.toNat < n := by omega
  have hx : (arr (n * 3) .u8 f).extract (i.toNat * 3) (i.toNat * 3 + 3) = #[.int .u8 (f (i.toNat * 3)), .int .u8 (f (i.toNat * 3 + 1)), .int .u8 (f (i.toNat * 3 + 2))] :=
    ext3 (by rw [get_arr, if_pos (by omega)]) (by rw [get_arr, if_pos (by omega)]) (by rw [get_arr, if_pos (by omega)]) rfl
  have hp : (part e (arr (n * 3) .u8 f) (i.toNat * 3)).run P w = .ok (.agg #[.int .u8 (f (i.toNat * 3)), .int .u8 (f (i.toNat * 3 + 1)), .int .u8 (f (i.toNat * 3 + 2))]) w := by
    simp [part, isAgg, run_underlying he, hsz, hx]
  simp [Instr.index, asIntOf, run_underlying ht, h0, h1, hsz, hp]
theorem pic3 {n o p : Nat} {a b : Int} {f : Nat → Int} (ho : o + 3 ≤ n) (hp : p = 2 + o + 3) : (pic n a b f).extract (2 + o) p = #[.int .u8 (f o), .int .u8 (f (o + 1)), .int .u8 (f (o + 2))] :=
  ext3 (by rw [get_pic', if_pos (by omega)]) (by rw [Nat.add_assoc, get_pic', if_pos (by omega)]) (by rw [Nat.add_assoc, get_pic', if_pos (by omega)]) hp
theorem arr3 {n o p : Nat} {f : Nat → Int} (ho : o + 3 ≤ n) (hp : p = o + 3) : (arr n .u8 f).extract o p = #[.int .u8 (f o), .int .u8 (f (o + 1)), .int .u8 (f (o + 2))] :=
  ext3 (by rw [get_arr, if_pos (by omega)]) (by rw [get_arr, if_pos (by omega)]) (by rw [get_arr, if_pos (by omega)]) hp
def goodTone (a b : Int) (f : Nat → Int) (i : Nat) : Bool := cellB i a b || eq3 (f (i * 3)) (f (i * 3 + 1)) (f (i * 3 + 2)) 0 0 0
def okImg (a b : Int) (f : Nat → Int) : Bool := isSizeB a b && (List.range 144).all (goodTone a b f)
theorem okImg_of (a b : Int) (f : Nat → Int) (h1 : isSizeB a b = true) (h2 : ∀ j, j < 144 → goodTone a b f j = true) : okImg a b f = true := by
  unfold okImg
  rw [h1, Bool.true_and, List.all_eq_true]
  intro i hi
  exact h2 i (by simpa using hi)
theorem okImg_not (a b : Int) (f : Nat → Int) (i : Nat) (hi : i < 144) (h : goodTone a b f i = false) : okImg a b f = false := by
  unfold okImg
  have : (List.range 144).all (goodTone a b f) = false := by
    rw [List.all_eq_false]
    exact ⟨i, by simpa using hi, by simp [h]⟩
  rw [this, Bool.and_false]
theorem okImg_size (a b : Int) (f : Nat → Int) (h : isSizeB a b = false) : okImg a b f = false := by
  unfold okImg; rw [h, Bool.false_and]
theorem upto_succ {p : Nat → Bool} {k : Nat} (h : ∀ j, j < k → p j = true) (hk : p k = true) : ∀ j, j < k + 1 → p j = true := by
  intro j hj
  rcases Nat.lt_succ_iff_lt_or_eq.1 hj with h1 | rfl
  · exact h j h1
  · exact hk
end Go.Proofs.YtomfjicjejoakaaDoor
/- Slices of numbers that a call has made: held against each other, marked, read again; no condition. -/
set_option linter.unusedVariables false
namespace Go.Proofs.YtomfjicjejoakaaDoor
open Go.BigFrame
open Go.RowKit Go.Arr
def Row (W : World) (base : Nat) (v : Value) (n : Nat) (f : Nat → Int) : Prop := W.ownsRow base 2 1 v n (irow n .i64 f)
/-- the numbers behind a slice's address -/
def Reads (W : World) (a : Option Addr) (n : Nat) (f : Nat → Int) : Prop := ∀ j, j < n → ∃ g cur, a = some ⟨g, 0, none⟩ ∧ obj W g = some (.cells cur 2) ∧ cur[j]? = some (.int .i64 (f j))
section
variable {W W' : World} {base : Nat} {v : Value} {n : Nat} {f f' : Nat → Int}
theorem Row.shape (h : Row W base v n f) : (v = .slice none 0 0 ∧ n = 0) ∨ ∃ g cap cur, v = .slice (some ⟨g, 0, none⟩) n cap ∧ base ≤ g ∧ g < W.heap.size ∧ obj W g = some (.cells cur 2) ∧ n ≤ cap ∧ cap ≤ maxLen ∧ cur.size = cap ∧ ∀ j, j < n → cur[j]? = some (.int .i64 (f j)) := by
  obtain ⟨hl, h | ⟨g, cap, cur, h1, h2, h3, h4, h5, h6, h7⟩⟩ := h
  · exact .inl h
  · refine .inr ⟨g, cap, cur, h1, h2, obj_lt h3, h3, h4, h5, by omega, fun j hj => ?_⟩
    have h8 := congrArg (fun l => l[j]?) h7
    simp only [Nat.mul_one] at h8
    rw [List.getElem?_take, if_pos hj, Array.getElem?_toList, get_irow j hj] at h8
    exact h8
theorem Row.of {g cap : Nat} {cur : Array Value} (h : obj W g = some (.cells cur 2)) (hb : base ≤ g) (hn : n ≤ cap) (hc : cap ≤ maxLen) (hs : cur.size = cap) (hf : ∀ j, j < n → cur[j]? = some (.int .i64 (f j))) : Row W base (.slice (some ⟨g, 0, none⟩) n cap) n f := by
  refine ⟨by simp, .inr ⟨g, cap, cur, rfl, hb, h, hn, hc, by omega, ?_⟩⟩
  apply List.ext_getElem?
  intro j
  simp only [Nat.mul_one]
  rw [List.getElem?_take]
  by_cases hj : j < n
  · rw [if_pos hj, Array.getElem?_toList, get_irow j hj]; exact hf j hj
  · rw [if_neg hj, List.getElem?_eq_none (by simp; omega)]
theorem Row.nil : Row W base (.slice none 0 0) 0 f := ⟨by simp, .inl ⟨rfl, rfl⟩⟩
theorem Row.reads (h : Row W base v n f) : ∃ a cap, v = .slice a n cap ∧ Reads W a n f := by
  rcases h.shape with ⟨rfl, rfl⟩ | ⟨g, cap, cur, rfl, _, _, ho, _, _, _, hc⟩
  · exact ⟨none, 0, rfl, fun j hj => absurd hj (by omega)⟩
  · exact ⟨_, cap, rfl, fun j hj => ⟨g, cur, rfl, ho, hc j hj⟩⟩
theorem Row.reads' {a : Option Addr} {c : Nat} (h : Row W base (.slice a n c) n f) : Reads W a n f := by
  obtain ⟨a', c', h1, h2⟩ := h.reads
  simp only [Value.slice.injEq] at h1
  rw [h1.1]
  exact h2
theorem Row.new (h : Row W base v n f) (hn : New W W') : Row W' base v n f := own_new h hn
theorem Row.lower {b : Nat} (h : Row W base v n f) (hb : b ≤ base) : Row W b v n f := own_lower h hb
theorem Row.same (h : Row W base v n f) (hs : ∀ b, v.ownBlock = some b → obj W' b = obj W b) : Row W' base v n f := by
  rcases h.shape with ⟨rfl, rfl⟩ | ⟨g, cap, cur, rfl, hb, _, ho, h4, h5, h6, hc⟩
  · exact Row.nil
  · exact Row.of ((hs g rfl).trans ho) hb h4 h5 h6 hc
theorem Row.block (h : Row W base v n f) : ∀ b, v.ownBlock = some b → base ≤ b ∧ b < W.heap.size := by
  rcases h.shape with ⟨rfl, rfl⟩ | ⟨g, cap, cur, rfl, hb, hl, _⟩
  · intro b hb; simp [Value.ownBlock] at hb
  · intro b hb2; simp [Value.ownBlock] at hb2; omega
theorem Row.congr (h : Row W base v n f) (hf : ∀ j, j < n → f j = f' j) : Row W base v n f' := by
  unfold Row at *
  rw [← irow_congr hf]
  exact h
end
end Go.Proofs.YtomfjicjejoakaaDoor
