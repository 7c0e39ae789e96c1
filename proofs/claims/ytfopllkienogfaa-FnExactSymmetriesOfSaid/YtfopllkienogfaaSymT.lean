/- A picture with its kind: built, laid in a row, loaded; no condition. -/
import Derived.Test.YtfopllkienogfaaImplA
import Derived.Test.YtfopllkienogfaaWithCol
import Derived.Great.BuildSlice
set_option linter.unusedVariables false
namespace Go.Proofs.Ytfopllkienogfaa
open Go.BigFrame
open Go.RowKit Go.Arr
def pk (a b : Int) (f : Nat → Int) (k : Int) : Array Value := (pic 144 a b f).push (.int .i64 k)
theorem size_pk {a b k : Int} {f : Nat → Int} : (pk a b f k).size = 147 := by simp [pk]
def bldOp (t : TypeId) (parts : Array (Nat × Value)) : Sem Value := Instr.build t parts
def sldOp (t : TypeId) (n : Nat) (parts : Array (Nat × Value)) : Sem Value := Instr.buildSlice t n parts
theorem bvK : Instr.build 58 = bldOp 58 := rfl
theorem svS : Instr.buildSlice 59 = sldOp 59 := rfl
set_option maxRecDepth 100000 in
theorem bldK (w : World) (a b k : Int) (f : Nat → Int) : (bldOp 58 #[(0, .agg (pic 144 a b f)), (1, .int .i64 k)]).run Try.prog w = .ok (.agg (pk a b f k)) w := by kernel_rfl
def row4 (c1 c2 c3 c4 : Array Value) : Array Value := c1 ++ c2 ++ c3 ++ c4
theorem lvK : loadVar 58 = aggLoad 58 := rfl
theorem svK : storeVar 58 = aggStore 58 := rfl
theorem ldK (g off : Nat) (w : World) : (aggLoad 58 ⟨g, off, none⟩).run Try.prog w = segOr (obj w g) off 147 w ((aggLoadOld 58 ⟨g, off, none⟩).run Try.prog w) := run_aggLoad 58 147 _ Try.underlying58 rfl (by kernel_rfl) g off w
theorem stK (g off : Nat) (v : Value) (w : World) : (aggStore 58 ⟨g, off, none⟩ v).run Try.prog w = segStoreOr (obj w g) g off 147 v w ((aggStoreOld 58 ⟨g, off, none⟩ v).run Try.prog w) := run_aggStore 58 147 (by kernel_rfl) g off v w
set_option maxRecDepth 100000 in
theorem zeroK (w : World) : (zeroValue 58).run Try.prog w = .ok (.agg (pk 0 0 (fun _ => 0) 0)) w := by kernel_rfl
theorem ones_pk {a b k : Int} {f : Nat → Int} : ones (pk a b f k) := by
  intro v hv
  simp only [pk, Array.toList_push, List.mem_append, List.mem_singleton] at hv
  rcases hv with h | rfl
  · exact ones_pic v h
  · rfl
theorem seg_pk {a b k a' b' k' : Int} {f f' : Nat → Int} : seg (pk a b f k) 0 (pk a' b' f' k') = pk a' b' f' k' := seg_all _ _ (by rw [size_pk, size_pk])
theorem ext_pk_all {a b k : Int} {f : Nat → Int} : (pk a b f k).extract 0 147 = pk a b f k := by
  have : 147 = (pk a b f k).size := size_pk.symm
  rw [this]
  exact Array.extract_size
theorem ext_pk_pic {a b k : Int} {f : Nat → Int} : (pk a b f k).extract 0 146 = pic 144 a b f := by
  apply Array.ext_getElem?
  intro j
  rw [Array.getElem?_extract, size_pk]
  by_cases hj : j < 146
  · rw [if_pos (by omega), Nat.zero_add, pk, Array.getElem?_push, if_neg (by rw [size_pic]; omega)]
  · rw [if_neg (by omega), Array.getElem?_eq_none (by rw [size_pic]; omega)]
theorem pop_pk {a b k : Int} {f : Nat → Int} : (pk a b f k).pop = pic 144 a b f := by simp [pk]
theorem get_pk_k {a b k : Int} {f : Nat → Int} : (pk a b f k)[146]? = some (.int .i64 k) := by
  rw [pk, Array.getElem?_push, if_pos (by rw [size_pic])]
theorem get_pk_e {a b k : Int} {f : Nat → Int} (h : 146 < (pk a b f k).size) : (pk a b f k)[146]'h = .int .i64 k := by
  have := get_pk_k (a := a) (b := b) (k := k) (f := f)
  rw [Array.getElem?_eq_getElem h] at this
  exact Option.some.inj this
theorem row4_0 {c1 c2 c3 c4 : Array Value} (h1 : c1.size = 147) (h2 : c2.size = 147) (h3 : c3.size = 147) (h4 : c4.size = 147) : (row4 c1 c2 c3 c4).extract 0 147 = c1 ∧ (row4 c1 c2 c3 c4).extract 147 294 = c2 ∧ (row4 c1 c2 c3 c4).extract 294 441 = c3 ∧ (row4 c1 c2 c3 c4).extract 441 588 = c4 ∧ (row4 c1 c2 c3 c4).size = 588 := by
  have hg : ∀ (o : Nat) (c : Array Value), c.size = 147 → (∀ j, j < 147 → (row4 c1 c2 c3 c4)[o + j]? = c[j]?) → o + 147 ≤ (row4 c1 c2 c3 c4).size → (row4 c1 c2 c3 c4).extract o (o + 147) = c := by
    intro o c hc h hs
    apply Array.ext_getElem?
    intro j
    rw [Array.getElem?_extract]
    by_cases hj : j < 147
    · rw [if_pos (by omega), h j hj]
    · rw [if_neg (by omega), Array.getElem?_eq_none (by omega)]
  have hs : (row4 c1 c2 c3 c4).size = 588 := by simp [row4, h1, h2, h3, h4]
  refine ⟨hg 0 c1 h1 ?_ (by omega), hg 147 c2 h2 ?_ (by omega), hg 294 c3 h3 ?_ (by omega), hg 441 c4 h4 ?_ (by omega), hs⟩
  all_goals
    intro j hj
    unfold row4
    simp only [Array.getElem?_append, Array.size_append, h1, h2, h3]
  · rw [if_pos (by omega), if_pos (by omega), if_pos (by omega), Nat.zero_add]
  · rw [if_pos (by omega), if_pos (by omega), if_neg (by omega), Nat.add_sub_cancel_left]
  · rw [if_pos (by omega), if_neg (by omega), show 294 + j - (147 + 147) = j by omega]
  · rw [if_neg (by omega), show 441 + j - (147 + 147 + 147) = j by omega]
theorem get_put (off : Nat) (l : List Value) : ∀ (k : Nat) (cs : Array Value) (i : Nat), off + k + l.length ≤ cs.size → ((l.zipIdx k).foldl (fun cs (x : Value × Nat) => cs.setIfInBounds (off + x.2) x.1) cs)[i]? = if off + k ≤ i ∧ i < off + k + l.length then l[i - (off + k)]? else cs[i]? := by
  induction l with
  | nil => intro k cs i _; rw [List.length_nil, if_neg (by omega)]; rfl
  | cons c l ih =>
    intro k cs i h
    rw [List.length_cons] at h ⊢
    rw [List.zipIdx_cons, List.foldl_cons, ih (k + 1) _ i (by rw [Array.size_setIfInBounds]; omega), Array.getElem?_setIfInBounds]
    dsimp only
    by_cases h1 : off + (k + 1) ≤ i ∧ i < off + (k + 1) + l.length
    · rw [if_pos h1, if_pos (by omega)]
      obtain ⟨d, rfl⟩ : ∃ d, i = off + (k + 1) + d := ⟨i - (off + (k + 1)), by omega⟩
      rw [show off + (k + 1) + d - (off + (k + 1)) = d by omega, show off + (k + 1) + d - (off + k) = d + 1 by omega, List.getElem?_cons_succ]
    · rw [if_neg h1]
      by_cases h2 : off + k = i
      · subst h2
        rw [if_pos rfl, if_pos (by omega), if_pos (by omega), Nat.sub_self, List.getElem?_cons_zero]
      · rw [if_neg h2, if_neg (by omega)]
theorem fill_row {place : Nat → Option (Nat × Nat)} {i off n : Nat} {v cs : Array Value} {rest : List (Nat × Value)} (hp : place i = some (off, n)) (hv : v.size = n) (hl : off + n ≤ cs.size) : ∃ ds : Array Value, ds.size = cs.size ∧ (∀ j, ds[j]? = if off ≤ j ∧ j < off + n then v[j - off]? else cs[j]?) ∧ Instr.fill place cs ((i, .agg v) :: rest) = Instr.fill place ds rest := by
  refine ⟨v.zipIdx.foldl (fun cs (x : Value × Nat) => cs.setIfInBounds (off + x.2) x.1) cs, ?_, fun j => ?_, ?_⟩
  · rw [← Array.foldl_toList]
    generalize v.zipIdx.toList = l
    induction l generalizing cs with
    | nil => rfl
    | cons x l ih => rw [List.foldl_cons, ih (by rw [Array.size_setIfInBounds]; exact hl), Array.size_setIfInBounds]
  · have h := get_put off v.toList 0 cs j (by rw [Array.length_toList]; omega)
    rw [Nat.add_zero, Array.length_toList, hv, Array.getElem?_toList] at h
    rw [← Array.foldl_toList, Array.toList_zipIdx]
    exact h
  · have hc : (Value.agg v).cells = v := rfl
    rw [Instr.fill]
    simp only [hp, hc, hv]
    rw [if_neg (by simp; omega)]
set_option maxRecDepth 100000 in
theorem bldS (w : World) (a1 b1 a2 b2 a3 b3 a4 b4 k1 k2 k3 k4 : Int) (f1 f2 f3 f4 : Nat → Int) : (sldOp 59 4 #[(0, .agg (pk a1 b1 f1 k1)), (1, .agg (pk a2 b2 f2 k2)), (2, .agg (pk a3 b3 f3 k3)), (3, .agg (pk a4 b4 f4 k4))]).run Try.prog w = .ok (.slice (some ⟨w.heap.size, 0, none⟩) 4 4) (w.alloc (.cells (row4 (pk a1 b1 f1 k1) (pk a2 b2 f2 k2) (pk a3 b3 f3 k3) (pk a4 b4 f4 k4)) 58)) := by
  obtain ⟨ie, hie, h2⟩ := Option.map_eq_some_iff.1 (show (Try.prog.info? 58).map (fun i => (i.zero, i.size)) = some (some (.agg (pk 0 0 (fun _ => 0) 0)), 147) by kernel_rfl)
  simp only [Prod.mk.injEq] at h2
  obtain ⟨hz, hsz⟩ := h2
  refine run_buildSlice (P := Try.prog) w 59 58 4 _ _ ie _ Try.underlying59 hie hz (by rw [hsz]; decide) (by rw [hsz]; decide) ?_
  rw [hsz]
  have hs0 : ((Array.range (4 * 147)).map ((Value.agg (pk 0 0 (fun _ => 0) 0)).cells[· % (Value.agg (pk 0 0 (fun _ => 0) 0)).cells.size]!)).size = 588 := by rw [Array.size_map, Array.size_range]
  generalize (Array.range (4 * 147)).map ((Value.agg (pk 0 0 (fun _ => 0) 0)).cells[· % (Value.agg (pk 0 0 (fun _ => 0) 0)).cells.size]!) = c0 at hs0 ⊢
  have z1 := size_pk (a := a1) (b := b1) (k := k1) (f := f1)
  have z2 := size_pk (a := a2) (b := b2) (k := k2) (f := f2)
  have z3 := size_pk (a := a3) (b := b3) (k := k3) (f := f3)
  have z4 := size_pk (a := a4) (b := b4) (k := k4) (f := f4)
  generalize pk a1 b1 f1 k1 = p1 at z1 ⊢
  generalize pk a2 b2 f2 k2 = p2 at z2 ⊢
  generalize pk a3 b3 f3 k3 = p3 at z3 ⊢
  generalize pk a4 b4 f4 k4 = p4 at z4 ⊢
  have e0 : (#[((0 : Nat), Value.agg p1), (1, Value.agg p2), (2, Value.agg p3), (3, Value.agg p4)] : Array (Nat × Value)).toList = [(0, Value.agg p1), (1, Value.agg p2), (2, Value.agg p3), (3, Value.agg p4)] := rfl
  rw [e0]
  obtain ⟨d1, s1, g1, e1⟩ := fill_row (place := fun i => some (i * 147, 147)) (i := 0) (off := 0) (n := 147) (cs := c0) (rest := [(1, Value.agg p2), (2, Value.agg p3), (3, Value.agg p4)]) rfl z1 (by omega)
  obtain ⟨d2, s2, g2, e2⟩ := fill_row (place := fun i => some (i * 147, 147)) (i := 1) (off := 147) (n := 147) (cs := d1) (rest := [(2, Value.agg p3), (3, Value.agg p4)]) rfl z2 (by omega)
  obtain ⟨d3, s3, g3, e3⟩ := fill_row (place := fun i => some (i * 147, 147)) (i := 2) (off := 294) (n := 147) (cs := d2) (rest := [(3, Value.agg p4)]) rfl z3 (by omega)
  obtain ⟨d4, s4, g4, e4⟩ := fill_row (place := fun i => some (i * 147, 147)) (i := 3) (off := 441) (n := 147) (cs := d3) (rest := []) rfl z4 (by omega)
  rw [e1, e2, e3, e4]
  show some d4 = some (row4 p1 p2 p3 p4)
  congr 1
  apply Array.ext_getElem?
  intro j
  rw [g4, g3, g2, g1]
  unfold row4
  simp only [Array.getElem?_append, Array.size_append, z1, z2, z3]
  by_cases h1 : j < 147
  · rw [if_neg (by omega), if_neg (by omega), if_neg (by omega), if_pos (by omega), if_pos (by omega), if_pos (by omega), if_pos (by omega), Nat.sub_zero]
  · by_cases h2 : j < 294
    · rw [if_neg (by omega), if_neg (by omega), if_pos (by omega), if_pos (by omega), if_pos (by omega), if_neg (by omega)]
    · by_cases h3 : j < 441
      · rw [if_neg (by omega), if_pos (by omega), if_pos (by omega), if_neg (by omega)]
      · by_cases h4 : j < 588
        · rw [if_pos (by omega), if_neg (by omega)]
        · rw [if_neg (by omega), if_neg (by omega), if_neg (by omega), if_neg (by omega), if_neg (by omega), Array.getElem?_eq_none (by omega), Array.getElem?_eq_none (by omega)]
end Go.Proofs.Ytfopllkienogfaa
