/- Texts that are split at a byte: in plain words; the reference's splitting; the library's; no condition. -/
import Derived.Test.YtomfjicjejoakaaDoorU4
import Derived.Test.YtomfjicjejoakaaDoorU1
import Derived.Test.YtomfjicjejoakaaDoorShx
import Derived.Shelf.Strings.SplitShaped
import Derived.Test.YtomfjicjejoakaaDoorU2
set_option linter.unusedVariables false
namespace Go.Proofs.YtomfjicjejoakaaDoor
open Go.BigFrame
open Go.RowKit Go.Arr
theorem slStrs2 : SlTy Tryd.prog 49 9 (.string ByteArray.empty) 1 16 := ⟨Tryd.underlying49, by kernel_rfl, rfl, by omega⟩
/-- the pieces of a text -/
def pcs (c : UInt8) : List UInt8 → List (List UInt8)
  | [] => [[]]
  | b :: l => if b = c then [] :: pcs c l else match pcs c l with
    | [] => [[b]]
    | p :: ps => (b :: p) :: ps
theorem pcs_pos (c : UInt8) (l : List UInt8) : 0 < (pcs c l).length := by
  induction l with
  | nil => simp [pcs]
  | cons b l ih =>
    unfold pcs
    split
    · simp
    · split <;> simp
theorem pcs_len (c : UInt8) (l : List UInt8) : (pcs c l).length = l.count c + 1 := by
  induction l with
  | nil => rfl
  | cons b l ih =>
    unfold pcs
    by_cases e : b = c
    · rw [if_pos e, List.length_cons, ih, e, List.count_cons_self]
    · rw [if_neg e, List.count_cons_of_ne e]
      have := pcs_pos c l
      split
      · rename_i h; rw [h] at this; simp at this
      · rename_i p ps h; rw [h] at ih; simpa using ih
theorem pcs_none {c : UInt8} {l : List UInt8} (h : c ∉ l) : pcs c l = [l] := by
  induction l with
  | nil => rfl
  | cons b l ih =>
    simp only [List.mem_cons, not_or] at h
    unfold pcs
    rw [if_neg (fun e => h.1 e.symm), ih h.2]
theorem pcs_hit {c : UInt8} {u v : List UInt8} (h : c ∉ u) : pcs c (u ++ c :: v) = u :: pcs c v := by
  induction u with
  | nil => rw [List.nil_append, pcs, if_pos rfl]
  | cons b u ih =>
    simp only [List.mem_cons, not_or] at h
    rw [List.cons_append, pcs, if_neg (fun e => h.1 e.symm), ih h.2]
/-- the first place of a byte -/
theorem idx_none {c : UInt8} {l : List UInt8} (h : c ∉ l) : Lib.indexByte l c = -1 := by
  induction l with
  | nil => rfl
  | cons b l ih =>
    simp only [List.mem_cons, not_or] at h
    unfold Lib.indexByte
    rw [if_neg (by simp; exact fun e => h.1 e.symm), ih h.2]
    rfl
theorem idx_hit {c : UInt8} {u v : List UInt8} (h : c ∉ u) : Lib.indexByte (u ++ c :: v) c = u.length := by
  induction u with
  | nil => simp [Lib.indexByte]
  | cons b u ih =>
    simp only [List.mem_cons, not_or] at h
    rw [List.cons_append, Lib.indexByte, if_neg (by simp; exact fun e => h.1 e.symm), ih h.2, if_neg (by simp), List.length_cons]
    omega
theorem mem_cut {c : UInt8} {l : List UInt8} (h : c ∈ l) : ∃ u v, l = u ++ c :: v ∧ c ∉ u := by
  induction l with
  | nil => simp at h
  | cons b l ih =>
    by_cases e : b = c
    · exact ⟨[], l, by rw [e]; rfl, by simp⟩
    · have h2 : c ∈ l := by
        rcases List.mem_cons.1 h with h | h
        · exact absurd h.symm e
        · exact h
      obtain ⟨u, v, h3, h4⟩ := ih h2
      exact ⟨b :: u, v, by rw [h3]; rfl, by simp only [List.mem_cons, not_or]; exact ⟨fun e2 => e e2.symm, h4⟩⟩
theorem splitK_pcs (c : UInt8) (k : Nat) : ∀ l : List UInt8, l.count c = k → Lib.splitK [c] 0 k l = pcs c l := by
  induction k with
  | zero =>
    intro l h
    rw [pcs_none (List.count_eq_zero.1 h)]
    rfl
  | succ k ih =>
    intro l h
    obtain ⟨u, v, rfl, hu⟩ := mem_cut (c := c) (l := l) (List.count_pos_iff.1 (by omega))
    have hi : Lib.index (u ++ c :: v) [c] = u.length := by rw [Lib.index_one, idx_hit hu]
    rw [pcs_hit hu, Lib.splitK, hi, if_neg (by simp)]
    rw [List.count_append, List.count_cons_self, List.count_eq_zero.2 hu] at h
    have e1 : ((u.length : Nat) : Int).toNat = u.length := Int.toNat_natCast _
    rw [e1, Nat.add_zero, List.take_left, ih]
    · rw [show ([c] : List UInt8).length = 1 from rfl, List.drop_length_add_append]; rfl
    · rw [show ([c] : List UInt8).length = 1 from rfl, List.drop_length_add_append]; simpa using (by omega : v.count c = k)
def sv (l : List UInt8) : Value := .string ⟨l.toArray⟩
/-- texts, in memory of the call's own -/
def WS (W : World) (base : Nat) (v : Value) (ls : List (List UInt8)) : Prop := W.ownsRow base 9 1 v ls.length (ls.map sv)
section
variable {W W' : World} {base : Nat} {v : Value} {ls : List (List UInt8)}
theorem WS.new (h : WS W base v ls) (hn : New W W') : WS W' base v ls := own_new h hn
theorem WS.form (h : WS W base v ls) : ∃ a cap, v = .slice a ls.length cap := by
  obtain ⟨hl, h | ⟨g, cap, cur, h1, _⟩⟩ := h
  · exact ⟨none, 0, by rw [h.2]; exact h.1⟩
  · exact ⟨_, _, h1⟩
theorem WS.block (h : WS W base v ls) : ∀ b, v.ownBlock = some b → base ≤ b ∧ b < W.heap.size := h.lt
theorem WS.empty {g : Nat} (h : obj W g = some (.cells #[] 9)) (hb : base ≤ g) : WS W base (.slice (some ⟨g, 0, none⟩) 0 0) [] :=
  ⟨by simp, .inr ⟨g, 0, #[], rfl, hb, h, by simp, by omega, rfl, by simp⟩⟩
theorem WS.app {g cap : Nat} {l : List UInt8} (h : W'.ownsRow base 9 1 (.slice (some ⟨g, 0, none⟩) (ls.length + 1) cap) (ls.length + 1) (ls.map sv ++ [sv l])) : WS W' base (.slice (some ⟨g, 0, none⟩) (ls.length + 1) cap) (ls ++ [l]) := by
  unfold WS
  rw [List.length_append, List.length_singleton, List.map_append, List.map_singleton]
  exact h
theorem WS.slot {a : Option Addr} {cap j : Nat} (h : WS W base (.slice a ls.length cap) ls) (hj : j < ls.length) : ∃ g cur, a = some ⟨g, 0, none⟩ ∧ obj W g = some (.cells cur 9) ∧ (∃ l : j < cur.size, cur[j] = sv ls[j]) := by
  obtain ⟨hl, h' | ⟨g, cap', cur, h1, h2, h3, h4, h5, h6, h7⟩⟩ := h
  · rw [h'.2] at hj; exact absurd hj (by omega)
  · simp only [Value.slice.injEq] at h1
    have e : (cur.toList.take (ls.length * 1))[j]? = (ls.map sv)[j]? := by rw [h7]
    rw [Nat.mul_one, List.getElem?_take, if_pos hj, Array.getElem?_toList, List.getElem?_map, List.getElem?_eq_getElem hj] at e
    exact ⟨g, cur, h1.1, h3, Array.getElem?_eq_some_iff.1 e⟩
end
theorem sv_ext (s : ByteArray) (b e : Nat) : Value.string (s.extract b e) = sv ((s.data.toList.drop b).take (e - b)) := by
  unfold sv
  congr 1
  rw [ByteArray.ext_iff, ByteArray.data_extract]
  apply Array.toList_inj.1
  simp [List.take_drop, Array.toList_extract]
set_option maxHeartbeats 1000000 in
theorem split_any (c : UInt8) (s : ByteArray) (hs : s.size ≤ 1048576) (m : Int) (w : World) (hm : w.cell? ⟨Tryd.laysM146_ren.g 1, 0, none⟩ = some (.int .i64 m)) :
    Calls Tryd.prog 60 #[.string s, .string ⟨#[c]⟩] w fun e w' => ∃ v, e = .returned v ∧ WS w' w.heap.size v (pcs c s.data.toList) ∧ New w w' := by
  refine (Any.strings_Split (ρ := Tryd.laysM146_ren) { Tryd.laysM146 with } Tryd.laysM146.i9 s ⟨#[c]⟩ m w (by omega) hm (by exact Nat.le_refl _)).mono ?_
  rintro e w' ⟨rfl, rfl⟩
  have hcb : Lib.countB s ⟨#[c]⟩ = s.data.toList.count c := by
    show Lib.count s.data.toList [c] = _
    exact Lib.count_one c _
  have hp : (Lib.splitB ⟨#[c]⟩ 0 (Lib.countB s ⟨#[c]⟩) s).map Value.string = (pcs c s.data.toList).map sv := by
    have hd : (Lib.splitB ⟨#[c]⟩ 0 (s.data.toList.count c) s).map (fun x => x.data.toList) = Lib.splitK [c] 0 (s.data.toList.count c) s.data.toList := Lib.splitB_data _ _ _ _
    rw [← splitK_pcs c (s.data.toList.count c) _ rfl, hcb, ← hd, List.map_map]
    rfl
  have hl : Lib.countB s ⟨#[c]⟩ + 1 = (pcs c s.data.toList).length := by rw [hcb, pcs_len]
  rw [hp, hl]
  have hle : s.data.toList.count c ≤ s.size := Nat.le_trans List.count_le_length (Nat.le_of_eq (by simp))
  refine ⟨_, rfl, ⟨by simp, .inr ⟨w.heap.size, _, ((pcs c s.data.toList).map sv).toArray, rfl, Nat.le_refl _, obj_alloc_at _ _ _ rfl, Nat.le_refl _, by rw [pcs_len]; unfold maxLen; omega, by simp, by simp; exact List.take_of_length_le (by simp)⟩⟩, (New.refl _).alloc _⟩
theorem inv_hit {c : UInt8} {D : List UInt8} {O : List (List UInt8)} {b i : Nat} (hbi : b ≤ i) (h : D[i]? = some c) (hinv : pcs c D = O ++ pcs c (D.drop b) ∧ c ∉ (D.drop b).take (i - b)) : pcs c D = (O ++ [(D.drop b).take (i - b)]) ++ pcs c (D.drop (i + 1)) ∧ c ∉ (D.drop (i + 1)).take (i + 1 - (i + 1)) := by
  refine ⟨?_, by simp⟩
  have e : D.drop b = (D.drop b).take (i - b) ++ c :: D.drop (i + 1) := by
    obtain ⟨hl, hc⟩ := List.getElem?_eq_some_iff.1 h
    have e1 := (List.take_append_drop (i - b) (D.drop b)).symm
    rw [List.drop_drop, show b + (i - b) = i by omega, List.drop_eq_getElem_cons hl, hc] at e1
    exact e1
  rw [hinv.1, List.append_assoc]
  congr 1
  conv => lhs; rw [e]
  rw [pcs_hit hinv.2]
  rfl
theorem inv_miss {c x : UInt8} {D : List UInt8} {O : List (List UInt8)} {b i : Nat} (hbi : b ≤ i) (h : D[i]? = some x) (hx : x ≠ c) (hinv : pcs c D = O ++ pcs c (D.drop b) ∧ c ∉ (D.drop b).take (i - b)) : pcs c D = O ++ pcs c (D.drop b) ∧ c ∉ (D.drop b).take (i + 1 - b) := by
  refine ⟨hinv.1, ?_⟩
  rw [show i + 1 - b = (i - b) + 1 by omega, List.take_add_one, List.getElem?_drop, show b + (i - b) = i by omega, h]
  simp only [Option.toList_some, List.mem_append, List.mem_singleton, not_or]
  exact ⟨hinv.2, fun e => hx e.symm⟩
theorem inv_end {c : UInt8} {D : List UInt8} {O : List (List UInt8)} {b n : Nat} (hn : D.length = n) (hinv : pcs c D = O ++ pcs c (D.drop b) ∧ c ∉ (D.drop b).take (n - b)) : O ++ [(D.drop b).take (n - b)] = pcs c D := by
  have e : (D.drop b).take (n - b) = D.drop b := List.take_of_length_le (by rw [List.length_drop, hn]; exact Nat.le_refl _)
  have h2 := hinv.2
  rw [e] at h2
  rw [hinv.1, e, pcs_none h2]
end Go.Proofs.YtomfjicjejoakaaDoor
/- A picture read from its text: in plain words; no condition. -/
set_option linter.unusedVariables false
namespace Go.Proofs.YtomfjicjejoakaaDoor
open Go.BigFrame
open Go.RowKit Go.Arr
theorem pcs_snoc {c : UInt8} {u v : List UInt8} (h : c ∉ v) : pcs c (u ++ c :: v) = pcs c u ++ [v] := by
  induction u with
  | nil =>
    have e : pcs c (c :: v) = [] :: pcs c v := by rw [pcs, if_pos rfl]
    rw [List.nil_append, e, pcs_none h]
    rfl
  | cons b u ih =>
    rw [List.cons_append, pcs, ih]
    by_cases e : b = c
    · rw [if_pos e, pcs, if_pos e]; rfl
    · rw [if_neg e, pcs, if_neg e]
      have := pcs_pos c u
      cases hp : pcs c u with
      | nil => rw [hp] at this; simp at this
      | cons p ps => rfl
theorem last_cut {c : UInt8} {l : List UInt8} (h : c ∈ l) : ∃ u v, l = u ++ c :: v ∧ c ∉ v := by
  induction l with
  | nil => simp at h
  | cons b l ih =>
    by_cases e : c ∈ l
    · obtain ⟨u, v, h1, h2⟩ := ih e
      exact ⟨b :: u, v, by rw [h1]; rfl, h2⟩
    · rcases List.mem_cons.1 h with h | h
      · exact ⟨[], l, by rw [h]; rfl, e⟩
      · exact absurd h e
/-- the number of a letter, or -1 -/
def letV (x : Int) : Int := if x = 46 then 0 else if 97 ≤ x ∧ x ≤ 111 then x - 96 else -1
theorem letV_b (x : Int) : -1 ≤ letV x ∧ letV x ≤ 15 := by
  unfold letV
  split
  · omega
  · split <;> omega
/-- a text of lines: its rows, whether it ends as it should -/
def rwS (s : ByteArray) : List (List UInt8) := pcs 10 s.data.toList.dropLast
def endB (s : ByteArray) : Bool := s.data.toList.getLast? == some 10
def rbt (R : List (List UInt8)) (j : Nat) : Int := bAt ⟨(R.getD (j / 12) []).toArray⟩ (j % 12)
def widN (s : ByteArray) : Nat := ((rwS s).getD 0 []).length
def okRow (R : List (List UInt8)) (w y : Nat) : Bool := decide ((R.getD y []).length = w) && (List.range w).all fun x => decide (0 ≤ letV (rbt R (x + 12 * y)))
def rdO (s : ByteArray) : Bool := endB s && (isSizeB (widN s) (rwS s).length && (List.range (rwS s).length).all (okRow (rwS s) (widN s)))
/-- the cells of y rows and x places of the next one -/
def rdU (R : List (List UInt8)) (w y x : Nat) (j : Nat) : Int := if (j / 12 < y ∧ j % 12 < w) ∨ (j / 12 = y ∧ j % 12 < x) then letV (rbt R j) else 0
def rdA (s : ByteArray) : Array Value := if rdO s = true then pic 144 (widN s) (rwS s).length (rdU (rwS s) (widN s) (rwS s).length 0) else pic 144 0 0 fun _ => 0
def rdC (s : ByteArray) : Int := if rdO s = true then 0 else 5
theorem rdU_row {R : List (List UInt8)} {w y j : Nat} : rdU R w y w j = rdU R w (y + 1) 0 j := by
  unfold rdU
  by_cases h : (j / 12 < y ∧ j % 12 < w) ∨ (j / 12 = y ∧ j % 12 < w)
  · rw [if_pos h, if_pos (by omega)]
  · rw [if_neg h, if_neg (by omega)]
theorem rdU_put {R : List (List UInt8)} {w y x : Nat} (hx : x < 12) {k : Int} (hk : letV (rbt R (x + 12 * y)) = k) (j : Nat) : upd (rdU R w y x) (x + 12 * y) k j = rdU R w y (x + 1) j := by
  unfold upd
  by_cases e : j = x + 12 * y
  · subst e
    rw [if_pos rfl]
    unfold rdU
    rw [if_pos (by omega), hk]
  · rw [if_neg e]
    unfold rdU
    by_cases h : (j / 12 < y ∧ j % 12 < w) ∨ (j / 12 = y ∧ j % 12 < x)
    · rw [if_pos h, if_pos (by omega)]
    · rw [if_neg h, if_neg (by omega)]
theorem rdU_dot {R : List (List UInt8)} {w y x : Nat} (hx : x < 12) (hk : letV (rbt R (x + 12 * y)) = 0) (j : Nat) : rdU R w y x j = rdU R w y (x + 1) j := by
  unfold rdU
  by_cases e : j = x + 12 * y
  · subst e
    rw [if_pos (show ((x + 12 * y) / 12 < y ∧ (x + 12 * y) % 12 < w) ∨ ((x + 12 * y) / 12 = y ∧ (x + 12 * y) % 12 < x + 1) by omega), hk]
    split <;> rfl
  · by_cases h : (j / 12 < y ∧ j % 12 < w) ∨ (j / 12 = y ∧ j % 12 < x)
    · rw [if_pos h, if_pos (by omega)]
    · rw [if_neg h, if_neg (by omega)]
section
variable {s : ByteArray}
theorem rdC_t (h : rdO s = true) : rdC s = 0 := if_pos h
theorem rdC_f (h : rdO s = false) : rdC s = 5 := if_neg (by rw [h]; simp)
theorem rdA_t (h : rdO s = true) : rdA s = pic 144 (widN s) (rwS s).length (rdU (rwS s) (widN s) (rwS s).length 0) := if_pos h
theorem rdA_f (h : rdO s = false) : rdA s = pic 144 0 0 fun _ => 0 := if_neg (by rw [h]; simp)
theorem rdO_end (h : endB s = false) : rdO s = false := by unfold rdO; rw [h]; rfl
theorem rdO_size (h : isSizeB (widN s) (rwS s).length = false) : rdO s = false := by unfold rdO; rw [h, Bool.false_and, Bool.and_false]
theorem rdO_row {y : Nat} (hy : y < (rwS s).length) (h : okRow (rwS s) (widN s) y = false) : rdO s = false := by
  have : (List.range (rwS s).length).all (okRow (rwS s) (widN s)) = false := by rw [List.all_eq_false]; exact ⟨y, by simpa using hy, by rw [h]; simp⟩
  unfold rdO
  rw [this, Bool.and_false, Bool.and_false]
theorem rdO_ok (h1 : endB s = true) (h2 : isSizeB (widN s) (rwS s).length = true) (h : ∀ y, y < (rwS s).length → okRow (rwS s) (widN s) y = true) : rdO s = true := by
  unfold rdO
  rw [h1, h2, List.all_eq_true.2 (fun y hy => h y (by simpa using hy))]
  rfl
end
theorem okRow_len {R : List (List UInt8)} {w y : Nat} (h : (R.getD y []).length ≠ w) : okRow R w y = false := by
  unfold okRow; rw [decide_eq_false h, Bool.false_and]
theorem okRow_bt {R : List (List UInt8)} {w y x : Nat} (hx : x < w) (h : letV (rbt R (x + 12 * y)) < 0) : okRow R w y = false := by
  unfold okRow
  rw [Bool.and_eq_false_iff]
  right
  rw [List.all_eq_false]
  exact ⟨x, by simpa using hx, by simpa using h⟩
theorem okRow_t {R : List (List UInt8)} {w y : Nat} (h1 : (R.getD y []).length = w) (h : ∀ x, x < w → 0 ≤ letV (rbt R (x + 12 * y))) : okRow R w y = true := by
  unfold okRow
  rw [decide_eq_true h1, Bool.true_and, List.all_eq_true]
  exact fun x hx => decide_eq_true (h x (by simpa using hx))
/-- what the lines are, seen from the rows -/
theorem lines_t {s : ByteArray} (h : endB s = true) : pcs 10 s.data.toList = rwS s ++ [[]] := by
  unfold endB at h
  have h2 : s.data.toList.getLast? = some 10 := by simpa using h
  have hne : s.data.toList ≠ [] := fun e => by rw [e] at h2; simp at h2
  have e : s.data.toList = s.data.toList.dropLast ++ [10] := by
    have := List.dropLast_concat_getLast hne
    rw [List.getLast?_eq_some_getLast hne] at h2
    rw [Option.some.inj h2] at this
    exact this.symm
  conv => lhs; rw [e]
  rw [pcs_snoc (by simp)]
  rfl
theorem lines_f {s : ByteArray} (h : endB s = false) : (pcs 10 s.data.toList).length = 1 ∨ ∃ v ls, pcs 10 s.data.toList = ls ++ [v] ∧ v ≠ [] := by
  by_cases hc : (10 : UInt8) ∈ s.data.toList
  · obtain ⟨u, v, h1, h2⟩ := last_cut hc
    right
    refine ⟨v, pcs 10 u, by rw [h1, pcs_snoc h2], fun e => ?_⟩
    subst e
    unfold endB at h
    rw [h1] at h
    simp at h
  · left
    rw [pcs_none hc]
    rfl
end Go.Proofs.YtomfjicjejoakaaDoor
/- The reference's plain pictures and parts of pictures; no condition. -/
set_option linter.unusedVariables false
namespace Go.Proofs.YtomfjicjejoakaaDoor
open Go.BigFrame
open Go.RowKit Go.Arr
def plainQ (a b c : Int) : Bool := (inB a 1 12 && inB b 1 12) && inB c 0 15
def plainA (a b c : Int) : PicAns := if plainQ a b c = true then ⟨0, a, b, paint a b fun _ _ => c⟩ else noPic 2
def cutQ (a b x y c d : Int) : Bool := (isCellB x y a b && inB c 1 (a - x)) && inB d 1 (b - y)
def cutH (f : Nat → Int) (x y : Int) (u v : Int) : Int := f (x + u + 12 * (y + v)).toNat
def cutV (f : Nat → Int) (x y : Int) (i : Nat) : Int := f ((i : Int) + x + 12 * y).toNat
def cutA (a b : Int) (f : Nat → Int) (x y c d : Int) : PicAns := if codeB (okPic a b f) (cutQ a b x y c d) = 0 then ⟨0, c, d, paint c d (cutH f x y)⟩ else noPic (codeB (okPic a b f) (cutQ a b x y c d))
theorem cut_cases (a b : Int) (f : Nat → Int) (x y c d : Int) :
    (okPic a b f = true ∧ isCellB x y a b = true ∧ inB c 1 (a - x) = true ∧ inB d 1 (b - y) = true ∧ cutA a b f x y c d = ⟨0, c, d, paint c d (cutH f x y)⟩ ∧ codeB (okPic a b f) (isCellB x y a b) = 0) ∨
    (okPic a b f = true ∧ isCellB x y a b = true ∧ inB c 1 (a - x) = true ∧ inB d 1 (b - y) = false ∧ cutA a b f x y c d = noPic 2 ∧ codeB (okPic a b f) (isCellB x y a b) = 0) ∨
    (okPic a b f = true ∧ isCellB x y a b = true ∧ inB c 1 (a - x) = false ∧ cutA a b f x y c d = noPic 2 ∧ codeB (okPic a b f) (isCellB x y a b) = 0) ∨
    (okPic a b f = true ∧ isCellB x y a b = false ∧ cutA a b f x y c d = noPic 2 ∧ codeB (okPic a b f) (isCellB x y a b) = 2) ∨
    (okPic a b f = false ∧ cutA a b f x y c d = noPic 1 ∧ codeB (okPic a b f) (isCellB x y a b) = 1) := by
  unfold cutA cutQ
  cases okPic a b f <;> cases isCellB x y a b <;> cases inB c 1 (a - x) <;> cases inB d 1 (b - y) <;> simp [codeB]
set_option maxHeartbeats 2000000 in
set_option maxRecDepth 100000 in
theorem cut_spec (a b : Int) (f : Nat → Int) (x y c d : Int) (ha : -128 ≤ a ∧ a ≤ 127) (hb : -128 ≤ b ∧ b ≤ 127) (hf : ∀ i, 0 ≤ f i ∧ f i ≤ 255) (w : World) :
    Calls Tryd.prog 19 #[.agg (pic 144 a b f), .int .i64 x, .int .i64 y, .int .i64 c, .int .i64 d] w fun e w' => e = .returned (.tuple #[.agg (pic 144 (cutA a b f x y c d).w (cutA a b f x y c d).h (cutA a b f x y c d).f), .int .i64 (cutA a b f x y c d).c]) ∧ New w w' := by
  rcases cut_cases a b f x y c d with ⟨h1, h2, h3, h4, hA, h5⟩ | ⟨h1, h2, h3, h4, hA, h5⟩ | ⟨h1, h2, h3, hA, h5⟩ | ⟨h1, h2, hA, h5⟩ | ⟨h1, hA, h5⟩
  rotate_left
  all_goals (try have gd := okPic_dims h1)
  all_goals (try have gc := isCellB_t h2)
  all_goals (clear h1; try clear h2)
  all_goals rw [hA]
  all_goals clear hA
  iterate 4
    · go_enter Tryd.func19, Tryd.ntmps19
      go_wp2_with (fail)
      refine (l01Place_any _ 27 a b f x y ha hb hf _ (by go_simp)).mono ?_
      rintro e w1 ⟨rfl, rfl⟩
      go_wp2_with (go_at_call 50; refine (l00In_any _ _ _ _).mono ?_; rintro e w' ⟨rfl, rfl⟩)
      refine ret_cell_tmp agg27 rfl rfl (c := pic 144 0 0 fun _ => 0) (t := 27) (fr := (0, 0)) (by go_simp) size_pic rfl ⟨?_, ?_⟩
      · rfl
      · repeat' (first | exact New.refl _ | refine New.alloc ?_ _ | refine New.drew ?_ | refine New.drewN ?_ _ | refine New.setRow ?_ (by omega) _ | refine New.setCell ?_ (by first | omega | (simp; done) | (simp; omega)) _)
  have gw := inB_t.1 h3
  have gh := inB_t.1 h4
  go_enter Tryd.func19, Tryd.ntmps19
  go_wp2_with (fail)
  refine (l01Place_any _ 27 a b f x y ha hb hf _ (by go_simp)).mono ?_
  rintro e w1 ⟨rfl, rfl⟩
  go_wp2_with (go_at_call 50; refine (l00In_any _ _ _ _).mono ?_; rintro e w' ⟨rfl, rfl⟩)
  clear h3 h4 h5
  go_loopw [14] (fun i wr => ∃ k : Nat, k ≤ 144 ∧ i = .int .i64 k ∧ Hid (obj wr w.heap.size = some (.cells (pic 144 a b f) 27)) ∧ Hid (obj wr (w.heap.size + 1) = some (.cells (pic 144 0 0 fun _ => 0) 27)) ∧ Hid (obj wr (w.heap.size + 1 + 1) = some (.cells (pic 144 c d (fold (fun _ => 0) (fun i => cellB i c d) (fun i => i) (cutV f x y) k)) 27)) ∧ New w wr ∧ w.heap.size + 3 ≤ wr.heap.size) (fun i _ => 144 - (intOf i).toNat)
  case atStart =>
    refine ⟨0, by omega, rfl, ?_, ?_, ?_, ?_, by simp⟩
    · show _ = _
      go_simp
    · show _ = _
      go_simp
    · show _ = _
      go_simp
      try rfl
    · repeat' (first | exact New.refl _ | refine New.alloc ?_ _ | refine New.drew ?_ | refine New.drewN ?_ _ | refine New.setRow ?_ (by omega) _ | refine New.setCell ?_ (by first | omega | (simp; done) | (simp; omega)) _)
  case round =>
    obtain ⟨k, hk, rfl, hp1, hz1, hq1, hn, hlw⟩ := hrel
    have hp := hp1.out
    have hz := hz1.out
    have hq := hq1.out
    have k0 : w.heap.size < wr.heap.size := by omega
    have k1 : w.heap.size + 1 < wr.heap.size := by omega
    have k2 : w.heap.size + 2 < wr.heap.size := by omega
    by_cases hlt : k < 144
    · cases hc : cellB k c d
      · go_wp2_with (fail)
        refine (l01Is_any _ 27 c d _ _ (by omega) (by omega) _ hq).mono ?_
        rintro e w1 ⟨rfl, rfl⟩
        go_wp2_with (fail)
        go_roundw
        case rel => exact ⟨k + 1, by omega, by go_num, hp1, hz1, by show _ = _; rw [hq]; simp [fold, hc], hn, hlw⟩
        case measure => simp [intOf]; omega
      · have hin : Hid (inside c d k) := (cellB_t hlt).1 hc
        have q1 : 0 ≤ (k : Int) + x + 12 * y := by omega
        have q2 : (k : Int) + x + 12 * y < 144 := by have := hin.out; unfold inside at this; omega
        have q3 : ((k : Int) + x + 12 * y).toNat < 144 := by omega
        go_wp2_with (fail)
        refine (l01Is_any _ 27 c d _ _ (by omega) (by omega) _ hq).mono ?_
        rintro e w1 ⟨rfl, rfl⟩
        go_wp2_with (fail)
        go_roundw
        case rel =>
          refine ⟨k + 1, by omega, by go_num, ?_, ?_, ?_, ?_, ?_⟩
          · show _ = _
            rw [obj_setCell_other _ _ _ _ _ (by omega), hp]
          · show _ = _
            rw [obj_setCell_other _ _ _ _ _ (by omega), hz]
          · show _ = _
            rw [obj_set_pic hq _ (k) _ (by omega)]
            simp only [fold, hc, if_true, cutV]
          · exact (hn.setCell (by show w.heap.size ≤ w.heap.size + 1 + 1; omega) _)
          · simp only [World.size_setCell]; omega
        case measure => simp [intOf]; omega
    · obtain rfl : k = 144 := by omega
      go_wp2_with (fail)
      refine ret_cell_tmp agg27 rfl rfl (c := pic 144 c d (fold (fun _ => 0) (fun i => cellB i c d) (fun i => i) (cutV f x y) 144)) (t := 27) (fr := (0, 0)) (by go_simp) size_pic rfl ⟨?_, ?_⟩
      · rw [pic_congr (fun j hj => id_end c d (by omega) (by omega) (cutH f x y) (cutV f x y) (fun i hi hin => by unfold cutH cutV; congr 1; omega) j hj)]
        rfl
      · exact hn.setRow (by omega) _
end Go.Proofs.YtomfjicjejoakaaDoor
