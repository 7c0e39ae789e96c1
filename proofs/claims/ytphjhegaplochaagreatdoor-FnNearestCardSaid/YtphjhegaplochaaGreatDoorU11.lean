/- Texts that are split at a byte: in plain words; the reference's splitting; the library's; no condition. -/
import Derived.Test.YtphjhegaplochaaGreatDoorU5
import Derived.Test.YtphjhegaplochaaGreatDoorU1
import Derived.Test.YtphjhegaplochaaGreatDoorShx
import Derived.Shelf.Strings.SplitShaped
import Derived.Test.YtphjhegaplochaaGreatDoorU4
import Derived.Test.YtphjhegaplochaaGreatDoorU10
import Derived.Test.YtphjhegaplochaaGreatDoorU3
import Derived.Test.YtphjhegaplochaaGreatDoorU2
import Derived.Maps.AppendAt
import Derived.Laws.Bits64
import Derived.Conc.WgArith
import Derived.IntWalk
set_option linter.unusedVariables false
namespace Go.Proofs.YtphjhegaplochaaGreatDoor
open Go.BigFrame
open Go.RowKit Go.Arr
theorem slStrs2 : SlTy Tryz.prog 70 9 (.string ByteArray.empty) 1 16 := ⟨Tryz.underlying70, by kernel_rfl, rfl, by omega⟩
/-- the pieces of a text -/
def pcs (c : UInt8) : List UInt8 → List (List UInt8)
  | [] => [[]]
  | b :: l => if b = c then [] :: pcs c l else match pcs c l with
    | [] => [[b]]
    | p :: ps => (b :: p) :: ps
theorem pcs_pos (c : UInt8) (l : List UInt8) : 0 < (pcs c l).length := by
  induction l with
  | nil => simp [pcs]
  | cons b l ih =>
    unfold pcs
    split
    · simp
    · split <;> simp
theorem pcs_len (c : UInt8) (l : List UInt8) : (pcs c l).length = l.count c + 1 := by
  induction l with
  | nil => rfl
  | cons b l ih =>
    unfold pcs
    by_cases e : b = c
    · rw [if_pos e, List.length_cons, ih, e, List.count_cons_self]
    · rw [if_neg e, List.count_cons_of_ne e]
      have := pcs_pos c l
      split
      · rename_i h; rw [h] at this; simp at this
      · rename_i p ps h; rw [h] at ih; simpa using ih
theorem pcs_none {c : UInt8} {l : List UInt8} (h : c ∉ l) : pcs c l = [l] := by
  induction l with
  | nil => rfl
  | cons b l ih =>
    simp only [List.mem_cons, not_or] at h
    unfold pcs
    rw [if_neg (fun e => h.1 e.symm), ih h.2]
theorem pcs_hit {c : UInt8} {u v : List UInt8} (h : c ∉ u) : pcs c (u ++ c :: v) = u :: pcs c v := by
  induction u with
  | nil => rw [List.nil_append, pcs, if_pos rfl]
  | cons b u ih =>
    simp only [List.mem_cons, not_or] at h
    rw [List.cons_append, pcs, if_neg (fun e => h.1 e.symm), ih h.2]
/-- the first place of a byte -/
theorem idx_none {c : UInt8} {l : List UInt8} (h : c ∉ l) : Lib.indexByte l c = -1 := by
  induction l with
  | nil => rfl
  | cons b l ih =>
    simp only [List.mem_cons, not_or] at h
    unfold Lib.indexByte
    rw [if_neg (by simp; exact fun e => h.1 e.symm), ih h.2]
    rfl
theorem idx_hit {c : UInt8} {u v : List UInt8} (h : c ∉ u) : Lib.indexByte (u ++ c :: v) c = u.length := by
  induction u with
  | nil => simp [Lib.indexByte]
  | cons b u ih =>
    simp only [List.mem_cons, not_or] at h
    rw [List.cons_append, Lib.indexByte, if_neg (by simp; exact fun e => h.1 e.symm), ih h.2, if_neg (by simp), List.length_cons]
    omega
theorem mem_cut {c : UInt8} {l : List UInt8} (h : c ∈ l) : ∃ u v, l = u ++ c :: v ∧ c ∉ u := by
  induction l with
  | nil => simp at h
  | cons b l ih =>
    by_cases e : b = c
    · exact ⟨[], l, by rw [e]; rfl, by simp⟩
    · have h2 : c ∈ l := by
        rcases List.mem_cons.1 h with h | h
        · exact absurd h.symm e
        · exact h
      obtain ⟨u, v, h3, h4⟩ := ih h2
      exact ⟨b :: u, v, by rw [h3]; rfl, by simp only [List.mem_cons, not_or]; exact ⟨fun e2 => e e2.symm, h4⟩⟩
theorem splitK_pcs (c : UInt8) (k : Nat) : ∀ l : List UInt8, l.count c = k → Lib.splitK [c] 0 k l = pcs c l := by
  induction k with
  | zero =>
    intro l h
    rw [pcs_none (List.count_eq_zero.1 h)]
    rfl
  | succ k ih =>
    intro l h
    obtain ⟨u, v, rfl, hu⟩ := mem_cut (c := c) (l := l) (List.count_pos_iff.1 (by omega))
    have hi : Lib.index (u ++ c :: v) [c] = u.length := by rw [Lib.index_one, idx_hit hu]
    rw [pcs_hit hu, Lib.splitK, hi, if_neg (by simp)]
    rw [List.count_append, List.count_cons_self, List.count_eq_zero.2 hu] at h
    have e1 : ((u.length : Nat) : Int).toNat = u.length := Int.toNat_natCast _
    rw [e1, Nat.add_zero, List.take_left, ih]
    · rw [show ([c] : List UInt8).length = 1 from rfl, List.drop_length_add_append]; rfl
    · rw [show ([c] : List UInt8).length = 1 from rfl, List.drop_length_add_append]; simpa using (by omega : v.count c = k)
def sv (l : List UInt8) : Value := .string ⟨l.toArray⟩
/-- texts, in memory of the call's own -/
def WS (W : World) (base : Nat) (v : Value) (ls : List (List UInt8)) : Prop := W.ownsRow base 9 1 v ls.length (ls.map sv)
section
variable {W W' : World} {base : Nat} {v : Value} {ls : List (List UInt8)}
theorem WS.new (h : WS W base v ls) (hn : New W W') : WS W' base v ls := own_new h hn
theorem WS.form (h : WS W base v ls) : ∃ a cap, v = .slice a ls.length cap := by
  obtain ⟨hl, h | ⟨g, cap, cur, h1, _⟩⟩ := h
  · exact ⟨none, 0, by rw [h.2]; exact h.1⟩
  · exact ⟨_, _, h1⟩
theorem WS.block (h : WS W base v ls) : ∀ b, v.ownBlock = some b → base ≤ b ∧ b < W.heap.size := h.lt
theorem WS.empty {g : Nat} (h : obj W g = some (.cells #[] 9)) (hb : base ≤ g) : WS W base (.slice (some ⟨g, 0, none⟩) 0 0) [] :=
  ⟨by simp, .inr ⟨g, 0, #[], rfl, hb, h, by simp, by omega, rfl, by simp⟩⟩
theorem WS.app {g cap : Nat} {l : List UInt8} (h : W'.ownsRow base 9 1 (.slice (some ⟨g, 0, none⟩) (ls.length + 1) cap) (ls.length + 1) (ls.map sv ++ [sv l])) : WS W' base (.slice (some ⟨g, 0, none⟩) (ls.length + 1) cap) (ls ++ [l]) := by
  unfold WS
  rw [List.length_append, List.length_singleton, List.map_append, List.map_singleton]
  exact h
theorem WS.slot {a : Option Addr} {cap j : Nat} (h : WS W base (.slice a ls.length cap) ls) (hj : j < ls.length) : ∃ g cur, a = some ⟨g, 0, none⟩ ∧ obj W g = some (.cells cur 9) ∧ (∃ l : j < cur.size, cur[j] = sv ls[j]) := by
  obtain ⟨hl, h' | ⟨g, cap', cur, h1, h2, h3, h4, h5, h6, h7⟩⟩ := h
  · rw [h'.2] at hj; exact absurd hj (by omega)
  · simp only [Value.slice.injEq] at h1
    have e : (cur.toList.take (ls.length * 1))[j]? = (ls.map sv)[j]? := by rw [h7]
    rw [Nat.mul_one, List.getElem?_take, if_pos hj, Array.getElem?_toList, List.getElem?_map, List.getElem?_eq_getElem hj] at e
    exact ⟨g, cur, h1.1, h3, Array.getElem?_eq_some_iff.1 e⟩
end
theorem sv_ext (s : ByteArray) (b e : Nat) : Value.string (s.extract b e) = sv ((s.data.toList.drop b).take (e - b)) := by
  unfold sv
  congr 1
  rw [ByteArray.ext_iff, ByteArray.data_extract]
  apply Array.toList_inj.1
  simp [List.take_drop, Array.toList_extract]
set_option maxHeartbeats 1000000 in
theorem split_any (c : UInt8) (s : ByteArray) (hs : s.size ≤ 1048576) (m : Int) (w : World) (hm : w.cell? ⟨Tryz.laysM146_ren.g 1, 0, none⟩ = some (.int .i64 m)) :
    Calls Tryz.prog 40 #[.string s, .string ⟨#[c]⟩] w fun e w' => ∃ v, e = .returned v ∧ WS w' w.heap.size v (pcs c s.data.toList) ∧ New w w' := by
  refine (Any.strings_Split (ρ := Tryz.laysM146_ren) { Tryz.laysM146 with } Tryz.laysM146.i9 s ⟨#[c]⟩ m w (by omega) hm (by exact Nat.le_refl _)).mono ?_
  rintro e w' ⟨rfl, rfl⟩
  have hcb : Lib.countB s ⟨#[c]⟩ = s.data.toList.count c := by
    show Lib.count s.data.toList [c] = _
    exact Lib.count_one c _
  have hp : (Lib.splitB ⟨#[c]⟩ 0 (Lib.countB s ⟨#[c]⟩) s).map Value.string = (pcs c s.data.toList).map sv := by
    have hd : (Lib.splitB ⟨#[c]⟩ 0 (s.data.toList.count c) s).map (fun x => x.data.toList) = Lib.splitK [c] 0 (s.data.toList.count c) s.data.toList := Lib.splitB_data _ _ _ _
    rw [← splitK_pcs c (s.data.toList.count c) _ rfl, hcb, ← hd, List.map_map]
    rfl
  have hl : Lib.countB s ⟨#[c]⟩ + 1 = (pcs c s.data.toList).length := by rw [hcb, pcs_len]
  rw [hp, hl]
  have hle : s.data.toList.count c ≤ s.size := Nat.le_trans List.count_le_length (Nat.le_of_eq (by simp))
  refine ⟨_, rfl, ⟨by simp, .inr ⟨w.heap.size, _, ((pcs c s.data.toList).map sv).toArray, rfl, Nat.le_refl _, obj_alloc_at _ _ _ rfl, Nat.le_refl _, by rw [pcs_len]; unfold maxLen; omega, by simp, by simp; exact List.take_of_length_le (by simp)⟩⟩, (New.refl _).alloc _⟩
theorem inv_hit {c : UInt8} {D : List UInt8} {O : List (List UInt8)} {b i : Nat} (hbi : b ≤ i) (h : D[i]? = some c) (hinv : pcs c D = O ++ pcs c (D.drop b) ∧ c ∉ (D.drop b).take (i - b)) : pcs c D = (O ++ [(D.drop b).take (i - b)]) ++ pcs c (D.drop (i + 1)) ∧ c ∉ (D.drop (i + 1)).take (i + 1 - (i + 1)) := by
  refine ⟨?_, by simp⟩
  have e : D.drop b = (D.drop b).take (i - b) ++ c :: D.drop (i + 1) := by
    obtain ⟨hl, hc⟩ := List.getElem?_eq_some_iff.1 h
    have e1 := (List.take_append_drop (i - b) (D.drop b)).symm
    rw [List.drop_drop, show b + (i - b) = i by omega, List.drop_eq_getElem_cons hl, hc] at e1
    exact e1
  rw [hinv.1, List.append_assoc]
  congr 1
  conv => lhs; rw [e]
  rw [pcs_hit hinv.2]
  rfl
theorem inv_miss {c x : UInt8} {D : List UInt8} {O : List (List UInt8)} {b i : Nat} (hbi : b ≤ i) (h : D[i]? = some x) (hx : x ≠ c) (hinv : pcs c D = O ++ pcs c (D.drop b) ∧ c ∉ (D.drop b).take (i - b)) : pcs c D = O ++ pcs c (D.drop b) ∧ c ∉ (D.drop b).take (i + 1 - b) := by
  refine ⟨hinv.1, ?_⟩
  rw [show i + 1 - b = (i - b) + 1 by omega, List.take_add_one, List.getElem?_drop, show b + (i - b) = i by omega, h]
  simp only [Option.toList_some, List.mem_append, List.mem_singleton, not_or]
  exact ⟨hinv.2, fun e => hx e.symm⟩
theorem inv_end {c : UInt8} {D : List UInt8} {O : List (List UInt8)} {b n : Nat} (hn : D.length = n) (hinv : pcs c D = O ++ pcs c (D.drop b) ∧ c ∉ (D.drop b).take (n - b)) : O ++ [(D.drop b).take (n - b)] = pcs c D := by
  have e : (D.drop b).take (n - b) = D.drop b := List.take_of_length_le (by rw [List.length_drop, hn]; exact Nat.le_refl _)
  have h2 := hinv.2
  rw [e] at h2
  rw [hinv.1, e, pcs_none h2]
end Go.Proofs.YtphjhegaplochaaGreatDoor
/- A palette read from its text: the reference and the program; no condition. -/
set_option linter.unusedVariables false
namespace Go.Proofs.YtphjhegaplochaaGreatDoor
open Go.BigFrame
open Go.RowKit Go.Arr
def wds (s : ByteArray) : List (List UInt8) := pcs 32 s.data.toList
def wdB (l : List UInt8) : ByteArray := ⟨l.toArray⟩
def wdO (ls : List (List UInt8)) (j : Nat) : Bool := okText (wdB (ls.getD j []))
def wdF (ls : List (List UInt8)) (j : Nat) : Int := toneV (wdB (ls.getD (j / 3) [])) (j % 3)
def rpO (s : ByteArray) : Bool := (List.range (wds s).length).all (wdO (wds s)) && okPal (wds s).length (wdF (wds s))
def rpC (s : ByteArray) : Int := if rpO s = true then 0 else 5
def rpN (s : ByteArray) : Nat := if rpO s = true then (wds s).length else 0
theorem pcs_mem (c : UInt8) (D : List UInt8) : ∀ l, l ∈ pcs c D → l.length ≤ D.length := by
  induction D with
  | nil => intro l hl; simp [pcs] at hl; simp [hl]
  | cons b D ih =>
    intro l hl
    unfold pcs at hl
    by_cases e : b = c
    · rw [if_pos e] at hl
      rcases List.mem_cons.1 hl with h | h
      · rw [h]; simp
      · have := ih l h; rw [List.length_cons]; omega
    · rw [if_neg e] at hl
      split at hl
      · simp at hl; rw [hl]; simp
      · rename_i p ps hp
        rcases List.mem_cons.1 hl with h | h
        · have := ih p (by rw [hp]; simp); rw [h, List.length_cons, List.length_cons]; omega
        · have := ih l (by rw [hp]; simp [h]); rw [List.length_cons]; omega
theorem pcs_le (c : UInt8) (D : List UInt8) (h : (pcs c D).getD 0 [] ≠ []) : (pcs c D).length ≤ D.length := by
  cases D with
  | nil => simp [pcs] at h
  | cons b D =>
    rw [pcs_len]
    by_cases e : b = c
    · unfold pcs at h; rw [if_pos e] at h; simp at h
    · rw [List.count_cons_of_ne e, List.length_cons]
      have : D.count c ≤ D.length := List.count_le_length
      omega
theorem wds_b (s : ByteArray) : (wds s).length ≤ s.size + 1 := by
  unfold wds
  rw [pcs_len]
  have : s.data.toList.count 32 ≤ s.data.toList.length := List.count_le_length
  have h2 : s.data.toList.length = s.size := by simp
  omega
theorem wds_le {s : ByteArray} (h : wdO (wds s) 0 = true) : (wds s).length ≤ s.size := by
  have h2 : s.data.toList.length = s.size := by simp
  rw [← h2]
  refine pcs_le 32 _ fun e => ?_
  unfold wdO at h
  rw [show (wds s).getD 0 [] = [] from e] at h
  revert h
  decide
theorem wds_sz {s : ByteArray} {j : Nat} (hj : j < (wds s).length) : (wdB (wds s)[j]).size ≤ s.size := by
  have h2 : s.data.toList.length = s.size := by simp
  rw [← h2]
  exact pcs_mem 32 _ _ (List.getElem_mem hj)
theorem getD_at {α : Type} {l : List α} {j : Nat} {d : α} (h : j < l.length) : l.getD j d = l[j] := by
  rw [List.getD_eq_getElem?_getD, List.getElem?_eq_getElem h]; rfl
section
variable {s : ByteArray}
theorem rpC_t (h : rpO s = true) : rpC s = 0 := if_pos h
theorem rpC_f (h : rpO s = false) : rpC s = 5 := if_neg (by rw [h]; simp)
theorem rpN_t (h : rpO s = true) : rpN s = (wds s).length := if_pos h
theorem rpN_f (h : rpO s = false) : rpN s = 0 := if_neg (by rw [h]; simp)
theorem rpO_w {j : Nat} (hj : j < (wds s).length) (h : wdO (wds s) j = false) : rpO s = false := by
  unfold rpO
  rw [Bool.and_eq_false_iff]
  left
  rw [List.all_eq_false]
  exact ⟨j, by simpa using hj, by rw [h]; simp⟩
theorem rpO_e (h : ∀ j, j < (wds s).length → wdO (wds s) j = true) : rpO s = okPal (wds s).length (wdF (wds s)) := by
  unfold rpO
  rw [List.all_eq_true.2 (fun j hj => h j (by simpa using hj)), Bool.true_and]
theorem rpN_le (s : ByteArray) : rpN s ≤ 15 := by
  unfold rpN
  split
  · rename_i h
    unfold rpO at h
    rw [Bool.and_eq_true] at h
    exact (okPal_pos h.2).2
  · omega
end
theorem toneV_b {s : ByteArray} (h : okText s = true) (k : Nat) (hk : k < 3) : 0 ≤ toneV s k ∧ toneV s k ≤ 255 := by
  unfold okText okAt at h
  simp only [Bool.and_eq_true, decide_eq_true_iff] at h
  have h1 : -1 ≤ dg s 1 ∧ dg s 1 ≤ 15 := dg_b s 1
  have h2 : -1 ≤ dg s 2 ∧ dg s 2 ≤ 15 := dg_b s 2
  have h3 : -1 ≤ dg s 3 ∧ dg s 3 ≤ 15 := dg_b s 3
  have h4 : -1 ≤ dg s 4 ∧ dg s 4 ≤ 15 := dg_b s 4
  have h5 : -1 ≤ dg s 5 ∧ dg s 5 ≤ 15 := dg_b s 5
  have h6 : -1 ≤ dg s 6 ∧ dg s 6 ≤ 15 := dg_b s 6
  have e : k = 0 ∨ k = 1 ∨ k = 2 := by omega
  rcases e with rfl | rfl | rfl
  · show 0 ≤ 16 * dg s 1 + dg s 2 ∧ 16 * dg s 1 + dg s 2 ≤ 255
    omega
  · show 0 ≤ 16 * dg s 3 + dg s 4 ∧ 16 * dg s 3 + dg s 4 ≤ 255
    omega
  · show 0 ≤ 16 * dg s 5 + dg s 6 ∧ 16 * dg s 5 + dg s 6 ≤ 255
    omega
end Go.Proofs.YtphjhegaplochaaGreatDoor
/- The great law on nearest tones: tones and palettes are read from their texts, in plain words; no condition. -/
set_option linter.unusedVariables false
namespace Go.Proofs.YtphjhegaplochaaGreatDoor
open Go.BigFrame
open Go.RowKit Go.Arr
theorem hexd_in {x : Int} (h : 0 ≤ x ∧ x ≤ 15) : (48 ≤ hexd x ∧ hexd x ≤ 57) ∨ (97 ≤ hexd x ∧ hexd x ≤ 102) := by
  unfold hexd
  split <;> omega
theorem hexv_hexd {x : Int} (h : 0 ≤ x ∧ x ≤ 15) : hexv (hexd x) = x := by
  have := hexd_in h
  unfold hexd hexv at *
  split <;> split <;> (try split) <;> omega
theorem u8_o {z : Int} (h : 0 ≤ z ∧ z ≤ 255) : (((UInt8.ofNat z.toNat).toNat : Nat) : Int) = z := by
  rw [UInt8.toNat_ofNat']
  omega
theorem bAt_bstr {l : List Int} {i : Nat} {z : Int} (h : l[i]? = some z) (hz : 0 ≤ z ∧ z ≤ 255) : bAt (bstr l) i = z := by
  unfold bAt bstr bytesOf
  rw [Array.getD_eq_getD_getElem?, List.getElem?_toArray, List.getElem?_map, h]
  exact u8_o hz
theorem pcs_snoc2 {c : UInt8} {u v : List UInt8} (h : c ∉ v) : pcs c (u ++ c :: v) = pcs c u ++ [v] := by
  induction u with
  | nil =>
    have e : pcs c (c :: v) = [] :: pcs c v := by rw [pcs, if_pos rfl]
    rw [List.nil_append, e, pcs_none h]
    rfl
  | cons b u ih =>
    rw [List.cons_append, pcs, ih]
    by_cases e : b = c
    · rw [if_pos e, pcs, if_pos e]; rfl
    · rw [if_neg e, pcs, if_neg e]
      cases hq : pcs c u with
      | nil => have := pcs_pos c u; rw [hq] at this; simp at this
      | cons p ps => rfl
section
variable {f : Nat → Int} (hf : ∀ i, 0 ≤ f i ∧ f i ≤ 255)
include hf
omit hf in
theorem ttL_at (i : Nat) : (ttL f i)[0]? = some 35 ∧ (ttL f i)[1]? = some (hexd (f (i * 3) / 16)) ∧ (ttL f i)[2]? = some (hexd (f (i * 3) % 16)) ∧ (ttL f i)[3]? = some (hexd (f (i * 3 + 1) / 16)) ∧ (ttL f i)[4]? = some (hexd (f (i * 3 + 1) % 16)) ∧ (ttL f i)[5]? = some (hexd (f (i * 3 + 2) / 16)) ∧ (ttL f i)[6]? = some (hexd (f (i * 3 + 2) % 16)) :=
  ⟨rfl, rfl, rfl, rfl, rfl, rfl, rfl⟩
theorem tt_read (i : Nat) : okText (bstr (ttL f i)) = true ∧ toneV (bstr (ttL f i)) 0 = f (i * 3) ∧ toneV (bstr (ttL f i)) 1 = f (i * 3 + 1) ∧ toneV (bstr (ttL f i)) 2 = f (i * 3 + 2) := by
  obtain ⟨h0, h1, h2, h3, h4, h5, h6⟩ := ttL_at (f := f) i
  have d : ∀ x : Int, 0 ≤ x ∧ x ≤ 15 → 0 ≤ hexd x ∧ hexd x ≤ 255 := fun x hx => by have := hexd_in hx; omega
  have b0 := hf (i * 3)
  have b1 := hf (i * 3 + 1)
  have b2 := hf (i * 3 + 2)
  have e0 := bAt_bstr h0 ⟨by omega, by omega⟩
  have e1 : dg (bstr (ttL f i)) 1 = f (i * 3) / 16 := by unfold dg; rw [bAt_bstr h1 (d _ ⟨by omega, by omega⟩), hexv_hexd ⟨by omega, by omega⟩]
  have e2 : dg (bstr (ttL f i)) 2 = f (i * 3) % 16 := by unfold dg; rw [bAt_bstr h2 (d _ ⟨by omega, by omega⟩), hexv_hexd ⟨by omega, by omega⟩]
  have e3 : dg (bstr (ttL f i)) 3 = f (i * 3 + 1) / 16 := by unfold dg; rw [bAt_bstr h3 (d _ ⟨by omega, by omega⟩), hexv_hexd ⟨by omega, by omega⟩]
  have e4 : dg (bstr (ttL f i)) 4 = f (i * 3 + 1) % 16 := by unfold dg; rw [bAt_bstr h4 (d _ ⟨by omega, by omega⟩), hexv_hexd ⟨by omega, by omega⟩]
  have e5 : dg (bstr (ttL f i)) 5 = f (i * 3 + 2) / 16 := by unfold dg; rw [bAt_bstr h5 (d _ ⟨by omega, by omega⟩), hexv_hexd ⟨by omega, by omega⟩]
  have e6 : dg (bstr (ttL f i)) 6 = f (i * 3 + 2) % 16 := by unfold dg; rw [bAt_bstr h6 (d _ ⟨by omega, by omega⟩), hexv_hexd ⟨by omega, by omega⟩]
  refine ⟨?_, ?_, ?_, ?_⟩
  · unfold okText okAt
    rw [size_bs, length_ttL, e0, e1, e2, e3, e4, e5, e6]
    simp only [Bool.and_eq_true, decide_eq_true_eq]
    refine ⟨by first | trivial | rfl, by first | trivial | rfl, by omega, by omega, by omega, by omega, by omega, by omega⟩
  · unfold toneV; rw [show 2 * 0 + 1 = 1 from rfl, show 2 * 0 + 2 = 2 from rfl, e1, e2]; omega
  · unfold toneV; rw [show 2 * 1 + 1 = 3 from rfl, show 2 * 1 + 2 = 4 from rfl, e3, e4]; omega
  · unfold toneV; rw [show 2 * 2 + 1 = 5 from rfl, show 2 * 2 + 2 = 6 from rfl, e5, e6]; omega
theorem ttL_no (i : Nat) : (32 : UInt8) ∉ bytesOf (ttL f i) := by
  have b0 := hf (i * 3)
  have b1 := hf (i * 3 + 1)
  have b2 := hf (i * 3 + 2)
  intro h
  unfold bytesOf at h
  obtain ⟨z, hz, e⟩ := List.mem_map.1 h
  have hz2 : z = 35 ∨ (48 ≤ z ∧ z ≤ 57) ∨ (97 ≤ z ∧ z ≤ 102) := by
    have hz3 : z = 35 ∨ z = hexd (f (i * 3) / 16) ∨ z = hexd (f (i * 3) % 16) ∨ z = hexd (f (i * 3 + 1) / 16) ∨ z = hexd (f (i * 3 + 1) % 16) ∨ z = hexd (f (i * 3 + 2) / 16) ∨ z = hexd (f (i * 3 + 2) % 16) := by
      have : ttL f i = [35, hexd (f (i * 3) / 16), hexd (f (i * 3) % 16), hexd (f (i * 3 + 1) / 16), hexd (f (i * 3 + 1) % 16), hexd (f (i * 3 + 2) / 16), hexd (f (i * 3 + 2) % 16)] := rfl
      rw [this] at hz
      simpa using hz
    have d1 := hexd_in (x := f (i * 3) / 16) ⟨by omega, by omega⟩
    have d2 := hexd_in (x := f (i * 3) % 16) ⟨by omega, by omega⟩
    have d3 := hexd_in (x := f (i * 3 + 1) / 16) ⟨by omega, by omega⟩
    have d4 := hexd_in (x := f (i * 3 + 1) % 16) ⟨by omega, by omega⟩
    have d5 := hexd_in (x := f (i * 3 + 2) / 16) ⟨by omega, by omega⟩
    have d6 := hexd_in (x := f (i * 3 + 2) % 16) ⟨by omega, by omega⟩
    omega
  have e2 := u8_o (z := z) ⟨by omega, by omega⟩
  rw [e] at e2
  have : ((32 : UInt8).toNat : Nat) = 32 := rfl
  omega
theorem pal_wds (n : Nat) : pcs 32 (bytesOf (palL f (n + 1))) = (List.range (n + 1)).map fun i => bytesOf (ttL f i) := by
  induction n with
  | zero =>
    show pcs 32 (bytesOf ([] ++ ttL f 0)) = _
    rw [List.nil_append, pcs_none (ttL_no hf 0)]
    rfl
  | succ n ih =>
    rw [palL_s f (by omega)]
    have e : bytesOf (palL f (n + 1) ++ [32] ++ ttL f (n + 1)) = bytesOf (palL f (n + 1)) ++ 32 :: bytesOf (ttL f (n + 1)) := by
      unfold bytesOf
      simp
    rw [e]
    rw [List.range_succ (n := n + 1), List.map_append, ← ih]
    exact pcs_snoc2 (ttL_no hf (n + 1))
end
structure NnTxt (n : Nat) (f : Nat → Int) (s : ByteArray) : Prop where
  txt : ptA n f = s
  size : s.size ≤ 1048576
  code : rpC s = 0
  many : rpN s = n
  at_ : ∀ j, j < n * 3 → wdF (wds s) j = f j
theorem okPal_like {n : Nat} {f g : Nat → Int} (h : ∀ j, j < n * 3 → f j = g j) (hp : okPal n f = true) : okPal n g = true := by
  have hn := okPal_pos hp
  rw [okPal_t fun i hi => firstAt_t fun j hj => ?_]
  · rw [inB_t]; omega
  · cases hc : alikePal g g i j
    · rfl
    · have hc2 : alikePal f f i j = true := by
        unfold alikePal at hc ⊢
        rw [h _ (by omega), h _ (by omega), h _ (by omega), h _ (by omega), h _ (by omega), h _ (by omega)]
        exact hc
      rw [okPal_f hi (firstAt_f hj hc2)] at hp
      cases hp
theorem nn_txt {n : Nat} {f : Nat → Int} (hf : ∀ i, 0 ≤ f i ∧ f i ≤ 255) (hp : okPal n f = true) : NnTxt n f (bstr (palL f n)) := by
  have hn := okPal_pos hp
  obtain ⟨m, rfl⟩ : ∃ m, n = m + 1 := ⟨n - 1, by omega⟩
  have hw : wds (bstr (palL f (m + 1))) = (List.range (m + 1)).map fun i => bytesOf (ttL f i) := by
    unfold wds
    rw [data_bstr]
    exact pal_wds hf m
  have hl : (wds (bstr (palL f (m + 1)))).length = m + 1 := by rw [hw]; simp
  have hg : ∀ i, i < m + 1 → wdB ((wds (bstr (palL f (m + 1)))).getD i []) = bstr (ttL f i) := fun i hi => by
    rw [hw, List.getD_eq_getElem?_getD, List.getElem?_map, List.getElem?_range hi]
    rfl
  have ha : ∀ j, j < (m + 1) * 3 → wdF (wds (bstr (palL f (m + 1)))) j = f j := fun j hj => by
    unfold wdF
    rw [hg (j / 3) (by omega)]
    obtain ⟨_, h0, h1, h2⟩ := tt_read hf (j / 3)
    have h3 : j % 3 = 0 ∨ j % 3 = 1 ∨ j % 3 = 2 := by omega
    rcases h3 with h3 | h3 | h3
    · rw [h3, h0]; congr 1; omega
    · rw [h3, h1]; congr 1; omega
    · rw [h3, h2]; congr 1; omega
  have ho : rpO (bstr (palL f (m + 1))) = true := by
    unfold rpO
    rw [hl, okPal_like (fun j hj => (ha j hj).symm) hp, Bool.and_true, List.all_eq_true]
    intro i hi
    unfold wdO
    rw [hg i (by simpa using hi)]
    exact (tt_read hf i).1
  refine ⟨if_pos hp, ?_, if_pos ho, ?_, ha⟩
  · rw [size_bs]
    have := length_palL f (m + 1)
    omega
  · unfold rpN
    rw [if_pos ho, hl]
structure NnTone (x y z : Int) (s : ByteArray) : Prop where
  txt : toneText x y z = s
  size : s.size ≤ 1048576
  code : codeT s = 0
  r0 : readV s 0 = x
  r1 : readV s 1 = y
  r2 : readV s 2 = z
theorem nn_tone {f : Nat → Int} (hf : ∀ i, 0 ≤ f i ∧ f i ≤ 255) (i : Nat) : NnTone (f (i * 3)) (f (i * 3 + 1)) (f (i * 3 + 2)) (bstr (ttL f i)) := by
  obtain ⟨h, h0, h1, h2⟩ := tt_read hf i
  refine ⟨ttL_text f i, ?_, if_pos h, ?_, ?_, ?_⟩
  · rw [size_bs, length_ttL]; omega
  · rw [readV_t h]; exact h0
  · rw [readV_t h]; exact h1
  · rw [readV_t h]; exact h2
end Go.Proofs.YtphjhegaplochaaGreatDoor
/- What one block's turning leaves; no condition. -/
set_option linter.unusedVariables false
namespace Go.Arr
open Go.RowKit
theorem Sl.grown {W w : World} {v : Value} {n m : Nat} {k : IntKind} {f : Nat → Int} {r : Option Nat} (h : Sl W v n m k f) (hg : W.grownBy w r) (hr : ∀ a c, v = .slice (some a) n c → some a.block ≠ r) : Sl w v n m k f := by
  obtain ⟨a, c, rfl, h⟩ := h
  refine ⟨a, c, rfl, fun hp => ?_⟩
  obtain ⟨g, off, cur, t, fr, rfl, ho, hc⟩ := h hp
  exact ⟨g, off, cur, t, fr, rfl, (grown_obj hg g (obj_lt ho) (hr _ _ rfl)).trans ho, hc⟩
theorem grown_new2 {W w w' : World} {r : Option Nat} (h : W.grownBy w r) (hn : New w w') : W.grownBy w' r :=
  ⟨hn.os.trans h.os, hn.tape.trans h.tape, hn.output.trans h.output, Nat.le_trans h.size hn.size, fun k hk hr => (hn.block k (Nat.lt_of_lt_of_le hk h.size)).trans (h.block k hk hr)⟩
theorem new_grown {W w : World} {r : Option Nat} (hn : New W w) : W.grownBy w r := ⟨hn.os, hn.tape, hn.output, hn.size, fun k hk _ => hn.block k hk⟩
theorem setCell_grown {W w : World} {g : Nat} (h : W.grownBy w (some g)) (o : Nat) (v : Value) : W.grownBy (w.setCell ⟨g, o, none⟩ v) (some g) :=
  ⟨h.os, h.tape, h.output, by simpa [World.setCell] using h.size, fun k hk hr => (obj_setCell_other _ _ _ _ _ fun e => hr (by rw [e])).trans (h.block k hk hr)⟩
theorem grown_step {W w : World} {g : Nat} (h : W.grownBy w (some g)) {b : Nat} (hb : b < W.heap.size) (hne : b ≠ g) : obj w b = obj W b := h.block b hb fun e => hne (Option.some.inj e)
theorem grown_over {W w w' : World} {g : Nat} {r : Option Nat} (h : W.grownBy w (some g)) (hg : w.grownBy w' r) (hr : ∀ q, r = some q → W.heap.size ≤ q ∨ q = g) : W.grownBy w' (some g) :=
  ⟨hg.os.trans h.os, hg.tape.trans h.tape, hg.output.trans h.output, Nat.le_trans h.size hg.size, fun k hk hne => (hg.block k (Nat.lt_of_lt_of_le hk h.size) fun e => (hr k e.symm).elim (fun h1 => absurd h1 (by omega)) (fun h1 => hne (by rw [h1]))).trans (h.block k hk hne)⟩
theorem grown_refl (W : World) (r : Option Nat) : W.grownBy W r := ⟨rfl, rfl, rfl, Nat.le_refl _, fun _ _ _ => rfl⟩
theorem setRow_grown {W w : World} {g : Nat} (h : W.grownBy w (some g)) (c : Array Value) : W.grownBy (w.setRow g c) (some g) :=
  ⟨h.os, h.tape, h.output, by simpa using h.size, fun k hk hr => (setRow_other w g k c fun e => hr (by rw [e])).trans (h.block k hk hr)⟩
end Go.Arr
/- The source of what is drawn: its steps; no condition. -/
set_option linter.unusedVariables false
namespace Go.Proofs.YtphjhegaplochaaGreatDoor
open Go.BigFrame
open Go.RowKit Go.Arr
/-- a source that has been asked so often at most -/
def Src (W : World) (g : Nat) (ad : Option Addr) (n c : Nat) (f : Nat → Int) (A : Nat) : Prop :=
  (∃ (at_ : Nat) (sd : Int), obj W g = some (.cells #[.slice ad n c, .int .i64 at_, .int .u64 sd] 113) ∧ at_ ≤ A ∧ 0 ≤ sd ∧ sd ≤ 18446744073709551615) ∧
  Sl W (.slice ad n c) n 1 .u8 f ∧ ∀ a, ad = some a → a.block ≠ g
theorem Src.more {W : World} {g : Nat} {ad : Option Addr} {n c A B : Nat} {f : Nat → Int} (h : Src W g ad n c f A) (hB : A ≤ B) : Src W g ad n c f B := by
  obtain ⟨⟨t, s, h1, h2, h3⟩, h4⟩ := h
  exact ⟨⟨t, s, h1, by omega, h3⟩, h4⟩
theorem Src.lt {W : World} {g : Nat} {ad : Option Addr} {n c A : Nat} {f : Nat → Int} (h : Src W g ad n c f A) : g < W.heap.size := by
  obtain ⟨⟨t, s, h1, _⟩, _⟩ := h
  exact obj_lt h1
theorem Src.new {W w : World} {g : Nat} {ad : Option Addr} {n c A : Nat} {f : Nat → Int} (h : Src W g ad n c f A) (hn : New W w) : Src w g ad n c f A := by
  obtain ⟨⟨t, s, h1, h2, h3⟩, h4, h5⟩ := h
  exact ⟨⟨t, s, (hn.objs _ (obj_lt h1)).trans h1, h2, h3⟩, h4.new hn, h5⟩
theorem elBytes {W : World} {a : Option Addr} {n c : Nat} {f : Nat → Int} (h : Sl W (.slice a n c) n 1 .u8 f) (hn : 0 < n) : ∃ g off cur t fr, a = some ⟨g, off, none⟩ ∧ obj W g = some (.cells cur t fr) ∧ ∀ j, j < n → ∃ l : off + j < cur.size, cur[off + j] = .int .u8 (f j) := by
  obtain ⟨g, off, cur, t, fr, rfl, ho, hc⟩ := h.at hn
  exact ⟨g, off, cur, t, fr, rfl, ho, fun j hj => Array.getElem?_eq_some_iff.1 (hc j (by omega))⟩
theorem drewN_grown {W w : World} {r : Option Nat} (h : W.grownBy w r) (n : Nat) : W.grownBy (w.drewN n) r := grown_new2 h ((New.refl _).drewN n)
/-- a number as the source's own kind -/
def U64 (x : Int) : Prop := 0 ≤ x ∧ x ≤ 18446744073709551615
theorem and255 (x : Int) (h0 : 0 ≤ x) (h1 : x < 9223372036854775808) : bits .and .u64 x 255 = x % 256 := by
  have h := bits_mask .u64 63 (by decide) Go.ConcN.wraps_u64_63 8 (by decide) x (by omega) (by omega)
  have e : ((2 : Int) ^ 8 - 1) = 255 := by decide
  have e2 : ((2 : Int) ^ 8) = 256 := by decide
  rw [e, e2] at h
  exact h
theorem low8 (s : Int) (h : U64 s) : 0 ≤ wrap64 (bits .and .u64 (s / 1099511627776) 255) ∧ wrap64 (bits .and .u64 (s / 1099511627776) 255) ≤ 255 := by
  obtain ⟨h0, h1⟩ := h
  rw [and255 _ (by omega) (by omega)]
  rw [IntWalk.wrap64_in _ ⟨by omega, by omega⟩]
  omega
theorem u64_wrap (x : Int) : U64 (IntKind.u64.wrap x) := by
  rw [IntKind.wrap_u64]
  unfold U64
  omega
theorem src_step {W : World} {g : Nat} {ad : Option Addr} {n c A t : Nat} {f : Nat → Int} {s sd : Int} (a b : Nat) (ho : obj W g = some (.cells #[.slice ad n c, .int .i64 t, .int .u64 sd] 113)) (ht : t ≤ A) (hs : U64 s) (hsl : Sl W (.slice ad n c) n 1 .u8 f) (hne : ∀ a, ad = some a → a.block ≠ g) :
    Src ((((W.drewN a).setCell ⟨g, 1, none⟩ (.int .i64 ((t : Int) + 1))).setCell ⟨g, 2, none⟩ (.int .u64 s)).drewN b) g ad n c f (A + 1) ∧ W.grownBy ((((W.drewN a).setCell ⟨g, 1, none⟩ (.int .i64 ((t : Int) + 1))).setCell ⟨g, 2, none⟩ (.int .u64 s)).drewN b) (some g) := by
  have hg : W.grownBy ((((W.drewN a).setCell ⟨g, 1, none⟩ (.int .i64 ((t : Int) + 1))).setCell ⟨g, 2, none⟩ (.int .u64 s)).drewN b) (some g) := drewN_grown (setCell_grown (setCell_grown (drewN_grown (grown_refl _ _) _) _ _) _ _) _
  refine ⟨⟨⟨t + 1, s, ?_, by omega, hs.1, hs.2⟩, hsl.grown hg fun a' c' e => ?_, hne⟩, hg⟩
  · have e0 : obj (W.drewN a) g = _ := ho
    show obj (((W.drewN a).setCell ⟨g, 1, none⟩ (.int .i64 ((t : Int) + 1))).setCell ⟨g, 2, none⟩ (.int .u64 s)) g = _
    rw [obj_setCell_same, obj_setCell_same, e0]
    rfl
  · simp only [Value.slice.injEq] at e
    exact fun e2 => hne a' e.1 (Option.some.inj e2)
set_option maxHeartbeats 4000000 in
set_option maxRecDepth 100000 in
theorem next_any (g : Nat) (ad : Option Addr) (n c A : Nat) (f : Nat → Int) (hA : A ≤ 1000000) (hn : n ≤ 1000000) (hf : ∀ i, 0 ≤ f i ∧ f i ≤ 255) (W : World) (hs : Src W g ad n c f A) :
    Calls Tryz.prog 100 #[.pointer (some ⟨g, 0, none⟩)] W fun e w' => ∃ x : Int, e = .returned (.int .i64 x) ∧ (0 ≤ x ∧ x ≤ 255) ∧ Src w' g ad n c f (A + 1) ∧ W.grownBy w' (some g) := by
  obtain ⟨⟨t, sd, ho, ht, hsd⟩, hsl, hne⟩ := hs
  have hg := obj_lt ho
  have hneh := hide hne
  have hsl' := hide hsl
  clear hne
  by_cases hlt : t < n
  · obtain ⟨gq, offq, curq, tq, frq, rfl, oq, helq⟩ := elBytes hsl (by omega)
    obtain ⟨lq, eq⟩ := helq t hlt
    have hne' := hneh.out _ rfl
    dsimp only at hne'
    have hft := hf t
    have hqg := obj_lt oq
    clear hsl helq
    go_enter Tryz.func100, Tryz.ntmps100
    go_wp2_with (fail)
    go_quiet (fail)
    go_wp2_with (fail)
    go_quiet (fail)
    go_wp2_with (fail)
    go_quiet (fail)
    go_wp2_with (fail)
    go_ret
    exact ⟨_, rfl, hft, src_step _ _ ho ht (u64_wrap _) hsl'.out hneh.out⟩
  · clear hsl
    go_enter Tryz.func100, Tryz.ntmps100
    go_wp2_with (fail)
    go_quiet (fail)
    go_wp2_with (fail)
    go_quiet (fail)
    go_wp2_with (fail)
    go_ret
    exact ⟨_, rfl, low8 _ (u64_wrap _), src_step _ _ ho ht (u64_wrap _) hsl'.out hneh.out⟩
set_option maxHeartbeats 2000000 in
set_option maxRecDepth 100000 in
theorem pick_any (g : Nat) (ad : Option Addr) (n c A : Nat) (f : Nat → Int) (m : Int) (hm : m ≤ 100000) (hA : A ≤ 900000) (hn : n ≤ 1000000) (hf : ∀ i, 0 ≤ f i ∧ f i ≤ 255) (W : World) (hs : Src W g ad n c f A) :
    Calls Tryz.prog 80 #[.pointer (some ⟨g, 0, none⟩), .int .i64 m] W fun e w' => ∃ x : Int, e = .returned (.int .i64 x) ∧ (0 ≤ x ∧ (x < m ∨ x = 0)) ∧ Src w' g ad n c f (A + 2) ∧ W.grownBy w' (some g) := by
  by_cases h1 : m ≤ 1
  · go_enter Tryz.func80, Tryz.ntmps80
    go_wp2_with (fail)
    go_ret
    exact ⟨_, rfl, ⟨by omega, Or.inr rfl⟩, hs.more (by omega), grown_refl _ _⟩
  by_cases h2 : 200 < m
  · go_enter Tryz.func80, Tryz.ntmps80
    go_wp2_with (fail)
    refine (next_any g ad n c A f (by omega) hn hf _ hs).mono ?_
    rintro e w1 ⟨x, rfl, hx, hs1, hg1⟩
    go_wp2_with (fail)
    refine (next_any g ad n c (A + 1) f (by omega) hn hf _ hs1).mono ?_
    rintro e w2 ⟨y, rfl, hy, hs2, hg2⟩
    go_wp2_with (fail)
    go_ret
    refine ⟨_, rfl, ?_, hs2, hg1.trans hg2⟩
    have h3 := Int.emod_nonneg (x * 256 + y) (by omega : m ≠ 0)
    have h4 := Int.emod_lt_of_pos (x * 256 + y) (by omega : 0 < m)
    exact ⟨h3, Or.inl h4⟩
  · go_enter Tryz.func80, Tryz.ntmps80
    go_wp2_with (fail)
    refine (next_any g ad n c A f (by omega) hn hf _ hs).mono ?_
    rintro e w1 ⟨x, rfl, hx, hs1, hg1⟩
    go_wp2_with (fail)
    go_ret
    refine ⟨_, rfl, ?_, hs1.more (by omega), hg1⟩
    have h3 := Int.emod_nonneg x (by omega : m ≠ 0)
    have h4 := Int.emod_lt_of_pos x (by omega : 0 < m)
    exact ⟨h3, Or.inl h4⟩
end Go.Proofs.YtphjhegaplochaaGreatDoor
/- Pictures: what comes in is handed on, and two are held against each other; no condition. -/
set_option linter.unusedVariables false
namespace Go.Proofs.YtphjhegaplochaaGreatDoor
open Go.BigFrame
open Go.RowKit Go.Arr
end Go.Proofs.YtphjhegaplochaaGreatDoor
/- A picture that is painted cell by cell by a function, and two pictures that are equal; no condition. -/
set_option linter.unusedVariables false
namespace Go.Proofs.YtphjhegaplochaaGreatDoor
open Go.BigFrame
open Go.RowKit Go.Arr
def inside (a b : Int) (i : Nat) : Prop := (i : Int) % 12 < a ∧ (i : Int) / 12 < b
instance (a b : Int) (i : Nat) : Decidable (inside a b i) := by unfold inside; infer_instance
/-- the cells that a function of the place paints -/
def paint (a b : Int) (h : Int → Int → Int) (i : Nat) : Int := if inside a b i then h ((i : Int) % 12) ((i : Int) / 12) else 0
def paintU (a b : Int) (h : Int → Int → Int) (y x : Nat) (i : Nat) : Int := if inside a b i ∧ ((i : Int) / 12 < y ∨ (i : Int) / 12 = y ∧ (i : Int) % 12 < x) then h ((i : Int) % 12) ((i : Int) / 12) else 0
theorem paintU_zero (a b : Int) (h : Int → Int → Int) (i : Nat) : paintU a b h 0 0 i = 0 := by
  unfold paintU
  rw [if_neg]
  omega
theorem paintU_row (a b : Int) (h : Int → Int → Int) (y : Nat) (x : Nat) (hx : (x : Int) = a) (i : Nat) : paintU a b h y x i = paintU a b h (y + 1) 0 i := by
  unfold paintU inside
  have e : ((i : Int) % 12 < a ∧ (i : Int) / 12 < b) ∧ ((i : Int) / 12 < y ∨ (i : Int) / 12 = y ∧ (i : Int) % 12 < x) ↔ ((i : Int) % 12 < a ∧ (i : Int) / 12 < b) ∧ ((i : Int) / 12 < (y + 1 : Nat) ∨ (i : Int) / 12 = (y + 1 : Nat) ∧ (i : Int) % 12 < (0 : Nat)) := by omega
  by_cases h1 : ((i : Int) % 12 < a ∧ (i : Int) / 12 < b) ∧ ((i : Int) / 12 < y ∨ (i : Int) / 12 = y ∧ (i : Int) % 12 < x)
  · rw [if_pos h1, if_pos (e.1 h1)]
  · rw [if_neg h1, if_neg (fun h2 => h1 (e.2 h2))]
theorem paintU_step (a b : Int) (h : Int → Int → Int) (y x : Nat) (ha : a ≤ 12) (hx : (x : Int) < a) (hy : (y : Int) < b) : upd (paintU a b h y x) (x + 12 * y) (h x y) = paintU a b h y (x + 1) := by
  funext i
  unfold upd paintU inside
  by_cases hi : i = x + 12 * y
  · subst hi
    have e1 : (((x + 12 * y : Nat) : Int)) % 12 = x := by omega
    have e2 : (((x + 12 * y : Nat) : Int)) / 12 = y := by omega
    rw [if_pos rfl, if_pos (by rw [e1, e2]; omega), e1, e2]
  · rw [if_neg hi]
    have e : ((i : Int) % 12 < a ∧ (i : Int) / 12 < b) ∧ ((i : Int) / 12 < y ∨ (i : Int) / 12 = y ∧ (i : Int) % 12 < x) ↔ ((i : Int) % 12 < a ∧ (i : Int) / 12 < b) ∧ ((i : Int) / 12 < y ∨ (i : Int) / 12 = y ∧ (i : Int) % 12 < (x + 1 : Nat)) := by omega
    by_cases h1 : ((i : Int) % 12 < a ∧ (i : Int) / 12 < b) ∧ ((i : Int) / 12 < y ∨ (i : Int) / 12 = y ∧ (i : Int) % 12 < x)
    · rw [if_pos h1, if_pos (e.1 h1)]
    · rw [if_neg h1, if_neg (fun h2 => h1 (e.2 h2))]
theorem paintU_all (a b : Int) (h : Int → Int → Int) (y : Nat) (hy : (y : Int) = b) (i : Nat) : paintU a b h y 0 i = paint a b h i := by
  unfold paintU paint
  by_cases h1 : inside a b i
  · rw [if_pos h1, if_pos ⟨h1, by have h2 := h1; unfold inside at h2; omega⟩]
  · rw [if_neg h1, if_neg (fun h2 => h1 h2.1)]
end Go.Proofs.YtphjhegaplochaaGreatDoor
