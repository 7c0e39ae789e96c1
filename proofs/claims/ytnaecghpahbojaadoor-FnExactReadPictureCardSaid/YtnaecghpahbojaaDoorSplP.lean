/- Texts that are split at a byte: in plain words; the reference's splitting; the library's; no condition. -/
import Derived.Test.YtnaecghpahbojaaDoorReadT
import Derived.Test.YtnaecghpahbojaaDoorSlc
import Derived.Test.YtnaecghpahbojaaDoorShx
import Derived.Shelf.Strings.SplitShaped
set_option linter.unusedVariables false
namespace Go.Proofs.YtnaecghpahbojaaDoor
open Go.BigFrame
open Go.RowKit Go.Arr
theorem slStrs2 : SlTy Tryd.prog 36 9 (.string ByteArray.empty) 1 16 := ⟨Tryd.underlying36, by kernel_rfl, rfl, by omega⟩
/-- the pieces of a text -/
def pcs (c : UInt8) : List UInt8 → List (List UInt8)
  | [] => [[]]
  | b :: l => if b = c then [] :: pcs c l else match pcs c l with
    | [] => [[b]]
    | p :: ps => (b :: p) :: ps
theorem pcs_pos (c : UInt8) (l : List UInt8) : 0 < (pcs c l).length := by
  induction l with
  | nil => simp [pcs]
  | cons b l ih =>
    unfold pcs
    split
    · simp
    · split <;> simp
theorem pcs_len (c : UInt8) (l : List UInt8) : (pcs c l).length = l.count c + 1 := by
  induction l with
  | nil => rfl
  | cons b l ih =>
    unfold pcs
    by_cases e : b = c
    · rw [if_pos e, List.length_cons, ih, e, List.count_cons_self]
    · rw [if_neg e, List.count_cons_of_ne e]
      have := pcs_pos c l
      split
      · rename_i h; rw [h] at this; simp at this
      · rename_i p ps h; rw [h] at ih; simpa using ih
theorem pcs_none {c : UInt8} {l : List UInt8} (h : c ∉ l) : pcs c l = [l] := by
  induction l with
  | nil => rfl
  | cons b l ih =>
    simp only [List.mem_cons, not_or] at h
    unfold pcs
    rw [if_neg (fun e => h.1 e.symm), ih h.2]
theorem pcs_hit {c : UInt8} {u v : List UInt8} (h : c ∉ u) : pcs c (u ++ c :: v) = u :: pcs c v := by
  induction u with
  | nil => rw [List.nil_append, pcs, if_pos rfl]
  | cons b u ih =>
    simp only [List.mem_cons, not_or] at h
    rw [List.cons_append, pcs, if_neg (fun e => h.1 e.symm), ih h.2]
/-- the first place of a byte -/
theorem idx_none {c : UInt8} {l : List UInt8} (h : c ∉ l) : Lib.indexByte l c = -1 := by
  induction l with
  | nil => rfl
  | cons b l ih =>
    simp only [List.mem_cons, not_or] at h
    unfold Lib.indexByte
    rw [if_neg (by simp; exact fun e => h.1 e.symm), ih h.2]
    rfl
theorem idx_hit {c : UInt8} {u v : List UInt8} (h : c ∉ u) : Lib.indexByte (u ++ c :: v) c = u.length := by
  induction u with
  | nil => simp [Lib.indexByte]
  | cons b u ih =>
    simp only [List.mem_cons, not_or] at h
    rw [List.cons_append, Lib.indexByte, if_neg (by simp; exact fun e => h.1 e.symm), ih h.2, if_neg (by simp), List.length_cons]
    omega
theorem mem_cut {c : UInt8} {l : List UInt8} (h : c ∈ l) : ∃ u v, l = u ++ c :: v ∧ c ∉ u := by
  induction l with
  | nil => simp at h
  | cons b l ih =>
    by_cases e : b = c
    · exact ⟨[], l, by rw [e]; rfl, by simp⟩
    · have h2 : c ∈ l := by
        rcases List.mem_cons.1 h with h | h
        · exact absurd h.symm e
        · exact h
      obtain ⟨u, v, h3, h4⟩ := ih h2
      exact ⟨b :: u, v, by rw [h3]; rfl, by simp only [List.mem_cons, not_or]; exact ⟨fun e2 => e e2.symm, h4⟩⟩
theorem splitK_pcs (c : UInt8) (k : Nat) : ∀ l : List UInt8, l.count c = k → Lib.splitK [c] 0 k l = pcs c l := by
  induction k with
  | zero =>
    intro l h
    rw [pcs_none (List.count_eq_zero.1 h)]
    rfl
  | succ k ih =>
    intro l h
    obtain ⟨u, v, rfl, hu⟩ := mem_cut (c := c) (l := l) (List.count_pos_iff.1 (by omega))
    have hi : Lib.index (u ++ c :: v) [c] = u.length := by rw [Lib.index_one, idx_hit hu]
    rw [pcs_hit hu, Lib.splitK, hi, if_neg (by simp)]
    rw [List.count_append, List.count_cons_self, List.count_eq_zero.2 hu] at h
    have e1 : ((u.length : Nat) : Int).toNat = u.length := Int.toNat_natCast _
    rw [e1, Nat.add_zero, List.take_left, ih]
    · rw [show ([c] : List UInt8).length = 1 from rfl, List.drop_length_add_append]; rfl
    · rw [show ([c] : List UInt8).length = 1 from rfl, List.drop_length_add_append]; simpa using (by omega : v.count c = k)
def sv (l : List UInt8) : Value := .string ⟨l.toArray⟩
/-- texts, in memory of the call's own -/
def WS (W : World) (base : Nat) (v : Value) (ls : List (List UInt8)) : Prop := W.ownsRow base 9 1 v ls.length (ls.map sv)
section
variable {W W' : World} {base : Nat} {v : Value} {ls : List (List UInt8)}
theorem WS.new (h : WS W base v ls) (hn : New W W') : WS W' base v ls := own_new h hn
theorem WS.form (h : WS W base v ls) : ∃ a cap, v = .slice a ls.length cap := by
  obtain ⟨hl, h | ⟨g, cap, cur, h1, _⟩⟩ := h
  · exact ⟨none, 0, by rw [h.2]; exact h.1⟩
  · exact ⟨_, _, h1⟩
theorem WS.block (h : WS W base v ls) : ∀ b, v.ownBlock = some b → base ≤ b ∧ b < W.heap.size := h.lt
theorem WS.empty {g : Nat} (h : obj W g = some (.cells #[] 9)) (hb : base ≤ g) : WS W base (.slice (some ⟨g, 0, none⟩) 0 0) [] :=
  ⟨by simp, .inr ⟨g, 0, #[], rfl, hb, h, by simp, by omega, rfl, by simp⟩⟩
theorem WS.app {g cap : Nat} {l : List UInt8} (h : W'.ownsRow base 9 1 (.slice (some ⟨g, 0, none⟩) (ls.length + 1) cap) (ls.length + 1) (ls.map sv ++ [sv l])) : WS W' base (.slice (some ⟨g, 0, none⟩) (ls.length + 1) cap) (ls ++ [l]) := by
  unfold WS
  rw [List.length_append, List.length_singleton, List.map_append, List.map_singleton]
  exact h
theorem WS.slot {a : Option Addr} {cap j : Nat} (h : WS W base (.slice a ls.length cap) ls) (hj : j < ls.length) : ∃ g cur, a = some ⟨g, 0, none⟩ ∧ obj W g = some (.cells cur 9) ∧ (∃ l : j < cur.size, cur[j] = sv ls[j]) := by
  obtain ⟨hl, h' | ⟨g, cap', cur, h1, h2, h3, h4, h5, h6, h7⟩⟩ := h
  · rw [h'.2] at hj; exact absurd hj (by omega)
  · simp only [Value.slice.injEq] at h1
    have e : (cur.toList.take (ls.length * 1))[j]? = (ls.map sv)[j]? := by rw [h7]
    rw [Nat.mul_one, List.getElem?_take, if_pos hj, Array.getElem?_toList, List.getElem?_map, List.getElem?_eq_getElem hj] at e
    exact ⟨g, cur, h1.1, h3, Array.getElem?_eq_some_iff.1 e⟩
end
theorem sv_ext (s : ByteArray) (b e : Nat) : Value.string (s.extract b e) = sv ((s.data.toList.drop b).take (e - b)) := by
  unfold sv
  congr 1
  rw [ByteArray.ext_iff, ByteArray.data_extract]
  apply Array.toList_inj.1
  simp [List.take_drop, Array.toList_extract]
set_option maxHeartbeats 1000000 in
theorem split_any (c : UInt8) (s : ByteArray) (hs : s.size ≤ 1048576) (m : Int) (w : World) (hm : w.cell? ⟨Tryd.laysM146_ren.g 1, 0, none⟩ = some (.int .i64 m)) :
    Calls Tryd.prog 21 #[.string s, .string ⟨#[c]⟩] w fun e w' => ∃ v, e = .returned v ∧ WS w' w.heap.size v (pcs c s.data.toList) ∧ New w w' := by
  refine (Any.strings_Split (ρ := Tryd.laysM146_ren) { Tryd.laysM146 with } Tryd.laysM146.i9 s ⟨#[c]⟩ m w (by omega) hm (by exact Nat.le_refl _)).mono ?_
  rintro e w' ⟨rfl, rfl⟩
  have hcb : Lib.countB s ⟨#[c]⟩ = s.data.toList.count c := by
    show Lib.count s.data.toList [c] = _
    exact Lib.count_one c _
  have hp : (Lib.splitB ⟨#[c]⟩ 0 (Lib.countB s ⟨#[c]⟩) s).map Value.string = (pcs c s.data.toList).map sv := by
    have hd : (Lib.splitB ⟨#[c]⟩ 0 (s.data.toList.count c) s).map (fun x => x.data.toList) = Lib.splitK [c] 0 (s.data.toList.count c) s.data.toList := Lib.splitB_data _ _ _ _
    rw [← splitK_pcs c (s.data.toList.count c) _ rfl, hcb, ← hd, List.map_map]
    rfl
  have hl : Lib.countB s ⟨#[c]⟩ + 1 = (pcs c s.data.toList).length := by rw [hcb, pcs_len]
  rw [hp, hl]
  have hle : s.data.toList.count c ≤ s.size := Nat.le_trans List.count_le_length (Nat.le_of_eq (by simp))
  refine ⟨_, rfl, ⟨by simp, .inr ⟨w.heap.size, _, ((pcs c s.data.toList).map sv).toArray, rfl, Nat.le_refl _, obj_alloc_at _ _ _ rfl, Nat.le_refl _, by rw [pcs_len]; unfold maxLen; omega, by simp, by simp; exact List.take_of_length_le (by simp)⟩⟩, (New.refl _).alloc _⟩
theorem inv_hit {c : UInt8} {D : List UInt8} {O : List (List UInt8)} {b i : Nat} (hbi : b ≤ i) (h : D[i]? = some c) (hinv : pcs c D = O ++ pcs c (D.drop b) ∧ c ∉ (D.drop b).take (i - b)) : pcs c D = (O ++ [(D.drop b).take (i - b)]) ++ pcs c (D.drop (i + 1)) ∧ c ∉ (D.drop (i + 1)).take (i + 1 - (i + 1)) := by
  refine ⟨?_, by simp⟩
  have e : D.drop b = (D.drop b).take (i - b) ++ c :: D.drop (i + 1) := by
    obtain ⟨hl, hc⟩ := List.getElem?_eq_some_iff.1 h
    have e1 := (List.take_append_drop (i - b) (D.drop b)).symm
    rw [List.drop_drop, show b + (i - b) = i by omega, List.drop_eq_getElem_cons hl, hc] at e1
    exact e1
  rw [hinv.1, List.append_assoc]
  congr 1
  conv => lhs; rw [e]
  rw [pcs_hit hinv.2]
  rfl
theorem inv_miss {c x : UInt8} {D : List UInt8} {O : List (List UInt8)} {b i : Nat} (hbi : b ≤ i) (h : D[i]? = some x) (hx : x ≠ c) (hinv : pcs c D = O ++ pcs c (D.drop b) ∧ c ∉ (D.drop b).take (i - b)) : pcs c D = O ++ pcs c (D.drop b) ∧ c ∉ (D.drop b).take (i + 1 - b) := by
  refine ⟨hinv.1, ?_⟩
  rw [show i + 1 - b = (i - b) + 1 by omega, List.take_add_one, List.getElem?_drop, show b + (i - b) = i by omega, h]
  simp only [Option.toList_some, List.mem_append, List.mem_singleton, not_or]
  exact ⟨hinv.2, fun e => hx e.symm⟩
theorem inv_end {c : UInt8} {D : List UInt8} {O : List (List UInt8)} {b n : Nat} (hn : D.length = n) (hinv : pcs c D = O ++ pcs c (D.drop b) ∧ c ∉ (D.drop b).take (n - b)) : O ++ [(D.drop b).take (n - b)] = pcs c D := by
  have e : (D.drop b).take (n - b) = D.drop b := List.take_of_length_le (by rw [List.length_drop, hn]; exact Nat.le_refl _)
  have h2 := hinv.2
  rw [e] at h2
  rw [hinv.1, e, pcs_none h2]
set_option maxHeartbeats 2000000 in
set_option maxRecDepth 100000 in
theorem l01Split_any (c : UInt8) (s : ByteArray) (hs : s.size ≤ 1048576) (w : World) :
    Calls Tryd.prog 13 #[.string s, .int .u8 (c.toNat : Nat)] w fun e w' => ∃ v, e = .returned v ∧ WS w' w.heap.size v (pcs c s.data.toList) ∧ New w w' := by
  have hsz : s.data.toList.length = s.size := by simp
  go_enter Tryd.func13, Tryd.ntmps13
  go_wp2_with (fail)
  go_loopw [7, 5, 6] (fun x v y wr => ∃ (i b : Nat) (O : List (List UInt8)), i ≤ s.size ∧ b ≤ i ∧ x = .int .i64 (i : Nat) ∧ y = .int .i64 (b : Nat) ∧ WS wr w.heap.size v O ∧ O.length ≤ i ∧ Hid (pcs c s.data.toList = O ++ pcs c (s.data.toList.drop b) ∧ c ∉ (s.data.toList.drop b).take (i - b)) ∧ New w wr ∧ w.heap.size ≤ wr.heap.size) (fun x _ _ _ => s.size - (intOf x).toNat)
  case atStart => exact ⟨0, 0, [], by omega, by omega, rfl, rfl, WS.empty (obj_alloc_at _ _ _ rfl) (Nat.le_refl _), by simp, ⟨by simp, by simp⟩, (New.refl _).alloc _, by simp⟩
  case round =>
    obtain ⟨i, b, O, hi, hbi, rfl, rfl, hws, hO, hinv, hnw, hlw⟩ := hrel
    obtain ⟨x5, y5, rfl⟩ := hws.form
    by_cases hlt : i < s.size
    · have hb1 := bAt_get s i hlt
      have hge : s.data.toList[i]? = some s[i] := by rw [Array.getElem?_toList]; exact Array.getElem?_eq_getElem hlt
      have hbk := hide hws.block
      by_cases hc : s[i] = c
      · have hd : (bAt s i == (c.toNat : Int)) = true := by rw [← hb1, hc]; simp
        have hin := hide (inv_hit hbi (by rw [hge, hc]) hinv.out)
        clear hc hge
        go_wp2_with (at_builtin; refine wpList_app slStrs2 rfl _ _ rfl w.heap.size _ _ _ rfl (hws.new ((New.refl _).alloc _)) ⟨wr.heap.size, 0, none⟩ 1 1 [.string (s.extract b i)] rfl rfl (news_new _ _ _ _ _ rfl) (by simp [Value.oneCell']) (by omega) (by unfold maxLen; omega) (by omega) (by simp; omega) ?_)
        intro g1 cap1 w3 hown1 hg1 hat1 hlt1
        have hws1 : WS w3 w.heap.size (.slice (some ⟨g1, 0, none⟩) (O.length + 1) cap1) (O ++ [(s.data.toList.drop b).take (i - b)]) := WS.app (by rw [sv_ext] at hown1; exact hown1)
        have hn1 : New w w3 := grown_new (hnw.alloc _) hg1 fun q hq => (hbk.out q hq).1
        have hz1 := hn1.le
        clear hown1 hg1 hat1 hbk hws
        go_wp2_with (fail)
        go_roundw
        case rel => exact ⟨i + 1, i + 1, _, by omega, by omega, by go_num, by go_num, hws1, by rw [List.length_append, List.length_singleton]; omega, hin, hn1, hz1⟩
        case measure => simp [intOf]; omega
      · have hd : (bAt s i == (c.toNat : Int)) = false := by
          rw [← hb1]
          simp
          exact fun e => hc (UInt8.toNat_inj.1 (by omega))
        have hin := hide (inv_miss hbi hge hc hinv.out)
        clear hc hge
        go_wp2_with (fail)
        go_roundw
        case rel => exact ⟨i + 1, b, O, by omega, by omega, by go_num, rfl, hws, by omega, hin, hnw, hlw⟩
        case measure => simp [intOf]; omega
    · have hie : i = s.size := by omega
      have hfin := hide (inv_end hsz (by rw [← hie]; exact hinv.out))
      have hbk := hide hws.block
      have hbs : b ≤ s.size := by omega
      have hOs : O.length ≤ s.size := by omega
      clear hie hinv hsz
      go_wp2_with (at_builtin; refine wpList_app slStrs2 rfl _ _ rfl w.heap.size _ _ _ rfl (hws.new ((New.refl _).alloc _)) ⟨wr.heap.size, 0, none⟩ 1 1 [.string (s.extract b s.size)] rfl rfl (news_new _ _ _ _ _ rfl) (by simp [Value.oneCell']) (by omega) (by unfold maxLen; omega) (by omega) (by simp; omega) ?_)
      intro g1 cap1 w3 hown1 hg1 hat1 hlt1
      have hws1 : WS w3 w.heap.size (.slice (some ⟨g1, 0, none⟩) (O.length + 1) cap1) (O ++ [(s.data.toList.drop b).take (s.size - b)]) := WS.app (by rw [sv_ext] at hown1; exact hown1)
      have hn1 : New w w3 := grown_new (hnw.alloc _) hg1 fun q hq => (hbk.out q hq).1
      have hz1 := hn1.le
      clear hown1 hg1 hat1 hbk hws
      go_wp2_with (fail)
      go_ret
      exact ⟨_, rfl, by rw [← hfin.out]; exact hws1, hn1⟩
end Go.Proofs.YtnaecghpahbojaaDoor
