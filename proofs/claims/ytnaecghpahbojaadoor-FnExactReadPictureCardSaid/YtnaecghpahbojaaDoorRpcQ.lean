/- A picture read from its text: the program's small functions; no condition. -/
import Derived.Test.YtnaecghpahbojaaDoorRpcP
import Derived.Test.YtnaecghpahbojaaDoorEqP
import Derived.Test.YtnaecghpahbojaaDoorReadT
import Derived.Laws.RangeString
set_option linter.unusedVariables false
namespace Go.Proofs.YtnaecghpahbojaaDoor
open Go.BigFrame
open Go.RowKit Go.Arr
def lets : ByteArray := ⟨#[46, 97, 98, 99, 100, 101, 102, 103, 104, 105, 106, 107, 108, 109, 110, 111]⟩
set_option maxRecDepth 100000 in
theorem letV_fin : ∀ n : Fin 256, Lib.indexByte lets.data.toList (((n.val : Nat) : Int).toNat.toUInt8) = letV ((n.val : Nat) : Int) := by decide +kernel
set_option maxRecDepth 100000 in
theorem letV_idx (x : Int) (h0 : 0 ≤ x) (h1 : x ≤ 255) : Lib.indexByte lets.data.toList x.toNat.toUInt8 = letV x := by
  obtain ⟨n, rfl⟩ := Int.eq_ofNat_of_zero_le h0
  exact letV_fin ⟨n, by omega⟩
set_option maxHeartbeats 400000 in
set_option maxRecDepth 100000 in
theorem letIndex_any (x : Int) (h0 : 0 ≤ x ∧ x ≤ 255) (w : World) : Calls Tryd.prog 17 #[.string ⟨#[46, 97, 98, 99, 100, 101, 102, 103, 104, 105, 106, 107, 108, 109, 110, 111]⟩, .int .u8 x] w fun e w' => e = .returned (.int .i64 (letV x)) ∧ w = w' := by
  have hx := letV_idx x h0.1 h0.2
  go_enter Tryd.func17, Tryd.ntmps17
  go_wp2_with (fail)
  refine (litIndexByte_any _ _ _).mono ?_
  rintro e w1 ⟨rfl, rfl⟩
  rw [show Lib.indexByte (ByteArray.data ⟨#[46, 97, 98, 99, 100, 101, 102, 103, 104, 105, 106, 107, 108, 109, 110, 111]⟩).toList x.toNat.toUInt8 = letV x from hx]
  go_wp2_with (fail)
  go_ret
  exact ⟨rfl, rfl⟩
/-- the place of a range over a text has turned -/
def putIter (w : World) (g : Nat) (s : ByteArray) (p : Nat) : World := { w with heap := w.heap.setIfInBounds g (.stringIter s p) }
section
variable {w : World} {g : Nat} {s : ByteArray} {p : Nat}
theorem obj_putIter (h : g < w.heap.size) : obj (putIter w g s p) g = some (.stringIter s p) := by
  show (w.heap.setIfInBounds g _)[g]? = _
  rw [Array.getElem?_setIfInBounds, if_pos rfl, if_pos h]
theorem obj_putIter_other {b : Nat} (h : g ≠ b) : obj (putIter w g s p) b = obj w b := by
  show (w.heap.setIfInBounds g _)[b]? = _
  rw [Array.getElem?_setIfInBounds, if_neg h]
  rfl
theorem size_putIter : (putIter w g s p).heap.size = w.heap.size := by
  show (w.heap.setIfInBounds g _).size = _
  simp
theorem New.putIter {a : World} (h : New a w) (hg : a.heap.size ≤ g) : New a (putIter w g s p) :=
  grown_new h (row := some g) ⟨rfl, rfl, rfl, by rw [size_putIter]; exact Nat.le_refl _, fun k hk hne => by
    show obj (Go.Proofs.YtnaecghpahbojaaDoor.putIter w g s p) k = obj w k
    exact obj_putIter_other fun e => hne (by rw [e])⟩ (fun k hk => by cases hk; exact hg)
theorem run_next_at {P : Program} (ty : TypeId) (h : obj w g = some (.stringIter s p)) (hp : p < s.size) :
    (Instr.next (.pointer (some ⟨g, 0, none⟩)) true ty).run P w = .ok (.tuple #[.bool true, .int .i64 p, .int .i32 (Utf8.decode s p).1]) (putIter w g s (p + (Utf8.decode s p).2)) := by
  have h' : w.heap[g]? = some (.stringIter s p) := h
  simp only [Instr.next, getObj, setObj, Sem.run_bind, Sem.run, h', Result.andThen, hp, if_true]
  simp [goInt, _root_.Go.Proofs.YtnaecghpahbojaaDoor.putIter]
theorem run_next_fin {P : Program} (ty : TypeId) (h : obj w g = some (.stringIter s p)) (hp : ¬ p < s.size) :
    (Instr.next (.pointer (some ⟨g, 0, none⟩)) true ty).run P w = .ok (.tuple #[.bool false]) w := by
  have h' : w.heap[g]? = some (.stringIter s p) := h
  simp [Instr.next, getObj, Sem.run, h', hp]
end
/-- the text ends with a line's end -/
theorem getD_at2 {α : Type} {l : List α} {j : Nat} {d : α} (h : j < l.length) : l.getD j d = l[j] := by
  rw [List.getD_eq_getElem?_getD, List.getElem?_eq_getElem h]; rfl
theorem size_D (s : ByteArray) : s.data.toList.length = s.size := by simp
theorem endB_0 {s : ByteArray} (h : ¬ 1 ≤ s.size) : endB s = false := by
  have h2 := size_D s
  have : s.data.toList = [] := List.eq_nil_of_length_eq_zero (by omega)
  unfold endB
  rw [this]
  rfl
theorem ext_last (s : ByteArray) (h : 1 ≤ s.size) : ((s.extract (s.size - 1) s.size).toList == ([10] : List UInt8)) = endB s := by
  rw [Lib.extract_toList]
  have h2 := size_D s
  unfold endB
  have hne : s.data.toList ≠ [] := fun e => by rw [e] at h2; simp at h2; omega
  have h3 : (s.data.toList.drop (s.size - 1)).take (s.size - (s.size - 1)) = [s.data.toList.getLast hne] := by
    have e := List.dropLast_concat_getLast hne
    have hl : s.data.toList.dropLast.length = s.size - 1 := by rw [List.length_dropLast, h2]
    have e2 : s.data.toList.drop (s.size - 1) = [s.data.toList.getLast hne] := by
      conv => lhs; rw [← e]
      exact List.drop_left' hl
    rw [e2, List.take_of_length_le]
    simp; omega
  rw [List.getLast?_eq_some_getLast hne, h3]
  simp
set_option maxHeartbeats 400000 in
set_option maxRecDepth 100000 in
theorem hasNl_any (s : ByteArray) (hs : s.size ≤ 1048576) (w : World) : Calls Tryd.prog 44 #[.string s, .string ⟨#[10]⟩] w fun e w' => e = .returned (.bool (endB s)) ∧ w = w' := by
  by_cases h : 1 ≤ s.size
  · have hx := ext_last s h
    have hi : ((s.size : Int) - 1).toNat = s.size - 1 := by omega
    go_enter Tryd.func44, Tryd.ntmps44
    go_wp2_with (fail)
    go_ret
    exact ⟨ret_b (by simp_all), rfl⟩
  · have hf := hide (endB_0 h)
    go_enter Tryd.func44, Tryd.ntmps44
    go_wp2_with (fail)
    go_ret
    exact ⟨ret_b hf.out.symm, rfl⟩
/-- the text without its end -/
def restB (s : ByteArray) : ByteArray := if endB s = true then s.extract 0 (s.size - 1) else s
theorem restB_t {s : ByteArray} (h : endB s = true) : restB s = s.extract 0 (s.size - 1) := if_pos h
theorem restB_f {s : ByteArray} (h : endB s = false) : restB s = s := if_neg (by rw [h]; simp)
theorem endB_len {s : ByteArray} (h : endB s = true) : 1 ≤ s.size := by
  by_cases h1 : 1 ≤ s.size
  · exact h1
  · rw [endB_0 h1] at h; cases h
set_option maxHeartbeats 400000 in
set_option maxRecDepth 100000 in
theorem cutNl_any (s : ByteArray) (hs : s.size ≤ 1048576) (w : World) : Calls Tryd.prog 25 #[.string s, .string ⟨#[10]⟩] w fun e w' => e = .returned (.tuple #[.string (restB s), .bool (endB s)]) ∧ w = w' := by
  have hin : Calls Tryd.prog 36 #[.string s, .string ⟨#[10]⟩] w fun e w' => e = .returned (.tuple #[.string (restB s), .bool (endB s)]) ∧ w = w' := by
    cases h : endB s
    · rw [restB_f h]
      go_enter Tryd.func36, Tryd.ntmps36
      go_wp2_with (fail)
      refine (hasNl_any s hs _).mono ?_
      rintro e w1 ⟨rfl, rfl⟩
      rw [h]
      go_wp2_with (fail)
      go_ret2
      exact ⟨rfl, rfl⟩
    · rw [restB_t h]
      have hl := endB_len h
      have hi : ((s.size : Int) - 1).toNat = s.size - 1 := by omega
      go_enter Tryd.func36, Tryd.ntmps36
      go_wp2_with (fail)
      refine (hasNl_any s hs _).mono ?_
      rintro e w1 ⟨rfl, rfl⟩
      rw [h]
      go_wp2_with (fail)
      go_ret2
      exact ⟨rfl, rfl⟩
  go_enter Tryd.func25, Tryd.ntmps25
  go_wp2_with (fail)
  refine hin.mono ?_
  rintro e w1 ⟨rfl, rfl⟩
  go_wp2_with (fail)
  go_ret2
  exact ⟨rfl, rfl⟩
/-- a row that is not so long -/
def badR (R : List (List UInt8)) (w : Nat) : Bool := (List.range R.length).any fun y => decide ((R.getD y []).length ≠ w)
theorem badR_t {R : List (List UInt8)} {w y : Nat} (hy : y < R.length) (h : (R.getD y []).length ≠ w) : badR R w = true := by
  unfold badR
  rw [List.any_eq_true]
  exact ⟨y, by simpa using hy, decide_eq_true h⟩
theorem badR_f {R : List (List UInt8)} {w : Nat} (h : ∀ y, y < R.length → (R.getD y []).length = w) : badR R w = false := by
  unfold badR
  rw [List.any_eq_false]
  intro y hy
  have h2 := h y (by simpa using hy)
  rw [decide_eq_false (fun h3 => h3 h2)]
  simp
theorem badR_e {R : List (List UInt8)} {w : Nat} (h : badR R w = false) {y : Nat} (hy : y < R.length) : (R.getD y []).length = w := by
  by_cases e : (R.getD y []).length = w
  · exact e
  · rw [badR_t hy e] at h; cases h
set_option maxHeartbeats 400000 in
theorem lenLit_any (z : ByteArray) (wd bP : Nat) (W : World) (o1 : obj W bP = some (.cells #[.int .i64 (wd : Nat)] 3)) :
    Calls Tryd.prog 27 #[.string z, .pointer (some ⟨bP, 0, none⟩)] W fun e w' => e = .returned (.bool ((z.size : Int) != (wd : Int))) ∧ W = w' := by
  go_enter Tryd.func27, Tryd.ntmps27
  go_wp2_with (fail)
  go_ret
  exact ⟨rfl, rfl⟩
set_option maxHeartbeats 1000000 in
set_option maxRecDepth 100000 in
theorem idxLen_any (R : List (List UInt8)) (base : Nat) (a : Option Addr) (c wd bP : Nat) (hR : R.length ≤ 2000000) (W : World) (hws : WS W base (.slice a R.length c) R) (o1 : obj W bP = some (.cells #[.int .i64 (wd : Nat)] 3)) :
    Calls Tryd.prog 37 #[.slice a R.length c, .func (.func 27) #[] #[.pointer (some ⟨bP, 0, none⟩)]] W fun e w' => ∃ r : Int, e = .returned (.int .i64 r) ∧ -1 ≤ r ∧ (0 ≤ r ↔ badR R wd = true) ∧ W = w' := by
  have hws' := hide hws
  clear hws
  go_enter Tryd.func37, Tryd.ntmps37
  go_wp2_with (fail)
  go_loop [8] (fun i => ∃ k : Nat, k ≤ R.length ∧ i = .int .i64 k ∧ Hid (∀ j, j < k → (R.getD j []).length = wd)) (fun i => R.length - (intOf i).toNat)
  case atStart => exact ⟨0, by omega, rfl, fun j hj => absurd hj (by omega)⟩
  case round =>
    obtain ⟨k, hk, rfl, hal⟩ := hrel
    by_cases hlt : k < R.length
    · obtain ⟨gs, cur, rfl, os, lk, ek⟩ := hws'.out.slot hlt
      have hz : (⟨R[k].toArray⟩ : ByteArray).size = (R.getD k []).length := by rw [getD_at2 hlt]; show R[k].toArray.size = _; simp
      replace ek : cur[k] = .string ⟨R[k].toArray⟩ := ek
      generalize (⟨R[k].toArray⟩ : ByteArray) = z at ek hz
      by_cases hc : (R.getD k []).length = wd
      · have hd := hide (show ((z.size : Int) != (wd : Int)) = false by rw [hz, hc]; simp)
        have hal2 : Hid (∀ j, j < k + 1 → (R.getD j []).length = wd) := fun j hj => by
          by_cases e : j = k
          · rw [e]; exact hc
          · exact hal.out j (by omega)
        clear hz hc
        go_wp2_with (go_at_call 27; refine (lenLit_any _ wd bP _ o1).mono ?_; rintro e w1 ⟨rfl, rfl⟩; rw [hd.out])
        go_round
        case rel => exact ⟨k + 1, by omega, by go_num, hal2⟩
        case measure => simp [intOf]; omega
      · have hd := hide (show ((z.size : Int) != (wd : Int)) = true from bne_iff_ne.2 (by rw [hz]; omega))
        have hh := hide (badR_t hlt hc)
        clear hz hc
        go_wp2_with (go_at_call 27; refine (lenLit_any _ wd bP _ o1).mono ?_; rintro e w1 ⟨rfl, rfl⟩; rw [hd.out])
        go_ret
        exact ⟨_, rfl, by omega, Iff.intro (fun _ => hh.out) (fun _ => by omega), rfl⟩
    · have hke : k = R.length := by omega
      have hh := hide (badR_f (R := R) (w := wd) (by rw [← hke]; exact hal.out))
      clear hal
      go_wp2_with (fail)
      go_ret
      exact ⟨_, rfl, by omega, Iff.intro (fun h => absurd h (by omega)) (fun h => by rw [hh.out] at h; cases h), rfl⟩
set_option maxHeartbeats 400000 in
theorem anyLen_k {b : Bool} (R : List (List UInt8)) (base : Nat) (a : Option Addr) (c wd bP : Nat) (hR : R.length ≤ 2000000) (hb : badR R wd = b) (W : World) (hws : WS W base (.slice a R.length c) R) (o1 : obj W bP = some (.cells #[.int .i64 (wd : Nat)] 3)) :
    Calls Tryd.prog 26 #[.slice a R.length c, .func (.func 27) #[] #[.pointer (some ⟨bP, 0, none⟩)]] W fun e w' => e = .returned (.bool b) ∧ New W w' := by
  go_enter Tryd.func26, Tryd.ntmps26
  go_wp2_with (fail)
  refine (idxLen_any R base a c wd bP hR _ hws o1).mono ?_
  rintro e w1 ⟨r, rfl, hr, hiff, rfl⟩
  have hd : Hid (decide (0 ≤ r) = b) := by
    show _ = _
    rw [← hb]
    cases h : badR R wd
    · rw [h] at hiff; simp at hiff; simp; omega
    · rw [h] at hiff; simp at hiff; simp; omega
  clear hiff
  go_wp2_with (fail)
  go_ret
  exact ⟨by rw [← hd.out]; rfl, New.refl _⟩
end Go.Proofs.YtnaecghpahbojaaDoor
