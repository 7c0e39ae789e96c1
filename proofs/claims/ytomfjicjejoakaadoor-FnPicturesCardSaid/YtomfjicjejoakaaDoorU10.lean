/- The text of a picture: what the program returns, and the law; no condition. -/
import Derived.Test.YtomfjicjejoakaaDoorU4
import Derived.Test.YtomfjicjejoakaaDoorU2
import Derived.Test.YtomfjicjejoakaaDoorU9
import Derived.Test.YtomfjicjejoakaaDoorShb
import Derived.Test.YtomfjicjejoakaaDoorU5
import Derived.Test.YtomfjicjejoakaaDoorU6
import Derived.Laws.RangeString
import Derived.Test.YtomfjicjejoakaaDoorU8
set_option linter.unusedVariables false
namespace Go.Proofs.YtomfjicjejoakaaDoor
open Go.BigFrame
open Go.RowKit Go.Arr
theorem below_new {w W W' : World} {B : Nat} (hn : New w W) (hB : w.heap.size ≤ B) (hb : Below B W W') : New w W' := Below.trans hn (Below.mono hb hB)
theorem below_obj {W W' : World} {B b : Nat} (hb : Below B W W') (h : b < B) : obj W' b = obj W b := Below.block hb b h
theorem cells_bytes (l : List Int) (h : ∀ x ∈ l, 0 ≤ x ∧ x ≤ 255) : l.map (Value.int .u8) = Lib.byteCells (bytesOf l) := by
  induction l with
  | nil => rfl
  | cons x l ih =>
    have hx := h x (by simp)
    have ih := ih fun y hy => h y (by simp [hy])
    simp only [bytesOf, List.map_cons] at ih ⊢
    unfold Lib.byteCells at ih ⊢
    rw [List.map_cons, ih]
    congr 2
    simp
    omega
theorem letB_range {x : Int} (h : 0 ≤ x ∧ x < 16) : 0 ≤ letB x ∧ letB x ≤ 255 := by unfold letB; split <;> omega
theorem txtRow_range (f : Nat → Int) (y x : Nat) (hx : x ≤ 12) (hy : y ≤ 11) (hf : ∀ i, i < 144 → 0 ≤ f i ∧ f i < 16) : ∀ z ∈ txtRow f y x, 0 ≤ z ∧ z ≤ 255 := by
  induction x with
  | zero => intro z hz; cases hz
  | succ x ih =>
    intro z hz
    rw [txtRow, List.mem_append] at hz
    rcases hz with hz | hz
    · exact ih (by omega) z hz
    · rw [List.mem_singleton] at hz
      subst hz
      exact letB_range (hf _ (by omega))
theorem txtR_range (f : Nat → Int) (a y : Nat) (ha : a ≤ 12) (hy : y ≤ 12) (hf : ∀ i, i < 144 → 0 ≤ f i ∧ f i < 16) : ∀ z ∈ txtR f a y, 0 ≤ z ∧ z ≤ 255 := by
  induction y with
  | zero => intro z hz; cases hz
  | succ y ih =>
    intro z hz
    rw [txtR, List.mem_append, List.mem_append] at hz
    rcases hz with (hz | hz) | hz
    · exact ih (by omega) z hz
    · exact txtRow_range f y a ha (by omega) hf z hz
    · rw [List.mem_singleton] at hz
      omega
attribute [local go_sem high] let_get
theorem isB_new {T e : TypeId} {B b : Nat} {bs : List Value} {w w' : World} (h : Lib.IsBuilder T e B b bs w) (hn : New w w') : Lib.IsBuilder T e B b bs w' := by
  rcases h with ⟨hB, v, hb, hown, hne⟩ | ⟨hB, v, hb, hown, hne⟩
  · exact Or.inl ⟨hB, v, (hn.objs b (obj_lt hb)).trans hb, own_new hown hn, hne⟩
  · exact Or.inr ⟨hB, v, (hn.objs b (obj_lt hb)).trans hb, own_new hown hn, hne⟩
def cellsV (l : List Int) : List Value := l.map (Value.int .u8)
theorem cellsV_snoc (l : List Int) (z : Int) : cellsV l ++ [Value.int .u8 z] = cellsV (l ++ [z]) := by simp [cellsV]
theorem length_cellsV (l : List Int) : (cellsV l).length = l.length := by simp [cellsV]
set_option maxHeartbeats 4000000 in
set_option maxRecDepth 100000 in
theorem txt_impl (a b : Int) (f : Nat → Int) (ha : -128 ≤ a ∧ a ≤ 127) (hb : -128 ≤ b ∧ b ≤ 127) (hf : ∀ i, 0 ≤ f i ∧ f i ≤ 255) (w : World) :
    Calls Tryd.prog 7 #[.agg (pic 144 a b f)] w fun e w' => e = .returned (.string (txtA a b f)) ∧ New w w' := by
  cases h1 : okPic a b f
  · have hA : txtA a b f = ⟨#[]⟩ := by unfold txtA; rw [if_neg (by rw [h1]; simp)]
    rw [hA]
    clear hA
    go_enter Tryd.func7, Tryd.ntmps7
    go_wp2_with (fail)
    refine (valid_v a b f ha hb hf _ h1 _).mono ?_
    rintro e1 w1 ⟨rfl, hn1⟩
    have ho1 := hn1.objs
    have hz1 := hn1.le
    try simp at hz1
    have k1_0 : w.heap.size < w1.heap.size := by omega
    go_wp2_with (fail)
    go_ret
    refine ⟨rfl, ?_⟩
    repeat' (first | exact New.refl _ | refine New.alloc ?_ _ | refine New.drew ?_ | refine New.drewN ?_ _ | refine New.setRow ?_ (by omega) _ | refine New.setCell ?_ (by first | omega | (simp; done) | (simp; omega)) _ | refine New.trans ?_ hn1)
  have hA : txtA a b f = bstr (txtR f a.toNat b.toNat) := by unfold txtA; rw [if_pos h1]
  rw [hA]
  clear hA
  have gd := okPic_dims h1
  have hv : ∀ i, i < 144 → 0 ≤ f i ∧ f i < 16 := fun i hi => ⟨(hf i).1, (okPic_cell h1 i hi).1⟩
  obtain ⟨a', rfl⟩ : ∃ a' : Nat, a = a' := ⟨a.toNat, by omega⟩
  obtain ⟨b', rfl⟩ : ∃ b' : Nat, b = b' := ⟨b.toNat, by omega⟩
  have hv := hide hv
  go_enter Tryd.func7, Tryd.ntmps7
  go_wp2_with (fail)
  refine (valid_v a' b' f ha hb hf _ h1 _).mono ?_
  rintro e2 w2 ⟨rfl, hn2⟩
  have ho2 := hn2.objs
  have hz2 := hn2.le
  try simp at hz2
  have c1 : obj w2 w.heap.size = some (.cells (pic 144 a' b' f) 27) := (hn2.objs _ (by simp)).trans (by go_simp)
  have hN2 : New w w2 := ((New.refl w).alloc _).trans hn2
  have r1 := obj_lt c1
  clear h1 hn2 ho2
  go_wp2_with (fail)
  generalize hw3 : w2.alloc (Obj.cells #[Value.pointer none, Value.slice none 0 0] 56) = w3
  have hb3 : Lib.IsBuilder 56 5 w2.heap.size w2.heap.size (cellsV (txtR f a' 0)) w3 := by subst hw3; exact Lib.fresh_isBuilder _ _ w2
  have hn3 : New w2 w3 := by subst hw3; exact (New.refl _).alloc _
  have d1 := (hn3.objs _ r1).trans c1
  have hN3 := hN2.trans hn3
  have hz3 := hn3.le
  clear hw3 c1 hn3
  go_loopw [14] (fun i wr => ∃ y : Nat, y ≤ b' ∧ i = .int .i64 y ∧ Lib.IsBuilder 56 5 w2.heap.size w2.heap.size (cellsV (txtR f a' y)) wr ∧ Hid (obj wr w.heap.size = some (.cells (pic 144 a' b' f) 27)) ∧ New w wr ∧ w2.heap.size ≤ wr.heap.size) (fun i _ => b' - (intOf i).toNat)
  case atStart => exact ⟨0, by omega, rfl, hb3, d1, hN3, hz3⟩
  case round =>
    obtain ⟨y, hy, rfl, hB, hp1, hnw, hlw⟩ := hrel
    have p1 := hp1.out
    by_cases hlt : y < b'
    · have hln := length_txtR f a' y
      have hmul : (a' + 1) * y ≤ 13 * 12 := Nat.mul_le_mul (by omega) (by omega)
      go_wp2_with (fail)
      go_loopw [20] (fun i wq => ∃ x : Nat, x ≤ a' ∧ i = .int .i64 x ∧ Lib.IsBuilder 56 5 w2.heap.size w2.heap.size (cellsV (txtR f a' y ++ txtRow f y x)) wq ∧ Hid (obj wq w.heap.size = some (.cells (pic 144 a' b' f) 27)) ∧ New w wq ∧ w2.heap.size ≤ wq.heap.size) (fun i _ => a' - (intOf i).toNat)
      case atStart => exact ⟨0, by omega, rfl, by simpa [txtRow] using hB, hp1, hnw, hlw⟩
      case round =>
        obtain ⟨x, hx, rfl, hBx, hp2, hnq, hlq⟩ := hrel
        have p2 := hp2.out
        by_cases hlx : x < a'
        · have hcell : ((x : Int) + 12 * (y : Int)).toNat = x + 12 * y := by omega
          have hfv := hv.out (x + 12 * y) (by omega)
          have hl2 := length_txtRow f y x
          go_wp2_with (fail)
          refine (at_any a' b' f x y (by omega) (by omega) (by omega) _).mono ?_
          rintro e w5 ⟨rfl, hn5⟩
          rw [hcell]
          have hB5 := isB_new hBx hn5
          have p5 := (hn5.objs _ (obj_lt p2)).trans p2
          have hN5 := hnq.trans hn5
          have hz5 := hn5.le
          have hs5 : Hid (cellsV (txtR f a' y ++ txtRow f y x) ++ [Value.int .u8 (letB (f (x + 12 * y)))] = cellsV (txtR f a' y ++ txtRow f y (x + 1))) := by
            show _ = _
            rw [cellsV_snoc, txtRow, List.append_assoc]
          have hfv2 := hfv.2
          go_wp2_with (fail)
          refine (writeByte_any _ _ _ _ _ hB5 (by rw [length_cellsV, List.length_append]; omega) (by omega)).mono ?_
          rintro e w6 ⟨rfl, hB6, hbel⟩
          rw [hs5.out] at hB6
          have hN6 := below_new hN5 (by have := hN2.le; omega) hbel
          have p6 := (below_obj hbel (b := w.heap.size) (by omega)).trans p5
          have hz6 := hbel.size
          go_wp2_with (fail)
          go_roundw
          case rel => exact ⟨x + 1, by omega, by go_num, Or.inr hB6, p6, hN6, by omega⟩
          case measure => simp [intOf]; omega
        · obtain rfl : x = a' := by omega
          have hl2 := length_txtRow f y x
          have hs5 : Hid (cellsV (txtR f x y ++ txtRow f y x) ++ [Value.int .u8 10] = cellsV (txtR f x (y + 1))) := by
            show _ = _
            rw [cellsV_snoc, txtR]
          go_wp2_with (fail)
          refine (writeByte_any _ _ _ _ _ hBx (by rw [length_cellsV, List.length_append]; omega) (by omega)).mono ?_
          rintro e w6 ⟨rfl, hB6, hbel⟩
          rw [hs5.out] at hB6
          have hN6 := below_new hnq (by have := hN2.le; omega) hbel
          have p6 := (below_obj hbel (b := w.heap.size) (by omega)).trans p2
          have hz6 := hbel.size
          go_wp2_with (fail)
          go_roundw
          case rel => exact ⟨y + 1, by omega, by go_num, Or.inr hB6, p6, hN6, by omega⟩
          case measure => simp [intOf]; omega
    · obtain rfl : y = b' := by omega
      have hbs : cellsV (txtR f a' y) = Lib.byteCells (bytesOf (txtR f a' y)) := cells_bytes _ (txtR_range f a' y (by omega) (by omega) hv.out)
      rw [hbs] at hB
      have hs5 : Hid (bstr (txtR f (a' : Int).toNat (y : Int).toNat) = ⟨(bytesOf (txtR f a' y)).toArray⟩) := rfl
      go_wp2_with (fail)
      refine (Tryd.builderString _ _ _ _ hB (by omega)).mono ?_
      rintro e w6 ⟨rfl, hbel⟩
      have hN6 := below_new hnw (by have := hN2.le; omega) hbel
      go_wp2_with (fail)
      go_ret
      exact ⟨by rw [hs5.out]; rfl, hN6⟩
end Go.Proofs.YtomfjicjejoakaaDoor
/- A picture read from its text: the program's small functions; no condition. -/
set_option linter.unusedVariables false
namespace Go.Proofs.YtomfjicjejoakaaDoor
open Go.BigFrame
open Go.RowKit Go.Arr
def lets : ByteArray := ⟨#[46, 97, 98, 99, 100, 101, 102, 103, 104, 105, 106, 107, 108, 109, 110, 111]⟩
set_option maxRecDepth 100000 in
theorem letV_fin : ∀ n : Fin 256, Lib.indexByte lets.data.toList (((n.val : Nat) : Int).toNat.toUInt8) = letV ((n.val : Nat) : Int) := by decide +kernel
set_option maxRecDepth 100000 in
theorem letV_idx (x : Int) (h0 : 0 ≤ x) (h1 : x ≤ 255) : Lib.indexByte lets.data.toList x.toNat.toUInt8 = letV x := by
  obtain ⟨n, rfl⟩ := Int.eq_ofNat_of_zero_le h0
  exact letV_fin ⟨n, by omega⟩
set_option maxHeartbeats 400000 in
set_option maxRecDepth 100000 in
theorem letIndex_any (x : Int) (h0 : 0 ≤ x ∧ x ≤ 255) (w : World) : Calls Tryd.prog 31 #[.string ⟨#[46, 97, 98, 99, 100, 101, 102, 103, 104, 105, 106, 107, 108, 109, 110, 111]⟩, .int .u8 x] w fun e w' => e = .returned (.int .i64 (letV x)) ∧ w = w' := by
  have hx := letV_idx x h0.1 h0.2
  go_enter Tryd.func31, Tryd.ntmps31
  go_wp2_with (fail)
  refine (litIndexByte_any _ _ _).mono ?_
  rintro e w1 ⟨rfl, rfl⟩
  rw [show Lib.indexByte (ByteArray.data ⟨#[46, 97, 98, 99, 100, 101, 102, 103, 104, 105, 106, 107, 108, 109, 110, 111]⟩).toList x.toNat.toUInt8 = letV x from hx]
  go_wp2_with (fail)
  go_ret
  exact ⟨rfl, rfl⟩
/-- the place of a range over a text has turned -/
def putIter (w : World) (g : Nat) (s : ByteArray) (p : Nat) : World := { w with heap := w.heap.setIfInBounds g (.stringIter s p) }
section
variable {w : World} {g : Nat} {s : ByteArray} {p : Nat}
theorem obj_putIter (h : g < w.heap.size) : obj (putIter w g s p) g = some (.stringIter s p) := by
  show (w.heap.setIfInBounds g _)[g]? = _
  rw [Array.getElem?_setIfInBounds, if_pos rfl, if_pos h]
theorem obj_putIter_other {b : Nat} (h : g ≠ b) : obj (putIter w g s p) b = obj w b := by
  show (w.heap.setIfInBounds g _)[b]? = _
  rw [Array.getElem?_setIfInBounds, if_neg h]
  rfl
theorem size_putIter : (putIter w g s p).heap.size = w.heap.size := by
  show (w.heap.setIfInBounds g _).size = _
  simp
theorem New.putIter {a : World} (h : New a w) (hg : a.heap.size ≤ g) : New a (putIter w g s p) :=
  grown_new h (row := some g) ⟨rfl, rfl, rfl, by rw [size_putIter]; exact Nat.le_refl _, fun k hk hne => by
    show obj (Go.Proofs.YtomfjicjejoakaaDoor.putIter w g s p) k = obj w k
    exact obj_putIter_other fun e => hne (by rw [e])⟩ (fun k hk => by cases hk; exact hg)
theorem run_next_at {P : Program} (ty : TypeId) (h : obj w g = some (.stringIter s p)) (hp : p < s.size) :
    (Instr.next (.pointer (some ⟨g, 0, none⟩)) true ty).run P w = .ok (.tuple #[.bool true, .int .i64 p, .int .i32 (Utf8.decode s p).1]) (putIter w g s (p + (Utf8.decode s p).2)) := by
  have h' : w.heap[g]? = some (.stringIter s p) := h
  simp only [Instr.next, getObj, setObj, Sem.run_bind, Sem.run, h', Result.andThen, hp, if_true]
  simp [goInt, _root_.Go.Proofs.YtomfjicjejoakaaDoor.putIter]
theorem run_next_fin {P : Program} (ty : TypeId) (h : obj w g = some (.stringIter s p)) (hp : ¬ p < s.size) :
    (Instr.next (.pointer (some ⟨g, 0, none⟩)) true ty).run P w = .ok (.tuple #[.bool false]) w := by
  have h' : w.heap[g]? = some (.stringIter s p) := h
  simp [Instr.next, getObj, Sem.run, h', hp]
end
/-- the text ends with a line's end -/
theorem getD_at2 {α : Type} {l : List α} {j : Nat} {d : α} (h : j < l.length) : l.getD j d = l[j] := by
  rw [List.getD_eq_getElem?_getD, List.getElem?_eq_getElem h]; rfl
theorem size_D (s : ByteArray) : s.data.toList.length = s.size := by simp
theorem endB_0 {s : ByteArray} (h : ¬ 1 ≤ s.size) : endB s = false := by
  have h2 := size_D s
  have : s.data.toList = [] := List.eq_nil_of_length_eq_zero (by omega)
  unfold endB
  rw [this]
  rfl
theorem ext_last (s : ByteArray) (h : 1 ≤ s.size) : ((s.extract (s.size - 1) s.size).toList == ([10] : List UInt8)) = endB s := by
  rw [Lib.extract_toList]
  have h2 := size_D s
  unfold endB
  have hne : s.data.toList ≠ [] := fun e => by rw [e] at h2; simp at h2; omega
  have h3 : (s.data.toList.drop (s.size - 1)).take (s.size - (s.size - 1)) = [s.data.toList.getLast hne] := by
    have e := List.dropLast_concat_getLast hne
    have hl : s.data.toList.dropLast.length = s.size - 1 := by rw [List.length_dropLast, h2]
    have e2 : s.data.toList.drop (s.size - 1) = [s.data.toList.getLast hne] := by
      conv => lhs; rw [← e]
      exact List.drop_left' hl
    rw [e2, List.take_of_length_le]
    simp; omega
  rw [List.getLast?_eq_some_getLast hne, h3]
  simp
set_option maxHeartbeats 400000 in
set_option maxRecDepth 100000 in
theorem hasNl_any (s : ByteArray) (hs : s.size ≤ 1048576) (w : World) : Calls Tryd.prog 75 #[.string s, .string ⟨#[10]⟩] w fun e w' => e = .returned (.bool (endB s)) ∧ w = w' := by
  by_cases h : 1 ≤ s.size
  · have hx := ext_last s h
    have hi : ((s.size : Int) - 1).toNat = s.size - 1 := by omega
    go_enter Tryd.func75, Tryd.ntmps75
    go_wp2_with (fail)
    go_ret
    exact ⟨ret_b (by simp_all), rfl⟩
  · have hf := hide (endB_0 h)
    go_enter Tryd.func75, Tryd.ntmps75
    go_wp2_with (fail)
    go_ret
    exact ⟨ret_b hf.out.symm, rfl⟩
/-- the text without its end -/
def restB (s : ByteArray) : ByteArray := if endB s = true then s.extract 0 (s.size - 1) else s
theorem restB_t {s : ByteArray} (h : endB s = true) : restB s = s.extract 0 (s.size - 1) := if_pos h
theorem restB_f {s : ByteArray} (h : endB s = false) : restB s = s := if_neg (by rw [h]; simp)
theorem endB_len {s : ByteArray} (h : endB s = true) : 1 ≤ s.size := by
  by_cases h1 : 1 ≤ s.size
  · exact h1
  · rw [endB_0 h1] at h; cases h
set_option maxHeartbeats 400000 in
set_option maxRecDepth 100000 in
theorem cutNl_any (s : ByteArray) (hs : s.size ≤ 1048576) (w : World) : Calls Tryd.prog 59 #[.string s, .string ⟨#[10]⟩] w fun e w' => e = .returned (.tuple #[.string (restB s), .bool (endB s)]) ∧ w = w' := by
  have hin : Calls Tryd.prog 70 #[.string s, .string ⟨#[10]⟩] w fun e w' => e = .returned (.tuple #[.string (restB s), .bool (endB s)]) ∧ w = w' := by
    cases h : endB s
    · rw [restB_f h]
      go_enter Tryd.func70, Tryd.ntmps70
      go_wp2_with (fail)
      refine (hasNl_any s hs _).mono ?_
      rintro e w1 ⟨rfl, rfl⟩
      rw [h]
      go_wp2_with (fail)
      go_ret2
      exact ⟨rfl, rfl⟩
    · rw [restB_t h]
      have hl := endB_len h
      have hi : ((s.size : Int) - 1).toNat = s.size - 1 := by omega
      go_enter Tryd.func70, Tryd.ntmps70
      go_wp2_with (fail)
      refine (hasNl_any s hs _).mono ?_
      rintro e w1 ⟨rfl, rfl⟩
      rw [h]
      go_wp2_with (fail)
      go_ret2
      exact ⟨rfl, rfl⟩
  go_enter Tryd.func59, Tryd.ntmps59
  go_wp2_with (fail)
  refine hin.mono ?_
  rintro e w1 ⟨rfl, rfl⟩
  go_wp2_with (fail)
  go_ret2
  exact ⟨rfl, rfl⟩
/-- a row that is not so long -/
def badR (R : List (List UInt8)) (w : Nat) : Bool := (List.range R.length).any fun y => decide ((R.getD y []).length ≠ w)
theorem badR_t {R : List (List UInt8)} {w y : Nat} (hy : y < R.length) (h : (R.getD y []).length ≠ w) : badR R w = true := by
  unfold badR
  rw [List.any_eq_true]
  exact ⟨y, by simpa using hy, decide_eq_true h⟩
theorem badR_f {R : List (List UInt8)} {w : Nat} (h : ∀ y, y < R.length → (R.getD y []).length = w) : badR R w = false := by
  unfold badR
  rw [List.any_eq_false]
  intro y hy
  have h2 := h y (by simpa using hy)
  rw [decide_eq_false (fun h3 => h3 h2)]
  simp
theorem badR_e {R : List (List UInt8)} {w : Nat} (h : badR R w = false) {y : Nat} (hy : y < R.length) : (R.getD y []).length = w := by
  by_cases e : (R.getD y []).length = w
  · exact e
  · rw [badR_t hy e] at h; cases h
set_option maxHeartbeats 400000 in
theorem lenLit_any (z : ByteArray) (wd bP : Nat) (W : World) (o1 : obj W bP = some (.cells #[.int .i64 (wd : Nat)] 3)) :
    Calls Tryd.prog 62 #[.string z, .pointer (some ⟨bP, 0, none⟩)] W fun e w' => e = .returned (.bool ((z.size : Int) != (wd : Int))) ∧ W = w' := by
  go_enter Tryd.func62, Tryd.ntmps62
  go_wp2_with (fail)
  go_ret
  exact ⟨rfl, rfl⟩
set_option maxHeartbeats 1000000 in
set_option maxRecDepth 100000 in
theorem idxLen_any (R : List (List UInt8)) (base : Nat) (a : Option Addr) (c wd bP : Nat) (hR : R.length ≤ 2000000) (W : World) (hws : WS W base (.slice a R.length c) R) (o1 : obj W bP = some (.cells #[.int .i64 (wd : Nat)] 3)) :
    Calls Tryd.prog 72 #[.slice a R.length c, .func (.func 62) #[] #[.pointer (some ⟨bP, 0, none⟩)]] W fun e w' => ∃ r : Int, e = .returned (.int .i64 r) ∧ -1 ≤ r ∧ (0 ≤ r ↔ badR R wd = true) ∧ W = w' := by
  have hws' := hide hws
  clear hws
  go_enter Tryd.func72, Tryd.ntmps72
  go_wp2_with (fail)
  go_loop [8] (fun i => ∃ k : Nat, k ≤ R.length ∧ i = .int .i64 k ∧ Hid (∀ j, j < k → (R.getD j []).length = wd)) (fun i => R.length - (intOf i).toNat)
  case atStart => exact ⟨0, by omega, rfl, fun j hj => absurd hj (by omega)⟩
  case round =>
    obtain ⟨k, hk, rfl, hal⟩ := hrel
    by_cases hlt : k < R.length
    · obtain ⟨gs, cur, rfl, os, lk, ek⟩ := hws'.out.slot hlt
      have hz : (⟨R[k].toArray⟩ : ByteArray).size = (R.getD k []).length := by rw [getD_at2 hlt]; show R[k].toArray.size = _; simp
      replace ek : cur[k] = .string ⟨R[k].toArray⟩ := ek
      generalize (⟨R[k].toArray⟩ : ByteArray) = z at ek hz
      by_cases hc : (R.getD k []).length = wd
      · have hd := hide (show ((z.size : Int) != (wd : Int)) = false by rw [hz, hc]; simp)
        have hal2 : Hid (∀ j, j < k + 1 → (R.getD j []).length = wd) := fun j hj => by
          by_cases e : j = k
          · rw [e]; exact hc
          · exact hal.out j (by omega)
        clear hz hc
        go_wp2_with (go_at_call 62; refine (lenLit_any _ wd bP _ o1).mono ?_; rintro e w1 ⟨rfl, rfl⟩; rw [hd.out])
        go_round
        case rel => exact ⟨k + 1, by omega, by go_num, hal2⟩
        case measure => simp [intOf]; omega
      · have hd := hide (show ((z.size : Int) != (wd : Int)) = true from bne_iff_ne.2 (by rw [hz]; omega))
        have hh := hide (badR_t hlt hc)
        clear hz hc
        go_wp2_with (go_at_call 62; refine (lenLit_any _ wd bP _ o1).mono ?_; rintro e w1 ⟨rfl, rfl⟩; rw [hd.out])
        go_ret
        exact ⟨_, rfl, by omega, Iff.intro (fun _ => hh.out) (fun _ => by omega), rfl⟩
    · have hke : k = R.length := by omega
      have hh := hide (badR_f (R := R) (w := wd) (by rw [← hke]; exact hal.out))
      clear hal
      go_wp2_with (fail)
      go_ret
      exact ⟨_, rfl, by omega, Iff.intro (fun h => absurd h (by omega)) (fun h => by rw [hh.out] at h; cases h), rfl⟩
set_option maxHeartbeats 400000 in
theorem anyLen_k {b : Bool} (R : List (List UInt8)) (base : Nat) (a : Option Addr) (c wd bP : Nat) (hR : R.length ≤ 2000000) (hb : badR R wd = b) (W : World) (hws : WS W base (.slice a R.length c) R) (o1 : obj W bP = some (.cells #[.int .i64 (wd : Nat)] 3)) :
    Calls Tryd.prog 61 #[.slice a R.length c, .func (.func 62) #[] #[.pointer (some ⟨bP, 0, none⟩)]] W fun e w' => e = .returned (.bool b) ∧ New W w' := by
  go_enter Tryd.func61, Tryd.ntmps61
  go_wp2_with (fail)
  refine (idxLen_any R base a c wd bP hR _ hws o1).mono ?_
  rintro e w1 ⟨r, rfl, hr, hiff, rfl⟩
  have hd : Hid (decide (0 ≤ r) = b) := by
    show _ = _
    rw [← hb]
    cases h : badR R wd
    · rw [h] at hiff; simp at hiff; simp; omega
    · rw [h] at hiff; simp at hiff; simp; omega
  clear hiff
  go_wp2_with (fail)
  go_ret
  exact ⟨by rw [← hd.out]; rfl, New.refl _⟩
end Go.Proofs.YtomfjicjejoakaaDoor
/- A picture read from its text: the program's rows; no condition. -/
set_option linter.unusedVariables false
namespace Go.Proofs.YtomfjicjejoakaaDoor
open Go.BigFrame
open Go.RowKit Go.Arr
theorem rest_rows {s : ByteArray} (h : endB s = true) : pcs 10 (restB s).data.toList = rwS s := by
  rw [restB_t h, Lib.extract_from_zero]
  unfold rwS
  rw [List.dropLast_eq_take, size_D]
theorem size_restB (s : ByteArray) (hs : s.size ≤ 1048576) : (restB s).size ≤ 1048576 := by
  cases h : endB s
  · rw [restB_f h]; exact hs
  · rw [restB_t h, ByteArray.size_extract]; omega
theorem pcs_cnt (c : UInt8) (s : ByteArray) (hs : s.size ≤ 1048576) : (pcs c s.data.toList).length ≤ 1048577 := by
  rw [pcs_len]
  have h1 : s.data.toList.count c ≤ s.data.toList.length := List.count_le_length
  have h2 := size_D s
  omega
set_option maxHeartbeats 1000000 in
set_option maxRecDepth 100000 in
theorem rowsOf_any (s : ByteArray) (hs : s.size ≤ 1048576) (m : Int) (W : World) (hm : W.cell? ⟨Tryd.laysM146_ren.g 1, 0, none⟩ = some (.int .i64 m)) :
    Calls Tryd.prog 29 #[.string s] W fun e w' => ∃ v R, e = .returned (.tuple #[v, .int .i64 ((R.getD 0 []).length : Nat), .bool (endB s && !badR R (R.getD 0 []).length)]) ∧ WS w' W.heap.size v R ∧ R = pcs 10 (restB s).data.toList ∧ New W w' := by
  have hsz := size_restB s hs
  go_enter Tryd.func29, Tryd.ntmps29
  go_wp2_with (go_at_call 59; refine (cutNl_any s hs _).mono ?_; rintro e wz ⟨rfl, rfl⟩)
  refine (split_any 10 (restB s) hsz m _ hm).mono ?_
  rintro e w1 ⟨v1, rfl, hws, hn1⟩
  have hcnt := pcs_cnt 10 (restB s) hsz
  have hpos := pcs_pos 10 (restB s).data.toList
  obtain ⟨R, hR⟩ : ∃ R, Hid (pcs 10 (restB s).data.toList = R) := ⟨_, rfl⟩
  rw [hR.out] at hws hcnt hpos
  obtain ⟨x3, y3, rfl⟩ := hws.form
  obtain ⟨gs, cur, rfl, os, l0, e0⟩ := hws.slot (j := 0) hpos
  have hz : (⟨R[0].toArray⟩ : ByteArray).size = (R.getD 0 []).length := by rw [getD_at2 hpos]; show R[0].toArray.size = _; simp
  replace e0 : cur[0] = .string ⟨R[0].toArray⟩ := e0
  generalize (⟨R[0].toArray⟩ : ByteArray) = z at e0 hz
  obtain ⟨wd, hwd⟩ : ∃ wd, Hid ((R.getD 0 []).length = wd) := ⟨_, rfl⟩
  rw [hwd.out] at hz
  have lgs := obj_lt os
  go_wp2_with (fail)
  generalize hw2 : w1.alloc (Obj.cells #[.int .i64 (wd : Nat)] 3) = w2
  have hn2 : New w1 w2 := by subst hw2; exact (New.refl _).alloc _
  have o2 : obj w2 w1.heap.size = some (.cells #[.int .i64 (wd : Nat)] 3) := by subst hw2; exact obj_alloc_at _ _ _ rfl
  have hws2 := hws.new hn2
  have hN2 := hn1.trans hn2
  have lB := obj_lt o2
  clear hw2
  cases hE : endB s
  · go_quiet (fail)
    go_wp2_with (fail)
    go_ret3
    exact ⟨_, R, by rw [hE, hwd.out]; rfl, (hws2.new ((New.refl _).drewN _)), hR.out.symm, hN2.drewN _⟩
  · cases hb : badR R wd
    · go_wp2_with (fail)
      refine wp_region_new (by kernel_rfl) (by kernel_rfl) ?_
      repeat (go_big_quiet_step (first | fail | (go_at_call 61; with_reducible exact calls_new (anyLen_k (b := false) R _ _ _ wd w1.heap.size (by omega) hb _ (hws2.new (NewW.is _)) (((NewW.is _).objs _ lB).trans o2)))))
      refine wpQuiet_nil ?_
      intro w1 hc1
      have hn1 := NewW.of hc1
      clear hc1
      have ho1 := hn1.objs
      have hz1 := hn1.le
      try simp at hz1
      go_wp2_with (fail)
      go_ret3
      exact ⟨_, R, by rw [hE, hwd.out, hb]; rfl, hws2.new hn1, hR.out.symm, hN2.trans hn1⟩
    · go_wp2_with (fail)
      refine wp_region_new (by kernel_rfl) (by kernel_rfl) ?_
      repeat (go_big_quiet_step (first | fail | (go_at_call 61; with_reducible exact calls_new (anyLen_k (b := true) R _ _ _ wd w1.heap.size (by omega) hb _ (hws2.new (NewW.is _)) (((NewW.is _).objs _ lB).trans o2)))))
      refine wpQuiet_nil ?_
      intro w2 hc2
      have hn2 := NewW.of hc2
      clear hc2
      have ho2 := hn2.objs
      have hz2 := hn2.le
      try simp at hz2
      go_wp2_with (fail)
      go_ret3
      exact ⟨_, R, by rw [hE, hwd.out, hb]; rfl, hws2.new hn2, hR.out.symm, hN2.trans hn2⟩
end Go.Proofs.YtomfjicjejoakaaDoor
/- A picture read from its text: the program, walked; no condition. -/
set_option linter.unusedVariables false
namespace Go.Proofs.YtomfjicjejoakaaDoor
open Go.BigFrame
open Go.RowKit Go.Arr
theorem rdO_e {s : ByteArray} (h : rdO s = true) {y : Nat} (hy : y < (rwS s).length) : okRow (rwS s) (widN s) y = true := by
  cases h2 : okRow (rwS s) (widN s) y
  · rw [rdO_row hy h2] at h; cases h
  · rfl
theorem okRow_e {R : List (List UInt8)} {w y : Nat} (h : okRow R w y = true) : (R.getD y []).length = w := by
  by_cases e : (R.getD y []).length = w
  · exact e
  · rw [okRow_len e] at h; cases h
theorem rdO_bad {s : ByteArray} (h : badR (rwS s) (widN s) = true) : rdO s = false := by
  cases h2 : rdO s
  · rfl
  · rw [badR_f fun y hy => okRow_e (rdO_e h2 hy)] at h; cases h
/-- where a range over a text stands -/
def iterAt (w : World) (g : Nat) : Nat := match obj w g with
  | some (.stringIter _ p) => p
  | _ => 0
theorem iterAt_e {w : World} {g : Nat} {s : ByteArray} {p : Nat} (h : obj w g = some (.stringIter s p)) : iterAt w g = p := by
  unfold iterAt
  rw [h]
set_option maxHeartbeats 1000000 in
set_option maxRecDepth 100000 in
theorem readPic_impl (s : ByteArray) (hs : s.size ≤ 1048576) (m : Int) (W : World) (hm : W.cell? ⟨Tryd.laysM146_ren.g 1, 0, none⟩ = some (.int .i64 m)) :
    Calls Tryd.prog 6 #[.string s] W fun e w' => e = .returned (.tuple #[.agg (rdA s), .int .i64 (rdC s)]) ∧ New W w' := by
  have hgl := World.block_lt_of_cell? _ _ hm
  have hcnt := pcs_cnt 10 (restB s) (size_restB s hs)
  have hpos := pcs_pos 10 (restB s).data.toList
  go_enter Tryd.func6, Tryd.ntmps6
  go_wp2_with (fail)
  have hm0 : (W.alloc (Obj.cells (pic 144 0 0 fun _ => 0) 27)).cell? ⟨Tryd.laysM146_ren.g 1, 0, none⟩ = some (.int .i64 m) := by rw [((New.refl W).alloc _).cells _ _ hgl]; exact hm
  refine (rowsOf_any s hs m _ hm0).mono ?_
  rintro e w1 ⟨v1, R, rfl, hws, hR, hn0⟩
  have c2 : obj w1 W.heap.size = some (.cells (pic 144 0 0 fun _ => 0) 27) := (hn0.objs _ (by simp)).trans (obj_alloc_at _ _ _ rfl)
  have hn1 : New W w1 := ((New.refl W).alloc _).trans hn0
  rw [← hR] at hcnt hpos
  obtain ⟨x3, y3, rfl⟩ := hws.form
  have hws' := hide hws
  clear hn0 hws hm hm0 hgl
  cases hE : endB s
  · have hA := hide (rdA_f (rdO_end hE))
    have hC := hide (rdC_f (rdO_end hE))
    clear hE hR
    go_wp2_with (fail)
    refine ret_cell_tmp agg27 rfl rfl (c := pic 144 0 0 fun _ => 0) (t := 27) (fr := (0, 0)) (by rw [obj_setRow_same, c2]; simp only [Option.map_some, reCells_cells]) size_pic rfl ⟨by rw [hA.out, hC.out]; rfl, (hn1).setRow (by omega) _⟩
  have hRe : rwS s = R := by rw [hR, rest_rows hE]
  clear hR
  have hAf := hide (fun h => rdA_f (s := s) h)
  have hCf := hide (fun h => rdC_f (s := s) h)
  have hAt := hide (fun h => rdA_t (s := s) h)
  have hCt := hide (fun h => rdC_t (s := s) h)
  have hOs := hide (fun h => rdO_size (s := s) h)
  have hOr := hide (fun y hy h => rdO_row (s := s) (y := y) hy h)
  have hOk := hide (fun h h2 => rdO_ok (s := s) hE h h2)
  have hOb := hide (fun h => rdO_bad (s := s) h)
  obtain ⟨w, hwe⟩ : ∃ w, Hid (widN s = w) := ⟨_, rfl⟩
  have hw0 : (R.getD 0 []).length = w := by rw [← hRe]; exact hwe.out
  rw [hwe.out, hRe] at hAt hOs hOr hOk hOb
  rw [hw0]
  clear hE hw0
  cases hb : badR R w
  rotate_left
  · have hR := hOb.out hb
    have hA := hide (hAf.out hR)
    have hC := hide (hCf.out hR)
    clear hR hOr hOk hRe
    go_wp2_with (fail)
    refine ret_cell_tmp agg27 rfl rfl (c := pic 144 0 0 fun _ => 0) (t := 27) (fr := (0, 0)) (by rw [obj_setRow_same, c2]; simp only [Option.map_some, reCells_cells]) size_pic rfl ⟨by rw [hA.out, hC.out]; rfl, (hn1).setRow (by omega) _⟩
  cases hsz : isSizeB (w : Int) (R.length : Int)
  · have hR := hOs.out hsz
    have hA := hide (hAf.out hR)
    have hC := hide (hCf.out hR)
    clear hR hOr hOk hRe
    go_wp2_with (go_at_call 30; refine (isSize_any _ _ _).mono ?_; rintro e wz ⟨rfl, rfl⟩; rw [hsz])
    refine ret_cell_tmp agg27 rfl rfl (c := pic 144 0 0 fun _ => 0) (t := 27) (fr := (0, 0)) (by rw [obj_setRow_same, c2]; simp only [Option.map_some, reCells_cells]) size_pic rfl ⟨by rw [hA.out, hC.out]; rfl, (hn1).setRow (by omega) _⟩
  have hok2 := hide (hOk.out hsz)
  have hsz2 := hsz
  unfold isSizeB at hsz2
  rw [Bool.and_eq_true] at hsz2
  have hwb := inB_t.1 hsz2.1
  have hHb := inB_t.1 hsz2.2
  have hle := hide (fun y hy => badR_e (R := R) (w := w) (y := y) hb hy)
  obtain ⟨gs, cur, rfl, os, ls0, es0⟩ := hws'.out.slot (j := 0) hpos
  have lgs := obj_lt os
  have hcur : Hid (∀ y, y < R.length → ∃ l : y < cur.size, cur[y] = .string ⟨(R.getD y []).toArray⟩) := fun y hy => by
    obtain ⟨g2, cur2, he2, os2, l2, e2⟩ := hws'.out.slot (j := y) hy
    simp only [Option.some.injEq, Addr.mk.injEq, and_true] at he2
    subst he2
    rw [os] at os2
    simp only [Option.some.injEq, Obj.cells.injEq, and_true] at os2
    subst os2
    rw [getD_at2 hy]
    exact ⟨l2, e2⟩
  obtain ⟨H, hH⟩ : ∃ H, Hid (R.length = H) := ⟨_, rfl⟩
  rw [hH.out] at hcur hle hok2 hOr hHb hAt hcnt hsz ⊢
  have hw8 : IntKind.i8.wrap (w : Int) = w := by simp [IntKind.wrap, IntKind.bits, IntKind.signed]; omega
  have hH8 : IntKind.i8.wrap (H : Int) = H := by simp [IntKind.wrap, IntKind.bits, IntKind.signed]; omega
  clear hsz2 hOk hOs hOb hb ls0 es0 hws' hRe
  go_wp2_with (go_at_call 30; refine (isSize_any _ _ _).mono ?_; rintro e wz ⟨rfl, rfl⟩; rw [hsz])
  have ho0 : obj (w1.alloc (Obj.cells (pic 144 (w : Int) (H : Int) fun _ => 0) 27)) w1.heap.size = some (.cells (pic 144 w H (rdU R w 0 0)) 27) := by
    rw [obj_alloc_at _ _ _ rfl]
    exact congrArg (fun c => some (Obj.cells c 27)) (pic_congr fun j hj => by unfold rdU; rw [if_neg (by omega)])
  have hno : New w1 (w1.alloc (Obj.cells (pic 144 (w : Int) (H : Int) fun _ => 0) 27)) := (New.refl _).alloc _
  obtain ⟨gp, hgp⟩ : ∃ gp, Hid (w1.heap.size = gp) := ⟨_, rfl⟩
  rw [hgp.out] at ho0 ⊢
  have lgs2 : gs < gp := by rw [← hgp.out]; exact lgs
  have lWp : W.heap.size < gp := by rw [← hgp.out]; exact obj_lt c2
  clear hsz
  go_loopw [36] (fun x wr => ∃ y : Nat, y ≤ H ∧ x = .int .i64 (y : Nat) ∧ Hid (obj wr gp = some (.cells (pic 144 w H (rdU R w y 0)) 27)) ∧ Hid (∀ q, q < y → okRow R w q = true) ∧ New w1 wr) (fun x _ => H - (intOf x).toNat)
  case atStart => exact ⟨0, by omega, rfl, ho0, fun q hq => absurd hq (by omega), hno⟩
  case round =>
    obtain ⟨y, hy, rfl, hop, hal, hnw⟩ := hrel
    by_cases hly : y < H
    · obtain ⟨ly, ey⟩ := hcur.out y hly
      have hbt : Hid (∀ x, x < 12 → bAt ⟨(R.getD y []).toArray⟩ x = rbt R (x + 12 * y)) := fun x hx => by
        unfold rbt
        rw [show (x + 12 * y) / 12 = y by omega, show (x + 12 * y) % 12 = x by omega]
      have hln := hle.out y hly
      have hzs : (⟨(R.getD y []).toArray⟩ : ByteArray).size = w := by rw [← hln]; show (R.getD y []).toArray.size = _; simp
      have hRb := hide (fun x hx h => okRow_bt (R := R) (w := w) (y := y) (x := x) hx h)
      have hRt := hide (fun h => okRow_t (R := R) (w := w) (y := y) hln h)
      generalize (⟨(R.getD y []).toArray⟩ : ByteArray) = z at ey hbt hzs
      have ow := (hnw.objs _ lgs).trans os
      have lw := obj_lt ow
      have op := hop.out
      have lp := obj_lt op
      clear hop hln
      go_wp2_with (fail)
      generalize hw2 : wr.iter z 0 = w2
      have oi : obj w2 wr.heap.size = some (.stringIter z 0) := by rw [← hw2]; exact World.iter_heap _ _ _
      have hn2 : New wr w2 := by rw [← hw2]; exact (New.refl _).alloc _
      have op2 := (hn2.objs _ lp).trans op
      obtain ⟨gI, hgI⟩ : ∃ gI, Hid (wr.heap.size = gI) := ⟨_, rfl⟩
      rw [hgI.out] at oi lp lw ⊢
      have hN2 := hnw.trans hn2
      clear hw2 op ow hn2
      have lI : gI < w2.heap.size := obj_lt oi
      have hgw : w1.heap.size ≤ gI := by rw [hgp.out]; omega
      go_loopw [10] (fun x wq => ∃ k : Nat, k ≤ w ∧ Hid (obj wq gI = some (.stringIter z k)) ∧ Hid (obj wq gp = some (.cells (pic 144 w H (rdU R w y k)) 27)) ∧ Hid (∀ q, q < k → 0 ≤ letV (rbt R (q + 12 * y))) ∧ New w1 wq) (fun _ wq => w - iterAt wq gI)
      case atStart => exact ⟨0, by omega, oi, op2, fun q hq => absurd hq (by omega), hN2⟩
      case round =>
        obtain ⟨k, hk, hoi, hop, hlet, hnq⟩ := hrel
        clear oi op2 hN2 lI
        have oi := hoi.out
        have lI := obj_lt oi
        have hit := iterAt_e oi
        have op := hop.out
        have lp := obj_lt op
        have c3 := (hnq.objs _ (obj_lt c2)).trans c2
        by_cases hlk : k < w
        · have hkz : k < z.size := by omega
          have hb1 := bAt_get z k hkz
          have hb2 := hbt.out k (by omega)
          have hb3 := bAt_b z k
          rw [hb2] at hb1 hb3
          have hU2 := hide (fun kk h => rdU_put (R := R) (w := w) (y := y) (x := k) (by omega) (k := kk) h)
          have hal2 := hide (fun (h : 0 ≤ letV (rbt R (k + 12 * y))) => (fun q (hq : q < k + 1) => by
            by_cases e : q = k
            · rw [e]; exact h
            · exact hlet.out q (by omega) : ∀ q, q < k + 1 → 0 ≤ letV (rbt R (q + 12 * y))))
          have hRbk := hide (hRb.out k hlk)
          have hky : k + 12 * y < 144 := by omega
          have hlb := letV_b (rbt R (k + 12 * y))
          have hnx := fun ty => run_next_at (P := Tryd.prog) ty oi hkz
          have hasc : 0 ≤ letV (rbt R (k + 12 * y)) → Utf8.decode z k = ((z[k]'hkz).toNat, 1) := fun h => decode_ascii z k hkz (by
            unfold letV at h
            split at h
            · omega
            · split at h <;> omega)
          generalize rbt R (k + 12 * y) = b at hb1 hb3 hU2 hal2 hRbk hlb hasc
          clear hop hb2 hoi
          by_cases hpos2 : 0 ≤ letV b
          · have hU := hide (hU2.out _ rfl)
            have hA2 := hide (hal2.out hpos2)
            rw [hasc hpos2] at hnx
            have op3 : obj (putIter wr gI z (k + 1)) gp = _ := (obj_putIter_other (by omega)).trans op
            have oi3 : obj (putIter wr gI z (k + 1)) gI = _ := obj_putIter lI
            have hnq3 : New w1 (putIter wr gI z (k + 1)) := New.putIter hnq hgw
            have hwu : IntKind.u8.wrap (letV b) = letV b := by simp [IntKind.wrap, IntKind.bits, IntKind.signed]; omega
            clear hU2 hal2 hRbk hasc
            go_wp2_with (go_at_call 31; refine (letIndex_any _ hb3 _).mono ?_; rintro e wz ⟨rfl, rfl⟩)
            go_roundw
            case rel =>
              refine ⟨k + 1, by omega, ?_, ?_, hA2, hnq3.setCell (Nat.le_of_eq hgp.out) _⟩
              · show _ = _
                rw [obj_setCell_other _ _ _ _ _ (by omega)]
                exact oi3
              · show _ = _
                rw [obj_set_pic op3 _ _ _ rfl, pic_congr fun j _ => hU.out j]
            case measure =>
              rw [hit, iterAt_e (w := World.setCell (putIter wr gI z (k + 1)) _ _) ((obj_setCell_other _ _ _ _ _ (by omega)).trans oi3)]
              omega
          · have hR := hOr.out y hly (hRbk.out (by omega))
            have hA := hide (hAf.out hR)
            have hC := hide (hCf.out hR)
            clear hR hU2 hal2 hRbk hasc
            generalize Utf8.decode z k = D at hnx
            have c4 : obj (putIter wr gI z (k + D.2)) W.heap.size = _ := (obj_putIter_other (by omega)).trans c3
            have hnq4 : New w1 (putIter wr gI z (k + D.2)) := New.putIter hnq hgw
            have hln : letV b < 0 := by omega
            go_wp2_with (go_at_call 31; refine (letIndex_any _ hb3 _).mono ?_; rintro e wz ⟨rfl, rfl⟩)
            refine ret_cell_tmp agg27 rfl rfl (c := pic 144 0 0 fun _ => 0) (t := 27) (fr := (0, 0)) (by rw [obj_setRow_same, c4]; simp only [Option.map_some, reCells_cells]) size_pic rfl ⟨by rw [hA.out, hC.out]; rfl, (hn1.trans hnq4).setRow (by omega) _⟩
        · have hke : k = w := by omega
          have hnx := fun ty => run_next_fin (P := Tryd.prog) ty oi (show ¬ k < z.size by omega)
          have hokr := hide (hRt.out (by rw [← hke]; exact hlet.out))
          have op3 : obj wr gp = some (.cells (pic 144 w H (rdU R w (y + 1) 0)) 27) := by rw [op, hke, pic_congr fun j _ => rdU_row]
          have hal3 : Hid (∀ q, q < y + 1 → okRow R w q = true) := fun q hq => by
            by_cases e : q = y
            · rw [e]; exact hokr.out
            · exact hal.out q (by omega)
          clear hke op hop hoi hit
          go_wp2_with (fail)
          go_roundw
          case rel => exact ⟨y + 1, by omega, by go_num, op3, hal3, hnq⟩
          case measure => simp [intOf]; omega
    · have hye : y = H := by omega
      have hR := hok2.out (by rw [← hye]; exact hal.out)
      have op : obj wr gp = some (.cells (pic 144 w H (rdU R w H 0)) 27) := by rw [hop.out, hye]
      have hA := hide (hAt.out hR)
      have hC := hide (hCt.out hR)
      have c3 := (hnw.objs _ (obj_lt c2)).trans c2
      clear hR hye hop
      go_wp2_with (fail)
      refine ret_cell_tmp agg27 rfl rfl (c := pic 144 w H (rdU R w H 0)) (t := 27) (fr := (0, 0)) (by rw [obj_setRow_same, c3]; simp only [Option.map_some, reCells_cells]) size_pic rfl ⟨by rw [hA.out, hC.out]; rfl, (hn1.trans hnw).setRow (by omega) _⟩
end Go.Proofs.YtomfjicjejoakaaDoor
