/- The text of a picture: what the program returns, and the law; no condition. -/
import Derived.Test.YtbaphikficnjdaaTxt
import Derived.Test.YtbaphikficnjdaaImplA
import Derived.Test.YtbaphikficnjdaaPic
import Derived.Test.YtbaphikficnjdaaBld
import Derived.Test.YtbaphikficnjdaaShb
set_option linter.unusedVariables false
namespace Go.Proofs.Ytbaphikficnjdaa
open Go.BigFrame
open Go.RowKit Go.Arr
theorem below_new {w W W' : World} {B : Nat} (hn : New w W) (hB : w.heap.size ≤ B) (hb : Below B W W') : New w W' := Below.trans hn (Below.mono hb hB)
theorem below_obj {W W' : World} {B b : Nat} (hb : Below B W W') (h : b < B) : obj W' b = obj W b := Below.block hb b h
theorem cells_bytes (l : List Int) (h : ∀ x ∈ l, 0 ≤ x ∧ x ≤ 255) : l.map (Value.int .u8) = Lib.byteCells (bytesOf l) := by
  induction l with
  | nil => rfl
  | cons x l ih =>
    have hx := h x (by simp)
    have ih := ih fun y hy => h y (by simp [hy])
    simp only [bytesOf, List.map_cons] at ih ⊢
    unfold Lib.byteCells at ih ⊢
    rw [List.map_cons, ih]
    congr 2
    simp
    omega
theorem letB_range {x : Int} (h : 0 ≤ x ∧ x < 16) : 0 ≤ letB x ∧ letB x ≤ 255 := by unfold letB; split <;> omega
theorem txtRow_range (f : Nat → Int) (y x : Nat) (hx : x ≤ 12) (hy : y ≤ 11) (hf : ∀ i, i < 144 → 0 ≤ f i ∧ f i < 16) : ∀ z ∈ txtRow f y x, 0 ≤ z ∧ z ≤ 255 := by
  induction x with
  | zero => intro z hz; cases hz
  | succ x ih =>
    intro z hz
    rw [txtRow, List.mem_append] at hz
    rcases hz with hz | hz
    · exact ih (by omega) z hz
    · rw [List.mem_singleton] at hz
      subst hz
      exact letB_range (hf _ (by omega))
theorem txtR_range (f : Nat → Int) (a y : Nat) (ha : a ≤ 12) (hy : y ≤ 12) (hf : ∀ i, i < 144 → 0 ≤ f i ∧ f i < 16) : ∀ z ∈ txtR f a y, 0 ≤ z ∧ z ≤ 255 := by
  induction y with
  | zero => intro z hz; cases hz
  | succ y ih =>
    intro z hz
    rw [txtR, List.mem_append, List.mem_append] at hz
    rcases hz with (hz | hz) | hz
    · exact ih (by omega) z hz
    · exact txtRow_range f y a ha (by omega) hf z hz
    · rw [List.mem_singleton] at hz
      omega
attribute [local go_sem high] let_get
theorem isB_new {T e : TypeId} {B b : Nat} {bs : List Value} {w w' : World} (h : Lib.IsBuilder T e B b bs w) (hn : New w w') : Lib.IsBuilder T e B b bs w' := by
  rcases h with ⟨hB, v, hb, hown, hne⟩ | ⟨hB, v, hb, hown, hne⟩
  · exact Or.inl ⟨hB, v, (hn.objs b (obj_lt hb)).trans hb, own_new hown hn, hne⟩
  · exact Or.inr ⟨hB, v, (hn.objs b (obj_lt hb)).trans hb, own_new hown hn, hne⟩
def cellsV (l : List Int) : List Value := l.map (Value.int .u8)
theorem cellsV_snoc (l : List Int) (z : Int) : cellsV l ++ [Value.int .u8 z] = cellsV (l ++ [z]) := by simp [cellsV]
theorem length_cellsV (l : List Int) : (cellsV l).length = l.length := by simp [cellsV]
set_option maxHeartbeats 4000000 in
set_option maxRecDepth 100000 in
theorem txt_impl (a b : Int) (f : Nat → Int) (ha : -128 ≤ a ∧ a ≤ 127) (hb : -128 ≤ b ∧ b ≤ 127) (hf : ∀ i, 0 ≤ f i ∧ f i ≤ 255) (w : World) :
    Calls Try.prog 11 #[.agg (pic 144 a b f)] w fun e w' => e = .returned (.string (txtA a b f)) ∧ New w w' := by
  cases h1 : okPic a b f
  · have hA : txtA a b f = ⟨#[]⟩ := by unfold txtA; rw [if_neg (by rw [h1]; simp)]
    rw [hA]
    clear hA
    go_enter Try.func11, Try.ntmps11
    go_wp2_with (fail)
    refine (valid_v a b f ha hb hf _ h1 _).mono ?_
    rintro e1 w1 ⟨rfl, hn1⟩
    have ho1 := hn1.objs
    have hz1 := hn1.le
    try simp at hz1
    have k1_0 : w.heap.size < w1.heap.size := by omega
    go_wp2_with (fail)
    go_ret
    refine ⟨rfl, ?_⟩
    repeat' (first | exact New.refl _ | refine New.alloc ?_ _ | refine New.drew ?_ | refine New.drewN ?_ _ | refine New.setRow ?_ (by omega) _ | refine New.setCell ?_ (by first | omega | (simp; done) | (simp; omega)) _ | refine New.trans ?_ hn1)
  have hA : txtA a b f = bstr (txtR f a.toNat b.toNat) := by unfold txtA; rw [if_pos h1]
  rw [hA]
  clear hA
  have gd := okPic_dims h1
  have hv : ∀ i, i < 144 → 0 ≤ f i ∧ f i < 16 := fun i hi => ⟨(hf i).1, (okPic_cell h1 i hi).1⟩
  obtain ⟨a', rfl⟩ : ∃ a' : Nat, a = a' := ⟨a.toNat, by omega⟩
  obtain ⟨b', rfl⟩ : ∃ b' : Nat, b = b' := ⟨b.toNat, by omega⟩
  have hv := hide hv
  go_enter Try.func11, Try.ntmps11
  go_wp2_with (fail)
  refine (valid_v a' b' f ha hb hf _ h1 _).mono ?_
  rintro e2 w2 ⟨rfl, hn2⟩
  have ho2 := hn2.objs
  have hz2 := hn2.le
  try simp at hz2
  have c1 : obj w2 w.heap.size = some (.cells (pic 144 a' b' f) 27) := (hn2.objs _ (by simp)).trans (by go_simp)
  have hN2 : New w w2 := ((New.refl w).alloc _).trans hn2
  have r1 := obj_lt c1
  clear h1 hn2 ho2
  go_wp2_with (fail)
  generalize hw3 : w2.alloc (Obj.cells #[Value.pointer none, Value.slice none 0 0] 56) = w3
  have hb3 : Lib.IsBuilder 56 5 w2.heap.size w2.heap.size (cellsV (txtR f a' 0)) w3 := by subst hw3; exact Lib.fresh_isBuilder _ _ w2
  have hn3 : New w2 w3 := by subst hw3; exact (New.refl _).alloc _
  have d1 := (hn3.objs _ r1).trans c1
  have hN3 := hN2.trans hn3
  have hz3 := hn3.le
  clear hw3 c1 hn3
  go_loopw [14] (fun i wr => ∃ y : Nat, y ≤ b' ∧ i = .int .i64 y ∧ Lib.IsBuilder 56 5 w2.heap.size w2.heap.size (cellsV (txtR f a' y)) wr ∧ Hid (obj wr w.heap.size = some (.cells (pic 144 a' b' f) 27)) ∧ New w wr ∧ w2.heap.size ≤ wr.heap.size) (fun i _ => b' - (intOf i).toNat)
  case atStart => exact ⟨0, by omega, rfl, hb3, d1, hN3, hz3⟩
  case round =>
    obtain ⟨y, hy, rfl, hB, hp1, hnw, hlw⟩ := hrel
    have p1 := hp1.out
    by_cases hlt : y < b'
    · have hln := length_txtR f a' y
      have hmul : (a' + 1) * y ≤ 13 * 12 := Nat.mul_le_mul (by omega) (by omega)
      go_wp2_with (fail)
      go_loopw [20] (fun i wq => ∃ x : Nat, x ≤ a' ∧ i = .int .i64 x ∧ Lib.IsBuilder 56 5 w2.heap.size w2.heap.size (cellsV (txtR f a' y ++ txtRow f y x)) wq ∧ Hid (obj wq w.heap.size = some (.cells (pic 144 a' b' f) 27)) ∧ New w wq ∧ w2.heap.size ≤ wq.heap.size) (fun i _ => a' - (intOf i).toNat)
      case atStart => exact ⟨0, by omega, rfl, by simpa [txtRow] using hB, hp1, hnw, hlw⟩
      case round =>
        obtain ⟨x, hx, rfl, hBx, hp2, hnq, hlq⟩ := hrel
        have p2 := hp2.out
        by_cases hlx : x < a'
        · have hcell : ((x : Int) + 12 * (y : Int)).toNat = x + 12 * y := by omega
          have hfv := hv.out (x + 12 * y) (by omega)
          have hl2 := length_txtRow f y x
          go_wp2_with (fail)
          refine (at_any a' b' f x y (by omega) (by omega) (by omega) _).mono ?_
          rintro e w5 ⟨rfl, hn5⟩
          rw [hcell]
          have hB5 := isB_new hBx hn5
          have p5 := (hn5.objs _ (obj_lt p2)).trans p2
          have hN5 := hnq.trans hn5
          have hz5 := hn5.le
          have hs5 : Hid (cellsV (txtR f a' y ++ txtRow f y x) ++ [Value.int .u8 (letB (f (x + 12 * y)))] = cellsV (txtR f a' y ++ txtRow f y (x + 1))) := by
            show _ = _
            rw [cellsV_snoc, txtRow, List.append_assoc]
          have hfv2 := hfv.2
          go_wp2_with (fail)
          refine (writeByte_any _ _ _ _ _ hB5 (by rw [length_cellsV, List.length_append]; omega) (by omega)).mono ?_
          rintro e w6 ⟨rfl, hB6, hbel⟩
          rw [hs5.out] at hB6
          have hN6 := below_new hN5 (by have := hN2.le; omega) hbel
          have p6 := (below_obj hbel (b := w.heap.size) (by omega)).trans p5
          have hz6 := hbel.size
          go_wp2_with (fail)
          go_roundw
          case rel => exact ⟨x + 1, by omega, by go_num, Or.inr hB6, p6, hN6, by omega⟩
          case measure => simp [intOf]; omega
        · obtain rfl : x = a' := by omega
          have hl2 := length_txtRow f y x
          have hs5 : Hid (cellsV (txtR f x y ++ txtRow f y x) ++ [Value.int .u8 10] = cellsV (txtR f x (y + 1))) := by
            show _ = _
            rw [cellsV_snoc, txtR]
          go_wp2_with (fail)
          refine (writeByte_any _ _ _ _ _ hBx (by rw [length_cellsV, List.length_append]; omega) (by omega)).mono ?_
          rintro e w6 ⟨rfl, hB6, hbel⟩
          rw [hs5.out] at hB6
          have hN6 := below_new hnq (by have := hN2.le; omega) hbel
          have p6 := (below_obj hbel (b := w.heap.size) (by omega)).trans p2
          have hz6 := hbel.size
          go_wp2_with (fail)
          go_roundw
          case rel => exact ⟨y + 1, by omega, by go_num, Or.inr hB6, p6, hN6, by omega⟩
          case measure => simp [intOf]; omega
    · obtain rfl : y = b' := by omega
      have hbs : cellsV (txtR f a' y) = Lib.byteCells (bytesOf (txtR f a' y)) := cells_bytes _ (txtR_range f a' y (by omega) (by omega) hv.out)
      rw [hbs] at hB
      have hs5 : Hid (bstr (txtR f (a' : Int).toNat (y : Int).toNat) = ⟨(bytesOf (txtR f a' y)).toArray⟩) := rfl
      go_wp2_with (fail)
      refine (Try.builderString _ _ _ _ hB (by omega)).mono ?_
      rintro e w6 ⟨rfl, hbel⟩
      have hN6 := below_new hnw (by have := hN2.le; omega) hbel
      go_wp2_with (fail)
      go_ret
      exact ⟨by rw [hs5.out]; rfl, hN6⟩
set_option maxHeartbeats 1000000 in
set_option maxRecDepth 100000 in
theorem PictureText_law (a b : Int) (f : Nat → Int) (ha : -128 ≤ a ∧ a ≤ 127) (hb : -128 ≤ b ∧ b ≤ 127) (hf : ∀ i, 0 ≤ f i ∧ f i ≤ 255) (w : World) :
    Calls Try.prog 3 #[.agg (pic 144 a b f)] w fun e w' => e = .returned (.bool true) ∧ New w w' := by
  generalize hA : txtA a b f = A
  go_enter Try.func3, Try.ntmps3
  go_wp2_with (fail)
  generalize hw0 : w.alloc (Obj.cells (pic 144 a b f) 25) = w0
  have b0 : obj w0 w.heap.size = some (.cells (pic 144 a b f) 25) := by subst hw0; go_simp
  have hN0 : New w w0 := by subst hw0; exact (New.refl w).alloc _
  clear hw0
  refine (toPicture_any a b f _).mono ?_
  rintro e1 w1 ⟨rfl, hn1⟩
  have b1 := (hn1.objs _ (obj_lt b0)).trans b0
  go_wp2_with (fail)
  refine (txt_spec a b f ha hb hf _).mono ?_
  rintro e2 w2 ⟨rfl, hn2⟩
  rw [hA]
  have b2 := (hn2.objs _ (obj_lt b1)).trans b1
  go_wp2_with (fail)
  refine (toPicture_any a b f _).mono ?_
  rintro e3 w3 ⟨rfl, hn3⟩
  go_wp2_with (fail)
  refine (txt_impl a b f ha hb hf _).mono ?_
  rintro e4 w4 ⟨rfl, hn4⟩
  rw [hA]
  go_wp2_with (fail)
  go_ret
  exact ⟨rfl, (((hN0.trans hn1).trans hn2).trans hn3).trans hn4⟩
end Go.Proofs.Ytbaphikficnjdaa
