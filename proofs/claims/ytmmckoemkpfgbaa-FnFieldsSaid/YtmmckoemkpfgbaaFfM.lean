/- The great law on fields, walked; no condition. -/
import Derived.Test.YtmmckoemkpfgbaaFfL1
import Derived.Test.YtmmckoemkpfgbaaFfL2
import Derived.Test.YtmmckoemkpfgbaaFfL3
import Derived.Test.YtmmckoemkpfgbaaFfL4
import Derived.Test.YtmmckoemkpfgbaaFfN
import Derived.Test.YtmmckoemkpfgbaaFldsE
import Derived.Test.YtmmckoemkpfgbaaFilE
import Derived.Test.YtmmckoemkpfgbaaDif
set_option linter.unusedVariables false
namespace Go.Proofs.Ytmmckoemkpfgbaa
open Go.BigFrame
open Go.RowKit Go.Arr
theorem mkI64 (n : Nat) (hn : n ≤ 1048576) (w : World) : (Instr.makeSlice 34 (.int .i64 n) (.int .i64 n)).run Try.prog w = .ok (.slice (some ⟨w.heap.size, 0, none⟩) n n) (w.alloc (.cells (arr n .i64 fun _ => 0) 2)) := by
  have h := mkrow (P := Try.prog) (t := 34) (e := 2) (z := .int .i64 0) (k := .i64) (m := 1) (bytes := 8) Try.underlying34 (by kernel_rfl) (made1 .i64) (by omega) n hn w
  rw [Nat.mul_one] at h
  exact h
theorem a2At_0 (ad : Option Addr) (n c : Nat) (f : Nat → Int) (hf : ∀ i, 0 ≤ f i ∧ f i ≤ 255) (m : Int) (hm : 1 ≤ m ∧ m ≤ 1000) (hn : n ≤ 3000) (w : World) (hs : Sl w (.slice ad n c) n 1 .u8 f) :
    Calls Try.prog 13 #[.slice ad n c, .int .i64 0, .int .i64 m] w fun e w' => e = .returned (.int .i64 (atV f n 0 m)) ∧ w = w' := a2At_any ad n c f hf 0 m (by omega) hm hn w hs
theorem a2At_1 (ad : Option Addr) (n c : Nat) (f : Nat → Int) (hf : ∀ i, 0 ≤ f i ∧ f i ≤ 255) (m : Int) (hm : 1 ≤ m ∧ m ≤ 1000) (hn : n ≤ 3000) (w : World) (hs : Sl w (.slice ad n c) n 1 .u8 f) :
    Calls Try.prog 13 #[.slice ad n c, .int .i64 1, .int .i64 m] w fun e w' => e = .returned (.int .i64 (atV f n 1 m)) ∧ w = w' := a2At_any ad n c f hf 1 m (by omega) hm hn w hs
theorem a2At_2 (ad : Option Addr) (n c : Nat) (f : Nat → Int) (hf : ∀ i, 0 ≤ f i ∧ f i ≤ 255) (m : Int) (hm : 1 ≤ m ∧ m ≤ 1000) (hn : n ≤ 3000) (w : World) (hs : Sl w (.slice ad n c) n 1 .u8 f) :
    Calls Try.prog 13 #[.slice ad n c, .int .i64 2, .int .i64 m] w fun e w' => e = .returned (.int .i64 (atV f n 2 m)) ∧ w = w' := a2At_any ad n c f hf 2 m (by omega) hm hn w hs
theorem fill_ik {a b : Int} {q G : Nat → Int} {X Y C : Int} (h : fillA a b q X Y C = ⟨0, a, b, G⟩) (ha : -128 ≤ a ∧ a ≤ 127) (hb : -128 ≤ b ∧ b ≤ 127) (hf : ∀ i, 0 ≤ q i ∧ q i ≤ 255) (w : World) :
    Calls Try.prog 14 #[.agg (pic 144 a b q), .int .i64 X, .int .i64 Y, .int .i64 C] w fun e w' => e = .returned (.tuple #[.agg (pic 144 a b G), .int .i64 0]) ∧ New w w' := by
  have := fill_impl a b q X Y C ha hb hf w
  rw [h] at this
  exact this
theorem fill_sk {a b : Int} {q G : Nat → Int} {X Y C : Int} (h : fillA a b q X Y C = ⟨0, a, b, G⟩) (ha : -128 ≤ a ∧ a ≤ 127) (hb : -128 ≤ b ∧ b ≤ 127) (hf : ∀ i, 0 ≤ q i ∧ q i ≤ 255) (w : World) :
    Calls Try.prog 15 #[.agg (pic 144 a b q), .int .i64 X, .int .i64 Y, .int .i64 C] w fun e w' => e = .returned (.tuple #[.agg (pic 144 a b G), .int .i64 0]) ∧ New w w' := by
  have := fill_spec a b q X Y C ha hb hf w
  rw [h] at this
  exact this
theorem with_ik {a b : Int} {q G : Nat → Int} {X Y C : Int} (h : withA a b q X Y C = ⟨0, a, b, G⟩) (ha : -128 ≤ a ∧ a ≤ 127) (hb : -128 ≤ b ∧ b ≤ 127) (hf : ∀ i, 0 ≤ q i ∧ q i ≤ 255) (w : World) :
    Calls Try.prog 19 #[.agg (pic 144 a b q), .int .i64 X, .int .i64 Y, .int .i64 C] w fun e w' => e = .returned (.tuple #[.agg (pic 144 a b G), .int .i64 0]) ∧ New w w' := by
  have := with_impl a b q X Y C ha hb hf w
  rw [h] at this
  exact this
theorem plain_ik {a b C : Int} {G : Nat → Int} (h : plainA a b C = ⟨0, a, b, G⟩) (w : World) :
    Calls Try.prog 22 #[.int .i64 a, .int .i64 b, .int .i64 C] w fun e w' => e = .returned (.tuple #[.agg (pic 144 a b G), .int .i64 0]) ∧ New w w' := by
  have := plain_impl a b C w
  rw [h] at this
  exact this
theorem col_ik {a b : Int} {q : Nat → Int} {X Y C : Int} (h : colC a b q X Y = C) (hc : codeB (okPic a b q) (isCellB X Y a b) = 0) (ha : -128 ≤ a ∧ a ≤ 127) (hb : -128 ≤ b ∧ b ≤ 127) (hf : ∀ i, 0 ≤ q i ∧ q i ≤ 255) (w : World) :
    Calls Try.prog 20 #[.agg (pic 144 a b q), .int .i64 X, .int .i64 Y] w fun e w' => e = .returned (.tuple #[.int .i64 C, .int .i64 0]) ∧ New w w' := by
  have := colourAt_impl a b q X Y ha hb hf w
  rw [h, hc] at this
  exact this
set_option maxHeartbeats 8000000 in
set_option maxRecDepth 1000000 in
theorem FnFields_law (v0 : Value) (n0 : Nat) (f0 : Nat → Int) (hm0 : n0 ≤ maxLen) (hf0 : ∀ i, 0 ≤ f0 i ∧ f0 i ≤ 255) (v1 : Value) (n1 : Nat) (f1 : Nat → Int) (hm1 : n1 ≤ maxLen) (hf1 : ∀ i, 0 ≤ f1 i ∧ f1 i ≤ 255) (w : World)
    (hs0 : Sl w v0 n0 1 .u8 f0) (hl0 : ∀ a n c, v0 = .slice (some a) n c → a.block < w.heap.size) (hs1 : Sl w v1 n1 1 .u8 f1) (hl1 : ∀ a n c, v1 = .slice (some a) n c → a.block < w.heap.size) :
    Calls Try.prog 3 #[v0, v1] w fun e w' => e = .returned (.bool true) ∧ New w w' := by
  obtain ⟨a0, c0, rfl, t0⟩ := hs0
  have hs0 : Sl w (.slice a0 n0 c0) n0 1 .u8 f0 := ⟨a0, c0, rfl, t0⟩
  obtain ⟨a1, c1, rfl, t1⟩ := hs1
  have hs1 : Sl w (.slice a1 n1 c1) n1 1 .u8 f1 := ⟨a1, c1, rfl, t1⟩
  have had : Hid (∀ a, a0 = some a → a.block < w.heap.size) := fun a e => hl0 a n0 c0 (by rw [e])
  clear t0 t1 hl0 hl1
  cases hlong : (decide (3000 < n0) || decide (3000 < n1))
  rotate_left
  · go_enter Try.func3, Try.ntmps3
    go_wp2_with (fail)
    refine (a2Long_any a0 a1 n0 c0 n1 c1 _).mono ?_
    rintro e w1 ⟨rfl, rfl⟩
    rw [hlong]
    go_wp2_with (fail)
    go_ret
    exact ⟨rfl, New.refl w⟩
  have hn0 : n0 ≤ 3000 := by simp at hlong; omega
  have hn1 : n1 ≤ 3000 := by simp at hlong; omega
  replace hlong := hide hlong
  go_enter Try.func3, Try.ntmps3
  go_wp2_with (fail)
  refine (a2Long_any a0 a1 n0 c0 n1 c1 _).mono ?_
  rintro e w1 ⟨rfl, rfl⟩
  rw [hlong.out]
  go_wp2_with (fail)
  refine (a2Picture_any a0 n0 c0 f0 (by omega) hf0 _ hs0 had.out).mono ?_
  rintro e w1 ⟨a, b, q, rfl, ha6, hb6, hq, hN1⟩
  have ha : 1 ≤ a ∧ a ≤ 12 := by omega
  have hb : 1 ≤ b ∧ b ≤ 12 := by omega
  have hqb := hide hq.b
  have hok := hide (hq.ok ha hb)
  have hqh := hide hq
  clear hq had hs0 hlong
  go_wp2_with (fail)
  generalize hw2 : w1.alloc (Obj.cells (pic 144 a b q) 27) = w2
  obtain ⟨gP, hgP⟩ : ∃ gP, Hid (w1.heap.size = gP) := ⟨_, rfl⟩
  have oP : obj w2 gP = some (.cells (pic 144 a b q) 27) := by rw [← hw2, ← hgP.out]; exact obj_alloc_at _ _ _ rfl
  have hN2 : New w w2 := by rw [← hw2]; exact hN1.alloc _
  rw [hgP.out]
  clear hw2 hgP hN1 w1
  have qP := obj_lt oP
  refine (fieldsOf_impl a b q ⟨by omega, by omega⟩ ⟨by omega, by omega⟩ hqb.out _).mono ?_
  rintro e w3 ⟨u1, us1, rfl, hr1, hn3⟩
  have hflC : Hid (flC a b q = 0) := if_pos hok.out
  obtain ⟨N, hN⟩ : ∃ N, Hid (fsN a b q 144 = N) := ⟨_, rfl⟩
  have hflN : Hid (flN a b q = N) := by show _ = _; rw [← hN.out]; exact if_pos hok.out
  have hNp : 0 < N := by rw [← hN.out]; exact fs_pos ha hb
  have hN144 : N ≤ 144 := by rw [← hN.out]; exact fsN_le a b q 144
  rw [hflN.out] at hr1
  rw [hflC.out]
  have oP3 := (hn3.objs _ qP).trans oP
  have hN3 := hN2.trans hn3
  have qP3 := obj_lt oP3
  clear oP hN2 qP hn3
  go_wp2_with (fail)
  refine (fieldsOf_spec a b q ⟨by omega, by omega⟩ ⟨by omega, by omega⟩ hqb.out _).mono ?_
  rintro e w4 ⟨u2, us, rfl, hr2, hn4⟩
  rw [hflN.out] at hr2
  rw [hflC.out]
  replace hr1 := hr1.new hn4
  obtain ⟨x1, y1, rfl⟩ := hr1.form
  have hfm := hide fun (W : World) => (a2SameFields_refl x1)
  rcases hr2.shape with ⟨_, h0⟩ | ⟨gD, cD, curD, rfl, _, _⟩
  · omega
  have oP4 := (hn4.objs _ qP3).trans oP3
  have hN4 := hN3.trans hn4
  have qP4 := obj_lt oP4
  have hrh1 := hide hr1
  have hrh2 := hide hr2
  clear oP3 hN3 qP3 hn4 hr1 hr2 hfm
  go_wp2_with (fail)
  refine (a2SameFields_refl x1 _ N y1 cD _ _ us1 us _ _ (by omega) (fun i => Nat.le_trans (fsM_le a b q 144 i) (by omega)) _ hrh1.out hrh2.out).mono ?_
  rintro e w5 ⟨rfl, hn5⟩
  have oP5 := (hn5.objs _ qP4).trans oP4
  have hN5 := hN4.trans hn5
  have qP5 := obj_lt oP5
  replace hrh2 := hide (hrh2.out.new hn5)
  clear oP4 hN4 qP4 hrh1 hn5
  go_wp2_with (fail)
  generalize hw6 : w5.alloc (Obj.cells (arr 144 .i64 fun _ => 0) 33) = w6
  obtain ⟨gO, hgO⟩ : ∃ gO, Hid (w5.heap.size = gO) := ⟨_, rfl⟩
  have oO : obj w6 gO = some (.cells (arr 144 .i64 (owU a b q 0 0)) 33) := by rw [← hw6, ← hgO.out, arr_congr (fun j _ => owU_0 j)]; exact obj_alloc_at _ _ _ rfl
  have hN6 : New w5 w6 := by rw [← hw6]; exact (New.refl _).alloc _
  have lO : w5.heap.size ≤ gO := by rw [← hgO.out]; exact Nat.le_refl _
  rw [hgO.out]
  clear hw6 hgO
  refine ffL1 a b q ha hb hqb.out N gP gO gD _ cD us w5 w6 hN.out qP5 (hide oP5) hrh2 lO oO hN6 _ _ _ _ _ _ _ _ _ _ _ _ _ _ _ _ _ _ _ _ _ _ _ _ _ _ _ _ _ _ _ _ _ _ _ _ _ _ _ _ _ _ _ _ _ _ _ _ _ _ _ _ _ _ _ _ _ _ _ _ _ _ _ _ _ _ _ _ _ _ _ _ _ _ _ _ _ _ _ _ _ _ _ _ _ _ _ _ _ _ _ _ _ _ _ _ _ _ _ _ _ _ _ _ _ _ _ _ _ _ _ _ _ _ _ _ _ _ _ _ _ _ _ _ _ _ _ _ _ _ _ _ _ _ _ _ _ _ _ _ _ _ _ _ _ _ _ _ _ _ _ _ _ _ _ _ _ _ _ _ _ _ _ _ _ _ _ _ _ _ _ _ _ _ _ _ _ _ _ _ _ _ _ _ _ _ _ _ _ _ _ _ _ _ _ _ _ _ _ _ _ _ _ _ _ _ _ _ _ _ _ _ _ _ _ _ _ _ _ _ _ _ _ _ _ _ _ _ _ _ _ _ _ _ _ _ _ _ _ _ _ _ _ _ _ _ _ _ _ _ _ _ _ _ _ _ _ _ _ _ _ _ _ _ _ _ _ _ _ _ _ _ _ _ _ _ _ _ _ _ _ _ _ _ _ _ _ _ _ _ _ _ _ _ _ _ _ _ _ _ _ _ _ _ _ _ _ _ _ _ _ _ _ _ _ _ _ _ _ _ _ _ _ _ _ _ _ _ _ _ _ _ _ _ _ _ _ _ _ _ _ _ _ _ _ _ _ _ _ _ _ _ _ _ _ _ _ _ _ _ _ _ _ _ _ _ _ _ _ _ _ _ _ _ _ _ _ _ _ _ _ _ _ _ _ _ _ _ _ _ _ _ _ _ _ _ _ _ _ _ _ _ _ _ _ _ _ _ _ _ _ _ _ _ _ _ _ _ _ _ _ _ _ _ _ _ _ _ _ _ _ _ _ _ _ _ _ _ _ _ _ _ _ _ _ _ _ _ _ _ _ _ _ _ _ _ _ _ _ _ _ _ _ _ _ _ _ _ _ _ _ _ _ _ _ _ _ _ _ _ _ _ _ _ _ _ _ _ _ _ _ _ _ _ _ _ _ ?_
  intros
  rename_i w7 oO7 hN7
  have hcl := own_cells (q := q) ha hb
  rw [hN.out] at hcl
  obtain ⟨T, hT⟩ : ∃ T : Nat, Hid (owC a b q N 0 = T) := ⟨_, rfl⟩
  have hT144 : T ≤ 144 := by rw [← hT.out]; exact selN_le 144
  rw [hT.out] at hcl
  rw [hT.out]
  have hmul : IntKind.i64.wrap (a * b) = (T : Int) := by rw [← hcl]; simp [IntKind.wrap, IntKind.bits, IntKind.signed]; omega
  have hTT : ((T : Int) != (T : Int)) = false := by simp
  replace oO7 := oO7.trans (by rw [← hN.out, arr_congr (fun j _ => owU_end (f := q) ha.2 hb.2 j)])
  have oP7 := (hN7.objs _ qP5).trans oP5
  have qP7 := obj_lt oP7
  have hrh7 := hide (hrh2.out.new hN7)
  have hNw7 := hN5.trans hN7
  have hoO7 := hide oO7
  have hmk := mkI64 N (by omega)
  clear oP5 qP5 hrh2 oO oO7 hN6 hN7 lO w6 hcl hT hN5
  go_wp2_with (fail)
  clear hmul hTT hmk
  generalize hw8 : w7.alloc (Obj.cells (arr N .i64 fun _ => 0) 2) = w8
  obtain ⟨gL, hgL⟩ : ∃ gL, Hid (w7.heap.size = gL) := ⟨_, rfl⟩
  have oL : obj w8 gL = some (.cells (arr N .i64 (outU a b q 0 0)) 2) := by rw [← hw8, ← hgL.out, arr_congr (fun j _ => outU_0 j)]; exact obj_alloc_at _ _ _ rfl
  have hN8 : New w7 w8 := by rw [← hw8]; exact (New.refl _).alloc _
  have lL : w7.heap.size ≤ gL := by rw [← hgL.out]; exact Nat.le_refl _
  rw [hgL.out]
  clear hw8 hgL
  refine ffL2 a b q ha hb hqb.out hok N gP gO gL gD _ cD us w7 w8 hN.out (hide oP7) hoO7 hrh7 lL oL hN8 _ _ _ _ _ _ _ _ _ _ _ _ _ _ _ _ _ _ _ _ _ _ _ _ _ _ _ _ _ _ _ _ _ _ _ _ _ _ _ _ _ _ _ _ _ _ _ _ _ _ _ _ _ _ _ _ _ _ _ _ _ _ _ _ _ _ _ _ _ _ _ _ _ _ _ _ _ _ _ _ _ _ _ _ _ _ _ _ _ _ _ _ _ _ _ _ _ _ _ _ _ _ _ _ _ _ _ _ _ _ _ _ _ _ _ _ _ _ _ _ _ _ _ _ _ _ _ _ _ _ _ _ _ _ _ _ _ _ _ _ _ _ _ _ _ _ _ _ _ _ _ _ _ _ _ _ _ _ _ _ _ _ _ _ _ _ _ _ _ _ _ _ _ _ _ _ _ _ _ _ _ _ _ _ _ _ _ _ _ _ _ _ _ _ _ _ _ _ _ _ _ _ _ _ _ _ _ _ _ _ _ _ _ _ _ _ _ _ _ _ _ _ _ _ _ _ _ _ _ _ _ _ _ _ _ _ _ _ _ _ _ _ _ _ _ _ _ _ _ _ _ _ _ _ _ _ _ _ _ _ _ _ _ _ _ _ _ _ _ _ _ _ _ _ _ _ _ _ _ _ _ _ _ _ _ _ _ _ _ _ _ _ _ _ _ _ _ _ _ _ _ _ _ _ _ _ _ _ _ _ _ _ _ _ _ _ _ _ _ _ _ _ _ _ _ _ _ _ _ _ _ _ _ _ _ _ _ _ _ _ _ _ _ _ _ _ _ _ _ _ _ _ _ _ _ _ _ _ _ _ _ _ _ _ _ _ _ _ _ _ _ _ _ _ _ _ _ _ _ _ _ _ _ _ _ _ _ _ _ _ _ _ _ _ _ _ _ _ _ _ _ _ _ _ _ _ _ _ _ _ _ _ _ _ _ _ _ _ _ _ _ _ _ _ _ _ _ _ _ _ _ _ _ _ _ _ _ _ _ _ _ _ _ _ _ _ _ _ _ _ _ _ _ _ _ _ _ _ _ _ _ _ _ _ _ _ _ _ _ _ _ _ _ _ _ _ _ _ _ _ _ _ _ _ _ _ _ _ _ _ _ _ _ _ _ _ _ ?_
  intros
  rename_i w9 oL9 hN9
  have oP9 := (hN9.objs _ qP7).trans oP7
  have qP9 := obj_lt oP9
  have hrh9 := hide (hrh7.out.new hN9)
  have hNw9 := hNw7.trans hN9
  replace oL9 := hide oL9
  clear oP7 qP7 hrh7 hoO7 oL hN8 lL hN9 hNw7 w8
  go_wp2_with (fail)
  refine ffL3 a b q ha hb hqb.out hok N gP gL gD _ cD us w9 w9 hN.out (hide oP9) hrh9 oL9 (New.refl _) _ _ _ _ _ _ _ _ _ _ _ _ _ _ _ _ _ _ _ _ _ _ _ _ _ _ _ _ _ _ _ _ _ _ _ _ _ _ _ _ _ _ _ _ _ _ _ _ _ _ _ _ _ _ _ _ _ _ _ _ _ _ _ _ _ _ _ _ _ _ _ _ _ _ _ _ _ _ _ _ _ _ _ _ _ _ _ _ _ _ _ _ _ _ _ _ _ _ _ _ _ _ _ _ _ _ _ _ _ _ _ _ _ _ _ _ _ _ _ _ _ _ _ _ _ _ _ _ _ _ _ _ _ _ _ _ _ _ _ _ _ _ _ _ _ _ _ _ _ _ _ _ _ _ _ _ _ _ _ _ _ _ _ _ _ _ _ _ _ _ _ _ _ _ _ _ _ _ _ _ _ _ _ _ _ _ _ _ _ _ _ _ _ _ _ _ _ _ _ _ _ _ _ _ _ _ _ _ _ _ _ _ _ _ _ _ _ _ _ _ _ _ _ _ _ _ _ _ _ _ _ _ _ _ _ _ _ _ _ _ _ _ _ _ _ _ _ _ _ _ _ _ _ _ _ _ _ _ _ _ _ _ _ _ _ _ _ _ _ _ _ _ _ _ _ _ _ _ _ _ _ _ _ _ _ _ _ _ _ _ _ _ _ _ _ _ _ _ _ _ _ _ _ _ _ _ _ _ _ _ _ _ _ _ _ _ _ _ _ _ _ _ _ _ _ _ _ _ _ _ _ _ _ _ _ _ _ _ _ _ _ _ _ _ _ _ _ _ _ _ _ _ _ _ _ _ _ _ _ _ _ _ _ _ _ _ _ _ _ _ _ _ _ _ _ _ _ _ _ _ _ _ _ _ _ _ _ _ _ _ _ _ _ _ _ _ _ _ _ _ _ _ _ _ _ _ _ _ _ _ _ _ _ _ _ _ _ _ _ _ _ _ _ _ _ _ _ _ _ _ _ _ _ _ _ _ _ _ _ _ _ _ _ _ _ _ _ _ _ _ _ _ _ _ _ _ _ _ _ _ _ _ _ _ _ _ _ _ _ _ _ _ _ _ _ _ _ _ _ _ _ _ _ _ _ _ _ _ _ _ _ _ _ _ _ _ _ _ ?_
  intros
  rename_i wA hNA
  have oPA := (hNA.objs _ qP9).trans oP9
  have qPA := obj_lt oPA
  have hNwA := hNw9.trans hNA
  have hsA := hs1.new hNwA
  clear oP9 qP9 hrh9 oL9 hNA hNw9 hs1
  go_wp2_with (fail)
  refine (a2At_0 a1 n1 c1 f1 hf1 a (by omega) hn1 _ hsA).mono ?_
  rintro e wx ⟨rfl, rfl⟩
  obtain ⟨X, hX⟩ : ∃ X, Hid (atV f1 n1 0 a = X) := ⟨_, rfl⟩
  have hXb : 0 ≤ X ∧ X < a := by rw [← hX.out]; exact atV_b ha.1
  rw [hX.out]
  clear hX
  go_wp2_with (fail)
  refine (a2At_1 a1 n1 c1 f1 hf1 b (by omega) hn1 _ hsA).mono ?_
  rintro e wx ⟨rfl, rfl⟩
  obtain ⟨Y, hY⟩ : ∃ Y, Hid (atV f1 n1 1 b = Y) := ⟨_, rfl⟩
  have hYb : 0 ≤ Y ∧ Y < b := by rw [← hY.out]; exact atV_b hb.1
  rw [hY.out]
  clear hY
  go_wp2_with (fail)
  refine (a2At_2 a1 n1 c1 f1 hf1 5 (by omega) hn1 _ hsA).mono ?_
  rintro e wx ⟨rfl, rfl⟩
  obtain ⟨C, hC⟩ : ∃ C, Hid (atV f1 n1 2 5 = C) := ⟨_, rfl⟩
  have hCb : 0 ≤ C ∧ C < 5 := by rw [← hC.out]; exact atV_b (by omega)
  rw [hC.out]
  clear hC hsA
  obtain ⟨G, G2, G3, M, M2, D, E⟩ := ff_end (X := X) (Y := Y) (C := C) ha hb hqh.out hXb hYb (by omega)
  go_wp2_with (fail)
  have hGb := hide E.good.b
  have hG2b := hide E.good2.b
  refine (fill_ik E.fill ⟨by omega, by omega⟩ ⟨by omega, by omega⟩ hqb.out _).mono ?_
  rintro e wB ⟨rfl, hnB⟩
  have oPB := (hnB.objs _ qPA).trans oPA
  have qPB := obj_lt oPB
  have hNwB := hNwA.trans hnB
  clear oPA qPA hNwA
  go_wp2_with (fail)
  generalize hwC : wB.alloc (Obj.cells (pic 144 a b G) 27) = wC
  obtain ⟨gF, hgF⟩ : ∃ gF, Hid (wB.heap.size = gF) := ⟨_, rfl⟩
  have oFC : obj wC gF = some (.cells (pic 144 a b G) 27) := by rw [← hwC, ← hgF.out]; exact obj_alloc_at _ _ _ rfl
  have oPC := (show obj wC gP = obj wB gP by rw [← hwC]; exact obj_alloc_past _ _ _ qPB).trans oPB
  have hnC : New wB wC := by rw [← hwC]; exact (New.refl _).alloc _
  have hNwC := hNwB.trans hnC
  rw [hgF.out]
  clear oPB qPB hNwB hwC hgF hnC
  have qPC := obj_lt oPC
  have qFC := obj_lt oFC
  refine (fill_sk E.fill ⟨by omega, by omega⟩ ⟨by omega, by omega⟩ hqb.out _).mono ?_
  rintro e wD ⟨rfl, hnD⟩
  have oPD := (hnD.objs _ qPC).trans oPC
  have oFD := (hnD.objs _ qFC).trans oFC
  have qPD := obj_lt oPD
  have qFD := obj_lt oFD
  have hNwD := hNwC.trans hnD
  clear oPC qPC oFC qFC hNwC
  go_wp2_with (fail)
  generalize hwE : wD.alloc (Obj.cells (pic 144 a b G) 27) = wE
  obtain ⟨gM, hgM⟩ : ∃ gM, Hid (wD.heap.size = gM) := ⟨_, rfl⟩
  have oME : obj wE gM = some (.cells (pic 144 a b G) 27) := by rw [← hwE, ← hgM.out]; exact obj_alloc_at _ _ _ rfl
  have oPE := (show obj wE gP = obj wD gP by rw [← hwE]; exact obj_alloc_past _ _ _ qPD).trans oPD
  have oFE := (show obj wE gF = obj wD gF by rw [← hwE]; exact obj_alloc_past _ _ _ qFD).trans oFD
  have hnE : New wD wE := by rw [← hwE]; exact (New.refl _).alloc _
  have hNwE := hNwD.trans hnE
  rw [hgM.out]
  clear oPD qPD oFD qFD hNwD hwE hgM hnE
  have qPE := obj_lt oPE
  have qFE := obj_lt oFE
  have qME := obj_lt oME

  refine (fieldAt_impl a b G X Y ⟨by omega, by omega⟩ ⟨by omega, by omega⟩ hGb.out _).mono ?_
  rintro e wF ⟨v3, rfl, r3, hnF⟩
  have oPF := (hnF.objs _ qPE).trans oPE
  have oFF := (hnF.objs _ qFE).trans oFE
  have oMF := (hnF.objs _ qME).trans oME
  have qPF := obj_lt oPF
  have qFF := obj_lt oFF
  have qMF := obj_lt oMF
  have hNwF := hNwE.trans hnF
  clear oPE qPE oFE qFE oME qME hNwE
  rw [E.fn] at r3
  rw [E.fc]
  replace r3 := hide r3
  go_wp2_with (fail)
  refine (fieldAt_spec a b q X Y ⟨by omega, by omega⟩ ⟨by omega, by omega⟩ hqb.out _).mono ?_
  rintro e wG ⟨v4, rfl, r4, hnG⟩
  have oPG := (hnG.objs _ qPF).trans oPF
  have oFG := (hnG.objs _ qFF).trans oFF
  have oMG := (hnG.objs _ qMF).trans oMF
  have qPG := obj_lt oPG
  have qFG := obj_lt oFG
  have qMG := obj_lt oMG
  have hNwG := hNwF.trans hnG
  replace r3 := hide (r3.out.new hnG)
  clear oPF qPF oFF qFF oMF qMF hNwF
  rw [E.fn0] at r4
  rw [E.fc0]
  replace r4 := hide r4
  go_wp2_with (fail)
  refine (dif_impl a b q a b G ⟨by omega, by omega⟩ ⟨by omega, by omega⟩ hqb.out ⟨by omega, by omega⟩ ⟨by omega, by omega⟩ hGb.out _).mono ?_
  rintro e wH ⟨v5, rfl, r5, hnH⟩
  have oPH := (hnH.objs _ qPG).trans oPG
  have oFH := (hnH.objs _ qFG).trans oFG
  have oMH := (hnH.objs _ qMG).trans oMG
  have qPH := obj_lt oPH
  have qFH := obj_lt oFH
  have qMH := obj_lt oMH
  have hNwH := hNwG.trans hnH
  replace r3 := hide (r3.out.new hnH)
  replace r4 := hide (r4.out.new hnH)
  clear oPG qPG oFG qFG oMG qMG hNwG
  rw [E.dm] at r5
  rw [E.dc]
  replace r5 := hide r5
  go_wp2_with (fail)
  refine (dif_spec a b q a b G ⟨by omega, by omega⟩ ⟨by omega, by omega⟩ hqb.out ⟨by omega, by omega⟩ ⟨by omega, by omega⟩ hGb.out _).mono ?_
  rintro e wI ⟨v6, rfl, r6, hnI⟩
  have oPI := (hnI.objs _ qPH).trans oPH
  have oFI := (hnI.objs _ qFH).trans oFH
  have oMI := (hnI.objs _ qMH).trans oMH
  have qPI := obj_lt oPI
  have qFI := obj_lt oFI
  have qMI := obj_lt oMI
  have hNwI := hNwH.trans hnI
  replace r3 := hide (r3.out.new hnI)
  replace r4 := hide (r4.out.new hnI)
  replace r5 := hide (r5.out.new hnI)
  clear oPH qPH oFH qFH oMH qMH hNwH
  rw [E.dm] at r6
  rw [E.dc]
  replace r6 := hide r6
  go_wp2_with (fail)
  refine (with_ik E.wi ⟨by omega, by omega⟩ ⟨by omega, by omega⟩ hqb.out _).mono ?_
  rintro e wJ ⟨rfl, hnJ⟩
  have oPJ := (hnJ.objs _ qPI).trans oPI
  have oFJ := (hnJ.objs _ qFI).trans oFI
  have oMJ := (hnJ.objs _ qMI).trans oMI
  have qPJ := obj_lt oPJ
  have qFJ := obj_lt oFJ
  have qMJ := obj_lt oMJ
  have hNwJ := hNwI.trans hnJ
  replace r3 := hide (r3.out.new hnJ)
  replace r4 := hide (r4.out.new hnJ)
  replace r5 := hide (r5.out.new hnJ)
  replace r6 := hide (r6.out.new hnJ)
  clear oPI qPI oFI qFI oMI qMI hNwI
  go_wp2_with (fail)
  generalize hwK : wJ.alloc (Obj.cells (pic 144 a b G2) 27) = wK
  obtain ⟨gW, hgW⟩ : ∃ gW, Hid (wJ.heap.size = gW) := ⟨_, rfl⟩
  have oWK : obj wK gW = some (.cells (pic 144 a b G2) 27) := by rw [← hwK, ← hgW.out]; exact obj_alloc_at _ _ _ rfl
  have oPK := (show obj wK gP = obj wJ gP by rw [← hwK]; exact obj_alloc_past _ _ _ qPJ).trans oPJ
  have oFK := (show obj wK gF = obj wJ gF by rw [← hwK]; exact obj_alloc_past _ _ _ qFJ).trans oFJ
  have oMK := (show obj wK gM = obj wJ gM by rw [← hwK]; exact obj_alloc_past _ _ _ qMJ).trans oMJ
  have hnK : New wJ wK := by rw [← hwK]; exact (New.refl _).alloc _
  have hNwK := hNwJ.trans hnK
  replace r3 := hide (r3.out.new hnK)
  replace r4 := hide (r4.out.new hnK)
  replace r5 := hide (r5.out.new hnK)
  replace r6 := hide (r6.out.new hnK)
  rw [hgW.out]
  clear oPJ qPJ oFJ qFJ oMJ qMJ hNwJ hwK hgW hnK
  have qPK := obj_lt oPK
  have qFK := obj_lt oFK
  have qMK := obj_lt oMK
  have qWK := obj_lt oWK
  refine (col_ik E.co E.cc ⟨by omega, by omega⟩ ⟨by omega, by omega⟩ hG2b.out _).mono ?_
  rintro e wL ⟨rfl, hnL⟩
  have oPL := (hnL.objs _ qPK).trans oPK
  have oFL := (hnL.objs _ qFK).trans oFK
  have oML := (hnL.objs _ qMK).trans oMK
  have oWL := (hnL.objs _ qWK).trans oWK
  have qPL := obj_lt oPL
  have qFL := obj_lt oFL
  have qML := obj_lt oML
  have qWL := obj_lt oWL
  have hNwL := hNwK.trans hnL
  replace r3 := hide (r3.out.new hnL)
  replace r4 := hide (r4.out.new hnL)
  replace r5 := hide (r5.out.new hnL)
  replace r6 := hide (r6.out.new hnL)
  clear oPK qPK oFK qFK oMK qMK oWK qWK hNwK
  have hEq : eqPic 144 a b G a b G = true := by unfold eqPic; simp [eqUpto]
  have hD144 : D ≤ 144 := by have h1 := E.d; have h2 := E.le; have h3 := E.m2; omega
  have hMM : M ≤ M2 := E.le
  have hM2 : M2 ≤ 144 := E.m2
  have hDD : D = 0 ∨ D = M ∧ 0 < D := by have h1 := E.d; omega
  have hcells := hide E.cells
  have hpl := hide E.plain
  have hone := hide E.one
  have hg3 := hide E.good3
  clear E
  have hlt : ((M2 : Int) < (M : Int)) = False := by apply propext; constructor; (intro h; omega); (intro h; cases h)
  have hlt2 : (M2 < M) = False := by apply propext; constructor; (intro h; omega); (intro h; cases h)
  obtain ⟨x3, c3, rfl, z3⟩ := r3.out.reads
  obtain ⟨x4, c4, rfl, z4⟩ := r4.out.reads
  obtain ⟨x5, c5, rfl, z5⟩ := r5.out.reads
  obtain ⟨x6, c6, rfl, z6⟩ := r6.out.reads
  have z3 := hide z3
  have z4 := hide z4
  have z5 := hide z5
  have z6 := hide z6
  clear r3 r4 r5 r6
  rcases hDD with hDz | ⟨hDm, hDp⟩
  · have hd0 : ((D : Int) != 0) = false := by subst hDz; rfl
    have hDh := hide hDz
    clear hDz
    go_wp2_with (fail)
    refine (a2Same_refl x5 x6 D c5 c6 _ (by omega) _ z5.out z6.out).mono ?_
    rintro e wM ⟨rfl, hnM⟩
    have oPM := (hnM.objs _ qPL).trans oPL
    have oFM := (hnM.objs _ qFL).trans oFL
    have oMM := hide ((hnM.objs _ qML).trans oML)
    have hNwM := hNwL.trans hnM
    have y3 := z3.out
    have y4 := z4.out
    go_wp2_with (fail)
    refine ffL4 a b C G M M2 gM c4 c3 (fG a b q X Y) (fG a b G X Y) x4 x3 wM wM (by omega) hM2 oMM hcells (by omega) (NewSl.at z4.out hnM) (NewSl.at z3.out hnM) (New.refl _) _ _ _ _ _ _ _ _ _ _ _ _ _ _ _ _ _ _ _ _ _ _ _ _ _ _ _ _ _ _ _ _ _ _ _ _ _ _ _ _ _ _ _ _ _ _ _ _ _ _ _ _ _ _ _ _ _ _ _ _ _ _ _ _ _ _ _ _ _ _ _ _ _ _ _ _ _ _ _ _ _ _ _ _ _ _ _ _ _ _ _ _ _ _ _ _ _ _ _ _ _ _ _ _ _ _ _ _ _ _ _ _ _ _ _ _ _ _ _ _ _ _ _ _ _ _ _ _ _ _ _ _ _ _ _ _ _ _ _ _ _ _ _ _ _ _ _ _ _ _ _ _ _ _ _ _ _ _ _ _ _ _ _ _ _ _ _ _ _ _ _ _ _ _ _ _ _ _ _ _ _ _ _ _ _ _ _ _ _ _ _ _ _ _ _ _ _ _ _ _ _ _ _ _ _ _ _ _ _ _ _ _ _ _ _ _ _ _ _ _ _ _ _ _ _ _ _ _ _ _ _ _ _ _ _ _ _ _ _ _ _ _ _ _ _ _ _ _ _ _ _ _ _ _ _ _ _ _ _ _ _ _ _ _ _ _ _ _ _ _ _ _ _ _ _ _ _ _ _ _ _ _ _ _ _ _ _ _ _ _ _ _ _ _ _ _ _ _ _ _ _ _ _ _ _ _ _ _ _ _ _ _ _ _ _ _ _ _ _ _ _ _ _ _ _ _ _ _ _ _ _ _ _ _ _ _ _ _ _ _ _ _ _ _ _ _ _ _ _ _ _ _ _ _ _ _ _ _ _ _ _ _ _ _ _ _ _ _ _ _ _ _ _ _ _ _ _ _ _ _ _ _ _ _ _ _ _ _ _ _ _ _ _ _ _ _ _ _ _ _ _ _ _ _ _ _ _ _ _ _ _ _ _ _ _ _ _ _ _ _ _ _ _ _ _ _ _ _ _ _ _ _ _ _ _ _ _ _ _ _ _ _ _ _ _ _ _ _ _ _ _ _ _ _ _ _ _ _ _ _ _ _ _ _ _ _ _ _ _ _ _ _ _ _ _ _ _ _ _ _ _ _ _ _ _ _ _ _ _ _ _ _ _ _ _ _ _ ?_
    intros
    rename_i wN hnN
    have qPM := obj_lt oPM
    have oPN := (hnN.objs _ qPM).trans oPM
    have hNwN := hNwM.trans hnN
    go_wp2_with (fail)
    refine (plain_ik hpl.out _).mono ?_
    rintro e wO ⟨rfl, hnO⟩
    have hNwO := hNwN.trans hnO
    go_wp2_with (fail)
    generalize hwP : wO.alloc (Obj.cells (pic 144 a b G3) 27) = wP
    have hNwP : New w wP := by rw [← hwP]; exact hNwO.alloc _
    have oW : obj wP wO.heap.size = some (.cells (pic 144 a b G3) 27) := by rw [← hwP]; exact obj_alloc_at _ _ _ rfl
    clear hwP
    refine (fieldsOf_impl a b G3 ⟨by omega, by omega⟩ ⟨by omega, by omega⟩ hg3.out.b _).mono ?_
    rintro e wQ ⟨u8, us8, rfl, hr8, hnQ⟩
    have hok3 := hg3.out.ok ha hb
    rw [(show flN a b G3 = fsN a b G3 144 from if_pos hok3).trans hone.out] at hr8
    rw [show flC a b G3 = 0 from if_pos hok3]
    obtain ⟨x8, y8, rfl⟩ := hr8.form
    clear hr8
    go_wp2_with (fail)
    go_ret
    exact ⟨rfl, hNwP.trans hnQ⟩
  · have hd0 : ((D : Int) != 0) = true := by simp; omega
    have hd1 : ((D : Int) != (M : Int)) = false := by subst hDm; simp
    have hDh := hide hDm
    clear hDm
    go_wp2_with (fail)
    refine (a2Same_refl x5 x6 D c5 c6 _ (by omega) _ z5.out z6.out).mono ?_
    rintro e wM ⟨rfl, hnM⟩
    have oPM := (hnM.objs _ qPL).trans oPL
    have oFM := (hnM.objs _ qFL).trans oFL
    have oMM := hide ((hnM.objs _ qML).trans oML)
    have hNwM := hNwL.trans hnM
    have y3 := z3.out
    have y4 := z4.out
    go_wp2_with (fail)
    refine ffL4 a b C G M M2 gM c4 c3 (fG a b q X Y) (fG a b G X Y) x4 x3 wM wM (by omega) hM2 oMM hcells (by omega) (NewSl.at z4.out hnM) (NewSl.at z3.out hnM) (New.refl _) _ _ _ _ _ _ _ _ _ _ _ _ _ _ _ _ _ _ _ _ _ _ _ _ _ _ _ _ _ _ _ _ _ _ _ _ _ _ _ _ _ _ _ _ _ _ _ _ _ _ _ _ _ _ _ _ _ _ _ _ _ _ _ _ _ _ _ _ _ _ _ _ _ _ _ _ _ _ _ _ _ _ _ _ _ _ _ _ _ _ _ _ _ _ _ _ _ _ _ _ _ _ _ _ _ _ _ _ _ _ _ _ _ _ _ _ _ _ _ _ _ _ _ _ _ _ _ _ _ _ _ _ _ _ _ _ _ _ _ _ _ _ _ _ _ _ _ _ _ _ _ _ _ _ _ _ _ _ _ _ _ _ _ _ _ _ _ _ _ _ _ _ _ _ _ _ _ _ _ _ _ _ _ _ _ _ _ _ _ _ _ _ _ _ _ _ _ _ _ _ _ _ _ _ _ _ _ _ _ _ _ _ _ _ _ _ _ _ _ _ _ _ _ _ _ _ _ _ _ _ _ _ _ _ _ _ _ _ _ _ _ _ _ _ _ _ _ _ _ _ _ _ _ _ _ _ _ _ _ _ _ _ _ _ _ _ _ _ _ _ _ _ _ _ _ _ _ _ _ _ _ _ _ _ _ _ _ _ _ _ _ _ _ _ _ _ _ _ _ _ _ _ _ _ _ _ _ _ _ _ _ _ _ _ _ _ _ _ _ _ _ _ _ _ _ _ _ _ _ _ _ _ _ _ _ _ _ _ _ _ _ _ _ _ _ _ _ _ _ _ _ _ _ _ _ _ _ _ _ _ _ _ _ _ _ _ _ _ _ _ _ _ _ _ _ _ _ _ _ _ _ _ _ _ _ _ _ _ _ _ _ _ _ _ _ _ _ _ _ _ _ _ _ _ _ _ _ _ _ _ _ _ _ _ _ _ _ _ _ _ _ _ _ _ _ _ _ _ _ _ _ _ _ _ _ _ _ _ _ _ _ _ _ _ _ _ _ _ _ _ _ _ _ _ _ _ _ _ _ _ _ _ _ _ _ _ _ _ _ _ _ _ _ _ _ _ _ _ _ _ _ _ _ _ _ _ _ _ _ _ _ _ _ _ _ _ _ ?_
    intros
    rename_i wN hnN
    have qPM := obj_lt oPM
    have oPN := (hnN.objs _ qPM).trans oPM
    have hNwN := hNwM.trans hnN
    go_wp2_with (fail)
    refine (plain_ik hpl.out _).mono ?_
    rintro e wO ⟨rfl, hnO⟩
    have hNwO := hNwN.trans hnO
    go_wp2_with (fail)
    generalize hwP : wO.alloc (Obj.cells (pic 144 a b G3) 27) = wP
    have hNwP : New w wP := by rw [← hwP]; exact hNwO.alloc _
    have oW : obj wP wO.heap.size = some (.cells (pic 144 a b G3) 27) := by rw [← hwP]; exact obj_alloc_at _ _ _ rfl
    clear hwP
    refine (fieldsOf_impl a b G3 ⟨by omega, by omega⟩ ⟨by omega, by omega⟩ hg3.out.b _).mono ?_
    rintro e wQ ⟨u8, us8, rfl, hr8, hnQ⟩
    have hok3 := hg3.out.ok ha hb
    rw [(show flN a b G3 = fsN a b G3 144 from if_pos hok3).trans hone.out] at hr8
    rw [show flC a b G3 = 0 from if_pos hok3]
    obtain ⟨x8, y8, rfl⟩ := hr8.form
    clear hr8
    go_wp2_with (fail)
    go_ret
    exact ⟨rfl, hNwP.trans hnQ⟩
end Go.Proofs.Ytmmckoemkpfgbaa
