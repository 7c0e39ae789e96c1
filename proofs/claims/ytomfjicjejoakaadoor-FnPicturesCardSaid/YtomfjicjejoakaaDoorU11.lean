/- The program's count of the colours, and the law on it; no condition. -/
import Derived.Test.YtomfjicjejoakaaDoorU6
import Derived.Test.YtomfjicjejoakaaDoorU4
import Derived.Test.YtomfjicjejoakaaDoorU7
import Derived.Test.YtomfjicjejoakaaDoorU8
import Derived.Test.YtomfjicjejoakaaDoorU2
import Derived.Test.YtomfjicjejoakaaDoorU9
import Derived.Test.YtomfjicjejoakaaDoorU10
import Derived.Test.YtomfjicjejoakaaDoorImplB
import Derived.Test.YtomfjicjejoakaaDoorImplC
set_option linter.unusedVariables false
namespace Go.Proofs.YtomfjicjejoakaaDoor
open Go.BigFrame
open Go.RowKit Go.Arr
set_option maxHeartbeats 2000000 in
set_option maxRecDepth 100000 in
theorem count_impl (a b : Int) (f : Nat → Int) (ha : -128 ≤ a ∧ a ≤ 127) (hb : -128 ≤ b ∧ b ≤ 127) (hf : ∀ i, 0 ≤ f i ∧ f i ≤ 255) (w : World) :
    Calls Tryd.prog 21 #[.agg (pic 144 a b f)] w fun e w' => e = .returned (cntA a b f) ∧ New w w' := by
  cases h1 : okPic a b f
  · have hA : cntA a b f = .tuple #[.agg (arr 16 .i64 fun _ => 0), .int .i64 1] := by unfold cntA; rw [if_neg (by rw [h1]; simp)]
    rw [hA]
    clear hA
    go_enter Tryd.func21, Tryd.ntmps21
    go_wp2_with (fail)
    refine (valid_v a b f ha hb hf _ h1 _).mono ?_
    rintro e1 w1 ⟨rfl, hn1⟩
    have ho1 := hn1.objs
    have hz1 := hn1.le
    try simp at hz1
    have k1_0 : w.heap.size < w1.heap.size := by omega
    have k1_1 : w.heap.size + 1 < w1.heap.size := by omega
    have k1_2 : w.heap.size + 1 + 1 < w1.heap.size := by omega
    go_wp2_with (fail)
    refine ret_cell_tmp agg41 rfl rfl (c := arr 16 .i64 fun _ => 0) (t := 41) (fr := (0, 0)) (by go_simp) size_arr rfl ⟨rfl, ?_⟩
    repeat' (first | exact New.refl _ | refine New.alloc ?_ _ | refine New.drew ?_ | refine New.drewN ?_ _ | refine New.setRow ?_ (by omega) _ | refine New.setCell ?_ (by first | omega | (simp; done) | (simp; omega)) _ | refine New.trans ?_ hn1)
  have hA : cntA a b f = .tuple #[.agg (arr 16 .i64 (cntF a b f 144)), .int .i64 0] := by unfold cntA; rw [if_pos h1]
  rw [hA]
  clear hA
  have gd := okPic_dims h1
  have hok := hide h1
  go_enter Tryd.func21, Tryd.ntmps21
  go_wp2_with (fail)
  refine (valid_v a b f ha hb hf _ h1 _).mono ?_
  rintro e2 w2 ⟨rfl, hn2⟩
  have ho2 := hn2.objs
  have hz2 := hn2.le
  try simp at hz2
  have k2_0 : w.heap.size < w2.heap.size := by omega
  have k2_1 : w.heap.size + 1 < w2.heap.size := by omega
  have k2_2 : w.heap.size + 1 + 1 < w2.heap.size := by omega
  clear h1
  go_wp2_with (fail)
  have hs1 : obj w2 w.heap.size = some (.cells (pic 144 a b f) 27) := by rw [ho2 _ (by simp; omega)]; go_simp
  have hs2 : obj w2 (w.heap.size + 1) = some (.cells (arr 16 .i64 fun _ => 0) 41) := by rw [ho2 _ (by simp)]; go_simp
  have hs3 : obj w2 (w.heap.size + 1 + 1) = some (.cells (arr 16 .i64 fun _ => 0) 41) := by rw [ho2 _ (by simp)]; go_simp
  have hw2 : New w w2 := by
    repeat' (first | exact New.refl _ | refine New.alloc ?_ _ | refine New.drew ?_ | refine New.drewN ?_ _ | refine New.setRow ?_ (by omega) _ | refine New.setCell ?_ (by first | omega | (simp; done) | (simp; omega)) _ | refine New.trans ?_ hn2 | refine New.trans ?_ hn1)
  clear hn2 ho2
  go_loopw [15] (fun i wr => ∃ y : Nat, (y : Int) ≤ b ∧ i = .int .i64 y ∧ Hid (obj wr w.heap.size = some (.cells (pic 144 a b f) 27)) ∧ Hid (obj wr (w.heap.size + 1) = some (.cells (arr 16 .i64 fun _ => 0) 41)) ∧ Hid (obj wr (w.heap.size + 1 + 1) = some (.cells (arr 16 .i64 (cntF a b f (0 + 12 * y))) 41)) ∧ New w wr ∧ w.heap.size + 3 ≤ wr.heap.size) (fun i _ => b.toNat - (intOf i).toNat)
  case atStart => exact ⟨0, by omega, rfl, hs1, hs2, hs3, hw2, by omega⟩
  case round =>
    obtain ⟨y, hy, rfl, hp, hz, ho, hn, hlw⟩ := hrel
    obtain ⟨wo, rfl⟩ : ∃ wo : World, wo = wr := ⟨_, rfl⟩
    have p1 := hp.out
    have k0 : w.heap.size < wo.heap.size := by omega
    by_cases hlt : (y : Int) < b
    · go_wp2_with (fail)
      go_loopw [6, 21] (fun _ i wr => ∃ x : Nat, (x : Int) ≤ a ∧ i = .int .i64 x ∧ Hid (obj wr w.heap.size = some (.cells (pic 144 a b f) 27)) ∧ Hid (obj wr (w.heap.size + 1) = some (.cells (arr 16 .i64 fun _ => 0) 41)) ∧ Hid (obj wr (w.heap.size + 1 + 1) = some (.cells (arr 16 .i64 (cntF a b f (x + 12 * y))) 41)) ∧ New w wr ∧ w.heap.size + 3 ≤ wr.heap.size) (fun _ i _ => a.toNat - (intOf i).toNat)
      case atStart => exact ⟨0, by omega, rfl, hp, hz, ho, hn, hlw⟩
      case round =>
        clear p1 hp hz ho hn hlw
        obtain ⟨x, hx, rfl, hp, hz, ho, hn, hlw⟩ := hrel
        have p1 := hp.out
        by_cases hlx : (x : Int) < a
        · have k0 : w.heap.size < wr.heap.size := by omega
          have k1 : w.heap.size + 1 < wr.heap.size := by omega
          have k2 : w.heap.size + 1 + 1 < wr.heap.size := by omega
          have o1 := ho.out
          go_wp2_with (fail)
          refine (at_any a b f x y (by omega) (by omega) (by omega) _).mono ?_
          rintro e w1 ⟨rfl, hn1⟩
          have o2 : obj w1 (w.heap.size + 1 + 1) = some (.cells (arr 16 .i64 (cntF a b f (x + 12 * y))) 41) := (hn1.objs _ k2).trans o1
          clear o1
          have hz1 := hn1.le
          have k3 : w.heap.size + 1 + 1 < w1.heap.size := by omega
          have e9 : ((x : Int) + 12 * (y : Int)).toNat = x + 12 * y := by omega
          have hv := (okPic_cell hok.out (x + 12 * y) (by omega)).1
          have hv0 := hf (x + 12 * y)
          have hlec : 0 ≤ cntF a b f (x + 12 * y) (f (x + 12 * y)).toNat ∧ cntF a b f (x + 12 * y) (f (x + 12 * y)).toNat ≤ (x + 12 * y : Nat) := cntU_le _ _ _ _
          have q1 : (f (x + 12 * y)).toNat < 16 := by omega
          have q2 : -9223372036854775808 ≤ cntF a b f (x + 12 * y) (f (x + 12 * y)).toNat + 1 := by omega
          have q3 : cntF a b f (x + 12 * y) (f (x + 12 * y)).toNat + 1 ≤ 9223372036854775807 := by omega
          go_wp2_with (fail)
          go_roundw
          case rel =>
            refine ⟨x + 1, by omega, by go_num, ?_, ?_, ?_, ?_, ?_⟩
            · show _ = _
              rw [obj_setCell_other _ _ _ _ _ (by omega), hn1.objs _ k0, p1]
            · show _ = _
              rw [obj_setCell_other _ _ _ _ _ (by omega), hn1.objs _ k1, hz.out]
            · show _ = _
              rw [obj_set_arr o2 _ (f (x + 12 * y)).toNat _ (by first | rfl | omega), cntF_step (by omega) (by omega) hlx hlt]
            · exact (hn.trans hn1).setCell (by show w.heap.size ≤ w.heap.size + 1 + 1; omega) _
            · rw [World.size_setCell]; omega
          case measure => simp [intOf]; omega
        · have hxa : (x : Int) = a := by omega
          go_wp2_with (fail)
          go_roundw
          case rel =>
            refine ⟨y + 1, by omega, by go_num, hp, hz, ?_, hn, hlw⟩
            show _ = _
            rw [ho.out, cntF_row (by omega) (by omega) hxa hlt]
          case measure => simp [intOf]; omega
    · have hyb : (y : Int) = b := by omega
      have o1 := ho.out
      have z1 := hz.out
      have k1 : w.heap.size + 1 < wo.heap.size := by omega
      have k2 : w.heap.size + 1 + 1 < wo.heap.size := by omega
      go_wp2_with (fail)
      refine ret_cell_tmp agg41 rfl rfl (c := arr 16 .i64 (cntF a b f (0 + 12 * y))) (t := 41) (fr := (0, 0)) (by go_simp) size_arr rfl ⟨?_, ?_⟩
      · rw [cntF_all (by omega) (by omega) hyb]
        rfl
      · exact hn.setRow (by omega) _
end Go.Proofs.YtomfjicjejoakaaDoor
/- Rows behind a row: made, read, held against themselves, marked; no condition. -/
set_option linter.unusedVariables false
namespace Go.Proofs.YtomfjicjejoakaaDoor
open Go.BigFrame
open Go.RowKit Go.Arr
variable {W W' : World} {base n : Nat} {v : Value} {vs : Nat → Value} {m : Nat → Nat} {F F' : Nat → Nat → Int}
def NewSl (W : World) (a : Option Addr) (n : Nat) (f : Nat → Int) : Prop := Reads W a n f
theorem NewSl.at {W W' : World} {a : Option Addr} {n : Nat} {f : Nat → Int} (h : NewSl W a n f) (hn : New W W') : Reads W' a n f := fun j hj => by
  obtain ⟨g, cur, h1, h2, h3⟩ := h j hj
  exact ⟨g, cur, h1, (hn.objs _ (obj_lt h2)).trans h2, h3⟩
/-- what has been counted ahead of row i -/
def sumM (m : Nat → Nat) : Nat → Nat
  | 0 => 0
  | i + 1 => sumM m i + m i
theorem sumM_le {m : Nat → Nat} {K : Nat} (h : ∀ i, m i ≤ K) (i : Nat) : sumM m i ≤ i * K := by
  induction i with
  | zero => simp [sumM]
  | succ i ih => have := h i; unfold sumM; rw [Nat.succ_mul]; omega
end Go.Proofs.YtomfjicjejoakaaDoor
/- The great law on fields: the small functions of the laws; no condition. -/
set_option linter.unusedVariables false
namespace Go.Proofs.YtomfjicjejoakaaDoor
open Go.BigFrame
open Go.RowKit Go.Arr
set_option maxHeartbeats 400000 in
theorem a2Long_any (x y : Option Addr) (n c m d : Nat) (w : World) : Calls Tryd.prog 4 #[.slice x n c, .slice y m d] w fun e w' => e = .returned (.bool (decide (3000 < n) || decide (3000 < m))) ∧ w = w' := by
  by_cases h : (3000 : Int) < n
  · have hd : Hid ((decide (3000 < n) || decide (3000 < m)) = true) := by show _ = _; rw [decide_eq_true (show 3000 < n by omega)]; rfl
    go_enter Tryd.func4, Tryd.ntmps4
    go_wp2_with (fail)
    go_ret
    exact ⟨by rw [hd.out]; rfl, rfl⟩
  · have hd : Hid ((decide (3000 < n) || decide (3000 < m)) = decide ((3000 : Int) < m)) := by
      show _ = _
      rw [decide_eq_false (show ¬ 3000 < n by omega), Bool.false_or, decide_eq_decide]
      omega
    go_enter Tryd.func4, Tryd.ntmps4
    go_wp2_with (fail)
    go_ret
    exact ⟨by rw [hd.out]; rfl, rfl⟩
/-- a number from some bytes -/
def atV (f : Nat → Int) (n i : Nat) (m : Int) : Int := if n ≤ i ∨ m < 1 then 0 else f i % m
theorem atV_b {f : Nat → Int} {n i : Nat} {m : Int} (hm : 1 ≤ m) : 0 ≤ atV f n i m ∧ atV f n i m < m := by
  unfold atV
  split
  · omega
  · exact ⟨Int.emod_nonneg _ (by omega), Int.emod_lt_of_pos _ (by omega)⟩
set_option maxHeartbeats 400000 in
theorem a2At_any (ad : Option Addr) (n c : Nat) (f : Nat → Int) (hf : ∀ i, 0 ≤ f i ∧ f i ≤ 255) (i : Nat) (m : Int) (hi : i ≤ 1000) (hm : 1 ≤ m ∧ m ≤ 1000) (hn : n ≤ 3000) (w : World) (hs : Sl w (.slice ad n c) n 1 .u8 f) :
    Calls Tryd.prog 17 #[.slice ad n c, .int .i64 (i : Nat), .int .i64 m] w fun e w' => e = .returned (.int .i64 (atV f n i m)) ∧ w = w' := by
  by_cases h : n ≤ i
  · have hv : Hid (atV f n i m = 0) := if_pos (Or.inl h)
    have h2 : (n : Int) ≤ i := by omega
    go_enter Tryd.func17, Tryd.ntmps17
    go_wp2_with (fail)
    go_ret
    exact ⟨by rw [hv.out]; rfl, rfl⟩
  · have hfi := hf i
    have hv : Hid (atV f n i m = f i % m) := if_neg (by omega)
    obtain ⟨g, off, cur, t, fr, rfl, o1, hel⟩ := elBytes hs (by omega)
    obtain ⟨l1, e1⟩ := hel i (by omega)
    have h2 : ¬ (n : Int) ≤ i := by omega
    have hwr : IntKind.i64.wrap (f i) = f i := by simp [IntKind.wrap, IntKind.bits, IntKind.signed]; omega
    have hmm : Int.tmod (f i) m = f i % m := Int.tmod_eq_emod_of_nonneg hfi.1
    have hb1 : 0 ≤ f i % m := Int.emod_nonneg _ (by omega)
    have hb2 : f i % m < m := Int.emod_lt_of_pos _ (by omega)
    clear hel hs
    go_enter Tryd.func17, Tryd.ntmps17
    go_wp2_with (fail)
    go_ret
    exact ⟨by rw [hv.out]; rfl, rfl⟩
end Go.Proofs.YtomfjicjejoakaaDoor
/- The great law on pictures: lists of four pictures, contracts with their values fixed; no condition. -/
set_option linter.unusedVariables false
namespace Go.Proofs.YtomfjicjejoakaaDoor
open Go.BigFrame
open Go.RowKit Go.Arr
/-- four pictures, one behind the other -/
def four (c1 c2 c3 c4 : Array Value) : Array Value := c1 ++ c2 ++ c3 ++ c4
def zp : Array Value := pic 144 0 0 fun _ => 0
def zl : Array Value := four zp zp zp zp
theorem size_four {c1 c2 c3 c4 : Array Value} (h1 : c1.size = 146) (h2 : c2.size = 146) (h3 : c3.size = 146) (h4 : c4.size = 146) : (four c1 c2 c3 c4).size = 584 := by simp [four, h1, h2, h3, h4]
theorem get_four {c1 c2 c3 c4 : Array Value} (h1 : c1.size = 146) (h2 : c2.size = 146) (h3 : c3.size = 146) (i : Nat) : (four c1 c2 c3 c4)[i]? = if i < 146 then c1[i]? else if i < 292 then c2[i - 146]? else if i < 438 then c3[i - 292]? else c4[i - 438]? := by
  unfold four
  rw [Array.getElem?_append, Array.getElem?_append, Array.getElem?_append]
  simp only [Array.size_append, h1, h2, h3]
  by_cases e1 : i < 146
  · rw [if_pos (by omega), if_pos (by omega), if_pos e1, if_pos e1]
  · by_cases e2 : i < 292
    · rw [if_pos (by omega), if_pos (by omega), if_neg e1, if_neg e1, if_pos e2]
    · by_cases e3 : i < 438
      · rw [if_pos (by omega), if_neg (by omega), if_neg e1, if_neg e2, if_pos e3]
      · rw [if_neg (by omega), if_neg e1, if_neg e2, if_neg e3]
/-- what the walk needs of the lists -/
structure Lists (P0 P1 P2 P3 L1 L2 L3 L4 : Array Value) : Prop where
  z1 : L1.size = 584
  z2 : L2.size = 584
  z3 : L3.size = 584
  z4 : L4.size = 584
  s0 : seg zl 0 P0 = L1
  s1 : seg L1 146 P1 = L2
  s2 : seg L2 292 P2 = L3
  s3 : seg L3 438 P3 = L4
  e0 : L4.extract 0 146 = P0
  e1 : L4.extract 146 292 = P1
theorem seg_four {c1 c2 c3 c4 X : Array Value} (h1 : c1.size = 146) (h2 : c2.size = 146) (h3 : c3.size = 146) (h4 : c4.size = 146) (hX : X.size = 146) :
    seg (four c1 c2 c3 c4) 0 X = four X c2 c3 c4 ∧ seg (four c1 c2 c3 c4) 146 X = four c1 X c3 c4 ∧ seg (four c1 c2 c3 c4) 292 X = four c1 c2 X c4 ∧ seg (four c1 c2 c3 c4) 438 X = four c1 c2 c3 X := by
  have hs := size_four h1 h2 h3 h4
  refine ⟨?_, ?_, ?_, ?_⟩ <;>
  · apply Array.ext_getElem?
    intro i
    rw [get_seg _ _ _ _ (by omega), hX, get_four h1 h2 h3]
    first | rw [get_four hX h2 h3] | rw [get_four h1 hX h3] | rw [get_four h1 h2 hX] | rw [get_four h1 h2 h3]
    by_cases e1 : i < 146
    · simp [e1] <;> (try omega)
    · by_cases e2 : i < 292
      · simp [e1, e2] <;> (try omega)
      · by_cases e3 : i < 438
        · simp [e1, e2, e3] <;> (try omega)
        · by_cases e4 : i < 584
          · simp [e1, e2, e3, e4] <;> (try omega)
          · simp [e1, e2, e3, e4] <;> (try rw [Array.getElem?_eq_none (by omega), Array.getElem?_eq_none (by omega)])
theorem ext_four {c1 c2 c3 c4 : Array Value} (h1 : c1.size = 146) (h2 : c2.size = 146) (h3 : c3.size = 146) (h4 : c4.size = 146) : (four c1 c2 c3 c4).extract 0 146 = c1 ∧ (four c1 c2 c3 c4).extract 146 292 = c2 := by
  have hs := size_four h1 h2 h3 h4
  constructor
  · apply Array.ext_getElem?
    intro i
    rw [Array.getElem?_extract, hs, get_four h1 h2 h3]
    by_cases e : i < 146
    · rw [if_pos (by omega), if_pos (by omega), Nat.zero_add]
    · rw [if_neg (by omega), Array.getElem?_eq_none (by omega)]
  · apply Array.ext_getElem?
    intro i
    rw [Array.getElem?_extract, hs, get_four h1 h2 h3]
    by_cases e : i < 146
    · rw [if_pos (by omega), if_neg (by omega), if_pos (by omega), Nat.add_sub_cancel_left]
    · rw [if_neg (by omega), Array.getElem?_eq_none (by omega)]
theorem lists_are (P0 P1 P2 P3 : Array Value) (h0 : P0.size = 146) (h1 : P1.size = 146) (h2 : P2.size = 146) (h3 : P3.size = 146) : ∃ L1 L2 L3 L4, Lists P0 P1 P2 P3 L1 L2 L3 L4 := by
  have hz : zp.size = 146 := size_pic
  refine ⟨four P0 zp zp zp, four P0 P1 zp zp, four P0 P1 P2 zp, four P0 P1 P2 P3, size_four h0 hz hz hz, size_four h0 h1 hz hz, size_four h0 h1 h2 hz, size_four h0 h1 h2 h3, (seg_four hz hz hz hz h0).1, (seg_four h0 hz hz hz h1).2.1, (seg_four h0 h1 hz hz h2).2.2.1, (seg_four h0 h1 h2 hz h3).2.2.2, (ext_four h0 h1 h2 h3).1, (ext_four h0 h1 h2 h3).2⟩
theorem size_zl : zl.size = 584 := size_four size_pic size_pic size_pic size_pic
theorem seg_zl : seg zl 0 zl = zl := seg_all _ _ rfl
theorem ones_zl : ones zl := by
  intro v hv
  unfold zl four at hv
  simp only [Array.toList_append, List.mem_append] at hv
  rcases hv with ((h | h) | h) | h <;> exact ones_pic v h
set_option maxRecDepth 100000 in
theorem aggL4 : AggTy Tryd.prog 35 584 := ⟨⟨_, Tryd.underlying35, rfl⟩, by kernel_rfl⟩
theorem lvL4 : loadVar 35 = aggLoad 35 := rfl
theorem svL4 : storeVar 35 = aggStore 35 := rfl
theorem ldL4 (g off : Nat) (w : World) : (aggLoad 35 ⟨g, off, none⟩).run Tryd.prog w = segOr (obj w g) off 584 w ((aggLoadOld 35 ⟨g, off, none⟩).run Tryd.prog w) := run_aggLoad 35 584 _ Tryd.underlying35 rfl (by kernel_rfl) g off w
theorem stL4 (g off : Nat) (v : Value) (w : World) : (aggStore 35 ⟨g, off, none⟩ v).run Tryd.prog w = segStoreOr (obj w g) g off 584 v w ((aggStoreOld 35 ⟨g, off, none⟩ v).run Tryd.prog w) := run_aggStore 35 584 (by kernel_rfl) g off v w
set_option maxRecDepth 100000 in
theorem zeroL4 (w : World) : (zeroValue 35).run Tryd.prog w = .ok (.agg zl) w := by kernel_rfl
set_option maxRecDepth 100000 in
theorem bldL4 (w : World) : (Instr.build 35 #[]).run Tryd.prog w = .ok (.agg zl) w := by kernel_rfl
theorem sizeI64 (w : World) : (sizeOf 2).run Tryd.prog w = .ok 1 w := by kernel_rfl
theorem eqK16 (w : World) (d : Nat) (f g : Nat → Int) : (Op.equalIn (d + 2) 41 (.agg (arr 16 .i64 f)) (.agg (arr 16 .i64 g))).run Tryd.prog w = .ok (eqUpto 16 f g) w := run_equalIn_arr w d 41 2 Tryd.underlying41 Tryd.underlying2 sizeI64
theorem neK16 (w : World) (f g : Nat → Int) : (binOp .neq 41 (.agg (arr 16 .i64 f)) (.agg (arr 16 .i64 g))).run Tryd.prog w = .ok (.bool (!eqUpto 16 f g)) w := by
  have e1 := eqK16 w 9997 f g
  have e2 := eqK16 w 9998 f g
  go_simp
  try simp [e1]
  try simp [e2]
attribute [go_sem ↓] lvL4 svL4 zeroL4
attribute [go_sem] ldL4 stL4 size_zl seg_zl ones_zl
attribute [go_sem high] bldL4 neK16
/-- contracts -/
theorem rd_ik {a b : Int} {q : Nat → Int} {s : ByteArray} (h : PpTxt a b q s) (m : Int) (W : World) (hm : W.cell? ⟨Tryd.laysM146_ren.g 1, 0, none⟩ = some (.int .i64 m)) :
    Calls Tryd.prog 6 #[.string s] W fun e w' => e = .returned (.tuple #[.agg (pic 144 a b q), .int .i64 0]) ∧ New W w' := by
  have := readPic_impl s h.size m W hm
  rw [h.pict, h.code] at this
  exact this
theorem txt_ik {a b : Int} {q : Nat → Int} {s : ByteArray} (h : PpTxt a b q s) (ha : -128 ≤ a ∧ a ≤ 127) (hb : -128 ≤ b ∧ b ≤ 127) (hf : ∀ i, 0 ≤ q i ∧ q i ≤ 255) (w : World) :
    Calls Tryd.prog 7 #[.agg (pic 144 a b q)] w fun e w' => e = .returned (.string s) ∧ New w w' := by
  have := txt_impl a b q ha hb hf w
  rw [h.txt] at this
  exact this
theorem valid_ik {a b : Int} {q : Nat → Int} (h : okPic a b q = true) (ha : -128 ≤ a ∧ a ≤ 127) (hb : -128 ≤ b ∧ b ≤ 127) (hf : ∀ i, 0 ≤ q i ∧ q i ≤ 255) (w : World) :
    Calls Tryd.prog 12 #[.agg (pic 144 a b q)] w fun e w' => e = .returned (.bool true) ∧ New w w' := by
  have := validPicture_impl a b q ha hb hf w
  rw [h] at this
  exact this
theorem eqPic_self (a b : Int) (q : Nat → Int) : eqPic 144 a b q a b q = true := by unfold eqPic; simp [eqUpto]
theorem same_ik (a b : Int) (q : Nat → Int) (w : World) :
    Calls Tryd.prog 13 #[.agg (pic 144 a b q), .agg (pic 144 a b q)] w fun e w' => e = .returned (.bool true) ∧ New w w' := by
  have := samePicture_impl a b a b q q w
  rw [eqPic_self] at this
  exact this
theorem sym_ik {a b : Int} {q : Nat → Int} {S : Int} (hs : symV a b q = S) (hc : symC a b q = 0) (ha : -128 ≤ a ∧ a ≤ 127) (hb : -128 ≤ b ∧ b ≤ 127) (hf : ∀ i, 0 ≤ q i ∧ q i ≤ 255) (w : World) :
    Calls Tryd.prog 16 #[.agg (pic 144 a b q)] w fun e w' => e = .returned (.tuple #[.int .i64 S, .int .i64 0]) ∧ New w w' := by
  have := sym_impl a b q ha hb hf w
  rw [hs, hc] at this
  exact this
theorem cnt_ik {a b : Int} {q C : Nat → Int} (h : cntA a b q = .tuple #[.agg (arr 16 .i64 C), .int .i64 0]) (ha : -128 ≤ a ∧ a ≤ 127) (hb : -128 ≤ b ∧ b ≤ 127) (hf : ∀ i, 0 ≤ q i ∧ q i ≤ 255) (w : World) :
    Calls Tryd.prog 21 #[.agg (pic 144 a b q)] w fun e w' => e = .returned (.tuple #[.agg (arr 16 .i64 C), .int .i64 0]) ∧ New w w' := by
  have := count_impl a b q ha hb hf w
  rw [h] at this
  exact this
theorem GoodQ.by {a b : Int} {q : Nat → Int} (h : GoodQ a b q) : ∀ i, 0 ≤ q i ∧ q i ≤ 255 := fun i => by have := h i; omega
end Go.Proofs.YtomfjicjejoakaaDoor
/- Loops taken out of a function's body; no condition. -/
set_option linter.unusedVariables false
namespace Go.Proofs.YtomfjicjejoakaaDoor
def loopsOf : Code → List Code
  | .loop c => [c]
  | .seq a b => loopsOf a ++ loopsOf b
  | .block _ c => loopsOf c
  | .scope c => loopsOf c
  | .cond _ a b => loopsOf a ++ loopsOf b
  | _ => []
noncomputable def loopIn (c : Code) (n : Nat) : Code := ((loopsOf c)[n]?).getD .skip
end Go.Proofs.YtomfjicjejoakaaDoor
