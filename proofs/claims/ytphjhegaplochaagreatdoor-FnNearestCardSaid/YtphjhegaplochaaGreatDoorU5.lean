/- The text of a palette: the reference and the program answer alike; no condition. -/
import Derived.Test.YtphjhegaplochaaGreatDoorU3
import Derived.Test.YtphjhegaplochaaGreatDoorU4
import Derived.Test.YtphjhegaplochaaGreatDoorU1
import Derived.Test.YtphjhegaplochaaGreatDoorU2
import Derived.Lib.Bytealg
import Derived.Lib.BufferWrite
import Derived.Laws.Strings3
set_option linter.unusedVariables false
namespace Go.Proofs.YtphjhegaplochaaGreatDoor
open Go.BigFrame
open Go.RowKit Go.Arr
theorem slStrs : SlTy Tryz.prog 70 9 (.string ByteArray.empty) 1 16 := ⟨Tryz.underlying70, by kernel_rfl, rfl, by omega⟩
/-- texts, in memory of the call's own -/
def TRow (W : World) (base : Nat) (v : Value) (n : Nat) (s : Nat → ByteArray) : Prop := W.ownsRow base 9 1 v n ((List.range n).map fun i => Value.string (s i))
section
variable {W W' : World} {base n : Nat} {v : Value} {s s' : Nat → ByteArray}
theorem TRow.new (h : TRow W base v n s) (hn : New W W') : TRow W' base v n s := own_new h hn
theorem TRow.form (h : TRow W base v n s) : ∃ a cap, v = .slice a n cap := by
  obtain ⟨hl, h | ⟨g, cap, cur, h1, _⟩⟩ := h
  · exact ⟨none, 0, by rw [h.2]; exact h.1⟩
  · exact ⟨_, _, h1⟩
theorem TRow.block (h : TRow W base v n s) : ∀ b, v.ownBlock = some b → base ≤ b ∧ b < W.heap.size := h.lt
theorem TRow.empty {g : Nat} (h : obj W g = some (.cells #[] 9)) (hb : base ≤ g) : TRow W base (.slice (some ⟨g, 0, none⟩) 0 0) 0 s :=
  ⟨by simp, .inr ⟨g, 0, #[], rfl, hb, h, by omega, by omega, rfl, by simp⟩⟩
theorem trow_app {g cap : Nat} (h : W'.ownsRow base 9 1 (.slice (some ⟨g, 0, none⟩) (n + 1) cap) (n + 1) ((List.range n).map (fun i => Value.string (s i)) ++ [.string (s n)])) : TRow W' base (.slice (some ⟨g, 0, none⟩) (n + 1) cap) (n + 1) s := by
  unfold TRow
  rw [List.range_succ, List.map_append, List.map_singleton]
  exact h
theorem TRow.cells {bk o c : Nat} (h : TRow W base (.slice (some ⟨bk, o, none⟩) n c) n s) : ∀ (j : Nat) x, ((List.range n).map s)[j]? = some x → W.cell? ⟨bk, o + j, none⟩ = some (.string x) := by
  intro j x hx
  obtain ⟨hl, h' | ⟨g, cap, cur, h1, h2, h3, h4, h5, h6, h7⟩⟩ := h
  · cases h'.1
  · simp only [Value.slice.injEq, Option.some.injEq, Addr.mk.injEq, and_true] at h1
    obtain ⟨⟨rfl, rfl⟩, _, rfl⟩ := h1
    have hj : j < n := by
      rcases Nat.lt_or_ge j n with h | h
      · exact h
      · rw [List.getElem?_eq_none (by simpa using h)] at hx; cases hx
    have e : (cur.toList.take (n * 1))[j]? = ((List.range n).map fun i => Value.string (s i))[j]? := by rw [h7]
    rw [Nat.mul_one, List.getElem?_take, if_pos hj, Array.getElem?_toList] at e
    rw [cell_obj, show obj W bk = _ from h3, cellOf_cells, Nat.zero_add, e]
    simp [hj] at hx ⊢
    exact hx
end
/-- a tone's text; a palette's -/
def ttL (f : Nat → Int) (i : Nat) : List Int := 35 :: hexUpto (sel (f (i * 3)) (f (i * 3 + 1)) (f (i * 3 + 2))) 3
def palL (f : Nat → Int) : Nat → List Int
  | 0 => []
  | k + 1 => (if k = 0 then [] else palL f k ++ [32]) ++ ttL f k
theorem ttL_text (f : Nat → Int) (i : Nat) : toneText (f (i * 3)) (f (i * 3 + 1)) (f (i * 3 + 2)) = bstr (ttL f i) := rfl
theorem length_ttL (f : Nat → Int) (i : Nat) : (ttL f i).length = 7 := by unfold ttL; simp [length_hexUpto]
theorem palL_s (f : Nat → Int) {k : Nat} (h : 0 < k) : palL f (k + 1) = palL f k ++ [32] ++ ttL f k := by rw [palL, if_neg (by omega)]
theorem length_palL (f : Nat → Int) (k : Nat) : (palL f k).length ≤ 8 * k := by
  induction k with
  | zero => simp [palL]
  | succ k ih =>
    rw [palL, List.length_append, length_ttL]
    split
    · simp
      omega
    · simp only [List.length_append, List.length_singleton]; omega
theorem bstr_cat (l m : List Int) : bstr l ++ bstr m = bstr (l ++ m) := by
  unfold bstr
  rw [ByteArray.ext_iff]
  simp [bytesOf]
theorem data_bstr (l : List Int) : (bstr l).data.toList = bytesOf l := by simp [bstr]
theorem size_bs (l : List Int) : (bstr l).size = l.length := by unfold bstr; simp [bytesOf, ByteArray.size]
theorem join_snoc (xs : List (List UInt8)) (y sep : List UInt8) (h : xs ≠ []) : Lib.join (xs ++ [y]) sep = Lib.join xs sep ++ sep ++ y := by
  cases xs with
  | nil => exact absurd rfl h
  | cons x r =>
    rw [List.cons_append, Lib.join_cons, Lib.join_cons]
    simp [Lib.joinTail]
theorem join_palL (f : Nat → Int) (n : Nat) : Lib.join (((List.range n).map fun i => bstr (ttL f i)).map (·.data.toList)) [32] = bytesOf (palL f n) := by
  induction n with
  | zero => rfl
  | succ n ih =>
    rw [List.range_succ, List.map_append, List.map_append, List.map_singleton, List.map_singleton]
    by_cases h : n = 0
    · subst h
      simp [Lib.join_one, palL, data_bstr]
    · rw [join_snoc _ _ _ (by simp; omega), ih, palL_s f (by omega), data_bstr]
      simp [bytesOf]
def ptA (n : Nat) (f : Nat → Int) : ByteArray := if okPal n f = true then bstr (palL f n) else ⟨#[]⟩
set_option maxHeartbeats 2000000 in
set_option maxRecDepth 100000 in
theorem palText_impl (a : Option Addr) (n c : Nat) (f : Nat → Int) (hf : ∀ i, 0 ≤ f i ∧ f i ≤ 255) (hn : n ≤ 1048576) (hc : n ≤ c) (W : World) (hs : Sl W (.slice a n c) n 3 .u8 f) :
    Calls Tryz.prog 8 #[.slice a n c] W fun e w' => e = .returned (.string (ptA n f)) ∧ New W w' := by
  cases h : okPal n f
  · have hA : Hid (ptA n f = ⟨#[]⟩) := if_neg (by rw [h]; simp)
    go_enter Tryz.func8, Tryz.ntmps8
    go_wp2_with (fail)
    refine (validPal_impl a n c f hn hc _ hs).mono ?_
    rintro e w1 ⟨rfl, hn1⟩
    rw [h]
    go_wp2_with (fail)
    go_ret
    exact ⟨by rw [hA.out]; rfl, hn1⟩
  · have hA : Hid (ptA n f = bstr (palL f n)) := if_pos h
    have hp := okPal_pos h
    have hjl : (Lib.join (((List.range n).map fun i => bstr (ttL f i)).map (·.data.toList)) (⟨#[32]⟩ : ByteArray).data.toList).length ≤ 140737488355328 := by
      show (Lib.join (((List.range n).map fun i => bstr (ttL f i)).map (·.data.toList)) [32]).length ≤ _
      rw [join_palL]
      have := length_palL f n
      simp [bytesOf]
      omega
    have hje : (⟨(Lib.join (((List.range n).map fun i => bstr (ttL f i)).map (·.data.toList)) (⟨#[32]⟩ : ByteArray).data.toList).toArray⟩ : ByteArray) = bstr (palL f n) := by
      show (⟨(Lib.join (((List.range n).map fun i => bstr (ttL f i)).map (·.data.toList)) [32]).toArray⟩ : ByteArray) = _
      rw [join_palL]
      rfl
    have hjl := hide hjl
    have hje := hide hje
    obtain ⟨g, off, cur, t, fr, rfl, o1, hx⟩ := elsPal hs hp.1
    have hx := hide hx
    have q1 := obj_lt o1
    go_enter Tryz.func8, Tryz.ntmps8
    go_wp2_with (fail)
    refine (validPal_impl _ n c f hn hc _ hs).mono ?_
    rintro e w1 ⟨rfl, hn1⟩
    rw [h]
    clear h hs
    have hz1 := hn1.le
    go_wp2_with (fail)
    go_loopw [3, 12] (fun v x wr => ∃ k : Nat, k ≤ n ∧ x = .int .i64 k ∧ TRow wr W.heap.size v k (fun i => bstr (ttL f i)) ∧ New W wr) (fun _ x _ => n - (intOf x).toNat)
    case atStart => exact ⟨0, by omega, rfl, TRow.empty (obj_alloc_at _ _ _ (by simp)) (by omega), hn1.alloc _⟩
    case round =>
      obtain ⟨k, hk, rfl, hrow, hnw⟩ := hrel
      by_cases hlt : k < n
      · have p1 := (hnw.objs _ q1).trans o1
        have x1 := (hx.out k hlt).1
        have l1 := (hx.out k hlt).2
        have r1 := obj_lt p1
        have hzw := hnw.le
        clear o1
        go_wp2_with (fail)
        refine (toneText_impl _ _ _ (hf _) (hf _) (hf _) _).mono ?_
        rintro e w2 ⟨rfl, hn2⟩
        rw [ttL_text]
        have hrow2 := (hrow.new ((New.refl _).alloc (Obj.cells #[.int .u8 (f (k * 3)), .int .u8 (f (k * 3 + 1)), .int .u8 (f (k * 3 + 2))] 26))).new hn2
        have hN2 := (hnw.alloc (Obj.cells #[.int .u8 (f (k * 3)), .int .u8 (f (k * 3 + 1)), .int .u8 (f (k * 3 + 2))] 26)).trans hn2
        have hbk := hrow2.block
        have hz2 := hN2.le
        obtain ⟨x3, y3, rfl⟩ := hrow.form
        clear hrow hn2 p1
        go_wp2_with (at_builtin; refine wpList_app slStrs rfl _ _ rfl W.heap.size _ _ _ rfl (hrow2.new ((New.refl _).alloc _)) ⟨w2.heap.size, 0, none⟩ 1 1 [.string (bstr (ttL f k))] rfl rfl (news_new _ _ _ _ _ rfl) (by simp [Value.oneCell']) (by omega) (by unfold maxLen; omega) (by omega) (by simp; omega) ?_)
        intro g1 cap1 w3 hown1 hg1 hat1 hlt1
        have hrow3 := trow_app hown1
        have hN3 : New W w3 := grown_new (hN2.alloc _) hg1 fun b hb => (hbk b hb).1
        clear hown1 hg1 hat1 hrow2
        go_wp2_with (fail)
        go_roundw
        case rel => exact ⟨k + 1, by omega, by go_num, hrow3, hN3⟩
        case measure => simp [intOf]; omega
      · obtain rfl : k = n := by omega
        obtain ⟨x3, y3, rfl⟩ := hrow.form
        obtain ⟨bk, rfl⟩ : ∃ bk, x3 = some ⟨bk, 0, none⟩ := by
          obtain ⟨hl, h' | ⟨g', cap, cur', h1, _⟩⟩ := hrow
          · omega
          · simp only [Value.slice.injEq] at h1; exact ⟨g', h1.1⟩
        have hcap : k ≤ y3 := by
          obtain ⟨hl, h' | ⟨g', cap, cur', h1, h2, h3, h4, _⟩⟩ := hrow
          · omega
          · simp only [Value.slice.injEq] at h1; omega
        have hcl := hide hrow.cells
        have hbk := (hrow.block bk rfl).2
        have hln : ((List.range k).map fun i => bstr (ttL f i)).length = k := by simp
        go_wp2_with (fail)
        have hj := join_any bk 0 y3 ((List.range k).map fun i => bstr (ttL f i)) ⟨#[32]⟩ wr hcl.out hbk (by rw [hln]; omega) (by rw [hln]; exact hcap) hjl.out
        rw [hln, hje.out] at hj
        refine hj.mono ?_
        rintro e w4 ⟨rfl, hn4⟩
        go_wp2_with (fail)
        go_ret
        exact ⟨by rw [hA.out]; rfl, hnw.trans hn4⟩
end Go.Proofs.YtphjhegaplochaaGreatDoor
/- A tone read from its text: the reference and the program answer alike; no condition. -/
set_option linter.unusedVariables false
namespace Go.Proofs.YtphjhegaplochaaGreatDoor
open Go.BigFrame
open Go.RowKit Go.Arr
theorem slBytes2 : SlTy Tryz.prog 22 5 (.int .u8 0) 1 1 := ⟨Tryz.underlying22, by kernel_rfl, rfl, by omega⟩
/-- the number of a hexadecimal digit, or -1 -/
def hexv (x : Int) : Int := if 48 ≤ x ∧ x ≤ 57 then x - 48 else if 97 ≤ x ∧ x ≤ 102 then x - 87 else -1
theorem hexv_b (x : Int) : -1 ≤ hexv x ∧ hexv x ≤ 15 := by
  unfold hexv
  split
  · omega
  · split <;> omega
def bAt (s : ByteArray) (i : Nat) : Int := ((s.data.getD i 0).toNat : Int)
theorem bAt_b (s : ByteArray) (i : Nat) : 0 ≤ bAt s i ∧ bAt s i ≤ 255 := by
  unfold bAt
  have := (s.data.getD i 0).toNat_lt
  omega
theorem bAt_get (s : ByteArray) (i : Nat) (h : i < s.size) : ((s[i].toNat : Nat) : Int) = bAt s i := by
  unfold bAt
  have hkd : i < s.data.size := h
  rw [Array.getD_eq_getD_getElem?, Array.getElem?_eq_getElem hkd]
  rfl
def digs : ByteArray := ⟨#[48, 49, 50, 51, 52, 53, 54, 55, 56, 57, 97, 98, 99, 100, 101, 102]⟩
set_option maxRecDepth 100000 in
theorem hexv_fin : ∀ n : Fin 256, Lib.indexByte digs.data.toList (((n.val : Nat) : Int).toNat.toUInt8) = hexv ((n.val : Nat) : Int) := by decide +kernel
set_option maxRecDepth 100000 in
theorem hexv_idx (x : Int) (h0 : 0 ≤ x) (h1 : x ≤ 255) : Lib.indexByte digs.data.toList x.toNat.toUInt8 = hexv x := by
  obtain ⟨n, rfl⟩ := Int.eq_ofNat_of_zero_le h0
  exact hexv_fin ⟨n, by omega⟩
set_option maxHeartbeats 400000 in
set_option maxRecDepth 100000 in
theorem litIndexByte_any (s : ByteArray) (c : Int) (w : World) : Calls Tryz.prog 121 #[.string s, .int .u8 c] w fun e w' => e = .returned (.int .i64 (Lib.indexByte s.data.toList c.toNat.toUInt8)) ∧ w = w' := by
  go_enter Tryz.func121, Tryz.ntmps121
  go_wp2_with (fail)
  rw [run_callFunc_extern Tryz.func133 (by kernel_rfl) (by kernel_rfl) (by kernel_rfl) (e := Extern.BytealgIndexByte.indexByte) (by kernel_rfl), Lib.run_indexByteString]
  simp only [Result.andThen]
  rw [Oper.upon_value]
  go_wp2_with (fail)
  go_ret
  exact ⟨rfl, rfl⟩
set_option maxHeartbeats 400000 in
set_option maxRecDepth 100000 in
theorem digIndex_any (x : Int) (h0 : 0 ≤ x ∧ x ≤ 255) (w : World) : Calls Tryz.prog 99 #[.string ⟨#[48, 49, 50, 51, 52, 53, 54, 55, 56, 57, 97, 98, 99, 100, 101, 102]⟩, .int .u8 x] w fun e w' => e = .returned (.int .i64 (hexv x)) ∧ New w w' := by
  have hx := hexv_idx x h0.1 h0.2
  go_enter Tryz.func99, Tryz.ntmps99
  go_wp2_with (fail)
  refine (litIndexByte_any _ _ _).mono ?_
  rintro e w1 ⟨rfl, rfl⟩
  rw [show Lib.indexByte (ByteArray.data ⟨#[48, 49, 50, 51, 52, 53, 54, 55, 56, 57, 97, 98, 99, 100, 101, 102]⟩).toList x.toNat.toUInt8 = hexv x from hx]
  go_wp2_with (fail)
  go_ret
  exact ⟨rfl, New.refl w⟩
/-- the pairs of digits of a text -/
def pairV (s : ByteArray) (k : Nat) : Int := 16 * hexv (bAt s (2 * k)) + hexv (bAt s (2 * k + 1))
def pairOk (s : ByteArray) (k : Nat) : Bool := decide (0 ≤ hexv (bAt s (2 * k))) && decide (0 ≤ hexv (bAt s (2 * k + 1)))
def pairL (s : ByteArray) : Nat → List Int
  | 0 => []
  | k + 1 => pairL s k ++ [pairV s k]
theorem length_pairL (s : ByteArray) (k : Nat) : (pairL s k).length = k := by
  induction k with
  | zero => rfl
  | succ k ih => simp [pairL, ih]
def hexOk (s : ByteArray) : Bool := (List.range (s.size / 2)).all (pairOk s)
def fhS (s : ByteArray) : ByteArray := if hexOk s = true then bstr (pairL s (s.size / 2)) else ⟨#[]⟩
def fhB (s : ByteArray) : Bool := hexOk s && decide (s.size % 2 = 0)
theorem fhS_f {s : ByteArray} (h : hexOk s = false) : fhS s = ⟨#[]⟩ := if_neg (by simp [h])
theorem fhS_t {s : ByteArray} (h : hexOk s = true) : fhS s = bstr (pairL s (s.size / 2)) := if_pos h
theorem fhB_f {s : ByteArray} (h : hexOk s = false) : fhB s = false := by unfold fhB; rw [h]; rfl
theorem fhB_t {s : ByteArray} (h : hexOk s = true) : fhB s = decide (s.size % 2 = 0) := by unfold fhB; rw [h]; rfl
theorem upto_h {p : Nat → Bool} {k : Nat} (h : ∀ j, j < k → p j = true) (hk : p k = true) : ∀ j, j < k + 1 → p j = true := by
  intro j hj
  rcases Nat.lt_succ_iff_lt_or_eq.1 hj with h1 | rfl
  · exact h j h1
  · exact hk
set_option maxHeartbeats 2000000 in
set_option maxRecDepth 100000 in
theorem fromHex_any (s : ByteArray) (hs : s.size ≤ 1048576) (w : World) :
    Calls Tryz.prog 78 #[.string s] w fun e w' => e = .returned (.tuple #[.string (fhS s), .bool (fhB s)]) ∧ New w w' := by
  go_enter Tryz.func78, Tryz.ntmps78
  go_wp2_with (fail)
  go_loopw [4, 5] (fun v i wr => ∃ (q k g cap : Nat), q ≤ s.size ∧ i = .int .i64 (q : Int) ∧ Hid (q = 2 * k) ∧ v = .slice (some ⟨g, 0, none⟩) k cap ∧ wr.ownsRow w.heap.size 5 1 (.slice (some ⟨g, 0, none⟩) k cap) k ((pairL s k).map (Value.int .u8)) ∧ Hid (∀ j, j < k → pairOk s j = true) ∧ New w wr) (fun _ i _ => s.size - (intOf i).toNat)
  case atStart =>
    refine ⟨0, 0, w.heap.size, 0, by omega, rfl, rfl, rfl, ?_, fun j hj => absurd hj (by omega), (New.refl w).alloc _⟩
    exact own_of_obj (cur := #[]) (by go_simp) (by omega) (by omega) (by decide) rfl
  case round =>
    obtain ⟨q, k, g, cap, hk, rfl, hqk, rfl, hown, hal, hn⟩ := hrel
    by_cases hlt : q + 1 < s.size
    · have hl := hn.le
      have x0 := bAt_get s q (by omega)
      have x1 := bAt_get s (q + 1) hlt
      have y0 := bAt_b s q
      have y1 := bAt_b s (q + 1)
      have z0 := hexv_b (bAt s q)
      have z1 := hexv_b (bAt s (q + 1))
      have hlt0 : q < s.size := by omega
      have hkb : k ≤ 1048576 := by have := hqk.out; omega
      by_cases c0 : 0 ≤ hexv (bAt s q)
      · by_cases c1 : 0 ≤ hexv (bAt s (q + 1))
        · have hp : Hid (pairOk s k = true) := by show _ = _; rw [pairOk, ← hqk.out]; simp [c0, c1]
          have hv : Hid (16 * hexv (bAt s q) + hexv (bAt s (q + 1)) = pairV s k) := by show _ = _; rw [pairV, ← hqk.out]
          go_wp2_with (fail)
          refine wp_region_new (by kernel_rfl) (by kernel_rfl) ?_
          repeat (go_big_quiet_step (first | fail | (go_at_call 99; with_reducible exact calls_new (digIndex_any _ (by assumption) _))))
          refine wpQuiet_nil ?_
          intro w1 hc1
          have hn1 := NewW.of hc1
          clear hc1
          have ho1 := hn1.objs
          have hz1 := hn1.le
          try simp at hz1
          have hown1 := own_new hown hn1
          have hnn := hn.trans hn1
          clear hown hn hn1 ho1
          go_wp2_with (at_builtin; refine wpList_app slBytes2 rfl _ _ rfl w.heap.size _ _ _ rfl (own_new hown1 ((New.refl _).alloc _)) ⟨w1.heap.size, 0, none⟩ 1 1 [.int .u8 (16 * hexv (bAt s q) + hexv (bAt s (q + 1)))] rfl rfl (news_new _ _ _ _ _ rfl) (by simp [Value.oneCell']) (by omega) (by unfold maxLen; omega) (by omega) (by simp; omega) ?_)
          intro g1 cap1 w2 hown2 hg1 hat1 hlt1
          obtain ⟨_, _, hbg, hbl, _⟩ := own_obj hown1
          have hn2 : New w w2 := grown_new (hnn.alloc _) hg1 (by simp [Value.ownBlock]; omega)
          clear hg1 hat1 hown1 hnn
          have hown3 : w2.ownsRow w.heap.size 5 1 (.slice (some ⟨g1, 0, none⟩) (k + 1) cap1) (k + 1) ((pairL s (k + 1)).map (Value.int .u8)) := by
            rw [hv.out] at hown2
            simpa [pairL] using hown2
          clear hown2
          go_wp2_with (fail)
          go_roundw
          case rel => exact ⟨q + 2, k + 1, g1, cap1, by omega, by go_num, by show _ = _; have := hqk.out; omega, rfl, hown3, upto_h hal.out hp.out, hn2⟩
          case measure => simp [intOf]; omega
        · have hp : Hid (hexOk s = false) := List.all_eq_false.2 ⟨k, by have := hqk.out; simp; omega, by rw [pairOk, ← hqk.out]; simp [c1]⟩
          go_wp2_with (fail)
          refine wp_region_new (by kernel_rfl) (by kernel_rfl) ?_
          repeat (go_big_quiet_step (first | fail | (go_at_call 99; with_reducible exact calls_new (digIndex_any _ (by assumption) _))))
          refine wpQuiet_nil ?_
          intro w2 hc2
          have hn2 := NewW.of hc2
          clear hc2
          have ho2 := hn2.objs
          have hz2 := hn2.le
          try simp at hz2
          go_wp2_with (fail)
          go_ret2
          exact ⟨by rw [fhS_f hp.out, fhB_f hp.out]; rfl, hn.trans hn2⟩
      · have hp : Hid (hexOk s = false) := List.all_eq_false.2 ⟨k, by have := hqk.out; simp; omega, by rw [pairOk, ← hqk.out]; simp [c0]⟩
        go_wp2_with (fail)
        refine wp_region_new (by kernel_rfl) (by kernel_rfl) ?_
        repeat (go_big_quiet_step (first | fail | (go_at_call 99; with_reducible exact calls_new (digIndex_any _ (by assumption) _))))
        refine wpQuiet_nil ?_
        intro w3 hc3
        have hn3 := NewW.of hc3
        clear hc3
        have ho3 := hn3.objs
        have hz3 := hn3.le
        try simp at hz3
        go_wp2_with (fail)
        go_ret2
        exact ⟨by rw [fhS_f hp.out, fhB_f hp.out]; rfl, hn.trans hn3⟩
    · have hk2 : Hid (k = s.size / 2) := by show _ = _; have := hqk.out; omega
      have hp : Hid (hexOk s = true) := by
        show _ = _
        unfold hexOk
        rw [← hk2.out]
        exact List.all_eq_true.2 fun i hi => hal.out i (by simpa using hi)
      obtain ⟨cur, hcur, _, _, hsz, _, _, hcu⟩ := own_obj hown
      have hst := run_string (P := Tryz.prog) (w := wr) (dst := 9) slBytes2.1 Tryz.underlying5 Tryz.underlying9 (len := k) (cap := cap) (l := pairL s k) hcur (length_pairL s k) (fun j hj => by
        rw [Nat.zero_add, hcu j (by omega), List.getElem?_map, List.getElem?_eq_getElem (by rw [length_pairL]; omega)]
        simp [List.getD, hj, length_pairL])
      have hq : Hid ((((s.size : Nat) : Int) % 2 == 0) = decide (s.size % 2 = 0)) := by
        show _ = _
        by_cases h : s.size % 2 = 0
        · rw [decide_eq_true h]; simp; omega
        · rw [decide_eq_false h]; simp; omega
      go_wp2_with (fail)
      go_ret2
      refine ⟨?_, hn⟩
      rw [fhS_t hp.out, fhB_t hp.out, ← hk2.out, ← hq.out]
      rfl
def foundB (s : ByteArray) : Bool := decide (1 ≤ s.size) && (bAt s 0 == 35)
def restS (s : ByteArray) : ByteArray := if foundB s = true then s.extract 1 s.size else s
theorem ext_one (s : ByteArray) (h : 1 ≤ s.size) : ((s.extract 0 1).toList == ([35] : List UInt8)) = (bAt s 0 == 35) := by
  rw [Lib.extract_toList]
  obtain ⟨l⟩ := s
  obtain ⟨l⟩ := l
  match l, h with
  | x :: l, _ =>
    have hb : ∀ y : UInt8, (y == 35) = (((y.toNat : Nat) : Int) == 35) := by
      intro y
      by_cases e : y = 35
      · subst e; rfl
      · have e2 : ¬ ((y.toNat : Nat) : Int) = 35 := fun e3 => e (UInt8.toNat_inj.1 (by show y.toNat = 35; omega))
        rw [show (y == 35) = false from beq_eq_false_iff_ne.2 e, show (((y.toNat : Nat) : Int) == 35) = false from beq_eq_false_iff_ne.2 e2]
    rw [show bAt ⟨⟨x :: l⟩⟩ 0 = ((x.toNat : Nat) : Int) from rfl]
    simpa using hb x
set_option maxHeartbeats 400000 in
set_option maxRecDepth 100000 in
theorem hasHash_any (s : ByteArray) (w : World) : Calls Tryz.prog 120 #[.string s, .string ⟨#[35]⟩] w fun e w' => e = .returned (.bool (foundB s)) ∧ w = w' := by
  by_cases h : 1 ≤ s.size
  · have hx := ext_one s h
    have hf : Hid (foundB s = (bAt s 0 == 35)) := by show _ = _; unfold foundB; rw [decide_eq_true h]; rfl
    go_enter Tryz.func120, Tryz.ntmps120
    go_wp2_with (fail)
    go_ret
    exact ⟨ret_b hf.out.symm, rfl⟩
  · have hf : Hid (foundB s = false) := by show _ = _; unfold foundB; rw [decide_eq_false h]; rfl
    go_enter Tryz.func120, Tryz.ntmps120
    go_wp2_with (fail)
    go_ret
    exact ⟨ret_b hf.out.symm, rfl⟩
theorem restS_t {s : ByteArray} (h : foundB s = true) : restS s = s.extract 1 s.size := if_pos h
theorem restS_f {s : ByteArray} (h : foundB s = false) : restS s = s := if_neg (by simp [h])
theorem foundB_len {s : ByteArray} (h : foundB s = true) : 1 ≤ s.size := by
  unfold foundB at h
  rw [Bool.and_eq_true] at h
  exact of_decide_eq_true h.1
set_option maxHeartbeats 400000 in
set_option maxRecDepth 100000 in
theorem cutHash_any (s : ByteArray) (w : World) : Calls Tryz.prog 77 #[.string s, .string ⟨#[35]⟩] w fun e w' => e = .returned (.tuple #[.string (restS s), .bool (foundB s)]) ∧ w = w' := by
  have hin : Calls Tryz.prog 98 #[.string s, .string ⟨#[35]⟩] w fun e w' => e = .returned (.tuple #[.string (restS s), .bool (foundB s)]) ∧ w = w' := by
    cases h : foundB s
    · rw [restS_f h]
      go_enter Tryz.func98, Tryz.ntmps98
      go_wp2_with (fail)
      refine (hasHash_any s _).mono ?_
      rintro e w1 ⟨rfl, rfl⟩
      rw [h]
      go_wp2_with (fail)
      go_ret2
      exact ⟨rfl, rfl⟩
    · rw [restS_t h]
      have hl := foundB_len h
      go_enter Tryz.func98, Tryz.ntmps98
      go_wp2_with (fail)
      refine (hasHash_any s _).mono ?_
      rintro e w1 ⟨rfl, rfl⟩
      rw [h]
      go_wp2_with (fail)
      go_ret2
      exact ⟨rfl, rfl⟩
  go_enter Tryz.func77, Tryz.ntmps77
  go_wp2_with (fail)
  refine hin.mono ?_
  rintro e w1 ⟨rfl, rfl⟩
  go_wp2_with (fail)
  go_ret2
  exact ⟨rfl, rfl⟩
/-- the six digits of a text of seven bytes -/
def dg (s : ByteArray) (i : Nat) : Int := hexv (bAt s i)
def toneV (s : ByteArray) (k : Nat) : Int := 16 * dg s (2 * k + 1) + dg s (2 * k + 2)
def okAt (s : ByteArray) (i : Nat) : Bool := decide (0 ≤ dg s i)
def okText (s : ByteArray) : Bool := decide (s.size = 7) && ((bAt s 0 == 35) && (okAt s 1 && (okAt s 2 && (okAt s 3 && (okAt s 4 && (okAt s 5 && okAt s 6))))))
def readV (s : ByteArray) : Nat → Int := if okText s = true then toneV s else fun _ => 0
theorem readV_t {s : ByteArray} (h : okText s = true) : readV s = toneV s := if_pos h
theorem readV_f {s : ByteArray} (h : okText s = false) : readV s = fun _ => 0 := if_neg (by simp [h])
theorem dg_b (s : ByteArray) (i : Nat) : -1 ≤ hexv (bAt s i) ∧ hexv (bAt s i) ≤ 15 := hexv_b _
end Go.Proofs.YtphjhegaplochaaGreatDoor
/- A tone read from its text: what the program returns, and the law; no condition. -/
set_option linter.unusedVariables false
namespace Go.Proofs.YtphjhegaplochaaGreatDoor
open Go.BigFrame
open Go.RowKit Go.Arr
def codeT (s : ByteArray) : Int := if okText s = true then 0 else 5
theorem codeT_t {s : ByteArray} (h : okText s = true) : codeT s = 0 := if_pos h
theorem codeT_f {s : ByteArray} (h : okText s = false) : codeT s = 5 := if_neg (by simp [h])
theorem bAt_rest {s : ByteArray} (h : foundB s = true) (i : Nat) : bAt (restS s) i = bAt s (i + 1) := by
  have hl := foundB_len h
  rw [restS_t h]
  obtain ⟨⟨l⟩⟩ := s
  unfold bAt
  congr 2
  rw [Array.getD_eq_getD_getElem?, Array.getD_eq_getD_getElem?]
  congr 1
  have e : (ByteArray.extract ⟨⟨l⟩⟩ 1 (ByteArray.size ⟨⟨l⟩⟩)).data.toList = l.drop 1 := by
    rw [← Lib.toList_data, Lib.extract_toList]
    show ((l.drop 1).take (l.length - 1)) = _
    rw [List.take_of_length_le (by simp)]
  rw [← Array.getElem?_toList, e, ← Array.getElem?_toList, List.getElem?_drop]
  congr 1
  omega
theorem size_rest {s : ByteArray} (h : foundB s = true) : (restS s).size = s.size - 1 := by
  rw [restS_t h]
  simp
theorem size_rest_le (s : ByteArray) : (restS s).size ≤ s.size := by
  cases h : foundB s
  · rw [restS_f h]; omega
  · rw [size_rest h]; omega
theorem size_bstr (l : List Int) : (bstr l).size = l.length := by
  show (bytesOf l).toArray.size = _
  simp [bytesOf]
theorem size_fhS (t : ByteArray) : (fhS t).size = if hexOk t = true then t.size / 2 else 0 := by
  cases h : hexOk t
  · rw [fhS_f h]; rfl
  · rw [fhS_t h, size_bstr, length_pairL]; rfl
theorem okText_iff (s : ByteArray) : okText s = true ↔ foundB s = true ∧ fhB (restS s) = true ∧ (fhS (restS s)).size = 3 := by
  cases hf : foundB s
  · refine ⟨fun h => ?_, fun h => by cases h.1⟩
    unfold okText at h
    simp only [Bool.and_eq_true, decide_eq_true_eq] at h
    unfold foundB at hf
    rw [h.2.1, decide_eq_true (by omega)] at hf
    cases hf
  have hl := foundB_len hf
  have hz := size_rest hf
  have hh : bAt s 0 = 35 := by
    unfold foundB at hf
    rw [Bool.and_eq_true] at hf
    exact beq_iff_eq.1 hf.2
  have hp : ∀ k, pairOk (restS s) k = (okAt s (2 * k + 1) && okAt s (2 * k + 2)) := by
    intro k
    unfold pairOk okAt dg
    rw [bAt_rest hf, bAt_rest hf]
  by_cases h7 : s.size = 7
  · have hx : hexOk (restS s) = ((okAt s 1 && okAt s 2) && (okAt s 3 && okAt s 4) && (okAt s 5 && okAt s 6)) := by
      unfold hexOk
      rw [hz, h7]
      show (List.range 3).all _ = _
      simp only [List.range_succ, List.range_zero, List.nil_append, List.all_append, List.all_cons, List.all_nil, Bool.and_true, hp]
    have ho : okText s = hexOk (restS s) := by
      rw [hx]
      unfold okText
      rw [decide_eq_true h7, beq_iff_eq.2 hh]
      cases okAt s 1 <;> cases okAt s 2 <;> cases okAt s 3 <;> cases okAt s 4 <;> cases okAt s 5 <;> cases okAt s 6 <;> rfl
    rw [ho, size_fhS]
    unfold fhB
    rw [hz, h7]
    cases hexOk (restS s) <;> simp
  · have ho : okText s = false := by unfold okText; rw [decide_eq_false h7]; rfl
    rw [ho, size_fhS]
    unfold fhB
    refine ⟨fun h => (by cases h), fun h => ?_⟩
    obtain ⟨_, h2, h3⟩ := h
    rw [Bool.and_eq_true] at h2
    rw [if_pos h2.1] at h3
    have h4 := of_decide_eq_true h2.2
    omega
theorem copy_cells {s : ByteArray} (h : okText s = true) : Lib.byteCells (fhS (restS s)).data.toList = [.int .u8 (toneV s 0), .int .u8 (toneV s 1), .int .u8 (toneV s 2)] := by
  obtain ⟨hf, hb, h3⟩ := (okText_iff s).1 h
  have hx : hexOk (restS s) = true := by
    unfold fhB at hb
    rw [Bool.and_eq_true] at hb
    exact hb.1
  have h4 : (restS s).size / 2 = 3 := by rw [size_fhS, if_pos hx] at h3; exact h3
  have hv : ∀ k, pairV (restS s) k = toneV s k := by
    intro k
    unfold pairV toneV dg
    rw [bAt_rest hf, bAt_rest hf]
  have hb3 : ∀ k, k < 3 → 0 ≤ toneV s k ∧ toneV s k ≤ 255 := by
    intro k hk
    have h5 := List.all_eq_true.1 hx k (by rw [h4]; simpa using hk)
    unfold pairOk at h5
    rw [Bool.and_eq_true, decide_eq_true_eq, decide_eq_true_eq] at h5
    have b0 := hexv_b (bAt (restS s) (2 * k))
    have b1 := hexv_b (bAt (restS s) (2 * k + 1))
    rw [← hv]
    unfold pairV
    omega
  have hu : ∀ z : Int, 0 ≤ z ∧ z ≤ 255 → (((UInt8.ofNat z.toNat).toNat : Nat) : Int) = z := by
    intro z hz
    rw [UInt8.toNat_ofNat']
    omega
  rw [fhS_t hx, h4]
  show Lib.byteCells (bytesOf (pairL (restS s) 3)) = _
  simp only [pairL, hv, List.nil_append, List.cons_append, bytesOf, List.map_cons, List.map_nil, Lib.byteCells]
  rw [hu _ (hb3 0 (by omega)), hu _ (hb3 1 (by omega)), hu _ (hb3 2 (by omega))]
theorem run_copy3 {s : ByteArray} (h : okText s = true) (ty : TypeId) (b : Nat) (W : World) (hW : obj W b = some (.cells #[.int .u8 0, .int .u8 0, .int .u8 0] 26)) :
    (Builtin.copy_ #[22, 9] ty #[.slice (some ⟨b, 0, none⟩) 3 3, .string (fhS (restS s))]).run Tryz.prog W = .ok (goInt 3) (W.setRow b #[.int .u8 (toneV s 0), .int .u8 (toneV s 1), .int .u8 (toneV s 2)]) := by
  have h3 := ((okText_iff s).1 h).2.2
  have hr := Lib.run_copy_row_string (P := Tryz.prog) W 22 9 ty 5 b 0 3 3 (fhS (restS s)) #[.int .u8 0, .int .u8 0, .int .u8 0] 26 Tryz.underlying22 (by kernel_rfl) hW (by omega) (by rw [h3]; decide)
  rw [hr, h3, copy_cells h]
  rfl
set_option maxHeartbeats 1000000 in
set_option maxRecDepth 100000 in
theorem readTone_impl (s : ByteArray) (hs : s.size ≤ 1048576) (w : World) :
    Calls Tryz.prog 34 #[.string s] w fun e w' => e = .returned (.tuple #[.agg #[.int .u8 (readV s 0), .int .u8 (readV s 1), .int .u8 (readV s 2)], .int .i64 (codeT s)]) ∧ New w w' := by
  have hl := size_rest_le s
  cases ht : okText s
  · rw [codeT_f ht]
    have hr := readV_f ht
    have hno : foundB s = true → fhB (restS s) = true → ((((fhS (restS s)).size : Nat) : Int) != 3) = true := by
      intro h1 h2
      have h3 : ¬ (fhS (restS s)).size = 3 := fun h3 => by rw [(okText_iff s).2 ⟨h1, h2, h3⟩] at ht; cases ht
      simp
      omega
    cases hf : foundB s
    · go_enter Tryz.func34, Tryz.ntmps34
      go_wp2_with (fail)
      refine (cutHash_any s _).mono ?_
      rintro e w1 ⟨rfl, rfl⟩
      rw [hf]
      go_wp2_with (fail)
      refine (fromHex_any (restS s) (by omega) _).mono ?_
      rintro e1 w1 ⟨rfl, hn1⟩
      have ho1 := hn1.objs
      have hz1 := hn1.le
      try simp at hz1
      have b1 := (hn1.objs w.heap.size (by simp; omega)).trans ((obj_alloc_past _ _ _ (by simp)).trans (obj_alloc_at _ _ _ rfl))
      have hN := (((New.refl w).alloc _).alloc _).trans hn1
      clear hn1 ho1
      go_wp2_with (fail)
      refine ret_cell_tmp agg26 rfl rfl (c := #[.int .u8 0, .int .u8 0, .int .u8 0]) (t := 26) (fr := (0, 0)) (by go_simp) rfl rfl ⟨by first | rfl | (rw [hr]; rfl), ?_⟩
      exact hN.setRow (by omega) _
    have hno1 := hno hf
    clear hno
    cases hb : fhB (restS s)
    · go_enter Tryz.func34, Tryz.ntmps34
      go_wp2_with (fail)
      refine (cutHash_any s _).mono ?_
      rintro e w1 ⟨rfl, rfl⟩
      rw [hf]
      go_wp2_with (fail)
      refine (fromHex_any (restS s) (by omega) _).mono ?_
      rintro e2 w2 ⟨rfl, hn2⟩
      have ho2 := hn2.objs
      have hz2 := hn2.le
      try simp at hz2
      rw [hb]
      have b1 := (hn2.objs w.heap.size (by simp; omega)).trans ((obj_alloc_past _ _ _ (by simp)).trans (obj_alloc_at _ _ _ rfl))
      have hN := (((New.refl w).alloc _).alloc _).trans hn2
      clear hn2 ho2 hno1
      go_wp2_with (fail)
      refine ret_cell_tmp agg26 rfl rfl (c := #[.int .u8 0, .int .u8 0, .int .u8 0]) (t := 26) (fr := (0, 0)) (by go_simp) rfl rfl ⟨by first | rfl | (rw [hr]; rfl), ?_⟩
      exact hN.setRow (by omega) _
    · have hno2 := hno1 hb
      go_enter Tryz.func34, Tryz.ntmps34
      go_wp2_with (fail)
      refine (cutHash_any s _).mono ?_
      rintro e w1 ⟨rfl, rfl⟩
      rw [hf]
      go_wp2_with (fail)
      refine (fromHex_any (restS s) (by omega) _).mono ?_
      rintro e3 w3 ⟨rfl, hn3⟩
      have ho3 := hn3.objs
      have hz3 := hn3.le
      try simp at hz3
      rw [hb]
      have b1 := (hn3.objs w.heap.size (by simp; omega)).trans ((obj_alloc_past _ _ _ (by simp)).trans (obj_alloc_at _ _ _ rfl))
      have hN := (((New.refl w).alloc _).alloc _).trans hn3
      clear hn3 ho3 hno1
      go_wp2_with (fail)
      refine ret_cell_tmp agg26 rfl rfl (c := #[.int .u8 0, .int .u8 0, .int .u8 0]) (t := 26) (fr := (0, 0)) (by go_simp) rfl rfl ⟨by first | rfl | (rw [hr]; rfl), ?_⟩
      exact hN.setRow (by omega) _
  · rw [codeT_t ht]
    have hr := hide (readV_t ht)
    obtain ⟨hf, hb, h3⟩ := (okText_iff s).1 ht
    have hno : ((((fhS (restS s)).size : Nat) : Int) != 3) = false := by simp; omega
    have hcp := fun (ty : TypeId) (W : World) (hW : obj W (w.heap.size + 1) = some (.cells #[.int .u8 0, .int .u8 0, .int .u8 0] 26)) => run_copy3 ht ty (w.heap.size + 1) W hW
    go_enter Tryz.func34, Tryz.ntmps34
    go_wp2_with (fail)
    refine (cutHash_any s _).mono ?_
    rintro e w1 ⟨rfl, rfl⟩
    rw [hf]
    go_wp2_with (fail)
    refine (fromHex_any (restS s) (by omega) _).mono ?_
    rintro e4 w4 ⟨rfl, hn4⟩
    have ho4 := hn4.objs
    have hz4 := hn4.le
    try simp at hz4
    rw [hb]
    have b1 := (hn4.objs w.heap.size (by simp; omega)).trans ((obj_alloc_past _ _ _ (by simp)).trans (obj_alloc_at _ _ _ rfl))
    have b2 := (hn4.objs (w.heap.size + 1) (by simp)).trans (obj_alloc_at _ _ _ (by simp))
    have hN := (((New.refl w).alloc _).alloc _).trans hn4
    have hcw := fun ty => hcp ty w4 b2
    clear hn4 ho4 hcp hf hb h3 ht
    go_wp2_with (fail)
    refine ret_cell_tmp agg26 rfl rfl (c := #[.int .u8 (toneV s 0), .int .u8 (toneV s 1), .int .u8 (toneV s 2)]) (t := 26) (fr := (0, 0)) (by go_simp) rfl rfl ⟨by rw [hr.out]; rfl, ?_⟩
    exact (hN.setRow (by omega) _).setRow (by omega) _
end Go.Proofs.YtphjhegaplochaaGreatDoor
