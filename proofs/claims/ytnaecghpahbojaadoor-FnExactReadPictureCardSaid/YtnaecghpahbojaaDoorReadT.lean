/- A tone read from its text: the reference and the program answer alike; no condition. -/
import Derived.Test.YtnaecghpahbojaaDoorTy
import Derived.Test.YtnaecghpahbojaaDoorSli
import Derived.Test.YtnaecghpahbojaaDoorStr
import Derived.Test.YtnaecghpahbojaaDoorSmall
import Derived.Test.YtnaecghpahbojaaDoorTone
import Derived.Lib.Bytealg
import Derived.Lib.BufferWrite
import Derived.Laws.Strings3
set_option linter.unusedVariables false
namespace Go.Proofs.YtnaecghpahbojaaDoor
open Go.BigFrame
open Go.RowKit Go.Arr
theorem slBytes2 : SlTy Tryd.prog 59 5 (.int .u8 0) 1 1 := ⟨Tryd.underlying59, by kernel_rfl, rfl, by omega⟩
/-- the number of a hexadecimal digit, or -1 -/
def hexv (x : Int) : Int := if 48 ≤ x ∧ x ≤ 57 then x - 48 else if 97 ≤ x ∧ x ≤ 102 then x - 87 else -1
theorem hexv_b (x : Int) : -1 ≤ hexv x ∧ hexv x ≤ 15 := by
  unfold hexv
  split
  · omega
  · split <;> omega
def bAt (s : ByteArray) (i : Nat) : Int := ((s.data.getD i 0).toNat : Int)
theorem bAt_b (s : ByteArray) (i : Nat) : 0 ≤ bAt s i ∧ bAt s i ≤ 255 := by
  unfold bAt
  have := (s.data.getD i 0).toNat_lt
  omega
theorem bAt_get (s : ByteArray) (i : Nat) (h : i < s.size) : ((s[i].toNat : Nat) : Int) = bAt s i := by
  unfold bAt
  have hkd : i < s.data.size := h
  rw [Array.getD_eq_getD_getElem?, Array.getElem?_eq_getElem hkd]
  rfl
set_option maxHeartbeats 400000 in
theorem l02Hex_any (x : Int) (h0 : 0 ≤ x ∧ x ≤ 255) (w : World) : Calls Tryd.prog 30 #[.int .u8 x] w fun e w' => e = .returned (.int .i64 (hexv x)) ∧ w = w' := by
  by_cases h1 : 48 ≤ x
  · by_cases h2 : x ≤ 57
    · have hv : hexv x = x - 48 := if_pos ⟨h1, h2⟩
      rw [hv]
      clear hv
      go_enter Tryd.func30, Tryd.ntmps30
      go_wp2_with (fail)
      go_ret
      exact ⟨rfl, rfl⟩
    · by_cases h3 : 97 ≤ x
      · by_cases h4 : x ≤ 102
        · have hv : hexv x = x - 97 + 10 := by unfold hexv; rw [if_neg (by omega), if_pos ⟨h3, h4⟩]; omega
          rw [hv]
          clear hv
          go_enter Tryd.func30, Tryd.ntmps30
          go_wp2_with (fail)
          go_ret
          exact ⟨rfl, rfl⟩
        · have hv : hexv x = -1 := by unfold hexv; rw [if_neg (by omega), if_neg (by omega)]
          rw [hv]
          clear hv
          go_enter Tryd.func30, Tryd.ntmps30
          go_wp2_with (fail)
          go_ret
          exact ⟨rfl, rfl⟩
      · have hv : hexv x = -1 := by unfold hexv; rw [if_neg (by omega), if_neg (by omega)]
        rw [hv]
        clear hv
        go_enter Tryd.func30, Tryd.ntmps30
        go_wp2_with (fail)
        go_ret
        exact ⟨rfl, rfl⟩
  · have hv : hexv x = -1 := by unfold hexv; rw [if_neg (by omega), if_neg (by omega)]
    rw [hv]
    clear hv
    go_enter Tryd.func30, Tryd.ntmps30
    go_wp2_with (fail)
    go_ret
    exact ⟨rfl, rfl⟩
def digs : ByteArray := ⟨#[48, 49, 50, 51, 52, 53, 54, 55, 56, 57, 97, 98, 99, 100, 101, 102]⟩
set_option maxRecDepth 100000 in
theorem hexv_fin : ∀ n : Fin 256, Lib.indexByte digs.data.toList (((n.val : Nat) : Int).toNat.toUInt8) = hexv ((n.val : Nat) : Int) := by decide +kernel
set_option maxRecDepth 100000 in
theorem hexv_idx (x : Int) (h0 : 0 ≤ x) (h1 : x ≤ 255) : Lib.indexByte digs.data.toList x.toNat.toUInt8 = hexv x := by
  obtain ⟨n, rfl⟩ := Int.eq_ofNat_of_zero_le h0
  exact hexv_fin ⟨n, by omega⟩
set_option maxHeartbeats 400000 in
set_option maxRecDepth 100000 in
theorem litIndexByte_any (s : ByteArray) (c : Int) (w : World) : Calls Tryd.prog 29 #[.string s, .int .u8 c] w fun e w' => e = .returned (.int .i64 (Lib.indexByte s.data.toList c.toNat.toUInt8)) ∧ w = w' := by
  go_enter Tryd.func29, Tryd.ntmps29
  go_wp2_with (fail)
  rw [run_callFunc_extern Tryd.func38 (by kernel_rfl) (by kernel_rfl) (by kernel_rfl) (e := Extern.BytealgIndexByte.indexByte) (by kernel_rfl), Lib.run_indexByteString]
  simp only [Result.andThen]
  rw [Oper.upon_value]
  go_wp2_with (fail)
  go_ret
  exact ⟨rfl, rfl⟩
set_option maxHeartbeats 400000 in
set_option maxRecDepth 100000 in
theorem digIndex_any (x : Int) (h0 : 0 ≤ x ∧ x ≤ 255) (w : World) : Calls Tryd.prog 17 #[.string ⟨#[48, 49, 50, 51, 52, 53, 54, 55, 56, 57, 97, 98, 99, 100, 101, 102]⟩, .int .u8 x] w fun e w' => e = .returned (.int .i64 (hexv x)) ∧ New w w' := by
  have hx := hexv_idx x h0.1 h0.2
  go_enter Tryd.func17, Tryd.ntmps17
  go_wp2_with (fail)
  refine (litIndexByte_any _ _ _).mono ?_
  rintro e w1 ⟨rfl, rfl⟩
  rw [show Lib.indexByte (ByteArray.data ⟨#[48, 49, 50, 51, 52, 53, 54, 55, 56, 57, 97, 98, 99, 100, 101, 102]⟩).toList x.toNat.toUInt8 = hexv x from hx]
  go_wp2_with (fail)
  go_ret
  exact ⟨rfl, New.refl w⟩
/-- the pairs of digits of a text -/
def pairV (s : ByteArray) (k : Nat) : Int := 16 * hexv (bAt s (2 * k)) + hexv (bAt s (2 * k + 1))
def pairOk (s : ByteArray) (k : Nat) : Bool := decide (0 ≤ hexv (bAt s (2 * k))) && decide (0 ≤ hexv (bAt s (2 * k + 1)))
def pairL (s : ByteArray) : Nat → List Int
  | 0 => []
  | k + 1 => pairL s k ++ [pairV s k]
theorem length_pairL (s : ByteArray) (k : Nat) : (pairL s k).length = k := by
  induction k with
  | zero => rfl
  | succ k ih => simp [pairL, ih]
def hexOk (s : ByteArray) : Bool := (List.range (s.size / 2)).all (pairOk s)
def fhS (s : ByteArray) : ByteArray := if hexOk s = true then bstr (pairL s (s.size / 2)) else ⟨#[]⟩
def fhB (s : ByteArray) : Bool := hexOk s && decide (s.size % 2 = 0)
theorem fhS_f {s : ByteArray} (h : hexOk s = false) : fhS s = ⟨#[]⟩ := if_neg (by simp [h])
theorem fhS_t {s : ByteArray} (h : hexOk s = true) : fhS s = bstr (pairL s (s.size / 2)) := if_pos h
theorem fhB_f {s : ByteArray} (h : hexOk s = false) : fhB s = false := by unfold fhB; rw [h]; rfl
theorem fhB_t {s : ByteArray} (h : hexOk s = true) : fhB s = decide (s.size % 2 = 0) := by unfold fhB; rw [h]; rfl
theorem upto_h {p : Nat → Bool} {k : Nat} (h : ∀ j, j < k → p j = true) (hk : p k = true) : ∀ j, j < k + 1 → p j = true := by
  intro j hj
  rcases Nat.lt_succ_iff_lt_or_eq.1 hj with h1 | rfl
  · exact h j h1
  · exact hk
set_option maxHeartbeats 2000000 in
set_option maxRecDepth 100000 in
theorem fromHex_any (s : ByteArray) (hs : s.size ≤ 1048576) (w : World) :
    Calls Tryd.prog 34 #[.string s] w fun e w' => e = .returned (.tuple #[.string (fhS s), .bool (fhB s)]) ∧ New w w' := by
  go_enter Tryd.func34, Tryd.ntmps34
  go_wp2_with (fail)
  go_loopw [4, 5] (fun v i wr => ∃ (q k g cap : Nat), q ≤ s.size ∧ i = .int .i64 (q : Int) ∧ Hid (q = 2 * k) ∧ v = .slice (some ⟨g, 0, none⟩) k cap ∧ wr.ownsRow w.heap.size 5 1 (.slice (some ⟨g, 0, none⟩) k cap) k ((pairL s k).map (Value.int .u8)) ∧ Hid (∀ j, j < k → pairOk s j = true) ∧ New w wr) (fun _ i _ => s.size - (intOf i).toNat)
  case atStart =>
    refine ⟨0, 0, w.heap.size, 0, by omega, rfl, rfl, rfl, ?_, fun j hj => absurd hj (by omega), (New.refl w).alloc _⟩
    exact own_of_obj (cur := #[]) (by go_simp) (by omega) (by omega) (by decide) rfl
  case round =>
    obtain ⟨q, k, g, cap, hk, rfl, hqk, rfl, hown, hal, hn⟩ := hrel
    by_cases hlt : q + 1 < s.size
    · have hl := hn.le
      have x0 := bAt_get s q (by omega)
      have x1 := bAt_get s (q + 1) hlt
      have y0 := bAt_b s q
      have y1 := bAt_b s (q + 1)
      have z0 := hexv_b (bAt s q)
      have z1 := hexv_b (bAt s (q + 1))
      have hlt0 : q < s.size := by omega
      have hkb : k ≤ 1048576 := by have := hqk.out; omega
      by_cases c0 : 0 ≤ hexv (bAt s q)
      · by_cases c1 : 0 ≤ hexv (bAt s (q + 1))
        · have hp : Hid (pairOk s k = true) := by show _ = _; rw [pairOk, ← hqk.out]; simp [c0, c1]
          have hv : Hid (16 * hexv (bAt s q) + hexv (bAt s (q + 1)) = pairV s k) := by show _ = _; rw [pairV, ← hqk.out]
          go_wp2_with (fail)
          refine wp_region_new (by kernel_rfl) (by kernel_rfl) ?_
          repeat (go_big_quiet_step (first | fail | (go_at_call 17; with_reducible exact calls_new (digIndex_any _ (by assumption) _))))
          refine wpQuiet_nil ?_
          intro w1 hc1
          have hn1 := NewW.of hc1
          clear hc1
          have ho1 := hn1.objs
          have hz1 := hn1.le
          try simp at hz1
          have hown1 := own_new hown hn1
          have hnn := hn.trans hn1
          clear hown hn hn1 ho1
          go_wp2_with (at_builtin; refine wpList_app slBytes2 rfl _ _ rfl w.heap.size _ _ _ rfl (own_new hown1 ((New.refl _).alloc _)) ⟨w1.heap.size, 0, none⟩ 1 1 [.int .u8 (16 * hexv (bAt s q) + hexv (bAt s (q + 1)))] rfl rfl (news_new _ _ _ _ _ rfl) (by simp [Value.oneCell']) (by omega) (by unfold maxLen; omega) (by omega) (by simp; omega) ?_)
          intro g1 cap1 w2 hown2 hg1 hat1 hlt1
          obtain ⟨_, _, hbg, hbl, _⟩ := own_obj hown1
          have hn2 : New w w2 := grown_new (hnn.alloc _) hg1 (by simp [Value.ownBlock]; omega)
          clear hg1 hat1 hown1 hnn
          have hown3 : w2.ownsRow w.heap.size 5 1 (.slice (some ⟨g1, 0, none⟩) (k + 1) cap1) (k + 1) ((pairL s (k + 1)).map (Value.int .u8)) := by
            rw [hv.out] at hown2
            simpa [pairL] using hown2
          clear hown2
          go_wp2_with (fail)
          go_roundw
          case rel => exact ⟨q + 2, k + 1, g1, cap1, by omega, by go_num, by show _ = _; have := hqk.out; omega, rfl, hown3, upto_h hal.out hp.out, hn2⟩
          case measure => simp [intOf]; omega
        · have hp : Hid (hexOk s = false) := List.all_eq_false.2 ⟨k, by have := hqk.out; simp; omega, by rw [pairOk, ← hqk.out]; simp [c1]⟩
          go_wp2_with (fail)
          refine wp_region_new (by kernel_rfl) (by kernel_rfl) ?_
          repeat (go_big_quiet_step (first | fail | (go_at_call 17; with_reducible exact calls_new (digIndex_any _ (by assumption) _))))
          refine wpQuiet_nil ?_
          intro w2 hc2
          have hn2 := NewW.of hc2
          clear hc2
          have ho2 := hn2.objs
          have hz2 := hn2.le
          try simp at hz2
          go_wp2_with (fail)
          go_ret2
          exact ⟨by rw [fhS_f hp.out, fhB_f hp.out]; rfl, hn.trans hn2⟩
      · have hp : Hid (hexOk s = false) := List.all_eq_false.2 ⟨k, by have := hqk.out; simp; omega, by rw [pairOk, ← hqk.out]; simp [c0]⟩
        go_wp2_with (fail)
        refine wp_region_new (by kernel_rfl) (by kernel_rfl) ?_
        repeat (go_big_quiet_step (first | fail | (go_at_call 17; with_reducible exact calls_new (digIndex_any _ (by assumption) _))))
        refine wpQuiet_nil ?_
        intro w3 hc3
        have hn3 := NewW.of hc3
        clear hc3
        have ho3 := hn3.objs
        have hz3 := hn3.le
        try simp at hz3
        go_wp2_with (fail)
        go_ret2
        exact ⟨by rw [fhS_f hp.out, fhB_f hp.out]; rfl, hn.trans hn3⟩
    · have hk2 : Hid (k = s.size / 2) := by show _ = _; have := hqk.out; omega
      have hp : Hid (hexOk s = true) := by
        show _ = _
        unfold hexOk
        rw [← hk2.out]
        exact List.all_eq_true.2 fun i hi => hal.out i (by simpa using hi)
      obtain ⟨cur, hcur, _, _, hsz, _, _, hcu⟩ := own_obj hown
      have hst := run_string (P := Tryd.prog) (w := wr) (dst := 9) slBytes2.1 Tryd.underlying5 Tryd.underlying9 (len := k) (cap := cap) (l := pairL s k) hcur (length_pairL s k) (fun j hj => by
        rw [Nat.zero_add, hcu j (by omega), List.getElem?_map, List.getElem?_eq_getElem (by rw [length_pairL]; omega)]
        simp [List.getD, hj, length_pairL])
      have hq : Hid ((((s.size : Nat) : Int) % 2 == 0) = decide (s.size % 2 = 0)) := by
        show _ = _
        by_cases h : s.size % 2 = 0
        · rw [decide_eq_true h]; simp; omega
        · rw [decide_eq_false h]; simp; omega
      go_wp2_with (fail)
      go_ret2
      refine ⟨?_, hn⟩
      rw [fhS_t hp.out, fhB_t hp.out, ← hk2.out, ← hq.out]
      rfl
def foundB (s : ByteArray) : Bool := decide (1 ≤ s.size) && (bAt s 0 == 35)
def restS (s : ByteArray) : ByteArray := if foundB s = true then s.extract 1 s.size else s
theorem ext_one (s : ByteArray) (h : 1 ≤ s.size) : ((s.extract 0 1).toList == ([35] : List UInt8)) = (bAt s 0 == 35) := by
  rw [Lib.extract_toList]
  obtain ⟨l⟩ := s
  obtain ⟨l⟩ := l
  match l, h with
  | x :: l, _ =>
    have hb : ∀ y : UInt8, (y == 35) = (((y.toNat : Nat) : Int) == 35) := by
      intro y
      by_cases e : y = 35
      · subst e; rfl
      · have e2 : ¬ ((y.toNat : Nat) : Int) = 35 := fun e3 => e (UInt8.toNat_inj.1 (by show y.toNat = 35; omega))
        rw [show (y == 35) = false from beq_eq_false_iff_ne.2 e, show (((y.toNat : Nat) : Int) == 35) = false from beq_eq_false_iff_ne.2 e2]
    rw [show bAt ⟨⟨x :: l⟩⟩ 0 = ((x.toNat : Nat) : Int) from rfl]
    simpa using hb x
set_option maxHeartbeats 400000 in
set_option maxRecDepth 100000 in
theorem hasHash_any (s : ByteArray) (w : World) : Calls Tryd.prog 49 #[.string s, .string ⟨#[35]⟩] w fun e w' => e = .returned (.bool (foundB s)) ∧ w = w' := by
  by_cases h : 1 ≤ s.size
  · have hx := ext_one s h
    have hf : Hid (foundB s = (bAt s 0 == 35)) := by show _ = _; unfold foundB; rw [decide_eq_true h]; rfl
    go_enter Tryd.func49, Tryd.ntmps49
    go_wp2_with (fail)
    go_ret
    exact ⟨ret_b hf.out.symm, rfl⟩
  · have hf : Hid (foundB s = false) := by show _ = _; unfold foundB; rw [decide_eq_false h]; rfl
    go_enter Tryd.func49, Tryd.ntmps49
    go_wp2_with (fail)
    go_ret
    exact ⟨ret_b hf.out.symm, rfl⟩
theorem restS_t {s : ByteArray} (h : foundB s = true) : restS s = s.extract 1 s.size := if_pos h
theorem restS_f {s : ByteArray} (h : foundB s = false) : restS s = s := if_neg (by simp [h])
theorem foundB_len {s : ByteArray} (h : foundB s = true) : 1 ≤ s.size := by
  unfold foundB at h
  rw [Bool.and_eq_true] at h
  exact of_decide_eq_true h.1
set_option maxHeartbeats 400000 in
set_option maxRecDepth 100000 in
theorem cutHash_any (s : ByteArray) (w : World) : Calls Tryd.prog 33 #[.string s, .string ⟨#[35]⟩] w fun e w' => e = .returned (.tuple #[.string (restS s), .bool (foundB s)]) ∧ w = w' := by
  have hin : Calls Tryd.prog 42 #[.string s, .string ⟨#[35]⟩] w fun e w' => e = .returned (.tuple #[.string (restS s), .bool (foundB s)]) ∧ w = w' := by
    cases h : foundB s
    · rw [restS_f h]
      go_enter Tryd.func42, Tryd.ntmps42
      go_wp2_with (fail)
      refine (hasHash_any s _).mono ?_
      rintro e w1 ⟨rfl, rfl⟩
      rw [h]
      go_wp2_with (fail)
      go_ret2
      exact ⟨rfl, rfl⟩
    · rw [restS_t h]
      have hl := foundB_len h
      go_enter Tryd.func42, Tryd.ntmps42
      go_wp2_with (fail)
      refine (hasHash_any s _).mono ?_
      rintro e w1 ⟨rfl, rfl⟩
      rw [h]
      go_wp2_with (fail)
      go_ret2
      exact ⟨rfl, rfl⟩
  go_enter Tryd.func33, Tryd.ntmps33
  go_wp2_with (fail)
  refine hin.mono ?_
  rintro e w1 ⟨rfl, rfl⟩
  go_wp2_with (fail)
  go_ret2
  exact ⟨rfl, rfl⟩
/-- the six digits of a text of seven bytes -/
def dg (s : ByteArray) (i : Nat) : Int := hexv (bAt s i)
def toneV (s : ByteArray) (k : Nat) : Int := 16 * dg s (2 * k + 1) + dg s (2 * k + 2)
def okAt (s : ByteArray) (i : Nat) : Bool := decide (0 ≤ dg s i)
def okText (s : ByteArray) : Bool := decide (s.size = 7) && ((bAt s 0 == 35) && (okAt s 1 && (okAt s 2 && (okAt s 3 && (okAt s 4 && (okAt s 5 && okAt s 6))))))
def readV (s : ByteArray) : Nat → Int := if okText s = true then toneV s else fun _ => 0
theorem readV_t {s : ByteArray} (h : okText s = true) : readV s = toneV s := if_pos h
theorem readV_f {s : ByteArray} (h : okText s = false) : readV s = fun _ => 0 := if_neg (by simp [h])
theorem dg_b (s : ByteArray) (i : Nat) : -1 ≤ hexv (bAt s i) ∧ hexv (bAt s i) ≤ 15 := hexv_b _
set_option maxHeartbeats 4000000 in
set_option maxRecDepth 100000 in
theorem l02ReadTone_any (s : ByteArray) (hs : s.size ≤ 1048576) (w : World) :
    Calls Tryd.prog 19 #[.string s] w fun e w' => e = .returned (.tuple #[.agg #[.int .u8 (readV s 0), .int .u8 (readV s 1), .int .u8 (readV s 2)], .bool (okText s)]) ∧ New w w' := by
  by_cases h7 : s.size = 7
  rotate_left
  · have ht : okText s = false := by unfold okText; rw [decide_eq_false h7]; rfl
    have hne : ((s.size : Int) != 7) = true := by simp; omega
    rw [ht, readV_f ht]
    clear ht
    go_enter Tryd.func19, Tryd.ntmps19
    go_wp2_with (fail)
    refine ret_cell_tmp agg45 rfl rfl (c := #[.int .u8 0, .int .u8 0, .int .u8 0]) (t := 45) (fr := (0, 0)) (by go_simp) rfl rfl ⟨rfl, ?_⟩
    repeat' (first | exact New.refl _ | refine New.alloc ?_ _ | refine New.drew ?_ | refine New.drewN ?_ _ | refine New.setRow ?_ (by omega) _ | refine New.setCell ?_ (by first | omega | (simp; done) | (simp; omega)) _)
  have hne : ((s.size : Int) != 7) = false := by simp; omega
  have x0 := bAt_get s 0 (by omega)
  have y0 := bAt_b s 0
  have x1 := bAt_get s 1 (by omega)
  have y1 := bAt_b s 1
  have x2 := bAt_get s 2 (by omega)
  have y2 := bAt_b s 2
  have x3 := bAt_get s 3 (by omega)
  have y3 := bAt_b s 3
  have x4 := bAt_get s 4 (by omega)
  have y4 := bAt_b s 4
  have x5 := bAt_get s 5 (by omega)
  have y5 := bAt_b s 5
  have x6 := bAt_get s 6 (by omega)
  have y6 := bAt_b s 6
  have z1 := dg_b s 1
  have z2 := dg_b s 2
  have z3 := dg_b s 3
  have z4 := dg_b s 4
  have z5 := dg_b s 5
  have z6 := dg_b s 6
  have l7 : ∀ i, i < 7 → i < s.size := fun i hi => by omega
  have m0 := l7 0 (by omega)
  have m1 := l7 1 (by omega)
  have m2 := l7 2 (by omega)
  have m3 := l7 3 (by omega)
  have m4 := l7 4 (by omega)
  have m5 := l7 5 (by omega)
  have m6 := l7 6 (by omega)
  clear l7
  by_cases hh : bAt s 0 = 35
  rotate_left
  · have ht : Hid (okText s = false) := by show _ = _; unfold okText; rw [show (bAt s 0 == 35) = false from beq_eq_false_iff_ne.2 hh, Bool.false_and, Bool.and_false]
    have hb : (bAt s 0 != 35) = true := by simpa using hh
    clear hh
    go_enter Tryd.func19, Tryd.ntmps19
    go_wp2_with (fail)
    refine ret_cell_tmp agg45 rfl rfl (c := #[.int .u8 0, .int .u8 0, .int .u8 0]) (t := 45) (fr := (0, 0)) (by go_simp) rfl rfl ⟨by rw [ht.out, readV_f ht.out]; rfl, ?_⟩
    repeat' (first | exact New.refl _ | refine New.alloc ?_ _ | refine New.drew ?_ | refine New.drewN ?_ _ | refine New.setRow ?_ (by omega) _ | refine New.setCell ?_ (by first | omega | (simp; done) | (simp; omega)) _)
  have hb : (bAt s 0 != 35) = false := by simpa using hh
  have hh' := hide hh
  clear hh
  by_cases c1 : 0 ≤ hexv (bAt s 1)
  rotate_left
  · have ht : Hid (okText s = false) := by show _ = _; unfold okText; rw [show okAt s 1 = false from decide_eq_false c1]; simp
    go_enter Tryd.func19, Tryd.ntmps19
    go_wp2_with (fail)
    refine wp_loop_rounds 4 ?_
    rw [rounds_succ]
    go_wp2_with (go_at_call 30; refine (l02Hex_any _ (by assumption) _).mono ?_; rintro e w' ⟨rfl, rfl⟩)
    refine ret_cell_tmp agg45 rfl rfl (c := #[.int .u8 0, .int .u8 0, .int .u8 0]) (t := 45) (fr := (0, 0)) (by go_simp) rfl rfl ⟨by rw [ht.out, readV_f ht.out]; rfl, ?_⟩
    repeat' (first | exact New.refl _ | refine New.alloc ?_ _ | refine New.drew ?_ | refine New.drewN ?_ _ | refine New.setRow ?_ (by omega) _ | refine New.setCell ?_ (by first | omega | (simp; done) | (simp; omega)) _)
  by_cases c2 : 0 ≤ hexv (bAt s 2)
  rotate_left
  · have ht : Hid (okText s = false) := by show _ = _; unfold okText; rw [show okAt s 2 = false from decide_eq_false c2]; simp
    go_enter Tryd.func19, Tryd.ntmps19
    go_wp2_with (fail)
    refine wp_loop_rounds 4 ?_
    rw [rounds_succ]
    go_wp2_with (go_at_call 30; refine (l02Hex_any _ (by assumption) _).mono ?_; rintro e w' ⟨rfl, rfl⟩)
    refine ret_cell_tmp agg45 rfl rfl (c := #[.int .u8 0, .int .u8 0, .int .u8 0]) (t := 45) (fr := (0, 0)) (by go_simp) rfl rfl ⟨by rw [ht.out, readV_f ht.out]; rfl, ?_⟩
    repeat' (first | exact New.refl _ | refine New.alloc ?_ _ | refine New.drew ?_ | refine New.drewN ?_ _ | refine New.setRow ?_ (by omega) _ | refine New.setCell ?_ (by first | omega | (simp; done) | (simp; omega)) _)
  by_cases c3 : 0 ≤ hexv (bAt s 3)
  rotate_left
  · have ht : Hid (okText s = false) := by show _ = _; unfold okText; rw [show okAt s 3 = false from decide_eq_false c3]; simp
    go_enter Tryd.func19, Tryd.ntmps19
    go_wp2_with (fail)
    refine wp_loop_rounds 4 ?_
    rw [rounds_succ]
    go_wp2_with (go_at_call 30; refine (l02Hex_any _ (by assumption) _).mono ?_; rintro e w' ⟨rfl, rfl⟩)
    rw [rounds_succ]
    go_wp2_with (go_at_call 30; refine (l02Hex_any _ (by assumption) _).mono ?_; rintro e w' ⟨rfl, rfl⟩)
    refine ret_cell_tmp agg45 rfl rfl (c := #[.int .u8 0, .int .u8 0, .int .u8 0]) (t := 45) (fr := (0, 0)) (by go_simp) rfl rfl ⟨by rw [ht.out, readV_f ht.out]; rfl, ?_⟩
    repeat' (first | exact New.refl _ | refine New.alloc ?_ _ | refine New.drew ?_ | refine New.drewN ?_ _ | refine New.setRow ?_ (by omega) _ | refine New.setCell ?_ (by first | omega | (simp; done) | (simp; omega)) _)
  by_cases c4 : 0 ≤ hexv (bAt s 4)
  rotate_left
  · have ht : Hid (okText s = false) := by show _ = _; unfold okText; rw [show okAt s 4 = false from decide_eq_false c4]; simp
    go_enter Tryd.func19, Tryd.ntmps19
    go_wp2_with (fail)
    refine wp_loop_rounds 4 ?_
    rw [rounds_succ]
    go_wp2_with (go_at_call 30; refine (l02Hex_any _ (by assumption) _).mono ?_; rintro e w' ⟨rfl, rfl⟩)
    rw [rounds_succ]
    go_wp2_with (go_at_call 30; refine (l02Hex_any _ (by assumption) _).mono ?_; rintro e w' ⟨rfl, rfl⟩)
    refine ret_cell_tmp agg45 rfl rfl (c := #[.int .u8 0, .int .u8 0, .int .u8 0]) (t := 45) (fr := (0, 0)) (by go_simp) rfl rfl ⟨by rw [ht.out, readV_f ht.out]; rfl, ?_⟩
    repeat' (first | exact New.refl _ | refine New.alloc ?_ _ | refine New.drew ?_ | refine New.drewN ?_ _ | refine New.setRow ?_ (by omega) _ | refine New.setCell ?_ (by first | omega | (simp; done) | (simp; omega)) _)
  by_cases c5 : 0 ≤ hexv (bAt s 5)
  rotate_left
  · have ht : Hid (okText s = false) := by show _ = _; unfold okText; rw [show okAt s 5 = false from decide_eq_false c5]; simp
    go_enter Tryd.func19, Tryd.ntmps19
    go_wp2_with (fail)
    refine wp_loop_rounds 4 ?_
    rw [rounds_succ]
    go_wp2_with (go_at_call 30; refine (l02Hex_any _ (by assumption) _).mono ?_; rintro e w' ⟨rfl, rfl⟩)
    rw [rounds_succ]
    go_wp2_with (go_at_call 30; refine (l02Hex_any _ (by assumption) _).mono ?_; rintro e w' ⟨rfl, rfl⟩)
    rw [rounds_succ]
    go_wp2_with (go_at_call 30; refine (l02Hex_any _ (by assumption) _).mono ?_; rintro e w' ⟨rfl, rfl⟩)
    refine ret_cell_tmp agg45 rfl rfl (c := #[.int .u8 0, .int .u8 0, .int .u8 0]) (t := 45) (fr := (0, 0)) (by go_simp) rfl rfl ⟨by rw [ht.out, readV_f ht.out]; rfl, ?_⟩
    repeat' (first | exact New.refl _ | refine New.alloc ?_ _ | refine New.drew ?_ | refine New.drewN ?_ _ | refine New.setRow ?_ (by omega) _ | refine New.setCell ?_ (by first | omega | (simp; done) | (simp; omega)) _)
  by_cases c6 : 0 ≤ hexv (bAt s 6)
  rotate_left
  · have ht : Hid (okText s = false) := by show _ = _; unfold okText; rw [show okAt s 6 = false from decide_eq_false c6]; simp
    go_enter Tryd.func19, Tryd.ntmps19
    go_wp2_with (fail)
    refine wp_loop_rounds 4 ?_
    rw [rounds_succ]
    go_wp2_with (go_at_call 30; refine (l02Hex_any _ (by assumption) _).mono ?_; rintro e w' ⟨rfl, rfl⟩)
    rw [rounds_succ]
    go_wp2_with (go_at_call 30; refine (l02Hex_any _ (by assumption) _).mono ?_; rintro e w' ⟨rfl, rfl⟩)
    rw [rounds_succ]
    go_wp2_with (go_at_call 30; refine (l02Hex_any _ (by assumption) _).mono ?_; rintro e w' ⟨rfl, rfl⟩)
    refine ret_cell_tmp agg45 rfl rfl (c := #[.int .u8 0, .int .u8 0, .int .u8 0]) (t := 45) (fr := (0, 0)) (by go_simp) rfl rfl ⟨by rw [ht.out, readV_f ht.out]; rfl, ?_⟩
    repeat' (first | exact New.refl _ | refine New.alloc ?_ _ | refine New.drew ?_ | refine New.drewN ?_ _ | refine New.setRow ?_ (by omega) _ | refine New.setCell ?_ (by first | omega | (simp; done) | (simp; omega)) _)
  have ht : Hid (okText s = true) := by
    show _ = _
    unfold okText
    rw [decide_eq_true h7, show (bAt s 0 == 35) = true from beq_iff_eq.2 hh'.out, show okAt s 1 = true from decide_eq_true c1, show okAt s 2 = true from decide_eq_true c2, show okAt s 3 = true from decide_eq_true c3, show okAt s 4 = true from decide_eq_true c4, show okAt s 5 = true from decide_eq_true c5, show okAt s 6 = true from decide_eq_true c6]
    rfl
  have e0 : Hid (toneV s 0 = 16 * hexv (bAt s 1) + hexv (bAt s 2)) := rfl
  have e1 : Hid (toneV s 1 = 16 * hexv (bAt s 3) + hexv (bAt s 4)) := rfl
  have e2 : Hid (toneV s 2 = 16 * hexv (bAt s 5) + hexv (bAt s 6)) := rfl
  go_enter Tryd.func19, Tryd.ntmps19
  go_wp2_with (fail)
  refine wp_loop_rounds 4 ?_
  rw [rounds_succ]
  go_wp2_with (go_at_call 30; refine (l02Hex_any _ (by assumption) _).mono ?_; rintro e w' ⟨rfl, rfl⟩)
  rw [rounds_succ]
  go_wp2_with (go_at_call 30; refine (l02Hex_any _ (by assumption) _).mono ?_; rintro e w' ⟨rfl, rfl⟩)
  rw [rounds_succ]
  go_wp2_with (go_at_call 30; refine (l02Hex_any _ (by assumption) _).mono ?_; rintro e w' ⟨rfl, rfl⟩)
  rw [rounds_succ]
  go_wp2_with (go_at_call 30; refine (l02Hex_any _ (by assumption) _).mono ?_; rintro e w' ⟨rfl, rfl⟩)
  refine ret_cell_tmp agg45 rfl rfl (c := #[.int .u8 (16 * hexv (bAt s 1) + hexv (bAt s 2)), .int .u8 (16 * hexv (bAt s 3) + hexv (bAt s 4)), .int .u8 (16 * hexv (bAt s 5) + hexv (bAt s 6))]) (t := 45) (fr := (0, 0)) (by go_simp) rfl rfl ⟨by rw [ht.out, readV_t ht.out, e0.out, e1.out, e2.out]; rfl, ?_⟩
  repeat' (first | exact New.refl _ | refine New.alloc ?_ _ | refine New.drew ?_ | refine New.drewN ?_ _ | refine New.setRow ?_ (by omega) _ | refine New.setCell ?_ (by first | omega | (simp; done) | (simp; omega)) _)
end Go.Proofs.YtnaecghpahbojaaDoor
