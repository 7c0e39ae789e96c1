/- The mean tone of some cells: the reference and the program answer alike; no condition. -/
import Derived.Test.YtpphckfalgapdaaU3
import Derived.Test.YtpphckfalgapdaaU4
import Derived.Test.YtpphckfalgapdaaU6
import Derived.Test.YtpphckfalgapdaaU2
set_option linter.unusedVariables false
namespace Go.Proofs.Ytpphckfalgapdaa
open Go.BigFrame
open Go.RowKit Go.Arr
theorem lvSums : loadVar 100 = aggLoad 100 := rfl
theorem svSums : storeVar 100 = aggStore 100 := rfl
theorem ldSums (g off : Nat) (w : World) : (aggLoad 100 ⟨g, off, none⟩).run Try.prog w = segOr (obj w g) off 3 w ((aggLoadOld 100 ⟨g, off, none⟩).run Try.prog w) := run_aggLoad 100 3 _ Try.underlying100 rfl (by kernel_rfl) g off w
theorem stSums (g off : Nat) (v : Value) (w : World) : (aggStore 100 ⟨g, off, none⟩ v).run Try.prog w = segStoreOr (obj w g) g off 3 v w ((aggStoreOld 100 ⟨g, off, none⟩ v).run Try.prog w) := run_aggStore 100 3 (by kernel_rfl) g off v w
theorem zeroSums (w : World) : (zeroValue 100).run Try.prog w = .ok (.agg (arr 3 .i64 fun _ => 0)) w := by kernel_rfl
theorem zeroTone (w : World) : (zeroValue 26).run Try.prog w = .ok (.agg (arr 3 .u8 fun _ => 0)) w := by kernel_rfl
theorem sizeInt (w : World) : (sizeOf 2).run Try.prog w = .ok 1 w := by kernel_rfl
theorem sizeByte (w : World) : (sizeOf 5).run Try.prog w = .ok 1 w := by kernel_rfl
theorem ixSums (f : Nat → Int) (ik : IntKind) (i : Int) (h0 : 0 ≤ i) (h1 : i < 3) (w : World) : (Instr.index 100 (.agg (arr 3 .i64 f)) (.int ik i)).run Try.prog w = .ok (.int .i64 (f i.toNat)) w := run_index_arr (n := 3) 100 2 Try.underlying100 Try.underlying2 sizeInt ik i h0 (by omega) w
theorem ixTone (f : Nat → Int) (ik : IntKind) (i : Int) (h0 : 0 ≤ i) (h1 : i < 3) (w : World) : (Instr.index 26 (.agg (arr 3 .u8 f)) (.int ik i)).run Try.prog w = .ok (.int .u8 (f i.toNat)) w := run_index_arr (n := 3) 26 5 Try.underlying26 Try.underlying5 sizeByte ik i h0 (by omega) w
attribute [local go_sem ↓] lvSums svSums zeroSums zeroTone
attribute [local go_sem] ldSums stSums
attribute [local go_sem high] ixSums ixTone
theorem pic3a {n o p : Nat} {a b : Int} {f : Nat → Int} (ho : o + 3 ≤ n) (hp : p = 2 + o + 3) : (pic n a b f).extract (2 + o) p = arr 3 .u8 fun j => f (o + j) := pic3 ho hp
theorem arr3z : (arr 3 .u8 fun _ => 0) = #[.int .u8 0, .int .u8 0, .int .u8 0] := rfl
theorem tone_arr (g : Nat → Int) : arr 3 .u8 g = #[.int .u8 (g 0), .int .u8 (g 1), .int .u8 (g 2)] := rfl
def sumK (f c : Nat → Int) (k : Nat) : Nat → Int
  | 0 => 0
  | i + 1 => sumK f c k i + f ((c i).toNat * 3 + k)
theorem sumK_b {f c : Nat → Int} (hf : ∀ i, 0 ≤ f i ∧ f i ≤ 255) (k i : Nat) : 0 ≤ sumK f c k i ∧ sumK f c k i ≤ 255 * i := by
  induction i with
  | zero => simp [sumK]
  | succ i ih =>
    have := hf ((c i).toNat * 3 + k)
    unfold sumK
    omega
def meanZ (f c : Nat → Int) (n k : Nat) : Int := sumK f c k n / n
theorem meanZ_b {f c : Nat → Int} (hf : ∀ i, 0 ≤ f i ∧ f i ≤ 255) (n k : Nat) (hn : 0 < n) : 0 ≤ meanZ f c n k ∧ meanZ f c n k ≤ 255 := by
  have h := sumK_b (c := c) hf k n
  unfold meanZ
  refine ⟨Int.ediv_nonneg h.1 (by omega), ?_⟩
  have h1 : sumK f c k n / n ≤ (255 * n) / n := Int.ediv_le_ediv (by omega) h.2
  rwa [Int.mul_ediv_cancel _ (by omega)] at h1
set_option maxHeartbeats 2000000 in
set_option maxRecDepth 100000 in
theorem l02Mean_any (gm : Nat) (t0 : TypeId) (a b : Int) (f : Nat → Int) (hf : ∀ i, 0 ≤ f i ∧ f i ≤ 255) (ad : Option Addr) (n c : Nat) (z : Nat → Int) (hz : ∀ i, i < n → 0 ≤ z i ∧ z i < 144) (hp : 0 < n) (hn : n ≤ 1048576) (W : World) (om : obj W gm = some (.cells (pic 432 a b f) t0)) (hs : Sl W (.slice ad n c) n 1 .i64 z) :
    Calls Try.prog 49 #[.pointer (some ⟨gm, 0, none⟩), .slice ad n c] W fun e w' => e = .returned (.agg (arr 3 .u8 (meanZ f z n))) ∧ New W w' := by
  obtain ⟨g, off, cur, t, fr, rfl, o1, hel⟩ := elInts hs hp
  have q1 := obj_lt o1
  have qm := obj_lt om
  have hel' := hide hel
  have hz' := hide hz
  clear hel hs hz
  go_enter Try.func49, Try.ntmps49
  go_wp2_with (fail)
  go_loopw [6] (fun x wr => ∃ k : Nat, k ≤ 3 ∧ x = .int .i64 k ∧ Hid (obj wr (W.heap.size + 1) = some (.cells (arr 3 .u8 fun j => if j < k then meanZ f z n j else 0) 26)) ∧ Hid (obj wr W.heap.size = some (.cells (arr 3 .u8 fun _ => 0) 26)) ∧ New W wr) (fun x _ => 3 - (intOf x).toNat)
  case atStart => exact ⟨0, by omega, rfl, by show _ = _; go_simp, by show _ = _; go_simp, by first | exact ((New.refl W).alloc _).alloc _ | exact (((New.refl W).alloc _).alloc _).setRow (by omega) _⟩
  case round =>
    obtain ⟨k, hk, rfl, ho1, hr1, hnw⟩ := hrel
    have ho := ho1.out
    have hr := hr1.out
    by_cases hlt : k < 3
    · have p1 := (hnw.objs _ q1).trans o1
      have pm := (hnw.objs _ qm).trans om
      go_wp2_with (fail)
      go_loopw [8, 7] (fun x s wq => ∃ i : Nat, i ≤ n ∧ x = .int .i64 i ∧ s = .int .i64 (sumK f z k i) ∧ New wr wq) (fun x _ _ => n - (intOf x).toNat)
      case atStart => exact ⟨0, by omega, rfl, rfl, New.refl wr⟩
      case round =>
        obtain ⟨i, hi, rfl, rfl, hnq⟩ := hrel
        have hb := sumK_b (c := z) hf k i
        by_cases hin : i < n
        · have s1 := (hnq.objs _ (obj_lt p1)).trans p1
          have sm := (hnq.objs _ (obj_lt pm)).trans pm
          obtain ⟨l1, e1⟩ := hel'.out i hin
          have hzi := hz'.out i hin
          have hv := hf ((z i).toNat * 3 + k)
          have hc : (pic 432 a b f)[2 + (z i).toNat * 3 + k]? = some (.int .u8 (f ((z i).toNat * 3 + k))) := by rw [Nat.add_assoc, get_pic', if_pos (by omega)]
          have hsum : Hid (sumK f z k (i + 1) = sumK f z k i + f ((z i).toNat * 3 + k)) := rfl
          clear p1 pm ho1 hr1 ho hr
          go_wp2_with (fail)
          go_quiet (fail)
          go_wp2_with (fail)
          go_roundw
          case rel => exact ⟨i + 1, by omega, by go_num, by rw [hsum.out], hnq.drewN _⟩
          case measure => simp [intOf]; omega
        · obtain rfl : i = n := by omega
          have u1 := (hnq.objs _ (obj_lt ho)).trans ho
          have u2 := (hnq.objs _ (obj_lt hr)).trans hr
          have hm := meanZ_b (c := z) hf i k hp
          have hme : sumK f z k i / (i : Int) = meanZ f z i k := rfl
          have hn0 : (i : Int) ≠ 0 := by omega
          clear ho1 hr1
          go_wp2_with (fail)
          go_roundw
          case rel =>
            refine ⟨k + 1, by omega, by go_num, ?_, ?_, (hnw.trans hnq).setCell (by show W.heap.size ≤ W.heap.size + 1; omega) _⟩
            · show _ = _
              rw [obj_set_arr u1 _ k _ rfl]
              congr 2
              refine arr_congr fun j hj => ?_
              unfold upd
              by_cases e : j = k
              · subst e; simp
              · rw [if_neg e]; dsimp only
                by_cases e2 : j < k
                · rw [if_pos e2, if_pos (by omega)]
                · rw [if_neg e2, if_neg (by omega)]
            · show _ = _
              rw [obj_setCell_other _ _ _ _ _ (by omega), u2]
          case measure => simp [intOf]; omega
    · obtain rfl : k = 3 := by omega
      go_wp2_with (fail)
      refine ret_cell agg26 rfl rfl (c := arr 3 .u8 fun j => if j < 3 then meanZ f z n j else 0) (t := 26) (fr := (0, 0)) (by rw [obj_setRow_same, hr]; simp only [Option.map_some, reCells_cells]) (size_arr) rfl ⟨?_, ?_⟩
      · rw [arr_congr (fun i hi => if_pos hi)]
      · exact hnw.setRow (by omega) _
set_option maxHeartbeats 4000000 in
set_option maxRecDepth 100000 in
theorem mean_any (a b : Int) (f : Nat → Int) (hf : ∀ i, 0 ≤ f i ∧ f i ≤ 255) (ad : Option Addr) (n c : Nat) (z : Nat → Int) (hz : ∀ i, i < n → 0 ≤ z i ∧ z i < 144) (hp : 0 < n) (hn : n ≤ 1048576) (W : World) (hs : Sl W (.slice ad n c) n 1 .i64 z) :
    Calls Try.prog 44 #[.agg (pic 432 a b f), .slice ad n c] W fun e w' => e = .returned (.agg (arr 3 .u8 (meanZ f z n))) ∧ New W w' := by
  obtain ⟨g, off, cur, t, fr, rfl, o1, hel⟩ := elInts hs hp
  have q1 := obj_lt o1
  have hel' := hide hel
  have hz' := hide hz
  clear hel hs hz
  go_enter Try.func44, Try.ntmps44
  go_wp2_with (fail)
  go_loopw [17] (fun x wr => ∃ i : Nat, i ≤ n ∧ x = .int .i64 i ∧ Hid (obj wr W.heap.size = some (.cells (pic 432 a b f) 29)) ∧ Hid (obj wr (W.heap.size + 1) = some (.cells (arr 3 .u8 fun _ => 0) 26)) ∧ Hid (obj wr (W.heap.size + 1 + 1) = some (.cells (arr 3 .i64 fun j => sumK f z j i) 100)) ∧ Hid (obj wr (W.heap.size + 1 + 1 + 1) = some (.cells (arr 3 .u8 fun _ => 0) 26)) ∧ New W wr) (fun x _ => n - (intOf x).toNat)
  case atStart => exact ⟨0, by omega, rfl, by show _ = _; go_simp, by show _ = _; go_simp, by show _ = _; go_simp; rfl, by show _ = _; go_simp, by first | exact ((((New.refl W).alloc _).alloc _).alloc _).alloc _ | sorry⟩
  case round =>
    obtain ⟨i, hi, rfl, hm1, hr1, hs1, ho1, hnw⟩ := hrel
    have hm := hm1.out
    have hr := hr1.out
    have hs := hs1.out
    have ho := ho1.out
    by_cases hlt : i < n
    · have p1 := (hnw.objs _ q1).trans o1
      obtain ⟨l1, e1⟩ := hel'.out i hlt
      have hzi := hz'.out i hlt
      have hx : (pic 432 a b f).extract (2 + (z i).toNat * 3) (2 + (z i).toNat * 3 + 3) = arr 3 .u8 fun j => f ((z i).toNat * 3 + j) := pic3a (by omega) rfl
      have lx : 2 + (z i).toNat * 3 + 3 ≤ 434 := by omega
      clear hm1 hr1 hs1 ho1
      go_wp2_with (fail)
      go_loopw [25] (fun x wq => ∃ q : Nat, q ≤ 3 ∧ x = .int .i64 q ∧ Hid (obj wq (W.heap.size + 1 + 1) = some (.cells (arr 3 .i64 fun j => if j < q then sumK f z j (i + 1) else sumK f z j i) 100)) ∧ Hid (∀ b, b ≠ W.heap.size + 1 + 1 → obj wq b = obj wr b) ∧ New W wq) (fun x _ => 3 - (intOf x).toNat)
      case atStart => exact ⟨0, by omega, rfl, by show _ = _; rw [hs]; congr 2, fun _ _ => rfl, hnw⟩
      case round =>
        obtain ⟨q, hq, rfl, hsq1, hoth, hnq⟩ := hrel
        have hsq := hsq1.out
        by_cases hq3 : q < 3
        · have hv := hf ((z i).toNat * 3 + q)
          have hb := sumK_b (c := z) hf q i
          have hsum : Hid (sumK f z q (i + 1) = sumK f z q i + f ((z i).toNat * 3 + q)) := rfl
          clear hsq1 hm hr hs ho
          go_wp2_with (fail)
          go_roundw
          case rel =>
            refine ⟨q + 1, by omega, by go_num, ?_, ?_, hnq.setCell (by show W.heap.size ≤ W.heap.size + 1 + 1; omega) _⟩
            · show _ = _
              rw [obj_set_arr hsq _ q _ rfl]
              congr 2
              refine arr_congr fun j hj => ?_
              unfold upd
              by_cases e : j = q
              · subst e; rw [if_pos rfl, if_pos (by omega), hsum.out]
              · rw [if_neg e]; dsimp only
                by_cases e2 : j < q
                · rw [if_pos e2, if_pos (by omega)]
                · rw [if_neg e2, if_neg (by omega)]
            · intro b hb
              rw [obj_setCell_other _ _ _ _ _ hb, hoth.out b hb]
          case measure => simp [intOf]; omega
        · obtain rfl : q = 3 := by omega
          have u1 := (hoth.out W.heap.size (by omega)).trans hm
          have u2 := (hoth.out (W.heap.size + 1) (by omega)).trans hr
          have u3 := (hoth.out (W.heap.size + 1 + 1 + 1) (by omega)).trans ho
          have u4 : obj wr (W.heap.size + 1 + 1) = some (.cells (arr 3 .i64 fun j => sumK f z j (i + 1)) 100) := by
            rw [hsq]
            congr 2
            try exact arr_congr fun j hj => if_pos hj
          clear hsq1 hsq hoth hm hr hs ho
          go_wp2_with (fail)
          go_roundw
          case rel => exact ⟨i + 1, by omega, by go_num, u1, u2, u4, u3, hnq⟩
          case measure => simp [intOf]; omega
    · obtain rfl : i = n := by omega
      clear hm1 hr1 hs1 ho1 hm
      go_wp2_with (fail)
      go_loopw [39] (fun x wq => ∃ q : Nat, q ≤ 3 ∧ x = .int .i64 q ∧ Hid (obj wq (W.heap.size + 1 + 1 + 1) = some (.cells (arr 3 .u8 fun j => if j < q then meanZ f z i j else 0) 26)) ∧ Hid (obj wq (W.heap.size + 1) = some (.cells (arr 3 .u8 fun _ => 0) 26)) ∧ New W wq) (fun x _ => 3 - (intOf x).toNat)
      case atStart => exact ⟨0, by omega, rfl, by show _ = _; rw [ho]; congr 2, hr, hnw⟩
      case round =>
        obtain ⟨q, hq, rfl, hsq1, hr1, hnq⟩ := hrel
        have hsq := hsq1.out
        have hr := hr1.out
        by_cases hq3 : q < 3
        · have hb := sumK_b (c := z) hf q i
          have hm := meanZ_b (c := z) hf i q hp
          have hme : sumK f z q i / (i : Int) = meanZ f z i q := rfl
          have hn0 : (i : Int) ≠ 0 := by omega
          clear hsq1 hr1 hs ho
          go_wp2_with (fail)
          go_roundw
          case rel =>
            refine ⟨q + 1, by omega, by go_num, ?_, ?_, hnq.setCell (by show W.heap.size ≤ W.heap.size + 1 + 1 + 1; omega) _⟩
            · show _ = _
              rw [obj_set_arr hsq _ q _ rfl]
              congr 2
              refine arr_congr fun j hj => ?_
              unfold upd
              by_cases e : j = q
              · subst e; simp
              · rw [if_neg e]; dsimp only
                by_cases e2 : j < q
                · rw [if_pos e2, if_pos (by omega)]
                · rw [if_neg e2, if_neg (by omega)]
            · show _ = _
              rw [obj_setCell_other _ _ _ _ _ (by omega), hr]
          case measure => simp [intOf]; omega
        · obtain rfl : q = 3 := by omega
          go_wp2_with (fail)
          refine ret_cell agg26 rfl rfl (c := arr 3 .u8 fun j => if j < 3 then meanZ f z i j else 0) (t := 26) (fr := (0, 0)) (by rw [obj_setRow_same, hr]; simp only [Option.map_some, reCells_cells]) (size_arr) rfl ⟨?_, ?_⟩
          · rw [arr_congr (fun i hi => if_pos hi)]
          · exact hnq.setRow (by omega) _
/-- what is asked of the cells -/
def cellsOk (a b : Int) (n : Nat) (z : Nat → Int) : Bool := (List.range n).all fun i => cellB (z i) a b
def meanC (a b : Int) (f : Nat → Int) (n : Nat) (z : Nat → Int) : Int := if okImg a b f = false then 1 else if cellsOk a b n z = false then 2 else if n = 0 then 6 else 0
def meanV (a b : Int) (f : Nat → Int) (n : Nat) (z : Nat → Int) : Nat → Int := if meanC a b f n z = 0 then meanZ f z n else fun _ => 0
theorem cellB_b {i a b : Int} (h : cellB i a b = true) : 0 ≤ i ∧ i < 144 := by
  unfold cellB at h
  rw [Bool.and_eq_true] at h
  have := inB_t.1 h.1
  omega
theorem cellsOk_t {a b : Int} {n : Nat} {z : Nat → Int} (h : ∀ j, j < n → cellB (z j) a b = true) : cellsOk a b n z = true := List.all_eq_true.2 fun i hi => h i (by simpa using hi)
theorem cellsOk_f {a b : Int} {n i : Nat} {z : Nat → Int} (hi : i < n) (h : cellB (z i) a b = false) : cellsOk a b n z = false := List.all_eq_false.2 ⟨i, by simpa using hi, by simp [h]⟩
theorem cellsOk_e {a b : Int} {n : Nat} {z : Nat → Int} (h : cellsOk a b n z = true) : ∀ i, i < n → cellB (z i) a b = true := fun i hi => List.all_eq_true.1 h i (by simpa using hi)
theorem meanV_0 {a b : Int} {f : Nat → Int} {n : Nat} {z : Nat → Int} {k : Int} (h : meanC a b f n z = k) (hk : k ≠ 0) : meanV a b f n z = fun _ => 0 := by unfold meanV; rw [h]; exact if_neg hk
theorem meanV_1 {a b : Int} {f : Nat → Int} {n : Nat} {z : Nat → Int} (h : meanC a b f n z = 0) : meanV a b f n z = meanZ f z n := by unfold meanV; rw [h]; exact if_pos rfl
theorem upto_c {p : Nat → Bool} {k : Nat} (h : ∀ j, j < k → p j = true) (hk : p k = true) : ∀ j, j < k + 1 → p j = true := by
  intro j hj
  rcases Nat.lt_succ_iff_lt_or_eq.1 hj with h1 | rfl
  · exact h j h1
  · exact hk
set_option maxHeartbeats 2000000 in
set_option maxRecDepth 100000 in
theorem meanTone_spec (a b : Int) (f : Nat → Int) (ha : -128 ≤ a ∧ a ≤ 127) (hb : -128 ≤ b ∧ b ≤ 127) (hf : ∀ i, 0 ≤ f i ∧ f i ≤ 255) (ad : Option Addr) (n c : Nat) (z : Nat → Int) (hz : ∀ i, -9223372036854775808 ≤ z i ∧ z i ≤ 9223372036854775807) (hn : n ≤ 1048576) (W : World) (hs : Sl W (.slice ad n c) n 1 .i64 z) :
    Calls Try.prog 21 #[.agg (pic 432 a b f), .slice ad n c] W fun e w' => e = .returned (.tuple #[.agg #[.int .u8 (meanV a b f n z 0), .int .u8 (meanV a b f n z 1), .int .u8 (meanV a b f n z 2)], .int .i64 (meanC a b f n z)]) ∧ New W w' := by
  cases hok : okImg a b f
  · have hC : meanC a b f n z = 1 := by unfold meanC; rw [if_pos hok]
    rw [hC, meanV_0 hC (by omega)]
    clear hC
    go_enter Try.func21, Try.ntmps21
    go_wp2_with (go_at_call 55; refine (l02Image_any _ 29 a b f ha hb _ (by go_simp)).mono ?_; rintro e w' ⟨rfl, rfl⟩)
    refine ret_cell_tmp agg26 rfl rfl (c := arr 3 .u8 fun _ => 0) (t := 26) (fr := (0, 0)) (by go_simp) (size_arr) rfl ⟨rfl, ?_⟩
    exact ((New.refl W).alloc _).alloc _
  go_enter Try.func21, Try.ntmps21
  go_wp2_with (fail)
  refine (l02Image_any _ 29 a b f ha hb _ (by go_simp)).mono ?_
  rintro e w' ⟨rfl, rfl⟩
  rw [hok]
  generalize hw0 : ((W.alloc (Obj.cells (pic 432 a b f) 29)).alloc (Obj.cells (arr 3 .u8 fun _ => 0) 26)) = w0
  have b1 : obj w0 W.heap.size = some (.cells (pic 432 a b f) 29) := by subst hw0; go_simp
  have b2 : obj w0 (W.heap.size + 1) = some (.cells (arr 3 .u8 fun _ => 0) 26) := by subst hw0; go_simp
  have hn0 : New W w0 := by subst hw0; exact ((New.refl W).alloc _).alloc _
  have hs0 := hs.new hn0
  clear hw0 hs
  have hok' : Hid (okImg a b f = true) := hok
  clear hok
  go_wp2_with (fail)
  go_loop [6] (fun x => ∃ i : Nat, i ≤ n ∧ x = .int .i64 i ∧ Hid (∀ j, j < i → cellB (z j) a b = true)) (fun x => n - (intOf x).toNat)
  case atStart => exact ⟨0, by omega, rfl, fun j hj => absurd hj (by omega)⟩
  case round =>
    obtain ⟨i, hi, rfl, hal⟩ := hrel
    by_cases hlt : i < n
    · obtain ⟨g, off, cur, t, fr, rfl, o1, hel⟩ := elInts hs0 (by omega)
      obtain ⟨l1, e1⟩ := hel i hlt
      clear hel
      cases hc : cellB (z i) a b
      · have hC : Hid (meanC a b f n z = 2) := by show _ = _; unfold meanC; rw [if_neg (by rw [hok'.out]; simp), if_pos (cellsOk_f hlt hc)]
        go_wp2_with (go_at_call 56; refine (l02Cell_any _ 29 a b f _ ha hb _ b1).mono ?_; rintro e w' ⟨rfl, rfl⟩)
        refine ret_cell_tmp agg26 rfl rfl (c := arr 3 .u8 fun _ => 0) (t := 26) (fr := (0, 0)) (by rw [obj_setRow_same, b2]; simp only [Option.map_some, reCells_cells]) (size_arr) rfl ⟨by rw [hC.out, meanV_0 hC.out (by omega)]; rfl, hn0.setRow (by omega) _⟩
      · have hc' := hide (upto_c (p := fun j => cellB (z j) a b) hal.out hc)
        go_wp2_with (go_at_call 56; refine (l02Cell_any _ 29 a b f _ ha hb _ b1).mono ?_; rintro e w' ⟨rfl, rfl⟩)
        go_round
        case rel => exact ⟨i + 1, by omega, by go_num, hc'⟩
        case measure => simp [intOf]; omega
    · obtain rfl : i = n := by omega
      have hce := hide (cellsOk_t hal.out)
      clear hal
      by_cases hn1 : i = 0
      · subst hn1
        have hC : Hid (meanC a b f 0 z = 6) := by show _ = _; unfold meanC; rw [if_neg (by rw [hok'.out]; simp), if_neg (by rw [hce.out]; simp), if_pos rfl]
        go_wp2_with (fail)
        refine ret_cell_tmp agg26 rfl rfl (c := arr 3 .u8 fun _ => 0) (t := 26) (fr := (0, 0)) (by rw [obj_setRow_same, b2]; simp only [Option.map_some, reCells_cells]) (size_arr) rfl ⟨by rw [hC.out, meanV_0 hC.out (by omega)]; rfl, hn0.setRow (by omega) _⟩
      · have hC : Hid (meanC a b f i z = 0) := by show _ = _; unfold meanC; rw [if_neg (by rw [hok'.out]; simp), if_neg (by rw [hce.out]; simp), if_neg hn1]
        have hi0 : ((i : Int) == 0) = false := by simpa using hn1
        go_wp2_with (fail)
        refine (l02Mean_any _ 29 a b f hf ad i c z (fun j hj => cellB_b (cellsOk_e hce.out j hj)) (by omega) hn _ b1 hs0).mono ?_
        rintro e w1 ⟨rfl, hn2⟩
        have b3 := (hn2.objs _ (obj_lt b2)).trans b2
        go_wp2_with (fail)
        refine ret_cell_tmp agg26 rfl rfl (c := arr 3 .u8 (meanZ f z i)) (t := 26) (fr := (0, 0)) (by rw [obj_setRow_same, b3]; simp only [Option.map_some, reCells_cells]) (size_arr) rfl ⟨by rw [hC.out, meanV_1 hC.out]; rfl, (hn0.trans hn2).setRow (by omega) _⟩
def badZ (a b i : Int) : Bool := decide (i < 0) || !isCellB (i % 12) (i / 12) a b
theorem badZ_cell (a b i : Int) (ha : a ≤ 12) (hb : b ≤ 12) : badZ a b i = !cellB i a b := by
  unfold badZ cellB isCellB
  by_cases h : i < 0
  · rw [decide_eq_true h, show inB i 0 143 = false from inB_f.2 (by omega)]; rfl
  · rw [decide_eq_false h, Bool.false_or]
    congr 1
    have e1 : inB (i % 12) 0 (a - 1) = decide (i % 12 < a) := by unfold inB; rw [decide_eq_decide]; omega
    have e2 : inB (i / 12) 0 (b - 1) = decide (i / 12 < b) := by unfold inB; rw [decide_eq_decide]; omega
    rw [e1, e2]
    by_cases h2 : i / 12 < b
    · rw [show inB i 0 143 = true from inB_t.2 (by omega), Bool.true_and]
    · rw [decide_eq_false h2, Bool.and_false, Bool.and_false]
def anyBad (a b : Int) (n : Nat) (z : Nat → Int) : Bool := (List.range n).any fun i => badZ a b (z i)
theorem anyBad_ok (a b : Int) (n : Nat) (z : Nat → Int) (ha : a ≤ 12) (hb : b ≤ 12) : anyBad a b n z = !cellsOk a b n z := by
  unfold anyBad cellsOk
  rw [List.not_all_eq_any_not]
  congr 1
  funext i
  exact badZ_cell a b (z i) ha hb
set_option maxHeartbeats 1000000 in
theorem badLit_any (a b : Int) (f : Nat → Int) (ha : -128 ≤ a ∧ a ≤ 127) (hb : -128 ≤ b ∧ b ≤ 127) (i : Int) (hi : -9223372036854775808 ≤ i ∧ i ≤ 9223372036854775807) (bM : Nat) (w : World) (o1 : obj w bM = some (.cells (pic 432 a b f) 29)) :
    Calls Try.prog 59 #[.int .i64 i, .pointer (some ⟨bM, 0, none⟩)] w fun e w' => e = .returned (.bool (badZ a b i)) ∧ w = w' := by
  by_cases h : i < 0
  · have hr : Hid (badZ a b i = true) := by show _ = _; unfold badZ; rw [decide_eq_true h]; rfl
    go_enter Try.func59, Try.ntmps59
    go_wp2_with (fail)
    go_ret
    exact ⟨ret_b hr.out.symm, rfl⟩
  · have hr : Hid (badZ a b i = !isCellB (i % 12) (i / 12) a b) := by show _ = _; unfold badZ; rw [decide_eq_false h]; rfl
    go_enter Try.func59, Try.ntmps59
    go_wp2_with (go_at_call 60; refine (isCell_any _ _ _ _ ha hb _).mono ?_; rintro e w' ⟨rfl, rfl⟩)
    go_ret
    exact ⟨ret_b hr.out.symm, rfl⟩
set_option maxHeartbeats 1000000 in
set_option maxRecDepth 100000 in
theorem idxBad_any (a b : Int) (f : Nat → Int) (ha : -128 ≤ a ∧ a ≤ 127) (hb : -128 ≤ b ∧ b ≤ 127) (ad : Option Addr) (n c : Nat) (z : Nat → Int) (hz : ∀ i, -9223372036854775808 ≤ z i ∧ z i ≤ 9223372036854775807) (hn : n ≤ 1048576) (bM : Nat) (W : World) (o1 : obj W bM = some (.cells (pic 432 a b f) 29)) (hs : Sl W (.slice ad n c) n 1 .i64 z) :
    Calls Try.prog 79 #[.slice ad n c, .func (.func 59) #[] #[.pointer (some ⟨bM, 0, none⟩)]] W fun e w' => ∃ r : Int, e = .returned (.int .i64 r) ∧ -1 ≤ r ∧ (0 ≤ r ↔ anyBad a b n z = true) ∧ W = w' := by
  go_enter Try.func79, Try.ntmps79
  go_wp2_with (fail)
  go_loop [8] (fun x => ∃ i : Nat, i ≤ n ∧ x = .int .i64 i ∧ Hid (∀ j, j < i → badZ a b (z j) = false)) (fun x => n - (intOf x).toNat)
  case atStart => exact ⟨0, by omega, rfl, fun j hj => absurd hj (by omega)⟩
  case round =>
    obtain ⟨i, hi, rfl, hal⟩ := hrel
    by_cases hlt : i < n
    · obtain ⟨g, off, cur, t, fr, rfl, og, hel⟩ := elInts hs (by omega)
      obtain ⟨l1, e1⟩ := hel i hlt
      clear hel hs
      cases hc : badZ a b (z i)
      · have hc' : Hid (∀ j, j < i + 1 → badZ a b (z j) = false) := by
          intro j hj
          by_cases e : j = i
          · subst e; exact hc
          · exact hal.out j (by omega)
        go_wp2_with (go_at_call 59; refine (badLit_any a b f ha hb _ (hz _) bM _ o1).mono ?_; rintro e w1 ⟨rfl, rfl⟩; rw [hc])
        go_round
        case rel => exact ⟨i + 1, by omega, by go_num, hc'⟩
        case measure => simp [intOf]; omega
      · have ha' : anyBad a b n z = true := List.any_eq_true.2 ⟨i, by simpa using hlt, hc⟩
        go_wp2_with (go_at_call 59; refine (badLit_any a b f ha hb _ (hz _) bM _ o1).mono ?_; rintro e w1 ⟨rfl, rfl⟩; rw [hc])
        go_ret
        exact ⟨_, rfl, by omega, ⟨fun _ => ha', fun _ => by omega⟩, rfl⟩
    · obtain rfl : i = n := by omega
      have ha' : Hid (anyBad a b i z = false) := List.any_eq_false.2 fun j hj => by simp [hal.out j (by simpa using hj)]
      go_wp2_with (fail)
      go_ret
      refine ⟨-1, rfl, by omega, Iff.intro (fun h => absurd h (by omega)) (fun h => by rw [ha'.out] at h; cases h), rfl⟩
set_option maxHeartbeats 400000 in
theorem hasBad_any (a b : Int) (f : Nat → Int) (ha : -128 ≤ a ∧ a ≤ 127) (hb : -128 ≤ b ∧ b ≤ 127) (ad : Option Addr) (n c : Nat) (z : Nat → Int) (hz : ∀ i, -9223372036854775808 ≤ z i ∧ z i ≤ 9223372036854775807) (hn : n ≤ 1048576) (bM : Nat) (W : World) (o1 : obj W bM = some (.cells (pic 432 a b f) 29)) (hs : Sl W (.slice ad n c) n 1 .i64 z) :
    Calls Try.prog 58 #[.slice ad n c, .func (.func 59) #[] #[.pointer (some ⟨bM, 0, none⟩)]] W fun e w' => e = .returned (.bool (anyBad a b n z)) ∧ W = w' := by
  cases h : anyBad a b n z
  all_goals
    go_enter Try.func58, Try.ntmps58
    go_wp2_with (fail)
    refine (idxBad_any a b f ha hb ad n c z hz hn bM _ o1 hs).mono ?_
    rintro e w1 ⟨r, rfl, hr, hiff, rfl⟩
    rw [h] at hiff
    go_wp2_with (fail)
    go_ret
    first | exact ⟨rfl, rfl⟩ | exact ⟨ret_b (by simp at hiff; simp; omega), rfl⟩
set_option maxHeartbeats 2000000 in
set_option maxRecDepth 100000 in
theorem meanTone_impl (a b : Int) (f : Nat → Int) (ha : -128 ≤ a ∧ a ≤ 127) (hb : -128 ≤ b ∧ b ≤ 127) (hf : ∀ i, 0 ≤ f i ∧ f i ≤ 255) (ad : Option Addr) (n c : Nat) (z : Nat → Int) (hz : ∀ i, -9223372036854775808 ≤ z i ∧ z i ≤ 9223372036854775807) (hn : n ≤ 1048576) (W : World) (hs : Sl W (.slice ad n c) n 1 .i64 z) :
    Calls Try.prog 20 #[.agg (pic 432 a b f), .slice ad n c] W fun e w' => e = .returned (.tuple #[.agg #[.int .u8 (meanV a b f n z 0), .int .u8 (meanV a b f n z 1), .int .u8 (meanV a b f n z 2)], .int .i64 (meanC a b f n z)]) ∧ New W w' := by
  have fin : ∀ w0 : World, New W w0 → obj w0 (W.heap.size + 1) = some (.cells (arr 3 .u8 fun _ => 0) 26) → True := fun _ _ _ => trivial
  clear fin
  have hcode : codeB (okImg a b f) (!anyBad a b n z) = (if okImg a b f = false then 1 else if cellsOk a b n z = false then 2 else 0) := by
    unfold codeB
    cases hok : okImg a b f
    · rfl
    · have hsz : isSizeB a b = true := by
        cases h : isSizeB a b
        · rw [okImg_size a b f h] at hok; cases hok
        · rfl
      have h12 : a ≤ 12 ∧ b ≤ 12 := by
        unfold isSizeB at hsz
        rw [Bool.and_eq_true] at hsz
        have h1 := inB_t.1 hsz.1
        have h2 := inB_t.1 hsz.2
        omega
      rw [anyBad_ok a b n z h12.1 h12.2, Bool.not_not]
  go_enter Try.func20, Try.ntmps20
  go_wp2_with (fail)
  generalize hw0 : ((W.alloc (Obj.cells (pic 432 a b f) 29)).alloc (Obj.cells (arr 3 .u8 fun _ => 0) 26)) = w0
  have b1 : obj w0 W.heap.size = some (.cells (pic 432 a b f) 29) := by subst hw0; go_simp
  have b2 : obj w0 (W.heap.size + 1) = some (.cells (arr 3 .u8 fun _ => 0) 26) := by subst hw0; go_simp
  have hn0 : New W w0 := by subst hw0; exact ((New.refl W).alloc _).alloc _
  have hs0 := hs.new hn0
  clear hw0 hs
  refine (hasBad_any a b f ha hb ad n c z hz hn _ _ b1 hs0).mono ?_
  rintro e w' ⟨rfl, rfl⟩
  go_wp2_with (fail)
  refine (validImage_impl a b f ha hb _).mono ?_
  rintro e w1 ⟨rfl, hn1⟩
  have c1 := (hn1.objs _ (obj_lt b1)).trans b1
  have c2 := (hn1.objs _ (obj_lt b2)).trans b2
  have hs1 := hs0.new hn1
  have hN := hn0.trans hn1
  clear b1 b2 hn0 hn1 hs0
  go_wp2_with (fail)
  refine (codeOf_any _ _ _).mono ?_
  rintro e w2 ⟨rfl, rfl⟩
  rw [hcode]
  cases hok : okImg a b f
  · have hC : Hid (meanC a b f n z = 1) := by show _ = _; unfold meanC; rw [if_pos hok]
    clear hcode hok
    rw [if_pos rfl]
    go_wp2_with (fail)
    refine ret_cell_tmp agg26 rfl rfl (c := arr 3 .u8 fun _ => 0) (t := 26) (fr := (0, 0)) (by rw [obj_setRow_same, c2]; simp only [Option.map_some, reCells_cells]) (size_arr) rfl ⟨by rw [hC.out, meanV_0 hC.out (by omega)]; rfl, hN.setRow (by omega) _⟩
  rw [if_neg (by simp)]
  cases hce : cellsOk a b n z
  · have hC : Hid (meanC a b f n z = 2) := by show _ = _; unfold meanC; rw [if_neg (by rw [hok]; simp), if_pos hce]
    clear hcode hok hce
    rw [if_pos rfl]
    go_wp2_with (fail)
    refine ret_cell_tmp agg26 rfl rfl (c := arr 3 .u8 fun _ => 0) (t := 26) (fr := (0, 0)) (by rw [obj_setRow_same, c2]; simp only [Option.map_some, reCells_cells]) (size_arr) rfl ⟨by rw [hC.out, meanV_0 hC.out (by omega)]; rfl, hN.setRow (by omega) _⟩
  rw [if_neg (by simp)]
  by_cases hn1 : n = 0
  · subst hn1
    have hC : Hid (meanC a b f 0 z = 6) := by show _ = _; unfold meanC; rw [if_neg (by rw [hok]; simp), if_neg (by rw [hce]; simp), if_pos rfl]
    clear hcode hok hce
    go_wp2_with (fail)
    refine ret_cell_tmp agg26 rfl rfl (c := arr 3 .u8 fun _ => 0) (t := 26) (fr := (0, 0)) (by rw [obj_setRow_same, c2]; simp only [Option.map_some, reCells_cells]) (size_arr) rfl ⟨by rw [hC.out, meanV_0 hC.out (by omega)]; rfl, hN.setRow (by omega) _⟩
  · have hC : Hid (meanC a b f n z = 0) := by show _ = _; unfold meanC; rw [if_neg (by rw [hok]; simp), if_neg (by rw [hce]; simp), if_neg hn1]
    have hi0 : ((n : Int) == 0) = false := by simpa using hn1
    have hce' := hide hce
    clear hcode hok hce
    go_wp2_with (fail)
    refine (mean_any a b f hf ad n c z (fun j hj => cellB_b (cellsOk_e hce'.out j hj)) (by omega) hn _ hs1).mono ?_
    rintro e w3 ⟨rfl, hn2⟩
    have b3 := (hn2.objs _ (obj_lt c2)).trans c2
    go_wp2_with (fail)
    refine ret_cell_tmp agg26 rfl rfl (c := arr 3 .u8 (meanZ f z n)) (t := 26) (fr := (0, 0)) (by rw [obj_setRow_same, b3]; simp only [Option.map_some, reCells_cells]) (size_arr) rfl ⟨by rw [hC.out, meanV_1 hC.out]; rfl, (hN.trans hn2).setRow (by omega) _⟩
end Go.Proofs.Ytpphckfalgapdaa
/- Tones that move to the means of their cells: the plain step, palettes cloned and written; no condition. -/
set_option linter.unusedVariables false
namespace Go.Proofs.Ytpphckfalgapdaa
open Go.BigFrame
open Go.RowKit Go.Arr
/-- the cells that have tone c as the nearest one -/
def clP (n : Nat) (fp fm : Nat → Int) (a b : Int) (c : Nat) (i : Nat) : Bool := cellN a b i && decide ((nearK fp (fm (i * 3)) (fm (i * 3 + 1)) (fm (i * 3 + 2)) n).1 = c)
def clN (n : Nat) (fp fm : Nat → Int) (a b : Int) (c : Nat) : Nat := selN (clP n fp fm a b c) 144
def clG (n : Nat) (fp fm : Nat → Int) (a b : Int) (c : Nat) : Nat → Int := fun j => (selG (clP n fp fm a b c) 144 j : Int)
def mvP (n : Nat) (fm : Nat → Int) (a b : Int) (fp : Nat → Int) : Nat → Int := fun j => if 0 < clN n fp fm a b (j / 3) then meanZ fm (clG n fp fm a b (j / 3)) (clN n fp fm a b (j / 3)) (j % 3) else fp j
/-- so many tones moved -/
def mvU (n : Nat) (fm : Nat → Int) (a b : Int) (fp : Nat → Int) (c : Nat) : Nat → Int := fun j => if j < c * 3 then mvP n fm a b fp j else fp j
theorem mvP_b {n : Nat} {fm fp : Nat → Int} {a b : Int} (hm : ∀ i, 0 ≤ fm i ∧ fm i ≤ 255) (hp : ∀ i, 0 ≤ fp i ∧ fp i ≤ 255) (j : Nat) : 0 ≤ mvP n fm a b fp j ∧ mvP n fm a b fp j ≤ 255 := by
  unfold mvP
  split
  · rename_i h; exact meanZ_b hm _ _ h
  · exact hp j
theorem clG_b (n : Nat) (fp fm : Nat → Int) (a b : Int) (c : Nat) : ∀ i, i < clN n fp fm a b c → 0 ≤ clG n fp fm a b c i ∧ clG n fp fm a b c i < 144 := by
  intro i hi
  have := (selG_lt (p := clP n fp fm a b c) 144 i hi).1
  unfold clG
  omega
/-- the rounds: how many are left, how many have been made, the palette -/
def mvO (n : Nat) (fm : Nat → Int) (a b : Int) : Nat → Nat → (Nat → Int) → Int × Nat × (Nat → Int)
  | 0, m, p => (0, m, p)
  | r + 1, m, p => if okPal n (mvP n fm a b p) = false then (4, 0, fun _ => 0) else if samePal n n (mvP n fm a b p) p = true then (0, m + 1, p) else mvO n fm a b r (m + 1) (mvP n fm a b p)
section
variable {n : Nat} {fm p : Nat → Int} {a b : Int} {r m : Nat}
theorem mvO_bad (h : okPal n (mvP n fm a b p) = false) : mvO n fm a b (r + 1) m p = (4, 0, fun _ => 0) := if_pos h
theorem mvO_same (h : okPal n (mvP n fm a b p) = true) (h2 : samePal n n (mvP n fm a b p) p = true) : mvO n fm a b (r + 1) m p = (0, m + 1, p) := by rw [mvO, if_neg (by rw [h]; simp), if_pos h2]
theorem mvO_next (h : okPal n (mvP n fm a b p) = true) (h2 : samePal n n (mvP n fm a b p) p = false) : mvO n fm a b (r + 1) m p = mvO n fm a b r (m + 1) (mvP n fm a b p) := by rw [mvO, if_neg (by rw [h]; simp), if_neg (by rw [h2]; simp)]
theorem mvO_c (r m : Nat) (p : Nat → Int) : (mvO n fm a b r m p).1 = 0 ∨ (mvO n fm a b r m p).1 = 4 := by
  induction r generalizing m p with
  | zero => exact Or.inl rfl
  | succ r ih =>
    unfold mvO
    split
    · exact Or.inr rfl
    · split
      · exact Or.inl rfl
      · exact ih _ _
end
theorem same_at {n : Nat} {f g : Nat → Int} (h : samePal n n f g = true) : ∀ j, j < n * 3 → f j = g j := by
  intro j hj
  unfold samePal at h
  simp only [Bool.and_eq_true, List.all_eq_true, List.mem_range] at h
  have h3 := h.2 (j / 3) (by omega)
  unfold alikePal at h3
  rw [eq3_t] at h3
  have h4 : j % 3 = 0 ∨ j % 3 = 1 ∨ j % 3 = 2 := by omega
  rcases h4 with h4 | h4 | h4
  · rw [show j = j / 3 * 3 by omega]; exact h3.1
  · rw [show j = j / 3 * 3 + 1 by omega]; exact h3.2.1
  · rw [show j = j / 3 * 3 + 2 by omega]; exact h3.2.2
/-- the codes and the results -/
def mvC (a b : Int) (fm : Nat → Int) (n : Nat) (fp : Nat → Int) (r : Int) : Int := if askOk a b fm n fp = false then 1 else if inB r 0 50 = false then 2 else (mvO n fm a b r.toNat 0 fp).1
def mvM (a b : Int) (fm : Nat → Int) (n : Nat) (fp : Nat → Int) (r : Int) : Int := if mvC a b fm n fp r = 0 then (mvO n fm a b r.toNat 0 fp).2.1 else 0
def mvN (a b : Int) (fm : Nat → Int) (n : Nat) (fp : Nat → Int) (r : Int) : Nat := if mvC a b fm n fp r = 0 then n else 0
def mvF (a b : Int) (fm : Nat → Int) (n : Nat) (fp : Nat → Int) (r : Int) : Nat → Int := (mvO n fm a b r.toNat 0 fp).2.2
/-- the cells of a slice that is laid behind another one -/
theorem news_sl3 {W : World} {g off : Nat} {cur : Array Value} {t : TypeId} {fr : Nat × Nat} {n : Nat} {f : Nat → Int} (ho : obj W g = some (.cells cur t fr)) (hc : ∀ j, j < n * 3 → cur[off + j]? = some (.int .u8 (f j))) : ∀ j u, (irow (n * 3) .u8 f)[j]? = some u → W.cell? ((⟨g, off, none⟩ : Addr).add j) = some u := by
  intro j u hu
  have hj : j < n * 3 := by
    have := (List.getElem?_eq_some_iff.1 hu).1
    simpa using this
  rw [get_irow j hj] at hu
  rw [addr_add, cell_obj, ho, cellOf_cells, hc j hj]
  exact hu
/-- tone k of a row written -/
def putT (f : Nat → Int) (k : Nat) (d : Nat → Int) : Nat → Int := fun j => if k * 3 ≤ j ∧ j < k * 3 + 3 then d (j - k * 3) else f j
section
variable {W : World} {base n : Nat} {v : Value} {f : Nat → Int}
theorem PRow.at (h : PRow W base v n f) (hn : 0 < n) : ∃ g cap cur, v = .slice (some ⟨g, 0, none⟩) n cap ∧ base ≤ g ∧ obj W g = some (.cells cur 26) ∧ n ≤ cap ∧ n * 3 ≤ cur.size ∧ ∀ j, j < n * 3 → cur[j]? = some (.int .u8 (f j)) := by
  rcases h.shape with ⟨_, h0⟩ | ⟨g, cap, cur, h1, h2, h3, h4, h5, h6, h7, h8⟩
  · omega
  · exact ⟨g, cap, cur, h1, h2, h4, h5, by omega, h8⟩
theorem PRow.nil : PRow W base (.slice none 0 0) 0 f := ⟨by simp, .inl ⟨rfl, rfl⟩⟩
theorem PRow.form (h : PRow W base v n f) : ∃ a cap, v = .slice a n cap := by
  rcases h.shape with ⟨h1, h2⟩ | ⟨g, cap, cur, h1, _⟩
  · exact ⟨_, _, by rw [h2]; exact h1⟩
  · exact ⟨_, _, h1⟩
theorem PRow.put {g cap k : Nat} {cur : Array Value} {d : Nat → Int} (h : PRow W base (.slice (some ⟨g, 0, none⟩) n cap) n f) (ho : obj W g = some (.cells cur 26)) (hk : k < n) : PRow (W.setRow g (seg cur (k * 3) (arr 3 .u8 d))) base (.slice (some ⟨g, 0, none⟩) n cap) n (putT f k d) := by
  rcases h.shape with ⟨h1, _⟩ | ⟨g', cap', cur', h1, h2, h3, h4, h5, h6, h7, h8⟩
  · cases h1
  · simp only [Value.slice.injEq, Option.some.injEq, Addr.mk.injEq, and_true, true_and] at h1
    obtain ⟨rfl, rfl⟩ := h1
    rw [ho] at h4
    simp only [Option.some.injEq, Obj.cells.injEq, and_true] at h4
    subst h4
    have hsz : (seg cur (k * 3) (arr 3 .u8 d)).size = cur.size := by
      have hsa : (arr 3 .u8 d).size = 3 := size_arr
      unfold seg
      simp [hsa]
      omega
    refine PRow.of (cur := seg cur (k * 3) (arr 3 .u8 d)) (by rw [obj_setRow_same, ho]; rfl) h2 h5 h6 (by rw [hsz, h7]) fun j hj => ?_
    rw [get_seg _ _ _ _ (by rw [size_arr]; omega), size_arr]
    unfold putT
    by_cases e : k * 3 ≤ j ∧ j < k * 3 + 3
    · rw [if_pos e, if_pos e, get_arr, if_pos (by omega)]
    · rw [if_neg e, if_neg e]; exact h8 j hj
end
theorem putT_mv {n : Nat} {fm fp : Nat → Int} {a b : Int} {c : Nat} (h : 0 < clN n fp fm a b c) : putT (mvU n fm a b fp c) c (meanZ fm (clG n fp fm a b c) (clN n fp fm a b c)) = mvU n fm a b fp (c + 1) := by
  funext j
  unfold putT mvU
  by_cases e : c * 3 ≤ j ∧ j < c * 3 + 3
  · rw [if_pos e, if_pos (by omega)]
    unfold mvP
    rw [show j / 3 = c by omega, if_pos h, show j - c * 3 = j % 3 by omega]
  · rw [if_neg e]
    by_cases e2 : j < c * 3
    · rw [if_pos e2, if_pos (by omega)]
    · rw [if_neg e2, if_neg (by omega)]
theorem mvU_skip {n : Nat} {fm fp : Nat → Int} {a b : Int} {c : Nat} (h : ¬ 0 < clN n fp fm a b c) : mvU n fm a b fp (c + 1) = mvU n fm a b fp c := by
  funext j
  unfold mvU
  by_cases e2 : j < c * 3
  · rw [if_pos e2, if_pos (by omega)]
  · rw [if_neg e2]
    by_cases e : j < (c + 1) * 3
    · rw [if_pos e]
      unfold mvP
      rw [show j / 3 = c by omega, if_neg h]
    · rw [if_neg e]
theorem mvU_0 {n : Nat} {fm fp : Nat → Int} {a b : Int} : mvU n fm a b fp 0 = fp := by
  funext j
  unfold mvU
  rw [if_neg (by omega)]
theorem mvU_n {n : Nat} {fm fp : Nat → Int} {a b : Int} : ∀ j, j < n * 3 → mvU n fm a b fp n j = mvP n fm a b fp j := fun j hj => if_pos hj
/-- the picture's colours and the classes of cells -/
theorem picS_e (n : Nat) (fp fm : Nat → Int) (a b : Int) (k i : Nat) : picS n fp fm a b k i = if i < k ∧ cellN a b i = true then nearC n fp fm i else 0 := by
  induction k with
  | zero => rw [if_neg (by omega)]; rfl
  | succ k ih =>
    cases hp : cellN a b k
    · rw [picS, recS_f hp]
      show picS n fp fm a b k i = _
      rw [ih]
      by_cases e : i = k
      · subst e; rw [hp, if_neg (by simp), if_neg (by simp)]
      · by_cases h : i < k ∧ cellN a b i = true
        · rw [if_pos h, if_pos ⟨by omega, h.2⟩]
        · rw [if_neg h, if_neg fun h2 => h ⟨by omega, h2.2⟩]
    · rw [picS, recS_t hp]
      show stepP n fp fm (picS n fp fm a b k) k i = _
      unfold stepP upd
      by_cases e : i = k
      · subst e; rw [if_pos rfl, if_pos ⟨by omega, hp⟩]
      · rw [if_neg e, ih]
        by_cases h : i < k ∧ cellN a b i = true
        · rw [if_pos h, if_pos ⟨by omega, h.2⟩]
        · rw [if_neg h, if_neg fun h2 => h ⟨by omega, h2.2⟩]
theorem cl_pic (n : Nat) (fp fm : Nat → Int) (a b : Int) (c i : Nat) (hi : i < 144) : decide (picS n fp fm a b 144 i = (c : Int) + 1) = clP n fp fm a b c i := by
  rw [picS_e]
  unfold clP
  cases hp : cellN a b i
  · rw [if_neg (by simp)]; simp; omega
  · rw [if_pos ⟨hi, rfl⟩]
    unfold nearC
    rw [Bool.true_and, decide_eq_decide]
    omega
theorem picS_b (n : Nat) (fp fm : Nat → Int) (a b : Int) (hn : n ≤ 15) (i : Nat) : 0 ≤ picS n fp fm a b 144 i ∧ picS n fp fm a b 144 i ≤ 16 := by
  rw [picS_e]
  split
  · exact nearC_b n fp fm i hn
  · omega
end Go.Proofs.Ytpphckfalgapdaa
