/- strings.Join and the Builder's methods that it calls: what they return; no condition. -/
import Derived.Test.YtphjhegaplochaaGreatDoorU2
import Derived.Test.YtphjhegaplochaaGreatDoorShb
import Derived.Lib.Builder
import Derived.Lib.AppendStr
import Derived.Lib.MakeNoZero
import Derived.Laws.IdiomCopy
import Derived.Lib.Join
import Derived.Lib.Slices
import Derived.RegionTactic
import Derived.BigCall
import Derived.BigGuard
import Derived.Test.YtphjhegaplochaaGreatDoorU1
set_option linter.unusedVariables false
namespace Go.Proofs.YtphjhegaplochaaGreatDoor
open Go.BigFrame
open Go.RowKit Go.Arr
set_option maxHeartbeats 4000000 in
set_option maxRecDepth 1000000 in
theorem writeString_any (B b : Nat) (bs : List Value) (s : ByteArray) (w : World) (h : Lib.IsBuilder 117 5 B b bs w) (hlen : bs.length + s.size ≤ 140737488355328) (hBw : B ≤ w.heap.size) :
    Calls Tryz.prog 86 #[.pointer (some ⟨b, 0, none⟩), .string s] w fun e w' => e = .returned (.tuple #[.int .i64 s.size, .nilIface]) ∧ (Lib.BuilderAt 117 5 B b (.pointer (some ⟨b, 0, none⟩)) (bs ++ Lib.strCells s) w' ∧ Below B w w') := by
  obtain ⟨i0, hi, hz0, hz1, hz2⟩ := info_parts (P := Tryz.prog) (show (Tryz.prog.info? 5).map (fun i => (i.zero, i.size, i.bytes)) = some (some (.int .u8 0), 1, 1) by kernel_rfl)
  go_enter Tryz.func86, Tryz.ntmps86
  go_wp2_with (go_at_call 105; refine (copyCheck_any B b bs _ h).mono ?_)
  rintro e w1 ⟨rfl, h1, hb1⟩
  obtain ⟨hB, v, hbk, hown, hne⟩ := h1
  have hbo : obj w1 b = some (.cells #[.pointer (some ⟨b, 0, none⟩), v] 117) := hbk
  have hlo := obj_lt hbo
  go_wp2_with (at_builtin; refine Lib.wpList_append_own_string _ rfl _ _ 22 9 rfl B 5 i0 Tryz.underlying22 Tryz.underlying9 hi hz0 hz1 hz2 _ _ _ rfl hown s rfl ?c3 ?c4 ?c5 ?_)
  case c3 => unfold maxLen; omega
  case c4 => omega
  case c5 => have := hb1.size; omega
  intro v' w2 hown' hgrow _
  have hlt : b < w1.heap.size := by
    rcases Nat.lt_or_ge b w1.heap.size with h' | h'
    · exact h'
    · simp [Array.getElem?_eq_none h'] at hbk
  have hb2 : w2.heap[b]? = some (.cells #[.pointer (some ⟨b, 0, none⟩), v] 117 (0, 0)) := by
    rw [hgrow.block b hlt (fun e => hne e.symm)]
    exact hbk
  have hbo2 : obj w2 b = some (.cells #[.pointer (some ⟨b, 0, none⟩), v] 117) := hb2
  have hlo2 := obj_lt hbo2
  obtain ⟨ao, n', cap, rfl⟩ : ∃ ao n' cap, v' = .slice ao n' cap := by
    rcases hown'.2 with ⟨hv, _⟩ | ⟨g, cap, cur, hv, _⟩
    · exact ⟨_, _, _, hv⟩
    · exact ⟨_, _, _, hv⟩
  go_wp2
  go_ret2
  refine ⟨rfl, ?_, ?_⟩
  · exact Lib.BuilderAt.put (T := 117) (e := 5) hB hb2 (bs' := bs ++ Lib.strCells s) (by simpa [Lib.strCells_length] using hown') (by decide)
  · exact (hb1.grown hgrow (by have := hb1.size; omega) (fun k hk => (hown.lt k hk).1)).setCell (p := ⟨b, 1, none⟩) hB _
set_option maxHeartbeats 4000000 in
set_option maxRecDepth 1000000 in
theorem grow_fresh (B b n : Nat) (w : World) (hB : B ≤ b) (hbk : w.heap[b]? = some (.cells #[.pointer (some ⟨b, 0, none⟩), .slice none 0 0] 117 (0, 0))) (hBw : B ≤ w.heap.size) (hn : n ≤ 281474976710656) :
    Calls Tryz.prog 106 #[.pointer (some ⟨b, 0, none⟩), .int .i64 n] w fun e w' => e = .returned (.tuple #[]) ∧ (Lib.BuilderAt 117 5 B b (.pointer (some ⟨b, 0, none⟩)) [] w' ∧ Below B w w') := by
  obtain ⟨cs, hrun, hle, hmax⟩ := Lib.run_makeNoZero (P := Tryz.prog) w.drew #[3] 22 5 Tryz.underlying22 n hn
  have hw : IntKind.i64.wrap (IntKind.i64.wrap 0 + (n : Int)) = n := by
    rw [IntKind.wrap_i64, IntKind.wrap_i64]
    omega
  have hcall : (callFunc 127 #[.int .i64 (IntKind.i64.wrap (IntKind.i64.wrap 0 + (n : Int)))]).run Tryz.prog w.drew = .ok (.value (.slice (some ⟨w.drew.heap.size, 0, none⟩) n cs.size)) (w.drew.drew.drew.alloc (.cells cs 5)) := by
    rw [hw, run_callFunc_extern Tryz.func127 (by kernel_rfl) (by kernel_rfl) (by kernel_rfl) (e := Extern.BytealgMakeNoZero.makeNoZero #[3] #[22]) (by kernel_rfl), hrun]
    rfl
  have hcopy : ∀ W : World, (Builtin.copy_ #[22, 22] 3 #[.slice (some ⟨w.heap.size, 0, none⟩) 0 cs.size, .slice none 0 0]).run Tryz.prog W = .ok (goInt 0) W :=
    fun W => run_copy_none W 22 22 3 5 _ _ 0 cs.size 0 0 Tryz.underlying22 (by kernel_rfl) rfl
  clear hw
  have ob : obj w b = some (.cells #[.pointer (some ⟨b, 0, none⟩), .slice none 0 0] 117) := hbk
  have lb := obj_lt ob
  go_enter Tryz.func106, Tryz.ntmps106
  go_wp2
  have hfin := Lib.grown_fresh (T := 117) (e := 5) (cs := cs) hB hbk hBw (hmax (by unfold maxLen; omega)) (by decide)
  rw [World.setCell_alloc_past (w := w) (Obj.cells cs 5) b 1 _ lb] at hfin
  go_region
  all_goals (go_wp2; go_end0; exact ⟨rfl, hfin⟩)
set_option maxHeartbeats 4000000 in
set_option maxRecDepth 1000000 in
theorem Grow_fresh (B b n : Nat) (w : World) (hB : B ≤ b) (hbk : w.heap[b]? = some (.cells #[.pointer none, .slice none 0 0] 117 (0, 0))) (hBw : B ≤ w.heap.size) (hn : n ≤ 281474976710656) :
    Calls Tryz.prog 85 #[.pointer (some ⟨b, 0, none⟩), .int .i64 n] w fun e w' => e = .returned (.tuple #[]) ∧ (Lib.BuilderAt 117 5 B b (.pointer (some ⟨b, 0, none⟩)) [] w' ∧ Below B w w') := by
  have hbk1 : (w.setCell ⟨b, 0, none⟩ (.pointer (some ⟨b, 0, none⟩))).heap[b]? = some (.cells #[.pointer (some ⟨b, 0, none⟩), .slice none 0 0] 117 (0, 0)) := by
    simp [World.setCell, Array.getElem?_modify, hbk]
  have hb1 : Below B w (w.setCell ⟨b, 0, none⟩ (.pointer (some ⟨b, 0, none⟩))) := (Below.refl B w).setCell (p := ⟨b, 0, none⟩) hB _
  have ob : obj w b = some (.cells #[.pointer none, .slice none 0 0] 117) := hbk
  have lb := obj_lt ob
  go_enter Tryz.func85, Tryz.ntmps85
  have hU : Lib.BuilderAt 117 5 B b (.pointer (some ⟨b, 0, none⟩)) [] (w.setCell ⟨b, 0, none⟩ (.pointer (some ⟨b, 0, none⟩))) := ⟨hB, .slice none 0 0, hbk1, World.ownsRow_nil _ _ _ _, by simp [Value.ownBlock]⟩
  go_wp2_with (go_at_call 105; refine (copyCheck_fresh b _ w hbk).mono ?_; rintro e w' ⟨rfl, rfl⟩)
  go_region
  all_goals go_wp2_with (go_at_call 106; refine (grow_fresh B b n (w.setCell ⟨b, 0, none⟩ (.pointer (some ⟨b, 0, none⟩))).drew hB hbk1 (by simpa [World.setCell, World.drew, -World.drew_eq] using hBw) hn).mono ?_; rintro e w' ⟨rfl, h1, h2⟩)
  all_goals first
    | (go_end0; exact ⟨rfl, h1, hb1.drew.trans h2⟩)
    | (go_end0; exact ⟨rfl, hU.drew, hb1.drew⟩)
set_option maxHeartbeats 4000000 in
set_option maxRecDepth 1000000 in
theorem join_none (a : Option Addr) (c : Nat) (sep : ByteArray) (w : World) :
    Calls Tryz.prog 41 #[.slice a 0 c, .string sep] w fun e w' => e = .returned (.string ⟨#[]⟩) ∧ w' = w := by
  go_enter Tryz.func41, Tryz.ntmps41
  go_wp2
  go_ret
  exact ⟨rfl, rfl⟩
set_option maxHeartbeats 4000000 in
set_option maxRecDepth 1000000 in
theorem join_one (bk o c : Nat) (x sep : ByteArray) (w : World) (hc : w.cell? ⟨bk, o, none⟩ = some (.string x)) :
    Calls Tryz.prog 41 #[.slice (some ⟨bk, o, none⟩) 1 c, .string sep] w fun e w' => e = .returned (.string x) ∧ w' = w := by
  rw [cell_obj] at hc
  go_enter Tryz.func41, Tryz.ntmps41
  go_wp2
  go_ret
  exact ⟨rfl, rfl⟩
set_option maxHeartbeats 4000000 in
set_option maxRecDepth 1000000 in
theorem join_many (bk o c : Nat) (xs : List ByteArray) (sep : ByteArray) (w : World)
    (hcells : ∀ (j : Nat) x, xs[j]? = some x → w.cell? ⟨bk, o + j, none⟩ = some (.string x))
    (hbk : bk < w.heap.size) (h2 : 2 ≤ xs.length) (hN : xs.length ≤ 140737488355328) (hcap : xs.length ≤ c)
    (hlen : (Lib.join (xs.map (·.data.toList)) sep.data.toList).length ≤ 140737488355328) :
    Calls Tryz.prog 41 #[.slice (some ⟨bk, o, none⟩) xs.length c, .string sep] w fun e w' => e = .returned (.string ⟨(Lib.join (xs.map (·.data.toList)) sep.data.toList).toArray⟩) ∧ Below w.heap.size w w' := by
  have HC := hide hcells
  clear hcells
  -- the lengths
  obtain ⟨x0, r, hxs⟩ : ∃ x0 r, xs = x0 :: r := by
    cases xs with
    | nil => simp at h2
    | cons a t => exact ⟨a, t, rfl⟩
  have hjl : sep.size * (xs.length - 1) + Lib.lens (xs.map (·.data.toList)) ≤ 140737488355328 := by
    have := Lib.join_length x0.data.toList (r.map (·.data.toList)) sep.data.toList
    rw [hxs] at hlen ⊢
    simp only [List.map_cons] at hlen ⊢
    rw [this, List.length_map] at hlen
    rw [Lib.size_eq, List.length_cons, Nat.add_sub_cancel]
    exact hlen
  have hmul : sep.size * (xs.length - 1) ≤ 140737488355328 := by omega
  generalize hM : sep.size * (xs.length - 1) = M at hjl hmul
  have hcast : ((xs.length : Int) - 1) = ((xs.length - 1 : Nat) : Int) := by omega
  have hlt : sep.size < 9223372036854775807 / (xs.length - 1) := by
    have : sep.size + 1 ≤ 9223372036854775807 / (xs.length - 1) := by
      rw [Nat.le_div_iff_mul_le (by omega), Nat.add_mul, hM]
      omega
    omega
  have hdv : ¬ (9223372036854775807 / ((xs.length : Int) - 1) ≤ (sep.size : Int)) := by
    have e : (9223372036854775807 : Int) / ((xs.length - 1 : Nat) : Int) = ((9223372036854775807 / (xs.length - 1) : Nat) : Int) := IntWalk.up_div (x := 9223372036854775807) rfl rfl
    rw [hcast, e]
    generalize 9223372036854775807 / (xs.length - 1) = q at hlt
    omega
  have hprod : wrap64 ((sep.size : Int) * ((xs.length : Int) - 1)) = (M : Int) := by
    have e : (sep.size : Int) * ((xs.length - 1 : Nat) : Int) = ((sep.size * (xs.length - 1) : Nat) : Int) := IntWalk.up_mul rfl rfl
    rw [hcast, e, hM]
    exact IntWalk.wrap64_in _ ⟨by omega, by omega⟩
  have hM0 : sep.size = 0 → M = 0 := fun h => by rw [← hM, h, Nat.zero_mul]
  clear hlt hcast
  have hne0 : ((xs.length : Int) == 0) = false := beq_eq_false_iff_ne.2 (by omega)
  have hne1 : ((xs.length : Int) == 1) = false := beq_eq_false_iff_ne.2 (by omega)
  have Hxs := hide hxs
  have Hlen := hide hlen
  clear hxs hlen
  go_enter Tryz.func41, Tryz.ntmps41
  go_wp2_with fail
  all_goals (
    go_loop [5, 41] (fun n i => ∃ k : Nat, k ≤ xs.length ∧ i = .int .i64 k ∧ n = .int .i64 ((M + Lib.lens ((xs.map (·.data.toList)).take k) : Nat) : Int)) (fun _ i => xs.length - (intOf i).toNat)
    case atStart => exact ⟨0, Nat.zero_le _, rfl, by first | (simp [Lib.lens]; done) | (have := hM0 (by omega); simp [Lib.lens, this])⟩
    case round =>
      obtain ⟨k, hk, rfl, rfl⟩ := hrel
      by_cases hkn : k < xs.length
      · obtain ⟨x, hx⟩ : ∃ x, xs[k]? = some x := ⟨xs[k], List.getElem?_eq_getElem hkn⟩
        have hc := HC.out k x hx
        rw [cell_obj] at hc
        have hstep := Lib.lens_take_succ (xs.map (·.data.toList)) k x.data.toList (by simp [hx])
        have hbound : Lib.lens ((xs.map (·.data.toList)).take (k + 1)) ≤ Lib.lens (xs.map (·.data.toList)) := Lib.lens_take_le _ _
        rw [← Lib.size_eq] at hstep
        generalize hA1 : Lib.lens ((xs.map (·.data.toList)).take (k + 1)) = A1 at hstep hbound
        generalize Lib.lens ((xs.map (·.data.toList)).take k) = A0 at hstep
        have HA1 := hide hA1
        clear hA1
        go_wp2
        exact ⟨⟨k + 1, by omega, by go_num, by rw [HA1.out]; refine congrArg _ ?_; omega⟩, by simp [intOf]; omega⟩
      · have hke : k = xs.length := by omega
        subst hke
        have hall : (xs.map (·.data.toList)).take xs.length = xs.map (·.data.toList) := List.take_of_length_le (by simp)
        rw [hall]
        generalize hT : Lib.lens (xs.map (·.data.toList)) = T at hjl
        have HT := hide hT
        clear hT hall
        go_wp2_with fail
        have hMT : ((M : Int) + (T : Int)) = ((M + T : Nat) : Int) := by omega
        rw [hMT]
        refine (Grow_fresh w.heap.size w.heap.size (M + T) _ (Nat.le_refl _) (heap_alloc_new w _) (by simp) (by omega)).mono ?_
        rintro e w1 ⟨rfl, h1, hb1⟩
        have hb1' : Below w.heap.size w w1 := ((Below.refl w.heap.size w).alloc (Nat.le_refl _) _).trans hb1
        -- the first element
        have hx0 : xs[0]? = some x0 := by rw [Hxs.out]; rfl
        have hc0 : w1.cell? ⟨bk, o, none⟩ = some (.string x0) := by
          rw [hb1'.cell (p := ⟨bk, o, none⟩) hbk]
          exact HC.out 0 x0 hx0
        rw [cell_obj] at hc0
        have H1 := hide (Or.inr h1 : Lib.IsBuilder 117 5 w.heap.size w.heap.size [] w1)
        have Hb1 := hide hb1'
        have hBw1 : w.heap.size ≤ w1.heap.size := hb1'.size
        clear h1 hb1 hb1' hMT
        -- what the builder holds behind k rounds of the second loop; and that it is never longer than the whole
        have hwhole : Lib.join (xs.map (·.data.toList)) sep.data.toList = x0.data.toList ++ Lib.joinTail sep.data.toList (r.map (·.data.toList)) := by
          rw [Hxs.out, List.map_cons, Lib.join_cons]
        have hCle : ∀ k, (x0.data.toList ++ Lib.joinTail sep.data.toList ((r.map (·.data.toList)).take k)).length ≤ 140737488355328 := fun k => by
          have h1 := Hlen.out
          rw [hwhole, List.length_append] at h1
          have h2 := Lib.joinTail_take_le sep.data.toList (r.map (·.data.toList)) k
          rw [List.length_append]
          omega
        have HCle := hide hCle
        have Hwhole := hide hwhole
        clear hCle hwhole
        go_wp2_with fail
        refine (writeString_any w.heap.size w.heap.size [] x0 w1 H1.out (by have := HCle.out 0; simp [Lib.joinTail] at this ⊢; omega) hBw1).mono ?_
        rintro e w2 ⟨rfl, h2', hb2⟩
        have hstart : ([] : List Value) ++ Lib.strCells x0 = Lib.byteCells (x0.data.toList ++ Lib.joinTail sep.data.toList ((r.map (·.data.toList)).take 0)) := by
          simp [Lib.joinTail, Lib.strCells_eq]
        rw [hstart] at h2'
        have H2 := hide (Or.inr h2' : Lib.IsBuilder 117 5 w.heap.size w.heap.size _ w2)
        have Hb2 := hide (Hb1.out.trans hb2)
        clear h2' hb2 hstart
        have hrl : r.length = xs.length - 1 := by rw [Hxs.out]; simp
        go_wp2_with fail
        go_loopw [65] (fun i wr => ∃ k : Nat, k ≤ r.length ∧ i = .int .i64 k ∧ Hid (Lib.IsBuilder 117 5 w.heap.size w.heap.size (Lib.byteCells (x0.data.toList ++ Lib.joinTail sep.data.toList ((r.map (·.data.toList)).take k))) wr) ∧ Hid (Below w.heap.size w wr)) (fun i _ => r.length - (intOf i).toNat)
        case atStart => exact ⟨0, Nat.zero_le _, rfl, H2, Hb2⟩
        case round =>
          obtain ⟨k, hk', rfl, HB, HW⟩ := hrel
          by_cases hkr : k < r.length
          · obtain ⟨y, hy⟩ : ∃ y, r[k]? = some y := ⟨r[k], List.getElem?_eq_getElem hkr⟩
            have hxy : xs[k + 1]? = some y := by rw [Hxs.out]; simpa using hy
            have hcy : wr.cell? ⟨bk, o + 1 + k, none⟩ = some (.string y) := by
              rw [HW.out.cell (p := ⟨bk, o + 1 + k, none⟩) hbk, show o + 1 + k = o + (k + 1) by omega]
              exact HC.out (k + 1) y hxy
            rw [cell_obj] at hcy
            have hBw : w.heap.size ≤ wr.heap.size := HW.out.size
            have hnext : Lib.byteCells (x0.data.toList ++ Lib.joinTail sep.data.toList ((r.map (·.data.toList)).take k)) ++ Lib.strCells sep ++ Lib.strCells y = Lib.byteCells (x0.data.toList ++ Lib.joinTail sep.data.toList ((r.map (·.data.toList)).take (k + 1))) := by
              rw [Lib.joinTail_take_succ sep.data.toList (r.map (·.data.toList)) k y.data.toList (by simp [hy]), Lib.strCells_eq, Lib.strCells_eq, ← Lib.byteCells_append, ← Lib.byteCells_append, List.append_assoc, List.append_assoc, List.append_assoc]
            have hl1 := HCle.out (k + 1)
            rw [Lib.joinTail_take_succ sep.data.toList (r.map (·.data.toList)) k y.data.toList (by simp [hy])] at hl1
            simp only [List.length_append, ← Lib.size_eq] at hl1
            have hl0 : (Lib.byteCells (x0.data.toList ++ Lib.joinTail sep.data.toList ((r.map (·.data.toList)).take k))).length = x0.size + (Lib.joinTail sep.data.toList ((r.map (·.data.toList)).take k)).length := by
              rw [Lib.byteCells_length, List.length_append, ← Lib.size_eq]
            generalize (Lib.joinTail sep.data.toList ((r.map (·.data.toList)).take k)).length = J at hl0 hl1
            have Hn := hide hnext
            clear hnext hy hxy
            go_wp2_with fail
            refine (writeString_any w.heap.size w.heap.size _ sep wr HB.out (by rw [hl0]; omega) hBw).mono ?_
            rintro e w3 ⟨rfl, h3, hb3⟩
            have hBw3 : w.heap.size ≤ w3.heap.size := Nat.le_trans hBw hb3.size
            have H3 := hide h3
            have Hb3 := hide hb3
            clear h3 hb3
            go_wp2_with fail
            refine (writeString_any w.heap.size w.heap.size _ y w3 (Or.inr H3.out) (by rw [List.length_append, hl0, Lib.strCells_length]; omega) hBw3).mono ?_
            rintro e w4 ⟨rfl, h4, hb4⟩
            rw [Hn.out] at h4
            have H4 := hide (Or.inr h4 : Lib.IsBuilder 117 5 w.heap.size w.heap.size _ w4)
            have Hb4 := hide ((HW.out.trans Hb3.out).trans hb4)
            clear h4 hb4
            go_wp2
            exact ⟨⟨k + 1, by omega, by go_num, H4, Hb4⟩, by simp [intOf]; omega⟩
          · have hke : k = r.length := by omega
            subst hke
            have hfull : (r.map (·.data.toList)).take r.length = r.map (·.data.toList) := List.take_of_length_le (by simp)
            have hB' := HB.out
            rw [hfull, ← Hwhole.out] at hB'
            have hBw : w.heap.size ≤ wr.heap.size := HW.out.size
            go_wp2_with fail
            refine (Tryz.builderString w.heap.size w.heap.size _ wr hB' hBw).mono ?_
            rintro e w5 ⟨rfl, hb5⟩
            have Hb5 := hide (HW.out.trans hb5)
            clear hb5 hB'
            go_wp2
            go_ret
            exact ⟨rfl, Hb5.out⟩)
set_option maxHeartbeats 4000000 in
set_option maxRecDepth 1000000 in
theorem join_any (bk o c : Nat) (xs : List ByteArray) (sep : ByteArray) (w : World)
    (hcells : ∀ (j : Nat) x, xs[j]? = some x → w.cell? ⟨bk, o + j, none⟩ = some (.string x))
    (hbk : bk < w.heap.size) (hN : xs.length ≤ 140737488355328) (hcap : xs.length ≤ c)
    (hlen : (Lib.join (xs.map (·.data.toList)) sep.data.toList).length ≤ 140737488355328) :
    Calls Tryz.prog 41 #[.slice (some ⟨bk, o, none⟩) xs.length c, .string sep] w fun e w' => e = .returned (.string ⟨(Lib.join (xs.map (·.data.toList)) sep.data.toList).toArray⟩) ∧ Below w.heap.size w w' := by
  match xs, hcells, hN, hcap, hlen with
  | [], _, _, _, _ => exact (join_none _ c sep w).mono fun e w' ⟨he, hw⟩ => ⟨he, hw ▸ Below.refl _ _⟩
  | [x], hcells, _, _, _ =>
    refine (join_one bk o c x sep w (hcells 0 x rfl)).mono fun e w' ⟨he, hw⟩ => ⟨?_, hw ▸ Below.refl _ _⟩
    rw [he, List.map_cons, List.map_nil, Lib.join_one, Lib.mk_data]
  | x :: y :: r, hcells, hN, hcap, hlen => exact join_many bk o c (x :: y :: r) sep w hcells hbk (by simp) hN hcap hlen
end Go.Proofs.YtphjhegaplochaaGreatDoor
/- Tones: what the small functions on them return; no condition. -/
set_option linter.unusedVariables false
namespace Go.Proofs.YtphjhegaplochaaGreatDoor
open Go.BigFrame
open Go.RowKit Go.Arr
def bright (a b c : Int) : Int := 3 * a + 6 * b + c
def far (a b c d e f : Int) : Int := 3 * (a - d) * (a - d) + 6 * (b - e) * (b - e) + (c - f) * (c - f)
set_option maxHeartbeats 400000 in
theorem bright_spec0 (a b c : Int) (ha : 0 ≤ a ∧ a ≤ 255) (hb : 0 ≤ b ∧ b ≤ 255) (hc : 0 ≤ c ∧ c ≤ 255) (w : World) :
    Calls Tryz.prog 97 #[.agg #[.int .u8 a, .int .u8 b, .int .u8 c]] w fun e w' => e = .returned (.int .i64 (bright a b c)) ∧ New w w' := by
  go_enter Tryz.func97, Tryz.ntmps97
  go_wp2
  go_ret
  exact ⟨rfl, (New.refl w).alloc _⟩
set_option maxHeartbeats 400000 in
theorem bright_impl (a b c : Int) (ha : 0 ≤ a ∧ a ≤ 255) (hb : 0 ≤ b ∧ b ≤ 255) (hc : 0 ≤ c ∧ c ≤ 255) (w : World) :
    Calls Tryz.prog 36 #[.agg #[.int .u8 a, .int .u8 b, .int .u8 c]] w fun e w' => e = .returned (.int .i64 (bright a b c)) ∧ New w w' := by
  go_enter Tryz.func36, Tryz.ntmps36
  go_wp2
  go_ret
  exact ⟨rfl, (New.refl w).alloc _⟩
theorem mul_self_nonneg' (x : Int) : 0 ≤ x * x := by
  rcases Int.le_total 0 x with h | h
  · exact Int.mul_nonneg h h
  · have := Int.mul_nonneg (show 0 ≤ -x by omega) (show 0 ≤ -x by omega)
    rwa [Int.neg_mul_neg] at this
theorem sq_le (x : Int) (h0 : -255 ≤ x) (h1 : x ≤ 255) : 0 ≤ x * x ∧ x * x ≤ 65025 := by
  refine ⟨mul_self_nonneg' x, ?_⟩
  rcases Int.le_total 0 x with h | h
  · have := Int.mul_le_mul h1 h1 h (by omega)
    omega
  · have := Int.mul_le_mul (show -x ≤ 255 by omega) (show -x ≤ 255 by omega) (by omega) (by omega)
    rw [Int.neg_mul_neg] at this
    omega
theorem sq3 (k x : Int) (hk : 0 ≤ k ∧ k ≤ 6) (h0 : -255 ≤ x) (h1 : x ≤ 255) : 0 ≤ k * x * x ∧ k * x * x ≤ 390150 := by
  have h := sq_le x h0 h1
  rw [Int.mul_assoc]
  refine ⟨Int.mul_nonneg hk.1 h.1, ?_⟩
  have := Int.mul_le_mul hk.2 h.2 h.1 (by omega)
  omega
set_option maxHeartbeats 1000000 in
theorem far_spec0 (a b c : Int) (ha : 0 ≤ a ∧ a ≤ 255) (hb : 0 ≤ b ∧ b ≤ 255) (hc : 0 ≤ c ∧ c ≤ 255) (d e f : Int) (hd : 0 ≤ d ∧ d ≤ 255) (he : 0 ≤ e ∧ e ≤ 255) (hf : 0 ≤ f ∧ f ≤ 255) (w : World) :
    Calls Tryz.prog 49 #[.agg #[.int .u8 a, .int .u8 b, .int .u8 c], .agg #[.int .u8 d, .int .u8 e, .int .u8 f]] w fun e' w' => e' = .returned (.int .i64 (far a b c d e f)) ∧ New w w' := by
  have s1 := sq3 3 (a - d) (by omega) (by omega) (by omega)
  have s2 := sq3 6 (b - e) (by omega) (by omega) (by omega)
  have s3 := sq_le (c - f) (by omega) (by omega)
  go_enter Tryz.func49, Tryz.ntmps49
  go_wp2
  go_ret

  exact ⟨rfl, ((New.refl w).alloc _).alloc _⟩
set_option maxHeartbeats 1000000 in
theorem far_impl (a b c : Int) (ha : 0 ≤ a ∧ a ≤ 255) (hb : 0 ≤ b ∧ b ≤ 255) (hc : 0 ≤ c ∧ c ≤ 255) (d e f : Int) (hd : 0 ≤ d ∧ d ≤ 255) (he : 0 ≤ e ∧ e ≤ 255) (hf : 0 ≤ f ∧ f ≤ 255) (w : World) :
    Calls Tryz.prog 22 #[.agg #[.int .u8 a, .int .u8 b, .int .u8 c], .agg #[.int .u8 d, .int .u8 e, .int .u8 f]] w fun e' w' => e' = .returned (.int .i64 (far a b c d e f)) ∧ New w w' := by
  have s1 := sq3 3 (a - d) (by omega) (by omega) (by omega)
  have s2 := sq3 6 (b - e) (by omega) (by omega) (by omega)
  have s3 := sq_le (c - f) (by omega) (by omega)
  go_enter Tryz.func22, Tryz.ntmps22
  go_wp2
  refine wp_loop_rounds 4 ?_
  rw [rounds_succ]
  go_wp2
  go_region
  go_wp2
  rw [rounds_succ]
  go_wp2
  go_region
  go_wp2
  rw [rounds_succ]
  go_wp2
  go_region
  go_wp2
  rw [rounds_succ]
  go_wp2
  go_ret
  refine ⟨rfl, ?_⟩
  repeat' (first | exact New.refl _ | refine New.alloc ?_ _ | refine New.drew ?_ | refine New.drewN ?_ _ | refine New.setRow ?_ (by omega) _ | refine New.setCell ?_ (by first | omega | (simp; done) | (simp; omega)) _)
end Go.Proofs.YtphjhegaplochaaGreatDoor
/- The text of a tone: what the reference and the program return; no condition. -/
set_option linter.unusedVariables false
namespace Go.Proofs.YtphjhegaplochaaGreatDoor
open Go.BigFrame
open Go.RowKit Go.Arr
theorem slBytes : SlTy Tryz.prog 22 5 (.int .u8 0) 1 1 := ⟨Tryz.underlying22, by kernel_rfl, rfl, by omega⟩
/-- the digit of a number below 16 -/
def hexd (x : Int) : Int := if x < 10 then 48 + x else 87 + x
def hexes (l : List Int) : List Int := l.flatMap fun x => [hexd (x / 16), hexd (x % 16)]
set_option maxRecDepth 100000 in
theorem dig_get (x : Int) (h0 : 0 ≤ x) (h1 : x < 16) (w : World) : (Instr.index 9 (.string ⟨#[48, 49, 50, 51, 52, 53, 54, 55, 56, 57, 97, 98, 99, 100, 101, 102]⟩) (.int .u8 x)).run Tryz.prog w = .ok (.int .u8 (hexd x)) w := by
  have : x = 0 ∨ x = 1 ∨ x = 2 ∨ x = 3 ∨ x = 4 ∨ x = 5 ∨ x = 6 ∨ x = 7 ∨ x = 8 ∨ x = 9 ∨ x = 10 ∨ x = 11 ∨ x = 12 ∨ x = 13 ∨ x = 14 ∨ x = 15 := by omega
  rcases this with h | h | h | h | h | h | h | h | h | h | h | h | h | h | h | h <;> (subst h; rfl)
def sel (a b c : Int) : Nat → Int
  | 0 => a
  | 1 => b
  | _ => c
theorem tone_arrT (a b c : Int) : (#[.int .u8 a, .int .u8 b, .int .u8 c] : Array Value) = arr 3 .u8 (sel a b c) := rfl
def hexUpto (f : Nat → Int) : Nat → List Int
  | 0 => []
  | k + 1 => hexUpto f k ++ [hexd (f k / 16), hexd (f k % 16)]
theorem length_hexUpto (f : Nat → Int) (k : Nat) : (hexUpto f k).length = 2 * k := by
  induction k with
  | zero => rfl
  | succ k ih => simp [hexUpto, ih]; omega
attribute [local go_sem high] dig_get
theorem u8_quo (x : Int) (h0 : 0 ≤ x) (h1 : x ≤ 255) : IntKind.u8.wrap (x.tdiv 16) = x / 16 := by
  rw [Int.tdiv_eq_ediv_of_nonneg h0]
  show (x / 16) % 256 = x / 16
  omega
def toneText (a b c : Int) : ByteArray := bstr (35 :: hexUpto (sel a b c) 3)
theorem and15_fin : ∀ n : Fin 256, bits .and .u8 ((n.val : Nat) : Int) 15 = ((n.val : Nat) : Int) % 16 := by decide +kernel
theorem and15 (x : Int) (h0 : 0 ≤ x) (h1 : x ≤ 255) : bits .and .u8 x 15 = x % 16 := by
  obtain ⟨n, rfl⟩ := Int.eq_ofNat_of_zero_le h0
  exact and15_fin ⟨n, by omega⟩
def byteAt (s : ByteArray) (i : Nat) : Int := ((s.data.getD i 0).toNat : Int)
set_option maxHeartbeats 2000000 in
set_option maxRecDepth 100000 in
theorem inHex_any (s : ByteArray) (hs : s.size ≤ 1000000000) (w : World) :
    Calls Tryz.prog 79 #[.string s] w fun e w' => e = .returned (.string (bstr (hexUpto (byteAt s) s.size))) ∧ New w w' := by
  go_enter Tryz.func79, Tryz.ntmps79
  go_wp2
  go_loopw [3, 8] (fun v i wr => ∃ (k g cap : Nat), k ≤ s.size ∧ i = .int .i64 k ∧ v = .slice (some ⟨g, 0, none⟩) (2 * k) cap ∧ wr.ownsRow w.heap.size 5 1 (.slice (some ⟨g, 0, none⟩) (2 * k) cap) (2 * k) ((hexUpto (byteAt s) k).map (Value.int .u8)) ∧ New w wr) (fun _ i _ => s.size - (intOf i).toNat)
  case atStart =>
    refine ⟨0, w.heap.size, 0, by omega, rfl, rfl, ?_, (New.refl w).alloc _⟩
    exact own_of_obj (cur := #[]) (by go_simp) (by omega) (by omega) (by decide) rfl
  case round =>
    obtain ⟨k, g, cap, hk, rfl, rfl, hown, hn⟩ := hrel
    by_cases hlt : k < s.size
    · have hl := hn.le
      have hb : 0 ≤ byteAt s k ∧ byteAt s k ≤ 255 := by
        unfold byteAt
        have := (s.data.getD k 0).toNat_lt
        omega
      have hx : ((s[k].toNat : Nat) : Int) = byteAt s k := by
        unfold byteAt
        have hkd : k < s.data.size := hlt
        rw [Array.getD_eq_getD_getElem?, Array.getElem?_eq_getElem hkd]
        rfl
      have q2 : bits .and .u8 (byteAt s k) 15 = byteAt s k % 16 := and15 _ hb.1 hb.2
      have p1 : 0 ≤ byteAt s k / 16 := by omega
      have p2 : byteAt s k / 16 < 16 := by omega
      have p3 : 0 ≤ byteAt s k % 16 := by omega
      have p4 : byteAt s k % 16 < 16 := by omega
      go_wp2_with (fail)
      go_region_law ((refine step_app slBytes rfl _ _ rfl w.heap.size _ _ _ (by simp [Act.eval]) ((hown.drew).alloc _) ⟨wr.heap.size, 0, none⟩ 2 2 [.int .u8 (hexd (byteAt s k / 16)), .int .u8 (hexd (byteAt s k % 16))] (by simp [Act.eval]) rfl (news_new _ _ _ _ _ rfl) (by simp [Value.oneCell']) (by omega) (by unfold maxLen; omega) (by omega) (by simp; omega) ?_; intro g1 cap1 w1 hown1 hg1 hat1 hlt1))
      all_goals
        obtain ⟨_, _, hbg, hbl, _⟩ := own_obj hown
        have hn1 : New w w1 := grown_new ((hn.alloc _).drew) hg1 (by simp [Value.ownBlock]; omega)
        clear hg1 hat1 hown hn hx q2
        have hown2 : w1.ownsRow w.heap.size 5 1 (.slice (some ⟨g1, 0, none⟩) (2 * (k + 1)) cap1) (2 * (k + 1)) ((hexUpto (byteAt s) (k + 1)).map (Value.int .u8)) := by
          have e2 : 2 * k + 2 = 2 * (k + 1) := by omega
          rw [e2] at hown1
          simpa [hexUpto] using hown1
        clear hown1
        go_wp2_with (fail)
        go_roundw
        case rel => exact ⟨k + 1, g1, cap1, by omega, by go_num, by rw [show 2 * (k + 1) = 2 * k + 2 from by omega], hown2, hn1⟩
        case measure => simp [intOf]; omega
    · obtain rfl : k = s.size := by omega
      obtain ⟨cur, hcur, _, _, hsz, _, _, hcu⟩ := own_obj hown
      have hst := run_string (P := Tryz.prog) (w := wr) (dst := 9) slBytes.1 Tryz.underlying5 Tryz.underlying9 (len := 2 * s.size) (cap := cap) (l := hexUpto (byteAt s) s.size) hcur (by simp [length_hexUpto]) (fun j hj => by
        rw [Nat.zero_add, hcu j (by omega), List.getElem?_map, List.getElem?_eq_getElem (by simp [length_hexUpto]; omega)]
        simp [List.getD, hj, length_hexUpto])
      go_wp2_with (fail)
      go_ret
      exact ⟨rfl, hn⟩
set_option maxHeartbeats 2000000 in
set_option maxRecDepth 100000 in
theorem toneText_impl (a b c : Int) (ha : 0 ≤ a ∧ a ≤ 255) (hb : 0 ≤ b ∧ b ≤ 255) (hc : 0 ≤ c ∧ c ≤ 255) (w : World) :
    Calls Tryz.prog 35 #[.agg #[.int .u8 a, .int .u8 b, .int .u8 c]] w fun e w' => e = .returned (.string (toneText a b c)) ∧ New w w' := by
  have hst : ∀ W : World, obj W w.heap.size = some (.cells #[.int .u8 a, .int .u8 b, .int .u8 c] 26) → (convert 22 9 (.slice (some ⟨w.heap.size, 0, none⟩) 3 3)).run Tryz.prog W = .ok (.string (bstr [a, b, c])) W := fun W hW => run_string (P := Tryz.prog) slBytes.1 Tryz.underlying5 Tryz.underlying9 hW rfl (fun j hj => by
    match j, hj with
    | 0, _ => rfl
    | 1, _ => rfl
    | 2, _ => rfl)
  have hsz : (bstr [a, b, c]).size = 3 := rfl
  have hhx : hexUpto (byteAt (bstr [a, b, c])) 3 = hexUpto (sel a b c) 3 := by
    have e0 : byteAt (bstr [a, b, c]) 0 = a := by
      show ((UInt8.ofNat a.toNat).toNat : Int) = a
      simp; omega
    have e1 : byteAt (bstr [a, b, c]) 1 = b := by
      show ((UInt8.ofNat b.toNat).toNat : Int) = b
      simp; omega
    have e2 : byteAt (bstr [a, b, c]) 2 = c := by
      show ((UInt8.ofNat c.toNat).toNat : Int) = c
      simp; omega
    simp only [hexUpto, e0, e1, e2]
    rfl
  have hcat : (⟨#[35]⟩ : ByteArray) ++ bstr (hexUpto (sel a b c) 3) = toneText a b c := by
    unfold toneText bstr
    rw [ByteArray.ext_iff]
    simp [bytesOf]
  go_enter Tryz.func35, Tryz.ntmps35
  go_wp2_with (fail)
  refine (inHex_any _ (by rw [hsz]; omega) _).mono ?_
  rintro e1 w1 ⟨rfl, hn1⟩
  rw [hsz, hhx]
  clear hhx hsz hst
  go_wp2_with (fail)
  go_ret
  refine ⟨?_, ?_⟩
  · simp
  · exact ((New.refl w).alloc _).trans hn1
end Go.Proofs.YtphjhegaplochaaGreatDoor
/- Bounds, places and codes: what the small functions of the program and of the reference return; no condition. -/
set_option linter.unusedVariables false
namespace Go.Proofs.YtphjhegaplochaaGreatDoor
open Go.BigFrame
open Go.RowKit Go.Arr
def inB (n lo hi : Int) : Bool := decide (lo ≤ n ∧ n ≤ hi)
theorem inB_t {n lo hi : Int} : inB n lo hi = true ↔ lo ≤ n ∧ n ≤ hi := by unfold inB; simp
theorem inB_f {n lo hi : Int} : inB n lo hi = false ↔ n < lo ∨ hi < n := by unfold inB; simp; omega
theorem ret_b {a b : Bool} (h : a = b) : Ending.returned (.bool a) = .returned (.bool b) := by rw [h]
set_option maxHeartbeats 400000 in
theorem l00In_any (n lo hi : Int) (w : World) : Calls Tryz.prog 56 #[.int .i64 n, .int .i64 lo, .int .i64 hi] w fun e w' => e = .returned (.bool (inB n lo hi)) ∧ w = w' := by
  by_cases h : lo ≤ n
  · go_enter Tryz.func56, Tryz.ntmps56
    go_wp2
    go_ret
    exact ⟨ret_b (by simp [inB, h]), rfl⟩
  · go_enter Tryz.func56, Tryz.ntmps56
    go_wp2
    go_ret
    exact ⟨ret_b (by simp [inB]; omega), rfl⟩
set_option maxHeartbeats 400000 in
theorem within_any (n lo hi : Int) (w : World) : Calls Tryz.prog 61 #[.int .i64 n, .int .i64 lo, .int .i64 hi] w fun e w' => e = .returned (.bool (inB n lo hi)) ∧ w = w' := by
  by_cases h : lo ≤ n
  · go_enter Tryz.func61, Tryz.ntmps61
    go_wp2
    go_ret
    exact ⟨ret_b (by simp [inB, h]), rfl⟩
  · go_enter Tryz.func61, Tryz.ntmps61
    go_wp2
    go_ret
    exact ⟨ret_b (by simp [inB]; omega), rfl⟩
def isSizeB (a b : Int) : Bool := inB a 1 12 && inB b 1 12
set_option maxHeartbeats 400000 in
theorem isSize_any (a b : Int) (w : World) : Calls Tryz.prog 62 #[.int .i64 a, .int .i64 b] w fun e w' => e = .returned (.bool (isSizeB a b)) ∧ w = w' := by
  cases h : inB a 1 12
  all_goals
    go_enter Tryz.func62, Tryz.ntmps62
    go_wp2_with (go_at_call 61; refine (within_any _ _ _ _).mono ?_; rintro e w' ⟨rfl, rfl⟩)
    go_ret
    exact ⟨ret_b (by simp [isSizeB, h]), rfl⟩
def isCellB (x y a b : Int) : Bool := inB x 0 (a - 1) && inB y 0 (b - 1)
set_option maxHeartbeats 400000 in
theorem isCell_any (x y a b : Int) (ha : -128 ≤ a ∧ a ≤ 127) (hb : -128 ≤ b ∧ b ≤ 127) (w : World) : Calls Tryz.prog 50 #[.int .i64 x, .int .i64 y, .int .i8 a, .int .i8 b] w fun e w' => e = .returned (.bool (isCellB x y a b)) ∧ w = w' := by
  cases h : inB x 0 (a - 1)
  all_goals
    go_enter Tryz.func50, Tryz.ntmps50
    go_wp2_with (go_at_call 61; refine (within_any _ _ _ _).mono ?_; rintro e w' ⟨rfl, rfl⟩)
    go_ret
    exact ⟨ret_b (by simp [isCellB, h]), rfl⟩
def codeB (a b : Bool) : Int := if a = false then 1 else if b = false then 2 else 0
set_option maxHeartbeats 400000 in
theorem codeOf_any (a b : Bool) (w : World) : Calls Tryz.prog 65 #[.bool a, .bool b] w fun e w' => e = .returned (.int .i64 (codeB a b)) ∧ w = w' := by
  cases a <;> cases b
  all_goals
    go_enter Tryz.func65, Tryz.ntmps65
    go_wp2
    go_ret
    exact ⟨rfl, rfl⟩
end Go.Proofs.YtphjhegaplochaaGreatDoor
