/- The field of a cell: the neighbours, the list of what is marked, the sorted list; no condition. -/
import Derived.Test.YtmmckoemkpfgbaaFld
import Derived.Test.YtmmckoemkpfgbaaDif
import Derived.Test.YtmmckoemkpfgbaaPlace
import Derived.Test.YtmmckoemkpfgbaaShp
import Derived.Test.YtmmckoemkpfgbaaDraw
import Derived.Sort.OwnSortedInts
set_option linter.unusedVariables false
namespace Go.Proofs.Ytmmckoemkpfgbaa
open Go.BigFrame
open Go.RowKit Go.Arr
def QF (Q : List Nat) : Nat → Int := fun j => (Q.getD j 0 : Nat)
theorem QF_snoc (Q : List Nat) (k : Nat) : upd (QF Q) Q.length k = QF (Q ++ [k]) := by
  funext j
  unfold upd QF
  by_cases h : j = Q.length
  · subst h
    rw [if_pos rfl]
    simp
  · rw [if_neg h]
    by_cases h2 : j < Q.length
    · simp [List.getD, List.getElem?_append_left h2]
    · simp only [List.getD]
      rw [List.getElem?_eq_none (by omega), List.getElem?_eq_none (by simp; omega)]
theorem QF_at {Q : List Nat} {j : Nat} (h : j < Q.length) : Q.getD j 0 ∈ Q := by
  rw [List.getD_eq_getElem?_getD, List.getElem?_eq_getElem h]
  exact List.getElem_mem h
theorem qrow_app {W : World} {B g cap k : Nat} {Q : List Nat} (h : W.ownsRow B 2 1 (.slice (some ⟨g, 0, none⟩) (Q.length + 1) cap) (Q.length + 1) (irow Q.length .i64 (QF Q) ++ [.int .i64 k])) : Row W B (.slice (some ⟨g, 0, none⟩) (Q ++ [k]).length cap) (Q ++ [k]).length (QF (Q ++ [k])) := by
  have := row_app2 h
  rw [← QF_snoc]
  simpa using this
theorem map_irow (l : List Int) : l.map (Value.int .i64) = irow l.length .i64 (fun j => l.getD j 0) := by
  apply List.ext_getElem?
  intro j
  by_cases h : j < l.length
  · rw [get_irow j h]
    simp [h]
  · rw [List.getElem?_eq_none (by simp; omega), List.getElem?_eq_none (by simp; omega)]
theorem irow_map (n : Nat) (f : Nat → Int) : irow n .i64 f = ((List.range n).map f).map (Value.int .i64) := by
  unfold irow
  rw [List.map_map]
  rfl
theorem sortI_any {W : World} {B g n cap : Nat} {f : Nat → Int} (hn : n ≤ 1000000) (h : Row W B (.slice (some ⟨g, 0, none⟩) n cap) n f) :
    Calls Try.prog 50 #[.slice (some ⟨g, 0, none⟩) n cap] W fun e w' => e = .returned (.tuple #[]) ∧ Row w' B (.slice (some ⟨g, 0, none⟩) n cap) n (fun j => (((List.range n).map f).mergeSort fun x y => decide (x ≤ y)).getD j 0) ∧ W.grownBy w' (some g) := by
  obtain ⟨hl, h | ⟨g', cap', cur, h1, h2, h3, h4, h5, h6, h7⟩⟩ := h
  · cases h.1
  simp only [Value.slice.injEq, Option.some.injEq, Addr.mk.injEq, and_true] at h1
  obtain ⟨rfl, _, rfl⟩ := h1
  rw [irow_map] at h7
  have hz : ((List.range n).map f).length = n := by simp
  generalize (List.range n).map f = zs at h7 hz
  subst hz
  rw [Nat.mul_one] at h7
  have hm : zs.length < 4611686018427387904 := by omega
  have hc := AnyM.slices_Sort_int Try.mSort g 0 cap zs W (holds_of_blockI h3 h7) (obj_lt h3) hm
  refine Calls.mono (show Calls Try.prog 50 _ W _ from hc) ?_
  rintro e w' ⟨rfl, k, os, rfl⟩
  refine ⟨rfl, ?_, grownBy_sortedI _⟩
  have ho := ownsRow_sortedI (w := W) (base := B) (g := g) (cap := cap) (n := k) (e := 2) (os := os) (ss := zs) (ts := zs.mergeSort fun x y => decide (x ≤ y)) (by simp) h2 h3 h4 h5 h6
  unfold Row
  rw [map_irow] at ho
  simpa using ho
set_option maxHeartbeats 1000000 in
set_option maxRecDepth 100000 in
theorem l01Listed_any (gs : Nat) (p : Nat → Bool) (t : TypeId) (w : World) (ho : obj w gs = some (.cells (brr 144 p) t)) :
    Calls Try.prog 39 #[.pointer (some ⟨gs, 0, none⟩)] w fun e w' => ∃ v, e = .returned v ∧ Row w' w.heap.size v (selN p 144) (fun j => (selG p 144 j : Int)) ∧ New w w' := by
  have r1 := obj_lt ho
  go_enter Try.func39, Try.ntmps39
  go_wp2_with (fail)
  go_loopw [3, 4] (fun v i wr => ∃ k : Nat, k ≤ 144 ∧ i = .int .i64 k ∧ Row wr w.heap.size v (selN p k) (fun j => (selG p k j : Int)) ∧ New w wr ∧ w.heap.size ≤ wr.heap.size) (fun _ i _ => 144 - (intOf i).toNat)
  case atStart => exact ⟨0, by omega, rfl, row_empty2 (obj_alloc_at _ _ _ rfl) (Nat.le_refl _), (New.refl w).alloc _, by simp⟩
  case round =>
    obtain ⟨k, hk, rfl, hrow, hn, hlw⟩ := hrel
    by_cases hlt : k < 144
    · have p1 := (hn.objs _ r1).trans ho
      have y1 := obj_lt p1
      cases hc : p k
      · have e1 : Hid (selN p (k + 1) = selN p k) := selN_f hc
        have e2 : Hid (selG p (k + 1) = selG p k) := selG_f hc
        go_wp2_with (fail)
        go_roundw
        case rel => exact ⟨k + 1, by omega, by go_num, by rw [e1.out, e2.out]; exact hrow, hn, hlw⟩
        case measure => simp [intOf]; omega
      · have e1 : Hid (selN p (k + 1) = selN p k + 1) := selN_t hc
        have e2 : Hid (selG p (k + 1) = fun j => if j = selN p k then k else selG p k j) := selG_t hc
        have hle := selN_le (p := p) k
        go_wp2_with (at_builtin; refine wpList_app slInts rfl _ _ rfl w.heap.size _ _ _ rfl (hrow.new ((New.refl _).alloc _)) ⟨wr.heap.size, 0, none⟩ 1 1 [.int .i64 k] rfl rfl (news_new _ _ _ _ _ rfl) (by simp [Value.oneCell']) (by omega) (by unfold maxLen; omega) (by omega) (by simp; omega) ?_)
        intro g1 cap1 w1 hown1 hg1 hat1 hlt1
        have hbk := hrow.block
        have hn1 : New w w1 := grown_new (hn.alloc _) hg1 fun b hb => (hbk b hb).1
        have hr1 := row_app2 hown1
        have hlw1 := hn1.le
        clear hown1 hg1 hat1 hrow hn
        go_wp2_with (fail)
        go_roundw
        case rel =>
          refine ⟨k + 1, by omega, by go_num, ?_, hn1, hlw1⟩
          rw [e1.out, e2.out]
          refine hr1.congr fun j hj => ?_
          unfold upd
          dsimp only
          by_cases e : j = selN p k
          · rw [if_pos e, if_pos e]
          · rw [if_neg e, if_neg e]
        case measure => simp [intOf]; omega
    · obtain rfl : k = 144 := by omega
      go_wp2_with (fail)
      go_ret
      exact ⟨_, rfl, hrow, hn⟩
def nbP (a b : Int) (c : Nat) : Nat → List Nat
  | 0 => if 12 ≤ c then [c - 12] else []
  | 1 => if 0 < c % 12 then [c - 1] else []
  | 2 => if ((c % 12 : Nat) : Int) + 1 < a then [c + 1] else []
  | _ => if ((c / 12 : Nat) : Int) + 1 < b then [c + 12] else []
def nbU (a b : Int) (c : Nat) : Nat → List Nat
  | 0 => []
  | k + 1 => nbU a b c k ++ nbP a b c k
theorem nbU_4 (a b : Int) (c : Nat) : nbU a b c 4 = nbL a b c := by
  unfold nbL nbU nbU nbU nbU nbU nbP
  simp
theorem nbP_len (a b : Int) (c k : Nat) : (nbP a b c k).length ≤ 1 := by
  match k with
  | 0 => exact len_ite
  | 1 => exact len_ite
  | 2 => exact len_ite
  | k + 3 => exact len_ite
theorem nbU_len (a b : Int) (c k : Nat) : (nbU a b c k).length ≤ k := by
  induction k with
  | zero => simp [nbU]
  | succ k ih =>
    have := nbP_len a b c k
    rw [nbU, List.length_append]
    omega
theorem nbU_s {a b : Int} {c k x : Nat} (h : nbP a b c k = [x]) : nbU a b c (k + 1) = nbU a b c k ++ [x] := by rw [nbU, h]
theorem nbU_n {a b : Int} {c k : Nat} (h : nbP a b c k = []) : nbU a b c (k + 1) = nbU a b c k := by rw [nbU, h, List.append_nil]
set_option maxHeartbeats 2000000 in
set_option maxRecDepth 100000 in
theorem l01Beside_any (gm : Nat) (t0 : TypeId) (a b : Int) (f : Nat → Int) (ha : -128 ≤ a ∧ a ≤ 127) (hb : -128 ≤ b ∧ b ≤ 127) (c : Nat) (hc : c < 144) (w : World) (ho : obj w gm = some (.cells (pic 144 a b f) t0)) :
    Calls Try.prog 52 #[.pointer (some ⟨gm, 0, none⟩), .int .i64 c] w fun e w' => ∃ v, e = .returned v ∧ Row w' w.heap.size v (nbL a b c).length (QF (nbL a b c)) ∧ New w w' := by
  have r1 := obj_lt ho
  have d1 : 0 ≤ (c : Int) % 12 ∧ (c : Int) % 12 ≤ 11 := by omega
  have d2 : 0 ≤ (c : Int) / 12 ∧ (c : Int) / 12 ≤ 11 := by omega
  go_enter Try.func52, Try.ntmps52
  have hrow : Row (w.alloc (.cells #[] 2)) w.heap.size (.slice (some ⟨w.heap.size, 0, none⟩) 0 0) (nbU a b c 0).length (QF (nbU a b c 0)) := row_empty2 (obj_alloc_at _ _ _ rfl) (Nat.le_refl _)
  have hn0 : New w (w.alloc (.cells #[] 2)) := (New.refl w).alloc _
  go_upto_if 14 with (fail)
  go_cut [5] (fun v wx => Row wx w.heap.size v (nbU a b c 1).length (QF (nbU a b c 1)) ∧ New w wx)
  case first =>
    by_cases h0 : 12 ≤ c
    · have hP : Hid (nbU a b c 1 = nbU a b c 0 ++ [c - 12]) := nbU_s (if_pos h0)
      have hi : 0 < (c : Int) / 12 := by omega
      have hlen := nbU_len a b c 0
      have hle := hn0.le
      go_wp2_with (at_builtin; refine wpList_app slInts rfl _ _ rfl w.heap.size _ _ _ rfl (hrow.new ((New.refl _).alloc _)) ⟨w.heap.size + 1, 0, none⟩ 1 1 [.int .i64 ((c : Int) - 12)] rfl rfl (news_new _ _ _ _ _ (by simp)) (by simp [Value.oneCell']) (by omega) (by unfold maxLen; omega) (by omega) (by simp; omega) ?_)
      intro g1 cap1 w3 hown1 hg1 hat1 hlt1
      have hbk := hrow.block
      have hn9 : New w w3 := grown_new (hn0.alloc _) hg1 fun b hb => (hbk b hb).1
      rw [show (c : Int) - 12 = ((c - 12 : Nat) : Int) by omega] at hown1
      have hr1 := qrow_app hown1
      clear hown1 hg1 hat1 hrow hbk
      go_wp2_with (fail)
      go_meet
      exact ⟨by rw [hP.out]; simpa using hr1, hn9⟩
    · have hP : Hid (nbU a b c 1 = nbU a b c 0) := nbU_n (if_neg h0)
      have hi : ¬ 0 < (c : Int) / 12 := by omega
      go_wp2_with (fail)
      go_meet
      exact ⟨by rw [hP.out]; exact hrow, hn0⟩
  case rest =>
  obtain ⟨hrow, hn1⟩ := hcut
  have p1 := (hn1.objs _ r1).trans ho
  go_upto_if 21 with (fail)
  go_cut [5] (fun v wx => Row wx w.heap.size v (nbU a b c 2).length (QF (nbU a b c 2)) ∧ New w wx)
  case first =>
    by_cases h0 : 0 < c % 12
    · have hP : Hid (nbU a b c 2 = nbU a b c 1 ++ [c - 1]) := nbU_s (if_pos h0)
      have hi : 0 < (c : Int) % 12 := by omega
      have hlen := nbU_len a b c 1
      have hle := hn1.le
      go_wp2_with (at_builtin; refine wpList_app slInts rfl _ _ rfl w.heap.size _ _ _ rfl (hrow.new ((New.refl _).alloc _)) ⟨wc.heap.size, 0, none⟩ 1 1 [.int .i64 ((c : Int) - 1)] rfl rfl (news_new _ _ _ _ _ rfl) (by simp [Value.oneCell']) (by omega) (by unfold maxLen; omega) (by omega) (by simp; omega) ?_)
      intro g1 cap1 w3 hown1 hg1 hat1 hlt1
      have hbk := hrow.block
      have hn9 : New w w3 := grown_new (hn1.alloc _) hg1 fun b hb => (hbk b hb).1
      rw [show (c : Int) - 1 = ((c - 1 : Nat) : Int) by omega] at hown1
      have hr1 := qrow_app hown1
      clear hown1 hg1 hat1 hrow hbk
      go_wp2_with (fail)
      go_meet
      exact ⟨by rw [hP.out]; simpa using hr1, hn9⟩
    · have hP : Hid (nbU a b c 2 = nbU a b c 1) := nbU_n (if_neg h0)
      have hi : ¬ 0 < (c : Int) % 12 := by omega
      go_wp2_with (fail)
      go_meet
      exact ⟨by rw [hP.out]; exact hrow, hn1⟩
  case rest =>
  obtain ⟨hrow, hn2⟩ := hcut
  have p2 := (hn2.objs _ r1).trans ho
  go_upto_if 34 with (fail)
  go_cut [5] (fun v wx => Row wx w.heap.size v (nbU a b c 3).length (QF (nbU a b c 3)) ∧ New w wx)
  case first =>
    by_cases h0 : ((c % 12 : Nat) : Int) + 1 < a
    · have hP : Hid (nbU a b c 3 = nbU a b c 2 ++ [c + 1]) := nbU_s (if_pos h0)
      have hi : (c : Int) % 12 + 1 < a := by omega
      have hlen := nbU_len a b c 2
      have hle := hn2.le
      go_wp2_with (at_builtin; refine wpList_app slInts rfl _ _ rfl w.heap.size _ _ _ rfl (hrow.new ((New.refl _).alloc _)) ⟨wc.heap.size, 0, none⟩ 1 1 [.int .i64 ((c : Int) + 1)] rfl rfl (news_new _ _ _ _ _ rfl) (by simp [Value.oneCell']) (by omega) (by unfold maxLen; omega) (by omega) (by simp; omega) ?_)
      intro g1 cap1 w3 hown1 hg1 hat1 hlt1
      have hbk := hrow.block
      have hn9 : New w w3 := grown_new (hn2.alloc _) hg1 fun b hb => (hbk b hb).1
      rw [show (c : Int) + 1 = ((c + 1 : Nat) : Int) by omega] at hown1
      have hr1 := qrow_app hown1
      clear hown1 hg1 hat1 hrow hbk
      go_wp2_with (fail)
      go_meet
      exact ⟨by rw [hP.out]; simpa using hr1, hn9⟩
    · have hP : Hid (nbU a b c 3 = nbU a b c 2) := nbU_n (if_neg h0)
      have hi : ¬ (c : Int) % 12 + 1 < a := by omega
      go_wp2_with (fail)
      go_meet
      exact ⟨by rw [hP.out]; exact hrow, hn2⟩
  case rest =>
  obtain ⟨hrow, hn3⟩ := hcut
  have p3 := (hn3.objs _ r1).trans ho
  go_upto_if 47 with (fail)
  go_cut [5] (fun v wx => Row wx w.heap.size v (nbU a b c 4).length (QF (nbU a b c 4)) ∧ New w wx)
  case first =>
    by_cases h0 : ((c / 12 : Nat) : Int) + 1 < b
    · have hP : Hid (nbU a b c 4 = nbU a b c 3 ++ [c + 12]) := nbU_s (if_pos h0)
      have hi : (c : Int) / 12 + 1 < b := by omega
      have hlen := nbU_len a b c 3
      have hle := hn3.le
      go_wp2_with (at_builtin; refine wpList_app slInts rfl _ _ rfl w.heap.size _ _ _ rfl (hrow.new ((New.refl _).alloc _)) ⟨wc.heap.size, 0, none⟩ 1 1 [.int .i64 ((c : Int) + 12)] rfl rfl (news_new _ _ _ _ _ rfl) (by simp [Value.oneCell']) (by omega) (by unfold maxLen; omega) (by omega) (by simp; omega) ?_)
      intro g1 cap1 w3 hown1 hg1 hat1 hlt1
      have hbk := hrow.block
      have hn9 : New w w3 := grown_new (hn3.alloc _) hg1 fun b hb => (hbk b hb).1
      rw [show (c : Int) + 12 = ((c + 12 : Nat) : Int) by omega] at hown1
      have hr1 := qrow_app hown1
      clear hown1 hg1 hat1 hrow hbk
      go_wp2_with (fail)
      go_meet
      exact ⟨by rw [hP.out]; simpa using hr1, hn9⟩
    · have hP : Hid (nbU a b c 4 = nbU a b c 3) := nbU_n (if_neg h0)
      have hi : ¬ (c : Int) / 12 + 1 < b := by omega
      go_wp2_with (fail)
      go_meet
      exact ⟨by rw [hP.out]; exact hrow, hn3⟩
  case rest =>
  obtain ⟨hrow, hn4⟩ := hcut
  have p4 := (hn4.objs _ r1).trans ho
  have h4 := hide (nbU_4 a b c)
  go_wp2_with (fail)
  go_ret
  exact ⟨_, rfl, by rw [← h4.out]; exact hrow, hn4⟩
end Go.Proofs.Ytmmckoemkpfgbaa
