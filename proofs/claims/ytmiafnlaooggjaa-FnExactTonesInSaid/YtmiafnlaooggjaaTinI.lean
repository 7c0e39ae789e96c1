/- The tones of an image: what the program returns; no condition. -/
import Derived.Test.YtmiafnlaooggjaaTinB
import Derived.Test.YtmiafnlaooggjaaImg
import Derived.Test.YtmiafnlaooggjaaMov
import Derived.Test.YtmiafnlaooggjaaMovT
import Derived.Test.YtmiafnlaooggjaaDraw
import Derived.Test.YtmiafnlaooggjaaPicOf
set_option linter.unusedVariables false
namespace Go.Proofs.Ytmiafnlaooggjaa
open Go.BigFrame
open Go.RowKit Go.Arr
theorem ctF_0 (a b : Int) (fm : Nat → Int) (q : Nat) : ctF a b fm (q * 3) = fm (selG (cellN a b) 144 q * 3) := by
  unfold ctF
  rw [show q * 3 / 3 = q by omega, show q * 3 % 3 = 0 by omega, Nat.add_zero]
theorem ctF_1 (a b : Int) (fm : Nat → Int) (q : Nat) : ctF a b fm (q * 3 + 1) = fm (selG (cellN a b) 144 q * 3 + 1) := by
  unfold ctF
  rw [show (q * 3 + 1) / 3 = q by omega, show (q * 3 + 1) % 3 = 1 by omega]
theorem ctF_2 (a b : Int) (fm : Nat → Int) (q : Nat) : ctF a b fm (q * 3 + 2) = fm (selG (cellN a b) 144 q * 3 + 2) := by
  unfold ctF
  rw [show (q * 3 + 2) / 3 = q by omega, show (q * 3 + 2) % 3 = 2 by omega]
set_option maxHeartbeats 8000000 in
set_option maxRecDepth 100000 in
theorem tin_impl (a b : Int) (fm : Nat → Int) (ha : -128 ≤ a ∧ a ≤ 127) (hb : -128 ≤ b ∧ b ≤ 127) (hfm : ∀ i, 0 ≤ fm i ∧ fm i ≤ 255) (W : World) :
    Calls Try.prog 31 #[.agg (pic 432 a b fm)] W fun e w' => ∃ v, e = .returned (.tuple #[v, .int .i64 (tinC a b fm)]) ∧ PRow w' W.heap.size v (tinN a b fm) (tinF a b fm) ∧ New W w' := by
  go_enter Try.func31, Try.ntmps31
  go_wp2_with (fail)
  generalize hw0 : W.alloc (Obj.cells (pic 432 a b fm) 43) = w0
  have b1 : obj w0 W.heap.size = some (.cells (pic 432 a b fm) 43) := by subst hw0; go_simp
  have hn0 : New W w0 := by subst hw0; exact (New.refl W).alloc _
  clear hw0
  refine (validImage_impl a b fm ha hb _).mono ?_
  rintro e w1 ⟨rfl, hn1⟩
  have c1 := (hn1.objs _ (obj_lt b1)).trans b1
  have hN1 := hn0.trans hn1
  clear b1 hn0 hn1
  cases hok : okImg a b fm
  · have hC : Hid (tinC a b fm = 1) := if_pos hok
    have hN : Hid (tinN a b fm = 0) := if_neg (by rw [hC.out]; omega)
    clear hok
    go_wp2_with (fail)
    go_ret2
    exact ⟨_, by rw [hC.out]; rfl, by rw [hN.out]; exact PRow.nil, hN1⟩
  have rc := obj_lt c1
  go_wp2_with (fail)
  generalize hw2 : w1.alloc (Obj.cells #[] 40) = w2
  have b2 : obj w2 W.heap.size = some (.cells (pic 432 a b fm) 43) := by subst hw2; exact (obj_alloc_past _ _ _ rc).trans c1
  have o2 : obj w2 w1.heap.size = some (.cells #[] 40) := by subst hw2; exact obj_alloc_at _ _ _ rfl
  have hN2 : New W w2 := by subst hw2; exact hN1.alloc _
  have l2 : w1.heap.size + 1 ≤ w2.heap.size := by subst hw2; simp
  clear hw2
  refine (cells_any a b fm ha hb _).mono ?_
  rintro e w5 ⟨v, rfl, hrw5, hn5⟩
  obtain ⟨x, y, rfl, _⟩ := hrw5.reads
  have b5 := (hn5.objs _ (obj_lt b2)).trans b2
  have o5 := (hn5.objs _ (obj_lt o2)).trans o2
  have hN5 := hN2.trans hn5
  have hle := selN_le (p := cellN a b) 144
  have hsel := hide (selG_lt (p := cellN a b) 144)
  have hsl := hrw5.sl
  have hxb : ∀ q : Addr, x = some q → q.block ≠ w1.heap.size := fun q hq => by
    have := hrw5.block q.block (by rw [hq]; rfl)
    omega
  have lW : W.heap.size + 1 ≤ w1.heap.size := by omega
  have l5 := hn5.le
  obtain ⟨N, hN⟩ : ∃ N, Hid (selN (cellN a b) 144 = N) := ⟨_, rfl⟩
  rw [hN.out] at hsl hle hsel ⊢
  have hok' := hide hok
  have hct : Hid (∀ i, 0 ≤ ctF a b fm i ∧ ctF a b fm i ≤ 255) := fun i => hfm _
  clear hn5 hrw5 b2 o2 hN1 hN2 c1 hok
  go_wp2_with (fail)
  go_loopw [14, 4] (fun i v wq => ∃ (j g cap : Nat), j ≤ N ∧ i = .int .i64 j ∧ v = .slice (some ⟨g, 0, none⟩) j cap ∧ PRow wq w1.heap.size (.slice (some ⟨g, 0, none⟩) j cap) j (ctF a b fm) ∧ Hid (obj wq W.heap.size = some (.cells (pic 432 a b fm) 43)) ∧ Sl wq (.slice x N y) N 1 .i64 (fun j => (selG (cellN a b) 144 j : Int)) ∧ New W wq ∧ w1.heap.size + 1 ≤ wq.heap.size ∧ Hid (∀ q : Addr, x = some q → q.block ≠ g)) (fun i _ _ => N - (intOf i).toNat)
  case atStart => exact ⟨0, w1.heap.size, 0, by omega, rfl, rfl, prow_empty o5 (Nat.le_refl _), b5, hsl, hN5, by omega, hxb⟩
  case round =>
    obtain ⟨j, g, cap, hj, rfl, rfl, hrow, hom, hsx, hnw, hlw, hne⟩ := hrel
    have om := hom.out
    have rm := obj_lt om
    have hbk := hrow.block g rfl
    by_cases hlt : j < N
    · obtain ⟨hi1, hi2⟩ := hsel.out j hlt
      obtain ⟨gl, off, cur, t, fr, rfl, o1, hel⟩ := elInts hsx (by omega)
      obtain ⟨q1, e1⟩ := hel j hlt
      have r1 := obj_lt o1
      have hgl := hne.out _ rfl
      have x1 : (pic 432 a b fm).extract (2 + selG (cellN a b) 144 j * 3) (2 + selG (cellN a b) 144 j * 3 + 3) = #[.int .u8 (fm (selG (cellN a b) 144 j * 3)), .int .u8 (fm (selG (cellN a b) 144 j * 3 + 1)), .int .u8 (fm (selG (cellN a b) 144 j * 3 + 2))] := pic3 (by omega) rfl
      have c0 := ctF_0 a b fm j
      have c1 := ctF_1 a b fm j
      have c2 := ctF_2 a b fm j
      generalize selG (cellN a b) 144 j = z at hi1 hi2 e1 x1 c0 c1 c2
      have l1 : 2 + z * 3 + 3 ≤ 434 := by omega
      clear hel hi2
      have hsx' := hide hsx
      clear hsx
      go_wp2_with (at_builtin; refine wpList_app slTones rfl _ _ rfl w1.heap.size _ _ _ rfl (hrow.new ((New.refl _).alloc _)) ⟨wr.heap.size, 0, none⟩ 1 1 [.int .u8 (fm (z * 3)), .int .u8 (fm (z * 3 + 1)), .int .u8 (fm (z * 3 + 2))] rfl rfl (news_new _ _ _ _ _ rfl) (by simp [Value.oneCell']) (by omega) (by unfold maxLen; omega) (by omega) (by simp; omega) ?_)
      intro g1 cap1 w7 hown1 hg1 hat1 hlt1
      have hn7 : New W w7 := grown_new (hnw.alloc _) hg1 fun b hb => by simp [Value.ownBlock] at hb; omega
      have om7 := hide ((grown_obj hg1 _ (by simp; omega) (fun e => by simp [Value.ownBlock] at e; omega)).trans ((obj_alloc_past _ _ _ rm).trans om))
      have hs7 : Sl w7 (.slice (some ⟨gl, off, none⟩) N y) N 1 .i64 (fun j => (selG (cellN a b) 144 j : Int)) := (hsx'.out.new ((New.refl _).alloc _)).grown hg1 fun a c h => by
        simp only [Value.slice.injEq, Option.some.injEq, true_and] at h
        obtain ⟨rfl, _⟩ := h
        intro e
        simp [Value.ownBlock] at e
        omega
      have hne7 : Hid (∀ q : Addr, some (⟨gl, off, none⟩ : Addr) = some q → q.block ≠ g1) := fun q hq => by
        simp only [Option.some.injEq] at hq
        subst hq
        show gl ≠ g1
        rcases hat1 with h | h
        · simp [Value.ownBlock] at h; omega
        · (try simp at h); omega
      have hr7 := prow_app hown1 c0 c1 c2
      have hlw1 := grown_le hg1
      simp at hlw1
      clear hown1 hg1 hat1 hrow hnw om hom hsx'
      go_wp2_with (fail)
      go_roundw
      case rel => exact ⟨j + 1, g1, cap1, by omega, by go_num, rfl, hr7, om7, hs7, hn7, by omega, hne7⟩
      case measure => simp [intOf]; omega
    · obtain rfl : N = j := by omega
      clear hsx
      go_wp2_with (fail)
      refine (sortFunc_any hct.out (by omega) _ hrow).mono ?_
      rintro e w8 ⟨rfl, L, hL1, hL2, hp8, hg8⟩
      have hn8 : New W w8 := grown_new hnw hg8 fun b hb => by cases hb; omega
      go_wp2_with (fail)
      refine (compact_any (by omega) _ hp8).mono ?_
      rintro e w9 ⟨K, hK, rfl, hp9, hg9⟩
      have hn9 : New W w9 := grown_new hn8 hg9 fun b hb => by cases hb; omega
      obtain ⟨hbl, hbf⟩ := tin_bridge hfm hN.out.symm hL1 hL2
      rw [← hK] at hbl hbf
      have hp := hide ((hp9.congr hbf).lower (show W.heap.size ≤ w1.heap.size by omega))
      clear hp9 hbf hK hp8 hg8 hg9 hL2 hrow
      by_cases h15 : 15 < K
      · have hC : Hid (tinC a b fm = 3) := by show _ = _; unfold tinC; rw [hbl, if_neg (by rw [hok'.out]; simp), if_pos h15]
        have hN : Hid (tinN a b fm = 0) := if_neg (by rw [hC.out]; omega)
        clear hbl
        have h15b : (15 : Int) < K := by omega
        go_wp2_with (fail)
        go_ret2
        exact ⟨_, by rw [hC.out]; rfl, by rw [hN.out]; exact PRow.nil, hn9⟩
      · have hC : Hid (tinC a b fm = 0) := by show _ = _; unfold tinC; rw [hbl, if_neg (by rw [hok'.out]; simp), if_neg h15]
        have hN : Hid (tinN a b fm = K) := by show _ = _; unfold tinN; rw [if_pos hC.out, hbl]
        clear hbl
        have h15b : ¬ (15 : Int) < K := by omega
        go_wp2_with (fail)
        go_ret2
        exact ⟨_, by rw [hC.out]; rfl, by rw [hN.out]; exact hp.out, hn9⟩
end Go.Proofs.Ytmiafnlaooggjaa
