/- Palettes put in order of brightness: what the program returns; no condition. -/
import Derived.Test.YtmiafnlaooggjaaSrtE
import Derived.Test.YtmiafnlaooggjaaMovT
import Derived.Test.YtmiafnlaooggjaaDraw
set_option linter.unusedVariables false
namespace Go.Proofs.Ytmiafnlaooggjaa
open Go.BigFrame
open Go.RowKit Go.Arr
theorem PRow.els {W : World} {base g cap n : Nat} {f : Nat → Int} (h : PRow W base (.slice (some ⟨g, 0, none⟩) n cap) n f) : ∃ cur, obj W g = some (.cells cur 40) ∧ base ≤ g ∧ n ≤ cap ∧ cap ≤ maxLen ∧ ∀ j, j < n → cur.extract (j * 3) (j * 3 + 3) = #[.int .u8 (f (j * 3)), .int .u8 (f (j * 3 + 1)), .int .u8 (f (j * 3 + 2))] ∧ j * 3 + 3 ≤ cur.size := by
  rcases h.shape with ⟨h1, _⟩ | ⟨g', cap', cur, h1, h2, h3, h4, h5, h6, h7, h8⟩
  · cases h1
  · simp only [Value.slice.injEq, Option.some.injEq, Addr.mk.injEq, and_true, true_and] at h1
    obtain ⟨rfl, rfl⟩ := h1
    exact ⟨cur, h4, h2, h5, h6, fun j hj => ⟨ext3 (h8 _ (by omega)) (h8 _ (by omega)) (h8 _ (by omega)) rfl, by omega⟩⟩
theorem ord_of {n : Nat} {f : Nat → Int} (hf : ∀ i, 0 ≤ f i ∧ f i ≤ 255) (hok : okPal n f = true) {L : List Nat} (h1 : L.Perm (List.range n)) (h2 : L.Pairwise fun i j => ¬ tl (tnF f j) (tnF f i)) : ordP n f L := by
  refine ⟨h1, pw_getD.2 fun i j hij hj => ?_⟩
  have hl : L.length = n := by rw [h1.length_eq, List.length_range]
  have hnt := pw_getD.1 h2 i j hij hj
  have hnd : L.Nodup := h1.nodup_iff.2 List.nodup_range
  have hlt : ∀ i, i < n → L.getD i 0 < n := fun i hi => by
    have hm : L.getD i 0 ∈ L := by
      rw [List.getD_eq_getElem?_getD, List.getElem?_eq_getElem (by omega)]
      exact List.getElem_mem _
    exact List.mem_range.1 (h1.mem_iff.1 hm)
  have hne : L.getD i 0 ≠ L.getD j 0 := by
    have hp : L.Pairwise (· ≠ ·) := hnd
    exact pw_getD.1 hp i j hij hj
  by_cases h3 : tl (tnF f (L.getD i 0)) (tnF f (L.getD j 0))
  · exact h3
  · exfalso
    have he := tl_tri h3 hnt
    rcases Nat.lt_or_gt_of_ne hne with h | h
    · exact ok_ne hf hok (hlt j (by omega)) h he.symm
    · exact ok_ne hf hok (hlt i (by omega)) h he
theorem idx_at {n : Nat} {f : Nat → Int} (hf : ∀ i, 0 ≤ f i ∧ f i ≤ 255) (hok : okPal n f = true) {l : Nat} (hl : l < n) {r : Int} (h : idxOk n f (f (l * 3)) (f (l * 3 + 1)) (f (l * 3 + 2)) r) : r = l := by
  rcases h with ⟨_, h⟩ | ⟨i, hi, rfl, h, _⟩
  · have h1 := h l hl
    have h2 : eq3 (f (l * 3)) (f (l * 3 + 1)) (f (l * 3 + 2)) (f (l * 3)) (f (l * 3 + 1)) (f (l * 3 + 2)) = true := eq3_t.2 ⟨rfl, rfl, rfl⟩
    rw [h2] at h1
    simp at h1
  · have h1 := eq3_t.1 h
    have he : tnF f l = tnF f i := by unfold tnF; rw [h1.1, h1.2.1, h1.2.2]
    by_cases e : l = i
    · rw [e]
    · exfalso
      rcases Nat.lt_or_gt_of_ne e with h3 | h3
      · exact ok_ne hf hok hi h3 he.symm
      · exact ok_ne hf hok hl h3 he
set_option maxHeartbeats 8000000 in
set_option maxRecDepth 100000 in
theorem sort_impl (ad : Option Addr) (n cp : Nat) (f : Nat → Int) (hf : ∀ i, 0 ≤ f i ∧ f i ≤ 255) (hn : n ≤ 1048576) (hcp : n ≤ cp) (W : World) (hs : Sl W (.slice ad n cp) n 3 .u8 f) :
    Calls Try.prog 29 #[.slice ad n cp] W fun e w' => ∃ v u, e = .returned (.tuple #[v, u, .int .i64 (srtC n f)]) ∧ PRow w' W.heap.size v (srtN n f) (srtF n f) ∧ Row w' W.heap.size u (srtN n f) (srtO n f) ∧ New W w' ∧ ∀ b, v.ownBlock = some b → u.ownBlock ≠ some b := by
  cases hok : okPal n f
  · have hC : Hid (srtC n f = 1) := if_neg (by rw [hok]; simp)
    have hN : Hid (srtN n f = 0) := if_neg (by rw [hok]; simp)
    go_enter Try.func29, Try.ntmps29
    go_wp2_with (fail)
    refine (validPal_impl ad n cp f hn hcp _ hs).mono ?_
    rintro e w1 ⟨rfl, hn1⟩
    rw [hok]
    go_wp2_with (fail)
    go_ret3
    refine ⟨_, _, by rw [hC.out]; rfl, by rw [hN.out]; exact PRow.nil, by rw [hN.out]; exact Row.nil, hn1, fun b hb => ?_⟩
    simp [Value.ownBlock] at hb
  have hC : Hid (srtC n f = 0) := if_pos hok
  have hN : Hid (srtN n f = n) := if_pos hok
  have hpos := okPal_pos hok
  go_enter Try.func29, Try.ntmps29
  go_wp2_with (fail)
  refine (validPal_impl ad n cp f hn hcp _ hs).mono ?_
  rintro e w1 ⟨rfl, hn1⟩
  have hs1 := hs.new hn1
  rw [hok]
  go_wp2_with (fail)
  refine (clonePal_any ad n cp f hpos.1 hn _ hs1).mono ?_
  rintro e w2 ⟨g, cap, rfl, hp2, hn2⟩
  have hbk := (hp2.block g rfl)
  have hl1 := hn1.le
  have hl2 := hn2.le
  have hN2 := hn1.trans hn2
  go_wp2_with (fail)
  refine (sortFunc_any hf hn _ ((hp2.lower hl1).new ((New.refl _).alloc _))).mono ?_
  rintro e w3 ⟨rfl, L, hL1, hL2, hp3, hg3⟩
  have hord := hide (ord_of hf hok hL1 hL2)
  have hll := ordP_len hord.out
  have hN3 : New W w3 := grown_new (hN2.alloc _) hg3 fun b hb => by cases hb; omega
  have hr3 : Row w3 w2.heap.size (.slice (some ⟨w2.heap.size, 0, none⟩) 0 0) 0 (lsF L) := row_empty2 ((grown_obj hg3 _ (by simp) (fun e => by cases e; omega)).trans (obj_alloc_at _ _ _ rfl)) (Nat.le_refl _)
  have hl3 := grown_le hg3
  simp at hl3
  obtain ⟨B, hB⟩ : ∃ B, w2.heap.size = B := ⟨_, rfl⟩
  rw [hB] at hr3 hl3 hbk hl2 ⊢
  have hok' := hide hok
  have hO := hide (ordL_eq hord.out)
  have hs' := hide hs
  clear hp2 hg3 hN2 hn2 hn1 hs1 hL1 hL2 hok hs
  go_wp2_with (fail)
  go_loopw [19, 6] (fun i v wq => ∃ j : Nat, j ≤ n ∧ i = .int .i64 j ∧ Row wq B v j (lsF L) ∧ PRow wq W.heap.size (.slice (some ⟨g, 0, none⟩) n cap) n (subP f (lsF L)) ∧ New W wq ∧ B ≤ wq.heap.size) (fun i _ _ => n - (intOf i).toNat)
  case atStart => exact ⟨0, by omega, rfl, hr3, hp3, hN3, by omega⟩
  case round =>
    obtain ⟨j, hj, rfl, hrow, hprow, hnw, hlq⟩ := hrel
    by_cases hlt : j < n
    · obtain ⟨cur, oc, _, hcp, hmx, hel⟩ := hprow.els
      have lc := obj_lt oc
      obtain ⟨x1, lx1⟩ := hel j hlt
      rw [subL_0, subL_1, subL_2] at x1
      have hlj := ordP_lt hord.out hlt
      have hbk2 := hrow.block
      have hprow' := hide hprow
      have hls : Hid (lsF L j = ((L.getD j 0 : Nat) : Int) + 1) := rfl
      clear hel hprow
      generalize L.getD j 0 = l at hlj x1 hls
      go_wp2_with (fail)
      refine (indexPal_any ad n cp f _ _ _ hn _ (hs'.out.new (hnw.alloc _))).mono ?_
      rintro e w6 ⟨r, rfl, hr, hn6⟩
      obtain rfl := idx_at hf hok'.out hlj hr
      have hN6 := (hnw.alloc _).trans hn6
      have hrow6 := hrow.new (((New.refl _).alloc _).trans hn6)
      have hp6 := hide (hprow'.out.new (((New.refl _).alloc _).trans hn6))
      have lw6 := hn6.le
      simp at lw6
      clear hr hrow hnw hprow' hn6
      go_wp2_with (at_builtin; refine wpList_app slInts rfl _ _ rfl B _ _ _ rfl (hrow6.new ((New.refl _).alloc _)) ⟨w6.heap.size, 0, none⟩ 1 1 [.int .i64 ((l : Int) + 1)] rfl rfl (news_new _ _ _ _ _ rfl) (by simp [Value.oneCell']) (by omega) (by unfold maxLen; omega) (by omega) (by simp; omega) ?_)
      intro g1 cap1 w7 hown1 hg1 hat1 hlt1
      have hn7 : New W w7 := grown_new (hN6.alloc _) hg1 fun b hb => by have := (hbk2 b hb).1; omega
      have hp7 : PRow w7 W.heap.size (.slice (some ⟨g, 0, none⟩) n cap) n (subP f (lsF L)) := (hp6.out.new ((New.refl _).alloc _)).same fun b hb => by
        simp only [Value.ownBlock, Option.some.injEq] at hb
        subst hb
        exact grown_obj hg1 _ (by simp; omega) (fun e => by have := hbk2 _ e.symm; omega)
      have hr7 : Row w7 B (.slice (some ⟨g1, 0, none⟩) (j + 1) cap1) (j + 1) (lsF L) := (row_app2 hown1).congr fun q hq => by
        unfold upd
        by_cases e : q = j
        · rw [if_pos e, e, hls.out]
        · rw [if_neg e]
      have hlw1 := grown_le hg1
      simp at hlw1
      clear hown1 hg1 hat1 hrow6
      go_wp2_with (fail)
      go_roundw
      case rel => exact ⟨j + 1, by omega, by go_num, hr7, hp7, hn7, by omega⟩
      case measure => simp [intOf]; omega
    · obtain rfl : n = j := by omega
      obtain ⟨a9, c9, rfl, _⟩ := hrow.reads
      have hbk2 := hrow.block
      go_wp2_with (fail)
      go_ret3
      refine ⟨_, _, by rw [hC.out]; rfl, ?_, ?_, hnw, fun b hb => ?_⟩
      · rw [hN.out]; unfold srtF srtO; rw [hO.out]; exact hprow
      · rw [hN.out]; unfold srtO; rw [hO.out]; exact hrow.lower (by omega)
      · intro e
        have h1 := hbk2 b e
        have e2 : g = b := by simpa [Value.ownBlock] using hb
        omega
end Go.Proofs.Ytmiafnlaooggjaa
