/- Palettes put in order of brightness: what the reference returns; no condition. -/
import Derived.Test.YtmiafnlaooggjaaSrtC
import Derived.Test.YtmiafnlaooggjaaMov
import Derived.Test.YtmiafnlaooggjaaDif
set_option linter.unusedVariables false
namespace Go.Proofs.Ytmiafnlaooggjaa
open Go.BigFrame
open Go.RowKit Go.Arr
/-- the codes and the results -/
def srtC (n : Nat) (f : Nat → Int) : Int := if okPal n f = true then 0 else 1
def srtN (n : Nat) (f : Nat → Int) : Nat := if okPal n f = true then n else 0
noncomputable def srtO (n : Nat) (f : Nat → Int) : Nat → Int := lsF (ordL n f)
noncomputable def srtF (n : Nat) (f : Nat → Int) : Nat → Int := subP f (srtO n f)
theorem Row.put {W : World} {base n g cap k : Nat} {f : Nat → Int} (h : Row W base (.slice (some ⟨g, 0, none⟩) n cap) n f) (hk : k < n) (z : Int) : Row (W.setCell ⟨g, k, none⟩ (.int .i64 z)) base (.slice (some ⟨g, 0, none⟩) n cap) n (upd f k z) := by
  rcases h.shape with ⟨h1, _⟩ | ⟨g', cap', cur', h1, h2, h3, h4, h5, h6, h7, h8⟩
  · cases h1
  · simp only [Value.slice.injEq, Option.some.injEq, Addr.mk.injEq, and_true, true_and] at h1
    obtain ⟨rfl, rfl⟩ := h1
    refine Row.of (cur := cur'.setIfInBounds k (.int .i64 z)) (by rw [obj_setCell_same, h4]; simp only [Option.map_some, reCell_cells]) h2 h5 h6 (by simpa using h7) fun j hj => ?_
    rw [Array.getElem?_setIfInBounds]
    unfold upd
    by_cases e : k = j
    · subst e; rw [if_pos rfl, if_pos (by omega), if_pos rfl]
    · rw [if_neg e, if_neg (fun e2 => e e2.symm), h8 j hj]
theorem Row.at {W : World} {base n g cap : Nat} {f : Nat → Int} (h : Row W base (.slice (some ⟨g, 0, none⟩) n cap) n f) : ∃ cur, obj W g = some (.cells cur 2) ∧ base ≤ g ∧ n ≤ cap ∧ cap ≤ maxLen ∧ ∀ j, j < n → ∃ l : j < cur.size, cur[j] = .int .i64 (f j) := by
  rcases h.shape with ⟨h1, _⟩ | ⟨g', cap', cur', h1, h2, h3, h4, h5, h6, h7, h8⟩
  · cases h1
  · simp only [Value.slice.injEq, Option.some.injEq, Addr.mk.injEq, and_true, true_and] at h1
    obtain ⟨rfl, rfl⟩ := h1
    exact ⟨cur', h4, h2, h5, h6, fun j hj => Array.getElem?_eq_some_iff.1 (h8 j hj)⟩
theorem ok_ne {n : Nat} {f : Nat → Int} (hf : ∀ i, 0 ≤ f i ∧ f i ≤ 255) (h : okPal n f = true) {k j : Nat} (hk : k < n) (hj : j < k) : tnF f k ≠ tnF f j := by
  intro e
  unfold okPal at h
  simp only [Bool.and_eq_true, List.all_eq_true, List.mem_range] at h
  have h3 := h.1 k hk
  unfold firstAt at h3
  simp only [List.all_eq_true, List.mem_range] at h3
  have h4 := h3 j hj
  have h5 : alikePal f f k j = true := by
    unfold alikePal
    rw [eq3_t, ← tnF_0 hf, ← tnF_1 hf, ← tnF_2 hf, ← tnF_0 hf, ← tnF_1 hf, ← tnF_2 hf, e]
    exact ⟨rfl, rfl, rfl⟩
  rw [h5] at h4
  simp at h4
theorem lsF_ins {L : List Nat} {k p : Nat} (hp : p ≤ L.length) (j : Nat) : lsF (insP L k p) j = if j < p then lsF L j else if j = p then (k : Int) + 1 else lsF L (j - 1) := by
  unfold lsF
  rw [getD_ins hp]
  split
  · rfl
  · split <;> rfl
theorem lsF_swap {L : List Nat} {k q : Nat} (hq : q + 1 ≤ L.length) (j : Nat) : upd (upd (lsF (insP L k (q + 1))) (q + 1) (lsF L q)) q ((k : Int) + 1) j = lsF (insP L k q) j := by
  rw [lsF_ins (show q ≤ L.length by omega) j]
  unfold upd
  rw [lsF_ins hq]
  by_cases h1 : j = q
  · rw [if_pos h1, if_neg (by omega), if_pos h1]
  · rw [if_neg h1]
    by_cases h2 : j = q + 1
    · subst h2; simp; omega
    · rw [if_neg h2]
      by_cases h3 : j < q
      · rw [if_pos h3, if_pos (by omega)]
      · rw [if_neg h3, if_neg (by omega), if_neg h2, if_neg h1]
theorem lsF_end {L : List Nat} {k : Nat} (hl : L.length = k) (j : Nat) (hj : j < k + 1) : upd (lsF L) k ((k : Int) + 1) j = lsF (insP L k k) j := by
  unfold upd
  rw [lsF_ins (by omega)]
  by_cases h1 : j = k
  · rw [if_pos h1, if_neg (by omega), if_pos h1]
  · rw [if_neg h1, if_pos (by omega)]
theorem subL_0 (f : Nat → Int) (L : List Nat) (i : Nat) : subP f (lsF L) (i * 3) = f (L.getD i 0 * 3) := by
  rw [subP_0]; unfold lsF; rw [show (((L.getD i 0 : Nat) : Int) + 1).toNat - 1 = L.getD i 0 by omega]
theorem subL_1 (f : Nat → Int) (L : List Nat) (i : Nat) : subP f (lsF L) (i * 3 + 1) = f (L.getD i 0 * 3 + 1) := by
  rw [subP_1]; unfold lsF; rw [show (((L.getD i 0 : Nat) : Int) + 1).toNat - 1 = L.getD i 0 by omega]
theorem subL_2 (f : Nat → Int) (L : List Nat) (i : Nat) : subP f (lsF L) (i * 3 + 2) = f (L.getD i 0 * 3 + 2) := by
  rw [subP_2]; unfold lsF; rw [show (((L.getD i 0 : Nat) : Int) + 1).toNat - 1 = L.getD i 0 by omega]
set_option maxHeartbeats 8000000 in
set_option maxRecDepth 100000 in
theorem sort_spec (ad : Option Addr) (n cp : Nat) (f : Nat → Int) (hf : ∀ i, 0 ≤ f i ∧ f i ≤ 255) (hn : n ≤ 1048576) (W : World) (hs : Sl W (.slice ad n cp) n 3 .u8 f) :
    Calls Try.prog 28 #[.slice ad n cp] W fun e w' => ∃ v u, e = .returned (.tuple #[v, u, .int .i64 (srtC n f)]) ∧ PRow w' W.heap.size v (srtN n f) (srtF n f) ∧ Row w' W.heap.size u (srtN n f) (srtO n f) ∧ New W w' ∧ ∀ b, v.ownBlock = some b → u.ownBlock ≠ some b := by
  cases hok : okPal n f
  · have hC : Hid (srtC n f = 1) := if_neg (by rw [hok]; simp)
    have hN : Hid (srtN n f = 0) := if_neg (by rw [hok]; simp)
    go_enter Try.func28, Try.ntmps28
    go_wp2_with (fail)
    refine (validPal_spec ad n cp f hn _ hs).mono ?_
    rintro e w1 ⟨rfl, hn1⟩
    rw [hok]
    have hl1 := hn1.le
    go_wp2_with (fail)
    go_ret3
    refine ⟨_, _, by rw [hC.out]; rfl, by rw [hN.out]; exact prow_empty (by go_simp) hl1, by rw [hN.out]; exact row_empty2 (by go_simp) (by omega), (hn1.alloc _).alloc _, fun b hb => ?_⟩
    simp [Value.ownBlock] at hb ⊢
    omega
  have hC : Hid (srtC n f = 0) := if_pos hok
  have hN : Hid (srtN n f = n) := if_pos hok
  have hpos := okPal_pos hok
  have hne := hide (fun (k j : Nat) (hk : k < n) (hj : j < k) => ok_ne hf hok hk hj)
  obtain ⟨gt, off, ct, tt, frt, rfl, ot, hx⟩ := elsPal hs (by omega)
  have hx := hide hx
  go_enter Try.func28, Try.ntmps28
  go_wp2_with (fail)
  refine (validPal_spec _ n cp f hn _ hs).mono ?_
  rintro e w1 ⟨rfl, hn1⟩
  have pt := (hn1.objs _ (obj_lt ot)).trans ot
  have rt := obj_lt ot
  have hl1 := hn1.le
  rw [hok]
  clear hs ot
  go_wp2_with (fail)
  go_loopw [6, 5] (fun i v wr => ∃ (k : Nat) (L : List Nat), k ≤ n ∧ i = .int .i64 k ∧ Hid (ordP k f L) ∧ Row wr W.heap.size v k (lsF L) ∧ Hid (obj wr gt = some (.cells ct tt frt)) ∧ New W wr ∧ W.heap.size ≤ wr.heap.size) (fun i _ _ => n - (intOf i).toNat)
  case atStart => exact ⟨0, [], by omega, rfl, ⟨List.Perm.refl _, List.Pairwise.nil⟩, row_empty2 (obj_alloc_at _ _ _ rfl) hl1, by show _ = _; exact (obj_alloc_past _ _ _ (by omega)).trans pt, hn1.alloc _, by simp; omega⟩
  case round =>
    obtain ⟨k, L, hk, rfl, hord, hrow, hot, hnw, hlw⟩ := hrel
    have ot := hot.out
    have hll := ordP_len hord.out
    have hbk := hrow.block
    by_cases hlt : k < n
    · go_wp2_with (at_builtin; refine wpList_app slInts rfl _ _ rfl W.heap.size _ _ _ rfl (hrow.new ((New.refl _).alloc _)) ⟨wr.heap.size, 0, none⟩ 1 1 [.int .i64 ((k : Int) + 1)] rfl rfl (news_new _ _ _ _ _ rfl) (by simp [Value.oneCell']) (by omega) (by unfold maxLen; omega) (by omega) (by simp; omega) ?_)
      intro g1 cap1 w3 hown1 hg1 hat1 hlt1
      have hn3 : New W w3 := grown_new (hnw.alloc _) hg1 fun b hb => (hbk b hb).1
      have ot3 := hide ((grown_obj hg1 _ (by simp; omega) (fun e => by have := hbk _ e.symm; omega)).trans ((obj_alloc_past _ _ _ (by omega)).trans ot))
      have hr1 := (row_app2 hown1).congr (lsF_end hll)
      have hlw1 := grown_le hg1
      simp at hlw1
      have hg0 : W.heap.size ≤ g1 := by
        obtain ⟨_, _, h, _⟩ := hr1.at
        exact h
      clear hown1 hg1 hat1 hrow hnw ot hot hbk
      go_wp2_with (fail)
      go_loopw [7] (fun i wq => ∃ p : Nat, p ≤ k ∧ i = .int .i64 p ∧ Hid (∀ j, p ≤ j → j < k → tl (tnF f k) (tnF f (L.getD j 0))) ∧ Row wq W.heap.size (.slice (some ⟨g1, 0, none⟩) (k + 1) cap1) (k + 1) (lsF (insP L k p)) ∧ Hid (obj wq gt = some (.cells ct tt frt)) ∧ New W wq ∧ W.heap.size ≤ wq.heap.size) (fun i _ => (intOf i).toNat)
      case atStart => exact ⟨k, by omega, rfl, fun j h1 h2 => absurd h1 (by omega), hr1, ot3, hn3, by omega⟩
      case round =>
        obtain ⟨p, hp, rfl, hup, hrow, hot, hnw, hlq⟩ := hrel
        have ot := hot.out
        cases p with
        | zero =>
          have hord' := hide (ordP_ins hord.out (Nat.zero_le k) (fun j h1 h2 => hup.out j h1 h2) (Or.inl rfl))
          obtain ⟨cur, oc, _, hcp, hmx, hel⟩ := hrow.at
          have lc := obj_lt oc
          clear hel
          go_wp2_with (fail)
          go_quiet (fail)
          go_wp2_with (fail)
          go_roundw
          case rel => exact ⟨k + 1, insP L k 0, by omega, by go_num, hord', hrow.new ((New.refl _).drewN _), hot, hnw.drewN _, by simp; omega⟩
          case measure => simp [intOf]; omega
        | succ q =>
          obtain ⟨cur, oc, _, hcp, hmx, hel⟩ := hrow.at
          have lc := obj_lt oc
          obtain ⟨l1, e1⟩ := hel (q + 1) (by omega)
          obtain ⟨l2, e2⟩ := hel q (by omega)
          rw [lsF_ins (by omega), if_neg (by omega), if_pos rfl] at e1
          rw [lsF_ins (by omega), if_pos (by omega)] at e2
          have hly := ordP_lt hord.out (show q < k by omega)
          have hsw := hide (fun j (_ : j < k + 1) => lsF_swap (L := L) (k := k) (q := q) (by omega) j)
          have hB := befI_f hf k (L.getD q 0)
          have hnq := hne.out k (L.getD q 0) (by omega) hly
          have hupq := hup.out
          have hcase : tl (tnF f k) (tnF f (L.getD q 0)) ∨ tl (tnF f (L.getD q 0)) (tnF f k) := by
            by_cases h1 : tl (tnF f k) (tnF f (L.getD q 0))
            · exact Or.inl h1
            · by_cases h2 : tl (tnF f (L.getD q 0)) (tnF f k)
              · exact Or.inr h2
              · exact absurd (tl_tri h1 h2) hnq
          have e2' : cur[q] = .int .i64 (((L.getD q 0 : Nat) : Int) + 1) := e2
          have lot := obj_lt ot
          obtain ⟨x1, lx1⟩ := hx.out k hlt
          obtain ⟨x2, lx2⟩ := hx.out (L.getD q 0) (by omega)
          clear hel e2 hup
          have hupn : tl (tnF f k) (tnF f (L.getD q 0)) → Hid (∀ j, q ≤ j → j < k → tl (tnF f k) (tnF f (L.getD j 0))) := fun h j h1 h2 => by
            by_cases e : j = q
            · subst e; exact h
            · exact hupq j (by omega) h2
          have hdnn : tl (tnF f (L.getD q 0)) (tnF f k) → Hid (ordP (k + 1) f (insP L k (q + 1))) := fun h => ordP_ins hord.out hp hupq (Or.inr h)
          have hdec : (tl (tnF f k) (tnF f (L.getD q 0)) ∧ decide (tl (tnF f k) (tnF f (L.getD q 0))) = true) ∨ (tl (tnF f (L.getD q 0)) (tnF f k) ∧ decide (tl (tnF f k) (tnF f (L.getD q 0))) = false) := by
            rcases hcase with h | h
            · exact Or.inl ⟨h, decide_eq_true h⟩
            · exact Or.inr ⟨h, decide_eq_false fun h2 => tl_irr _ (tl_trans h h2)⟩
          have hlsq : lsF L q = ((L.getD q 0 : Nat) : Int) + 1 := rfl
          clear hnq hcase hupq
          rw [hlsq] at hsw
          generalize L.getD q 0 = l at hly hB e2' x2 lx2 hupn hdnn hdec hsw hlsq
          rcases hdec with ⟨hd1, hd2⟩ | ⟨hd1, hd2⟩
          · have hup' := hupn hd1
            rw [hd2] at hB
            clear hupn hdnn hd1 hd2 hlsq
            go_wp2_with (fail)
            go_wp2_with (fail)
            refine wp_region_new (by kernel_rfl) (by kernel_rfl) ?_
            repeat (go_big_quiet_step (first | fail | (go_at_call 79; with_reducible exact calls_new (before_any _ _ _ _ _ _ (hf _) (hf _) (hf _) (hf _) (hf _) (hf _) _))))
            refine wpQuiet_nil ?_
            intro w1 hc1
            have hn1 := NewW.of hc1
            clear hc1
            have ho1 := hn1.objs
            have hz1 := hn1.le
            try simp at hz1
            have k1_0 : gt < w1.heap.size := by omega
            have k1_1 : g1 < w1.heap.size := by omega
            simp only [hB]
            go_wp2_with (fail)
            go_roundw
            case rel => exact ⟨q, by omega, rfl, hup', (((hrow.new hn1).put (by omega) _).put (by omega) _).congr (fun j hj => hsw.out j hj), by show _ = _; rw [obj_setCell_other _ _ _ _ _ (by omega), obj_setCell_other _ _ _ _ _ (by omega), ho1 _ lot]; exact ot, ((hnw.trans hn1).setCell hg0 _).setCell hg0 _, by simp only [World.size_setCell]; omega⟩
            case measure => simp [intOf] <;> omega
          · have hord' := hdnn hd1
            rw [hd2] at hB
            clear hupn hdnn hd1 hd2 hlsq
            go_wp2_with (fail)
            go_wp2_with (fail)
            refine wp_region_new (by kernel_rfl) (by kernel_rfl) ?_
            repeat (go_big_quiet_step (first | fail | (go_at_call 79; with_reducible exact calls_new (before_any _ _ _ _ _ _ (hf _) (hf _) (hf _) (hf _) (hf _) (hf _) _))))
            refine wpQuiet_nil ?_
            intro w2 hc2
            have hn2 := NewW.of hc2
            clear hc2
            have ho2 := hn2.objs
            have hz2 := hn2.le
            try simp at hz2
            have k2_0 : gt < w2.heap.size := by omega
            have k2_1 : g1 < w2.heap.size := by omega
            simp only [hB]
            go_wp2_with (fail)
            go_roundw
            case rel => exact ⟨k + 1, insP L k (q + 1), by omega, by go_num, hord', hrow.new hn2, by show _ = _; rw [ho2 _ lot]; exact ot, hnw.trans hn2, by omega⟩
            case measure => simp [intOf]; omega
    · obtain rfl : n = k := by omega
      obtain ⟨gr, cpr, rfl, hgr, _⟩ := hrow.own (by omega)
      have hO := hide (ordL_eq hord.out)
      have rgr := (hbk gr rfl).2
      have hcpr : cpr ≤ maxLen ∧ n ≤ cpr := by
        obtain ⟨_, _, _, h1, h2, _⟩ := hrow.at
        exact ⟨h2, h1⟩
      obtain ⟨B, hB⟩ : ∃ B, wr.heap.size = B := ⟨_, rfl⟩
      rw [hB] at rgr hlw
      have lotB : gt < B := by rw [← hB]; exact obj_lt ot
      clear hbk
      go_wp2_with (fail)
      go_loopw [10, 9] (fun i v wq => ∃ j : Nat, j ≤ n ∧ i = .int .i64 j ∧ PRow wq B v j (subP f (lsF L)) ∧ Row wq W.heap.size (.slice (some ⟨gr, 0, none⟩) n cpr) n (lsF L) ∧ Hid (obj wq gt = some (.cells ct tt frt)) ∧ New W wq ∧ B ≤ wq.heap.size) (fun i _ _ => n - (intOf i).toNat)
      case atStart => exact ⟨0, by omega, rfl, prow_empty (obj_alloc_at _ _ _ hB.symm) (by omega), hrow.new ((New.refl _).alloc _), by show _ = _; exact (obj_alloc_past _ _ _ (by omega)).trans ot, hnw.alloc _, by simp; omega⟩
      case round =>
        obtain ⟨j, hj, rfl, hprow, hrow, hot, hnw, hlq⟩ := hrel
        have ot := hot.out
        have lot := obj_lt ot
        obtain ⟨cur, oc, _, hcp, hmx, hel⟩ := hrow.at
        have lc := obj_lt oc
        by_cases hlt : j < n
        · obtain ⟨l2, e2⟩ := hel j hlt
          replace e2 : cur[j] = .int .i64 (((L.getD j 0 : Nat) : Int) + 1) := e2
          have hlj := ordP_lt hord.out hlt
          have s0 := subL_0 f L j
          have s1 := subL_1 f L j
          have s2 := subL_2 f L j
          obtain ⟨x2, lx2⟩ := hx.out (L.getD j 0) (by omega)
          generalize L.getD j 0 = l at e2 hlj s0 s1 s2 x2 lx2
          have hbk := hprow.block
          have hrow' := hide hrow
          clear hel hrow
          go_wp2_with (at_builtin; refine wpList_app slTones rfl _ _ rfl B _ _ _ rfl (hprow.new ((New.refl _).alloc _)) ⟨wr.heap.size, 0, none⟩ 1 1 [.int .u8 (f (l * 3)), .int .u8 (f (l * 3 + 1)), .int .u8 (f (l * 3 + 2))] rfl rfl (news_new _ _ _ _ _ rfl) (by simp [Value.oneCell']) (by omega) (by unfold maxLen; omega) (by omega) (by simp; omega) ?_)
          intro g1 cap1 w3 hown1 hg1 hat1 hlt1
          have hn3 : New W w3 := grown_new (hnw.alloc _) hg1 fun b hb => by have := (hbk b hb).1; omega
          have ot3 := hide ((grown_obj hg1 _ (by simp; omega) (fun e => by have := hbk _ e.symm; omega)).trans ((obj_alloc_past _ _ _ (by omega)).trans ot))
          have hrow3 : Row w3 W.heap.size (.slice (some ⟨gr, 0, none⟩) n cpr) n (lsF L) := (hrow'.out.new ((New.refl _).alloc _)).same fun b hb => by
            simp only [Value.ownBlock, Option.some.injEq] at hb
            subst hb
            exact grown_obj hg1 _ (by simp; omega) (fun e => by have := hbk _ e.symm; omega)
          have hr1 := prow_app hown1 s0 s1 s2
          have hlw1 := grown_le hg1
          simp at hlw1
          clear hown1 hg1 hat1 hprow hnw ot hot hbk oc hrow'
          go_wp2_with (fail)
          go_roundw
          case rel => exact ⟨j + 1, by omega, by go_num, hr1, hrow3, ot3, hn3, by omega⟩
          case measure => simp [intOf]; omega
        · obtain rfl : n = j := by omega
          obtain ⟨a9, c9, rfl⟩ := hprow.form
          have hbk := hprow.block
          clear hel
          go_wp2_with (fail)
          go_ret3
          refine ⟨_, _, by rw [hC.out]; rfl, ?_, ?_, hnw, fun b hb => ?_⟩
          · rw [hN.out]; unfold srtF srtO; rw [hO.out]; exact hprow.lower (by omega)
          · rw [hN.out]; unfold srtO; rw [hO.out]; exact hrow
          · have := hbk b hb
            intro e
            have e2 : gr = b := by simpa [Value.ownBlock] using e
            omega
end Go.Proofs.Ytmiafnlaooggjaa
