/- The tones of an image: what the reference returns; no condition. -/
import Derived.Test.YtpphckfalgapdaaU12
import Derived.Test.YtpphckfalgapdaaU3
import Derived.Test.YtpphckfalgapdaaU7
import Derived.Test.YtpphckfalgapdaaU6
import Derived.Test.YtpphckfalgapdaaU10
import Derived.Test.YtpphckfalgapdaaU5
set_option linter.unusedVariables false
namespace Go.Proofs.Ytpphckfalgapdaa
open Go.BigFrame
open Go.RowKit Go.Arr
theorem irow_app {a b : Nat} {k : IntKind} {f g h : Nat → Int} (h1 : ∀ j, j < a → h j = f j) (h2 : ∀ j, j < b → h (a + j) = g j) : irow a k f ++ irow b k g = irow (a + b) k h := by
  have irow_len : ∀ (n : Nat) (f : Nat → Int), (irow n k f).length = n := fun n f => by simp
  apply List.ext_getElem?
  intro j
  rw [List.getElem?_append, irow_len]
  by_cases e : j < a
  · rw [if_pos e, get_irow j e, get_irow j (by omega), h1 j e]
  · rw [if_neg e]
    by_cases e2 : j < a + b
    · rw [get_irow (j - a) (by omega), get_irow j e2, ← h2 (j - a) (by omega), show a + (j - a) = j by omega]
    · rw [List.getElem?_eq_none (by rw [irow_len]; omega), List.getElem?_eq_none (by rw [irow_len]; omega)]
theorem PRow.take {W : World} {base g cap n m : Nat} {f : Nat → Int} (h : PRow W base (.slice (some ⟨g, 0, none⟩) n cap) n f) (hm : m ≤ n) : PRow W base (.slice (some ⟨g, 0, none⟩) m cap) m f := by
  rcases h.shape with ⟨h1, _⟩ | ⟨g', cap', cur, h1, h2, h3, h4, h5, h6, h7, h8⟩
  · cases h1
  · simp only [Value.slice.injEq, Option.some.injEq, Addr.mk.injEq, and_true, true_and] at h1
    obtain ⟨rfl, rfl⟩ := h1
    exact PRow.of h4 h2 (by omega) h6 h7 fun j hj => h8 j (by omega)
theorem PRow.raw {W : World} {base g cap n : Nat} {f : Nat → Int} (h : PRow W base (.slice (some ⟨g, 0, none⟩) n cap) n f) : ∃ cur, obj W g = some (.cells cur 26) ∧ ∀ j, j < n * 3 → cur[0 + j]? = some (.int .u8 (f j)) := by
  rcases h.shape with ⟨h1, _⟩ | ⟨g', cap', cur, h1, h2, h3, h4, h5, h6, h7, h8⟩
  · cases h1
  · simp only [Value.slice.injEq, Option.some.injEq, Addr.mk.injEq, and_true, true_and] at h1
    obtain ⟨rfl, rfl⟩ := h1
    exact ⟨cur, h4, fun j hj => by rw [Nat.zero_add]; exact h8 j hj⟩
theorem cmp3_x {fm : Nat → Int} (hfm : ∀ i, 0 ≤ fm i ∧ fm i ≤ 255) (k r : Nat) (hr : r < 3) : cmp3 (tnF fm k) r = fm (k * 3 + r) := by
  have : r = 0 ∨ r = 1 ∨ r = 2 := by omega
  unfold cmp3
  rcases this with rfl | rfl | rfl
  · exact tnF_0 hfm k
  · exact tnF_1 hfm k
  · exact tnF_2 hfm k
theorem befI_n {fm : Nat → Int} (hfm : ∀ i, 0 ≤ fm i ∧ fm i ≤ 255) (t : Tn) (k : Nat) : befI (n0 t) (n1 t) (n2 t) (fm (k * 3)) (fm (k * 3 + 1)) (fm (k * 3 + 2)) = decide (tl t (tnF fm k)) := by
  rw [← befI_tl, tnF_0 hfm, tnF_1 hfm, tnF_2 hfm]
set_option maxHeartbeats 8000000 in
set_option maxRecDepth 100000 in
theorem tin_spec (a b : Int) (fm : Nat → Int) (ha : -128 ≤ a ∧ a ≤ 127) (hb : -128 ≤ b ∧ b ≤ 127) (hfm : ∀ i, 0 ≤ fm i ∧ fm i ≤ 255) (W : World) :
    Calls Try.prog 19 #[.agg (pic 432 a b fm)] W fun e w' => ∃ v, e = .returned (.tuple #[v, .int .i64 (tinC a b fm)]) ∧ PRow w' W.heap.size v (tinN a b fm) (tinF a b fm) ∧ New W w' := by
  cases hok : okImg a b fm
  · have hC : Hid (tinC a b fm = 1) := if_pos hok
    have hN : Hid (tinN a b fm = 0) := if_neg (by rw [hC.out]; omega)
    go_enter Try.func19, Try.ntmps19
    go_wp2_with (go_at_call 55; refine (l02Image_any _ 29 a b fm ha hb _ (by go_simp)).mono ?_; rintro e w' ⟨rfl, rfl⟩; rw [hok])
    go_ret2
    exact ⟨_, by rw [hC.out]; rfl, by rw [hN.out]; exact prow_empty (by go_simp) (by simp), ((New.refl W).alloc _).alloc _⟩
  go_enter Try.func19, Try.ntmps19
  go_wp2_with (go_at_call 55; refine (l02Image_any _ 29 a b fm ha hb _ (by go_simp)).mono ?_; rintro e w' ⟨rfl, rfl⟩; rw [hok])
  go_loopw [5, 4] (fun i v wr => ∃ (k : Nat) (M : List Tn) (g cap : Nat), k ≤ 144 ∧ i = .int .i64 k ∧ v = .slice (some ⟨g, 0, none⟩) M.length cap ∧ Hid (tsP (cellN a b) (tnF fm) k M) ∧ PRow wr (W.heap.size + 1) (.slice (some ⟨g, 0, none⟩) M.length cap) M.length (flF M) ∧ Hid (obj wr W.heap.size = some (.cells (pic 432 a b fm) 29)) ∧ New W wr ∧ W.heap.size + 1 ≤ wr.heap.size) (fun i _ _ => 144 - (intOf i).toNat)
  case atStart => exact ⟨0, [], _, 0, by omega, rfl, rfl, tsP_0, prow_empty (obj_alloc_at _ _ _ (by simp)) (by simp), by show _ = _; go_simp, ((New.refl W).alloc _).alloc _, by simp⟩
  case round =>
    obtain ⟨k, M, g, cap, hk, rfl, rfl, hts, hrow, ho1, hnw, hlw⟩ := hrel
    have om := ho1.out
    by_cases hlt : k < 144
    · cases hc : cellB k a b
      · have hts' := hide (tsP_f (p := cellN a b) hc hts.out)
        go_wp2_with (go_at_call 56; refine (l02Cell_any _ 29 a b fm _ ha hb _ om).mono ?_; rintro e w' ⟨rfl, rfl⟩; rw [hc])
        go_roundw
        case rel => exact ⟨k + 1, M, g, cap, by omega, by go_num, rfl, hts', hrow, ho1, hnw, hlw⟩
        case measure => simp [intOf]; omega
      · have hlen := tsP_len hts.out
        go_wp2_with (go_at_call 56; refine (l02Cell_any _ 29 a b fm _ ha hb _ om).mono ?_; rintro e w' ⟨rfl, rfl⟩; rw [hc])
        obtain ⟨n, hn⟩ : ∃ n, Hid (M.length = n) := ⟨_, rfl⟩
        rw [hn.out] at hrow hlen ⊢
        go_loopw [6] (fun x wq => ∃ t : Nat, t ≤ n ∧ x = .int .i64 t ∧ Hid (∀ j, j < t → tl (M.getD j tn0) (tnF fm k)) ∧ New wr wq) (fun x _ => n - (intOf x).toNat)
        case atStart => exact ⟨0, by omega, rfl, fun j hj => absurd hj (by omega), New.refl _⟩
        case round =>
          obtain ⟨t, ht, rfl, hlo, hnq⟩ := hrel
          have rm := obj_lt om
          have om2 := (hnq.objs _ rm).trans om
          have rm2 := obj_lt om2
          have x1 : (pic 432 a b fm).extract (2 + k * 3) (2 + k * 3 + 3) = #[.int .u8 (fm (k * 3)), .int .u8 (fm (k * 3 + 1)), .int .u8 (fm (k * 3 + 2))] := pic3 (by omega) rfl
          have l1 : 2 + k * 3 + 3 ≤ 434 := by omega
          have hrow2 := hide (hrow.new hnq)
          obtain ⟨cur, oc, hbg, hcp, hmx, hel⟩ := hrow2.out.els
          have rc := obj_lt oc
          by_cases htn : t < n
          · obtain ⟨x2, l2⟩ := hel t htn
            have hB := befI_n hfm (M.getD t tn0) k
            rw [← flF_0, ← flF_1, ← flF_2] at hB
            have hel := hide hel
            cases hd : decide (tl (M.getD t tn0) (tnF fm k))
            · rw [hd] at hB
              have hd2 := of_decide_eq_false hd
              clear hd
              go_wp2_with (fail)
              go_wp2_with (fail)
              refine wp_region_new (by kernel_rfl) (by kernel_rfl) ?_
              repeat (go_big_quiet_step (first | fail | (go_at_call 57; with_reducible exact calls_new (before_any _ _ _ _ _ _ (flF_b _ _) (flF_b _ _) (flF_b _ _) (hfm _) (hfm _) (hfm _) _))))
              refine wpQuiet_nil ?_
              intro w1 hc1
              have hn1 := NewW.of hc1
              clear hc1
              have ho1 := hn1.objs
              have hz1 := hn1.le
              try simp at hz1
              have k1_0 : W.heap.size < w1.heap.size := by omega
              have k1_1 : g < w1.heap.size := by omega
              simp only [hB]
              go_wp2_with (fail)
              cases he : eq3 (flF M (t * 3)) (flF M (t * 3 + 1)) (flF M (t * 3 + 2)) (fm (k * 3)) (fm (k * 3 + 1)) (fm (k * 3 + 2))
              rotate_left
              · have hmem : tnF fm k ∈ M := by
                  have h3 := eq3_t.1 he
                  rw [flF_0, flF_1, flF_2, ← tnF_0 hfm, ← tnF_1 hfm, ← tnF_2 hfm] at h3
                  rw [← tn_ext h3.1 h3.2.1 h3.2.2]
                  exact getT_mem (by rw [hn.out]; exact htn)
                have hts' := hide (tsP_old (p := cellN a b) hc hmem hts.out)
                clear hmem hd2
                go_quiet (fail)
                go_wp2_with (fail)
                have hN := hnq.trans (hn1.drewN nq)
                go_roundw
                case rel => exact ⟨k + 1, M, g, cap, by omega, by go_num, by rw [hn.out], hts', by rw [hn.out]; exact hrow.new hN, by show _ = _; exact (hN.objs _ rm).trans om, hnw.trans hN, by have := hN.le; omega⟩
                case measure => simp [intOf]; omega
              · have hhi : tl (tnF fm k) (M.getD t tn0) := by
                  by_cases h1 : tl (tnF fm k) (M.getD t tn0)
                  · exact h1
                  · exfalso
                    have e := tl_tri hd2 h1
                    have : eq3 (flF M (t * 3)) (flF M (t * 3 + 1)) (flF M (t * 3 + 2)) (fm (k * 3)) (fm (k * 3 + 1)) (fm (k * 3 + 2)) = true := by
                      rw [eq3_t, flF_0, flF_1, flF_2, ← tnF_0 hfm, ← tnF_1 hfm, ← tnF_2 hfm, e]
                      exact ⟨rfl, rfl, rfl⟩
                    rw [this] at he
                    cases he
                have hts' := hide (tsP_ins (p := cellN a b) hc (by rw [hn.out]; omega) hlo.out (Or.inr hhi) hts.out)
                have hli : (insT M (tnF fm k) t).length = n + 1 := by rw [len_insT (by rw [hn.out]; omega), hn.out]
                have hfi := hide (fun j => flF_ins (M := M) (x := tnF fm k) (a := t) (by rw [hn.out]; omega) j)
                clear hhi hd2 hB
                go_quiet (fail)
                have hN := hnq.trans (hn1.drewN nq)
                have hrow4 := hrow.new hN
                have om4 := (hN.objs _ rm).trans om
                have hN4 := hnw.trans hN
                have lN := hN.le
                generalize w1.drewN nq = w4 at hrow4 om4 hN4 hN lN ⊢
                obtain ⟨cu4, oc4, raw4⟩ := hrow4.raw
                have raw4 := hide raw4
                have rc4 := obj_lt oc4
                have rm4 := obj_lt om4
                have hrow4' := hide hrow4
                clear hel hrow2 ho1 om2 om oc x2 l2 he
                go_wp2_with (at_builtin; refine wpList_app slTones rfl _ _ rfl w4.heap.size (.slice (some ⟨w4.heap.size, 0, none⟩) 0 0) 0 [] rfl (prow_empty (f := flF M) (obj_alloc_at _ _ _ rfl) (Nat.le_refl _)) ⟨g, t * 3, none⟩ (n - t) (cap - t) (irow ((n - t) * 3) .u8 (fun j => flF M (t * 3 + j))) rfl (by simp) (news_sl3 ((obj_alloc_past _ _ _ rc4).trans oc4) (fun j hj => (by have := raw4.out (t * 3 + j) (by omega); rwa [Nat.zero_add] at this))) irow_one (by omega) (by unfold maxLen; omega) (by omega) (by simp) ?_)
                intro g7 cap7 w5 hown7 hg7 hat7 hlt7
                try simp only [Nat.zero_add, List.nil_append] at hown7
                try simp only [Nat.zero_add]
                have hn5 : New w4 w5 := grown_new ((New.refl w4).alloc _) hg7 fun b hb => by simp [Value.ownBlock] at hb; omega
                have hP7 : PRow w5 w4.heap.size (.slice (some ⟨g7, 0, none⟩) (n - t) cap7) (n - t) (fun j => flF M (t * 3 + j)) := hown7
                have hP7 := hP7.congr (f' := fun j => flF (insT M (tnF fm k) t) ((t + 1) * 3 + j)) (fun j hj => by show flF M (t * 3 + j) = flF (insT M (tnF fm k) t) ((t + 1) * 3 + j); rw [hfi.out, if_neg (by omega), if_neg (by omega), show (t + 1) * 3 + j - 3 = t * 3 + j by omega])
                have hb7 := hP7.block g7 rfl
                have hT : PRow w5 (W.heap.size + 1) (.slice (some ⟨g, 0, none⟩) t cap) t (flF (insT M (tnF fm k) t)) := ((hrow4'.out.take ht).congr (fun j hj => by rw [hfi.out, if_pos hj])).new hn5
                have e0 : flF (insT M (tnF fm k) t) (t * 3) = fm (k * 3) := by rw [hfi.out, if_neg (by omega), if_pos (by omega), show t * 3 - t * 3 = 0 by omega, cmp3_x hfm _ _ (by omega), Nat.add_zero]
                have e1 : flF (insT M (tnF fm k) t) (t * 3 + 1) = fm (k * 3 + 1) := by rw [hfi.out, if_neg (by omega), if_pos (by omega), show t * 3 + 1 - t * 3 = 1 by omega, cmp3_x hfm _ _ (by omega)]
                have e2 : flF (insT M (tnF fm k) t) (t * 3 + 2) = fm (k * 3 + 2) := by rw [hfi.out, if_neg (by omega), if_pos (by omega), show t * 3 + 2 - t * 3 = 2 by omega, cmp3_x hfm _ _ (by omega)]
                have hN5 := hN4.trans hn5
                have om5 := (hn5.objs _ rm4).trans om4
                have rm5 := obj_lt om5
                have l5 := hn5.le
                have e0 := hide e0
                have e1 := hide e1
                have e2 := hide e2
                generalize hFI : flF (insT M (tnF fm k) t) = FI at hP7 hT e0 e1 e2
                replace hFI := hide hFI
                replace hli := hide hli
                have hP7 := hide hP7
                have hT := hide hT
                have htc : t ≤ cap := by omega
                clear hown7 hg7 hat7 oc4 om4 hrow4
                go_wp2_with (fail)
                go_region_law (first
                  | (refine step_app slTones rfl _ _ rfl (W.heap.size + 1) (.slice (some ⟨g, 0, none⟩) t cap) t (irow (t * 3) .u8 FI) rfl (hT.out.new (by repeat (first | exact New.refl _ | refine New.drew ?_ | refine New.drewN ?_ _ | refine New.alloc ?_ _))) ⟨_, 0, none⟩ 1 1 [.int .u8 (fm (k * 3)), .int .u8 (fm (k * 3 + 1)), .int .u8 (fm (k * 3 + 2))] rfl rfl (news_obj (cs := #[.int .u8 (fm (k * 3)), .int .u8 (fm (k * 3 + 1)), .int .u8 (fm (k * 3 + 2))]) (t := 26) (fr := (0, 0)) (by go_simp; done)) (by simp [Value.oneCell']) (by omega) (by unfold maxLen; omega) (by omega) (by (try simp); omega) ?_; intro g6 cap6 w6 hown6 hg6 hat6 hlt6; have lw6 := grown_le hg6; simp at lw6; have hr6 := prow_app hown6 e0.out e1.out e2.out; have om6 := (grown_obj hg6 W.heap.size (by (try simp); omega) (fun e => by simp [Value.ownBlock] at e; omega)).trans ((New.objs (by repeat (first | exact New.refl _ | refine New.drew ?_ | refine New.drewN ?_ _ | refine New.alloc ?_ _)) _ rm5).trans om5); have hN6 : New W w6 := grown_new (hN5.trans (by repeat (first | exact New.refl _ | refine New.drew ?_ | refine New.drewN ?_ _ | refine New.alloc ?_ _))) hg6 (fun b hb => by simp [Value.ownBlock] at hb; omega); have hP6 : PRow w6 w4.heap.size (.slice (some ⟨g7, 0, none⟩) (n - t) cap7) (n - t) (fun j => FI ((t + 1) * 3 + j)) := hP7.out.same (fun b hb => by cases hb; exact (grown_obj hg6 g7 (by (try simp); omega) (fun e => by simp [Value.ownBlock] at e; omega)).trans (New.objs (by repeat (first | exact New.refl _ | refine New.drew ?_ | refine New.drewN ?_ _ | refine New.alloc ?_ _)) _ hb7.2)))
                  | (refine step_app slTones rfl _ _ rfl (W.heap.size + 1) (.slice (some ⟨g6, 0, none⟩) (t + 1) cap6) (t + 1) (irow ((t + 1) * 3) .u8 FI) rfl (hr6.new (by repeat (first | exact New.refl _ | refine New.drew ?_ | refine New.drewN ?_ _ | refine New.alloc ?_ _))) ⟨g7, 0, none⟩ (n - t) cap7 (irow ((n - t) * 3) .u8 fun j => FI ((t + 1) * 3 + j)) rfl (by simp) (news_sl3 (hP6.raw.choose_spec.1) (hP6.raw.choose_spec.2)) irow_one (by omega) (by unfold maxLen; omega) (by omega) (by (try simp); omega) ?_; intro g8 cap8 w8 hown8 hg8 hat8 hlt8))
                all_goals
                  have hb6 := hr6.block g6 rfl
                  have rm6 := obj_lt om6
                  have hN8 : New W w8 := grown_new (hN6.trans (by repeat (first | exact New.refl _ | refine New.drew ?_ | refine New.drewN ?_ _ | refine New.alloc ?_ _))) hg8 (fun b hb => by simp [Value.ownBlock] at hb; omega)
                  have om8 := hide ((grown_obj hg8 W.heap.size (by (try simp); omega) (fun e => by simp [Value.ownBlock] at e; omega)).trans ((New.objs (by repeat (first | exact New.refl _ | refine New.drew ?_ | refine New.drewN ?_ _ | refine New.alloc ?_ _)) _ rm6).trans om6))
                  have lw8 := obj_lt om8.out
                  have hr8 : PRow w8 (W.heap.size + 1) (.slice (some ⟨g8, 0, none⟩) (n + 1) cap8) (n + 1) FI := by
                    have h9 := hown8
                    rw [irow_app (h := FI) (fun _ _ => rfl) (fun j hj => rfl), show (t + 1) * 3 + (n - t) * 3 = (n + 1) * 3 by omega, show t + 1 + (n - t) = n + 1 by omega] at h9
                    exact h9
                  clear hown6 hown8 hg6 hg8 hat6 hat8 hr6 om6 hP6
                  go_wp2_with (fail)
                  go_roundw
                  case rel => exact ⟨k + 1, insT M (tnF fm k) t, g8, cap8, by omega, by go_num, by rw [hli.out, show t + 1 + (n - t) = n + 1 by omega], hts', by rw [hli.out, hFI.out]; exact hr8, om8, hN8, by omega⟩
                  case measure => simp [intOf]; omega
            · rw [hd] at hB
              have hd2 := of_decide_eq_true hd
              have hlo' : Hid (∀ j, j < t + 1 → tl (M.getD j tn0) (tnF fm k)) := fun j hj => by
                by_cases e : j = t
                · subst e; exact hd2
                · exact hlo.out j (by omega)
              clear hd
              go_wp2_with (fail)
              go_wp2_with (fail)
              refine wp_region_new (by kernel_rfl) (by kernel_rfl) ?_
              repeat (go_big_quiet_step (first | fail | (go_at_call 57; with_reducible exact calls_new (before_any _ _ _ _ _ _ (flF_b _ _) (flF_b _ _) (flF_b _ _) (hfm _) (hfm _) (hfm _) _))))
              refine wpQuiet_nil ?_
              intro w2 hc2
              have hn2 := NewW.of hc2
              clear hc2
              have ho2 := hn2.objs
              have hz2 := hn2.le
              try simp at hz2
              have k2_0 : W.heap.size < w2.heap.size := by omega
              have k2_1 : g < w2.heap.size := by omega
              simp only [hB]
              go_wp2_with (fail)
              go_roundw
              case rel => exact ⟨t + 1, by omega, by go_num, hlo', hnq.trans hn2⟩
              case measure => simp [intOf]; omega
          · obtain rfl : n = t := by omega
            have hts' := hide (tsP_ins (p := cellN a b) hc (by rw [hn.out]; omega) hlo.out (Or.inl hn.out.symm) hts.out)
            have hli : (insT M (tnF fm k) n).length = n + 1 := by rw [len_insT (by rw [hn.out]; omega), hn.out]
            have hfi := hide (fun j => flF_ins (M := M) (x := tnF fm k) (a := n) (by rw [hn.out]; omega) j)
            clear hel om2 hrow2 ho1 oc rc
            go_wp2_with (fail)
            go_quiet (fail)
            have hN3 := hnq.drewN nq
            generalize wr.drewN nq = w3 at hN3 ⊢
            go_wp2_with (fail)
            go_quiet (fail)
            have hN := hN3.drewN nq
            generalize w3.drewN nq = w4 at hN ⊢
            have hrow4 := hrow.new hN
            have om4 := (hN.objs _ rm).trans om
            have hN4 := hnw.trans hN
            have lN := hN.le
            have rc4 := (hrow4.block g rfl).2
            have rm4 := obj_lt om4
            have hT : PRow w4 (W.heap.size + 1) (.slice (some ⟨g, 0, none⟩) n cap) n (flF (insT M (tnF fm k) n)) := hrow4.congr (fun j hj => by rw [hfi.out, if_pos hj])
            have e0 : flF (insT M (tnF fm k) n) (n * 3) = fm (k * 3) := by rw [hfi.out, if_neg (by omega), if_pos (by omega), show n * 3 - n * 3 = 0 by omega, cmp3_x hfm _ _ (by omega), Nat.add_zero]
            have e1 : flF (insT M (tnF fm k) n) (n * 3 + 1) = fm (k * 3 + 1) := by rw [hfi.out, if_neg (by omega), if_pos (by omega), show n * 3 + 1 - n * 3 = 1 by omega, cmp3_x hfm _ _ (by omega)]
            have e2 : flF (insT M (tnF fm k) n) (n * 3 + 2) = fm (k * 3 + 2) := by rw [hfi.out, if_neg (by omega), if_pos (by omega), show n * 3 + 2 - n * 3 = 2 by omega, cmp3_x hfm _ _ (by omega)]
            have e0 := hide e0
            have e1 := hide e1
            have e2 := hide e2
            generalize hFI : flF (insT M (tnF fm k) n) = FI at hT e0 e1 e2
            replace hFI := hide hFI
            replace hli := hide hli
            replace hT := hide hT
            replace hrow4 := hide hrow4
            clear om hrow
            by_cases hce : cap = n
            · obtain rfl : n = cap := hce.symm
              go_wp2_with (fail)
              go_region_law (first
                  | (refine step_app slTones rfl _ _ rfl (W.heap.size + 1) (.slice (some ⟨g, 0, none⟩) n n) n (irow (n * 3) .u8 FI) rfl (hT.out.new (by repeat (first | exact New.refl _ | refine New.drew ?_ | refine New.drewN ?_ _ | refine New.alloc ?_ _))) ⟨_, 0, none⟩ 1 1 [.int .u8 (fm (k * 3)), .int .u8 (fm (k * 3 + 1)), .int .u8 (fm (k * 3 + 2))] rfl rfl (news_obj (cs := #[.int .u8 (fm (k * 3)), .int .u8 (fm (k * 3 + 1)), .int .u8 (fm (k * 3 + 2))]) (t := 26) (fr := (0, 0)) (by go_simp; done)) (by simp [Value.oneCell']) (by omega) (by unfold maxLen; omega) (by omega) (by (try simp); omega) ?_; intro g6 cap6 w6 hown6 hg6 hat6 hlt6; have lw6 := grown_le hg6; simp at lw6; have hr6 := prow_app hown6 e0.out e1.out e2.out; have hc6 : n + 1 ≤ cap6 := hr6.els.choose_spec.2.2.1; have om6 := hide ((grown_obj hg6 W.heap.size (by (try simp); omega) (fun e => by simp [Value.ownBlock] at e; omega)).trans ((New.objs (by repeat (first | exact New.refl _ | refine New.drew ?_ | refine New.drewN ?_ _ | refine New.alloc ?_ _)) _ rm4).trans om4)); have hN6 : New W w6 := grown_new (hN4.trans (by repeat (first | exact New.refl _ | refine New.drew ?_ | refine New.drewN ?_ _ | refine New.alloc ?_ _))) hg6 (fun b hb => by simp [Value.ownBlock] at hb; omega)))
              all_goals
                clear hown6 hg6 hat6
                go_wp2_with (fail)
                go_roundw
                case rel => exact ⟨k + 1, insT M (tnF fm k) n, g6, cap6, by omega, by go_num, by rw [hli.out], hts', by rw [hli.out, hFI.out]; exact hr6, om6, hN6, by omega⟩
                case measure => simp [intOf]; omega
            · have hce2 : ¬ (cap - n = 0) := by omega
              go_wp2_with (fail)
              go_region_law (first
                  | (refine step_app slTones rfl _ _ rfl (W.heap.size + 1) (.slice (some ⟨g, 0, none⟩) n cap) n (irow (n * 3) .u8 FI) rfl (hT.out.new (by repeat (first | exact New.refl _ | refine New.drew ?_ | refine New.drewN ?_ _ | refine New.alloc ?_ _))) ⟨_, 0, none⟩ 1 1 [.int .u8 (fm (k * 3)), .int .u8 (fm (k * 3 + 1)), .int .u8 (fm (k * 3 + 2))] rfl rfl (news_obj (cs := #[.int .u8 (fm (k * 3)), .int .u8 (fm (k * 3 + 1)), .int .u8 (fm (k * 3 + 2))]) (t := 26) (fr := (0, 0)) (by go_simp; done)) (by simp [Value.oneCell']) (by omega) (by unfold maxLen; omega) (by omega) (by (try simp); omega) ?_; intro g6 cap6 w6 hown6 hg6 hat6 hlt6; have lw6 := grown_le hg6; simp at lw6; have hr6 := prow_app hown6 e0.out e1.out e2.out; have hc6 : n + 1 ≤ cap6 := hr6.els.choose_spec.2.2.1; have om6 := hide ((grown_obj hg6 W.heap.size (by (try simp); omega) (fun e => by simp [Value.ownBlock] at e; omega)).trans ((New.objs (by repeat (first | exact New.refl _ | refine New.drew ?_ | refine New.drewN ?_ _ | refine New.alloc ?_ _)) _ rm4).trans om4)); have hN6 : New W w6 := grown_new (hN4.trans (by repeat (first | exact New.refl _ | refine New.drew ?_ | refine New.drewN ?_ _ | refine New.alloc ?_ _))) hg6 (fun b hb => by simp [Value.ownBlock] at hb; omega)))
              all_goals
                clear hown6 hg6 hat6
                go_wp2_with (fail)
                go_roundw
                case rel => exact ⟨k + 1, insT M (tnF fm k) n, g6, cap6, by omega, by go_num, by rw [hli.out], hts', by rw [hli.out, hFI.out]; exact hr6, om6, hN6, by omega⟩
                case measure => simp [intOf]; omega
    · obtain rfl : k = 144 := by omega
      have hL := tinL_eq hts.out
      by_cases h15 : 15 < M.length
      · have hC : Hid (tinC a b fm = 3) := by show _ = _; unfold tinC; rw [hL, if_neg (by rw [hok]; simp), if_pos h15]
        have hN : Hid (tinN a b fm = 0) := if_neg (by rw [hC.out]; omega)
        clear hL
        have h15b : (15 : Int) < M.length := by omega
        go_wp2_with (fail)
        go_ret2
        exact ⟨_, by rw [hC.out]; rfl, by rw [hN.out]; exact prow_empty (obj_alloc_at _ _ _ rfl) (by omega), hnw.alloc _⟩
      · have hC : Hid (tinC a b fm = 0) := by show _ = _; unfold tinC; rw [hL, if_neg (by rw [hok]; simp), if_neg h15]
        have hN : Hid (tinN a b fm = M.length) := by show _ = _; unfold tinN; rw [if_pos hC.out, hL]
        have hF : Hid (tinF a b fm = flF M) := by show _ = _; unfold tinF; rw [hL]
        clear hL
        have h15b : ¬ (15 : Int) < M.length := by omega
        go_wp2_with (fail)
        go_ret2
        exact ⟨_, by rw [hC.out]; rfl, by rw [hN.out, hF.out]; exact hrow.lower (by omega), hnw⟩
end Go.Proofs.Ytpphckfalgapdaa
/- The tones of an image: what the program returns; no condition. -/
set_option linter.unusedVariables false
namespace Go.Proofs.Ytpphckfalgapdaa
open Go.BigFrame
open Go.RowKit Go.Arr
theorem ctF_0 (a b : Int) (fm : Nat → Int) (q : Nat) : ctF a b fm (q * 3) = fm (selG (cellN a b) 144 q * 3) := by
  unfold ctF
  rw [show q * 3 / 3 = q by omega, show q * 3 % 3 = 0 by omega, Nat.add_zero]
theorem ctF_1 (a b : Int) (fm : Nat → Int) (q : Nat) : ctF a b fm (q * 3 + 1) = fm (selG (cellN a b) 144 q * 3 + 1) := by
  unfold ctF
  rw [show (q * 3 + 1) / 3 = q by omega, show (q * 3 + 1) % 3 = 1 by omega]
theorem ctF_2 (a b : Int) (fm : Nat → Int) (q : Nat) : ctF a b fm (q * 3 + 2) = fm (selG (cellN a b) 144 q * 3 + 2) := by
  unfold ctF
  rw [show (q * 3 + 2) / 3 = q by omega, show (q * 3 + 2) % 3 = 2 by omega]
set_option maxHeartbeats 8000000 in
set_option maxRecDepth 100000 in
theorem tin_impl (a b : Int) (fm : Nat → Int) (ha : -128 ≤ a ∧ a ≤ 127) (hb : -128 ≤ b ∧ b ≤ 127) (hfm : ∀ i, 0 ≤ fm i ∧ fm i ≤ 255) (W : World) :
    Calls Try.prog 18 #[.agg (pic 432 a b fm)] W fun e w' => ∃ v, e = .returned (.tuple #[v, .int .i64 (tinC a b fm)]) ∧ PRow w' W.heap.size v (tinN a b fm) (tinF a b fm) ∧ New W w' := by
  go_enter Try.func18, Try.ntmps18
  go_wp2_with (fail)
  generalize hw0 : W.alloc (Obj.cells (pic 432 a b fm) 29) = w0
  have b1 : obj w0 W.heap.size = some (.cells (pic 432 a b fm) 29) := by subst hw0; go_simp
  have hn0 : New W w0 := by subst hw0; exact (New.refl W).alloc _
  clear hw0
  refine (validImage_impl a b fm ha hb _).mono ?_
  rintro e w1 ⟨rfl, hn1⟩
  have c1 := (hn1.objs _ (obj_lt b1)).trans b1
  have hN1 := hn0.trans hn1
  clear b1 hn0 hn1
  cases hok : okImg a b fm
  · have hC : Hid (tinC a b fm = 1) := if_pos hok
    have hN : Hid (tinN a b fm = 0) := if_neg (by rw [hC.out]; omega)
    clear hok
    go_wp2_with (fail)
    go_ret2
    exact ⟨_, by rw [hC.out]; rfl, by rw [hN.out]; exact PRow.nil, hN1⟩
  have rc := obj_lt c1
  go_wp2_with (fail)
  generalize hw2 : w1.alloc (Obj.cells #[] 26) = w2
  have b2 : obj w2 W.heap.size = some (.cells (pic 432 a b fm) 29) := by subst hw2; exact (obj_alloc_past _ _ _ rc).trans c1
  have o2 : obj w2 w1.heap.size = some (.cells #[] 26) := by subst hw2; exact obj_alloc_at _ _ _ rfl
  have hN2 : New W w2 := by subst hw2; exact hN1.alloc _
  have l2 : w1.heap.size + 1 ≤ w2.heap.size := by subst hw2; simp
  clear hw2
  refine (cells_any a b fm ha hb _).mono ?_
  rintro e w5 ⟨v, rfl, hrw5, hn5⟩
  obtain ⟨x, y, rfl, _⟩ := hrw5.reads
  have b5 := (hn5.objs _ (obj_lt b2)).trans b2
  have o5 := (hn5.objs _ (obj_lt o2)).trans o2
  have hN5 := hN2.trans hn5
  have hle := selN_le (p := cellN a b) 144
  have hsel := hide (selG_lt (p := cellN a b) 144)
  have hsl := hrw5.sl
  have hxb : ∀ q : Addr, x = some q → q.block ≠ w1.heap.size := fun q hq => by
    have := hrw5.block q.block (by rw [hq]; rfl)
    omega
  have lW : W.heap.size + 1 ≤ w1.heap.size := by omega
  have l5 := hn5.le
  obtain ⟨N, hN⟩ : ∃ N, Hid (selN (cellN a b) 144 = N) := ⟨_, rfl⟩
  rw [hN.out] at hsl hle hsel ⊢
  have hok' := hide hok
  have hct : Hid (∀ i, 0 ≤ ctF a b fm i ∧ ctF a b fm i ≤ 255) := fun i => hfm _
  clear hn5 hrw5 b2 o2 hN1 hN2 c1 hok
  go_wp2_with (fail)
  go_loopw [14, 4] (fun i v wq => ∃ (j g cap : Nat), j ≤ N ∧ i = .int .i64 j ∧ v = .slice (some ⟨g, 0, none⟩) j cap ∧ PRow wq w1.heap.size (.slice (some ⟨g, 0, none⟩) j cap) j (ctF a b fm) ∧ Hid (obj wq W.heap.size = some (.cells (pic 432 a b fm) 29)) ∧ Sl wq (.slice x N y) N 1 .i64 (fun j => (selG (cellN a b) 144 j : Int)) ∧ New W wq ∧ w1.heap.size + 1 ≤ wq.heap.size ∧ Hid (∀ q : Addr, x = some q → q.block ≠ g)) (fun i _ _ => N - (intOf i).toNat)
  case atStart => exact ⟨0, w1.heap.size, 0, by omega, rfl, rfl, prow_empty o5 (Nat.le_refl _), b5, hsl, hN5, by omega, hxb⟩
  case round =>
    obtain ⟨j, g, cap, hj, rfl, rfl, hrow, hom, hsx, hnw, hlw, hne⟩ := hrel
    have om := hom.out
    have rm := obj_lt om
    have hbk := hrow.block g rfl
    by_cases hlt : j < N
    · obtain ⟨hi1, hi2⟩ := hsel.out j hlt
      obtain ⟨gl, off, cur, t, fr, rfl, o1, hel⟩ := elInts hsx (by omega)
      obtain ⟨q1, e1⟩ := hel j hlt
      have r1 := obj_lt o1
      have hgl := hne.out _ rfl
      have x1 : (pic 432 a b fm).extract (2 + selG (cellN a b) 144 j * 3) (2 + selG (cellN a b) 144 j * 3 + 3) = #[.int .u8 (fm (selG (cellN a b) 144 j * 3)), .int .u8 (fm (selG (cellN a b) 144 j * 3 + 1)), .int .u8 (fm (selG (cellN a b) 144 j * 3 + 2))] := pic3 (by omega) rfl
      have c0 := ctF_0 a b fm j
      have c1 := ctF_1 a b fm j
      have c2 := ctF_2 a b fm j
      generalize selG (cellN a b) 144 j = z at hi1 hi2 e1 x1 c0 c1 c2
      have l1 : 2 + z * 3 + 3 ≤ 434 := by omega
      clear hel hi2
      have hsx' := hide hsx
      clear hsx
      go_wp2_with (at_builtin; refine wpList_app slTones rfl _ _ rfl w1.heap.size _ _ _ rfl (hrow.new ((New.refl _).alloc _)) ⟨wr.heap.size, 0, none⟩ 1 1 [.int .u8 (fm (z * 3)), .int .u8 (fm (z * 3 + 1)), .int .u8 (fm (z * 3 + 2))] rfl rfl (news_new _ _ _ _ _ rfl) (by simp [Value.oneCell']) (by omega) (by unfold maxLen; omega) (by omega) (by simp; omega) ?_)
      intro g1 cap1 w7 hown1 hg1 hat1 hlt1
      have hn7 : New W w7 := grown_new (hnw.alloc _) hg1 fun b hb => by simp [Value.ownBlock] at hb; omega
      have om7 := hide ((grown_obj hg1 _ (by simp; omega) (fun e => by simp [Value.ownBlock] at e; omega)).trans ((obj_alloc_past _ _ _ rm).trans om))
      have hs7 : Sl w7 (.slice (some ⟨gl, off, none⟩) N y) N 1 .i64 (fun j => (selG (cellN a b) 144 j : Int)) := (hsx'.out.new ((New.refl _).alloc _)).grown hg1 fun a c h => by
        simp only [Value.slice.injEq, Option.some.injEq, true_and] at h
        obtain ⟨rfl, _⟩ := h
        intro e
        simp [Value.ownBlock] at e
        omega
      have hne7 : Hid (∀ q : Addr, some (⟨gl, off, none⟩ : Addr) = some q → q.block ≠ g1) := fun q hq => by
        simp only [Option.some.injEq] at hq
        subst hq
        show gl ≠ g1
        rcases hat1 with h | h
        · simp [Value.ownBlock] at h; omega
        · (try simp at h); omega
      have hr7 := prow_app hown1 c0 c1 c2
      have hlw1 := grown_le hg1
      simp at hlw1
      clear hown1 hg1 hat1 hrow hnw om hom hsx'
      go_wp2_with (fail)
      go_roundw
      case rel => exact ⟨j + 1, g1, cap1, by omega, by go_num, rfl, hr7, om7, hs7, hn7, by omega, hne7⟩
      case measure => simp [intOf]; omega
    · obtain rfl : N = j := by omega
      clear hsx
      go_wp2_with (fail)
      refine (sortFunc_any hct.out (by omega) _ hrow).mono ?_
      rintro e w8 ⟨rfl, L, hL1, hL2, hp8, hg8⟩
      have hn8 : New W w8 := grown_new hnw hg8 fun b hb => by cases hb; omega
      go_wp2_with (fail)
      refine (compact_any (by omega) _ hp8).mono ?_
      rintro e w9 ⟨K, hK, rfl, hp9, hg9⟩
      have hn9 : New W w9 := grown_new hn8 hg9 fun b hb => by cases hb; omega
      obtain ⟨hbl, hbf⟩ := tin_bridge hfm hN.out.symm hL1 hL2
      rw [← hK] at hbl hbf
      have hp := hide ((hp9.congr hbf).lower (show W.heap.size ≤ w1.heap.size by omega))
      clear hp9 hbf hK hp8 hg8 hg9 hL2 hrow
      by_cases h15 : 15 < K
      · have hC : Hid (tinC a b fm = 3) := by show _ = _; unfold tinC; rw [hbl, if_neg (by rw [hok'.out]; simp), if_pos h15]
        have hN : Hid (tinN a b fm = 0) := if_neg (by rw [hC.out]; omega)
        clear hbl
        have h15b : (15 : Int) < K := by omega
        go_wp2_with (fail)
        go_ret2
        exact ⟨_, by rw [hC.out]; rfl, by rw [hN.out]; exact PRow.nil, hn9⟩
      · have hC : Hid (tinC a b fm = 0) := by show _ = _; unfold tinC; rw [hbl, if_neg (by rw [hok'.out]; simp), if_neg h15]
        have hN : Hid (tinN a b fm = K) := by show _ = _; unfold tinN; rw [if_pos hC.out, hbl]
        clear hbl
        have h15b : ¬ (15 : Int) < K := by omega
        go_wp2_with (fail)
        go_ret2
        exact ⟨_, by rw [hC.out]; rfl, by rw [hN.out]; exact hp.out, hn9⟩
end Go.Proofs.Ytpphckfalgapdaa
