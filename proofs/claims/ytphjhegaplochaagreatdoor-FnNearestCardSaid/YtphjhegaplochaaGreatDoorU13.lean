/- The stock that a picture asks: the reference and the program answer alike; palettes marked; no condition. -/
import Derived.Test.YtphjhegaplochaaGreatDoorU9
import Derived.Test.YtphjhegaplochaaGreatDoorU8
import Derived.Test.YtphjhegaplochaaGreatDoorU12
import Derived.Test.YtphjhegaplochaaGreatDoorU4
import Derived.Test.YtphjhegaplochaaGreatDoorU10
set_option linter.unusedVariables false
namespace Go.Proofs.YtphjhegaplochaaGreatDoor
open Go.BigFrame
open Go.RowKit Go.Arr
def impC (f : Nat → Int) : Nat → Nat → Int := cntU (fun i => decide (0 < f i)) (fun i => (f i).toNat - 1)
theorem impC_eq {a b : Int} {f : Nat → Int} (hf : ∀ i, 0 ≤ f i ∧ f i ≤ 255) (h : okPic a b f = true) (j k : Nat) (hk : k ≤ 144) : impC f k j = cntF a b f k (j + 1) := by
  induction k generalizing j with
  | zero => rfl
  | succ k ih =>
    have hb := okPic_bare h k (by omega)
    have hfk := hf k
    unfold impC cntF at *
    rw [cntU, cntU]
    by_cases hp : 0 < f k
    · have hc : cellB k a b = true := by
        cases hc : cellB k a b
        · have := hb hc; omega
        · rfl
      rw [if_pos (decide_eq_true hp), if_pos hc]
      unfold upd
      try dsimp only
      by_cases e : j = (f k).toNat - 1
      · rw [if_pos e, if_pos (by omega), ih _ (by omega)]
        rw [show (f k).toNat - 1 + 1 = (f k).toNat by omega]
      · rw [if_neg e, if_neg (by omega), ih _ (by omega)]
    · rw [if_neg (by simp; omega)]
      split
      · unfold upd
        rw [if_neg (by omega), ih _ (by omega)]
      · exact ih _ (by omega)
def stockN (a b : Int) (f : Nat → Int) (n : Nat) (fp : Nat → Int) : Nat := if hasV a b f n fp = 0 then n else 0
def stockF (a b : Int) (f : Nat → Int) : Nat → Int := fun j => cntF a b f 144 (j + 1)
theorem stockN_0 {a b : Int} {f : Nat → Int} {n : Nat} {fp : Nat → Int} {k : Int} (h : hasV a b f n fp = k) (hk : k ≠ 0) : stockN a b f n fp = 0 := if_neg (by rw [h]; exact hk)
theorem stockN_1 {a b : Int} {f : Nat → Int} {n : Nat} {fp : Nat → Int} (h : hasV a b f n fp = 0) : stockN a b f n fp = n := if_pos h
theorem stockN_le (a b : Int) (f : Nat → Int) (n : Nat) (fp : Nat → Int) : stockN a b f n fp ≤ 15 := by
  unfold stockN
  split
  · rename_i h
    rcases hasV_cases2 a b f n fp with ⟨h1, _⟩ | ⟨h1, _⟩ | ⟨_, h2, _⟩
    · omega
    · omega
    · exact (okPal_pos h2.2).2
  · omega
set_option maxHeartbeats 2000000 in
set_option maxRecDepth 100000 in
theorem stockFor_spec (a b : Int) (f : Nat → Int) (ha : -128 ≤ a ∧ a ≤ 127) (hb : -128 ≤ b ∧ b ≤ 127) (hf : ∀ i, 0 ≤ f i ∧ f i ≤ 255) (ad : Option Addr) (n cp : Nat) (fp : Nat → Int) (hn : n ≤ 1048576) (W : World) (hs : Sl W (.slice ad n cp) n 3 .u8 fp) :
    Calls Tryz.prog 27 #[.agg (pic 144 a b f), .slice ad n cp] W fun e w' => ∃ v, e = .returned (.tuple #[v, .int .i64 (hasV a b f n fp)]) ∧ Row w' W.heap.size v (stockN a b f n fp) (stockF a b f) ∧ New W w' := by
  have hcs := hasV_cases2 a b f n fp
  go_enter Tryz.func27, Tryz.ntmps27
  go_wp2_with (fail)
  generalize hw0 : W.alloc (Obj.cells (pic 144 a b f) 39) = w0
  have b1 : obj w0 W.heap.size = some (.cells (pic 144 a b f) 39) := by subst hw0; go_simp
  have hn0 : New W w0 := by subst hw0; exact (New.refl W).alloc _
  have hs0 := hs.new hn0
  clear hw0 hs
  refine (l02Has_any _ 39 a b f ha hb hf ad n cp fp hn _ b1 hs0).mono ?_
  rintro e w1 ⟨rfl, hn1⟩
  have c1 := (hn1.objs _ (obj_lt b1)).trans b1
  have hN1 := hn0.trans hn1
  have hWl := hN1.le
  have r1 := obj_lt c1
  clear b1 hs0 hn0 hn1
  rcases hcs with ⟨hv, _⟩ | ⟨hv, _⟩ | ⟨hv, hoo, hhc⟩
  · have hC := hide hv
    rw [hv]
    clear hv
    go_wp2_with (fail)
    go_ret2
    exact ⟨_, by rw [hC.out]; rfl, by rw [stockN_0 hC.out (by omega)]; exact row_empty2 (by go_simp) (by omega), hN1.alloc _⟩
  · have hC := hide hv
    rw [hv]
    clear hv
    go_wp2_with (fail)
    go_ret2
    exact ⟨_, by rw [hC.out]; rfl, by rw [stockN_0 hC.out (by omega)]; exact row_empty2 (by go_simp) (by omega), hN1.alloc _⟩
  have hC := hide hv
  rw [hv]
  have hp := okPal_pos hoo.2
  have hok := hide hoo.1
  clear hv hoo hhc
  go_wp2_with (fail)
  refine (l01Counts_any _ a b f ha hb hf hok.out _ c1).mono ?_
  rintro e w2 ⟨rfl, hn2⟩
  have hN2 := hN1.trans hn2
  have hW2 := hN2.le
  clear c1 r1 hn2
  go_wp2_with (fail)
  go_loopw [8, 9] (fun v i wr => ∃ k : Nat, k ≤ n ∧ i = .int .i64 k ∧ Row wr (w2.heap.size + 1) v k (stockF a b f) ∧ Hid (obj wr w2.heap.size = some (.cells (arr 16 .i64 (cntF a b f 144)) 96)) ∧ New W wr ∧ w2.heap.size + 1 ≤ wr.heap.size) (fun _ i _ => n - (intOf i).toNat)
  case atStart =>
    refine ⟨0, by omega, rfl, row_empty2 (by go_simp) (by omega), ?_, (hN2.alloc _).alloc _, by simp⟩
    show _ = _
    go_simp
  case round =>
    obtain ⟨k, hk, rfl, hrow, hp1, hnw, hlw⟩ := hrel
    have hq := hp1.out
    by_cases hlt : k < n
    · have hk16 : k + 1 < 16 := by omega
      have hbb := cntU_le (fun i => cellB i a b) (fun i => (f i).toNat) 144 (k + 1)
      have hbb : 0 ≤ cntF a b f 144 (k + 1) ∧ cntF a b f 144 (k + 1) ≤ (144 : Nat) := hbb
      go_wp2_with (at_builtin; refine wpList_app slInts rfl _ _ rfl (w2.heap.size + 1) _ _ _ rfl (hrow.new ((New.refl _).alloc _)) ⟨wr.heap.size, 0, none⟩ 1 1 [.int .i64 (cntF a b f 144 (k + 1))] rfl rfl (news_new _ _ _ _ _ rfl) (by simp [Value.oneCell']) (by omega) (by unfold maxLen; omega) (by omega) (by simp; omega) ?_)
      intro g1 cap1 w3 hown1 hg1 hat1 hlt1
      have hbk := hrow.block
      have hne1 : ∀ b, b < w2.heap.size + 1 → some b ≠ u8.ownBlock := fun b hb e => by have := hbk b e.symm; omega
      have hn1 : New W w3 := grown_new (hnw.alloc _) hg1 fun b hb => by have := hbk b hb; omega
      have hp' := hide ((grown_obj hg1 _ (by simp; omega) (hne1 _ (by omega))).trans ((obj_alloc_past _ _ _ (by omega)).trans hq))
      have hr1 := row_app2 hown1
      have hlw1 := grown_le hg1
      simp at hlw1
      clear hown1 hg1 hat1 hrow hq hnw hp1
      go_wp2_with (fail)
      go_roundw
      case rel =>
        refine ⟨k + 1, by omega, by go_num, ?_, hp', hn1, by omega⟩
        refine hr1.congr fun j hj => ?_
        unfold upd stockF
        by_cases e : j = k
        · rw [if_pos e, e]
        · rw [if_neg e]
      case measure => simp [intOf]; omega
    · obtain rfl : k = n := by omega
      go_wp2_with (fail)
      go_ret2
      exact ⟨_, by rw [hC.out]; rfl, by rw [stockN_1 hC.out]; exact hrow.lower (by omega), hnw⟩
set_option maxHeartbeats 4000000 in
set_option maxRecDepth 100000 in
theorem stockFor_impl (a b : Int) (f : Nat → Int) (ha : -128 ≤ a ∧ a ≤ 127) (hb : -128 ≤ b ∧ b ≤ 127) (hf : ∀ i, 0 ≤ f i ∧ f i ≤ 255) (ad : Option Addr) (n cp : Nat) (fp : Nat → Int) (hn : n ≤ 1048576) (hcp : n ≤ cp) (W : World) (hs : Sl W (.slice ad n cp) n 3 .u8 fp) :
    Calls Tryz.prog 26 #[.agg (pic 144 a b f), .slice ad n cp] W fun e w' => ∃ v, e = .returned (.tuple #[v, .int .i64 (hasV a b f n fp)]) ∧ Row w' W.heap.size v (stockN a b f n fp) (stockF a b f) ∧ New W w' := by
  cases h1 : okPic a b f
  · have hC : Hid (hasV a b f n fp = 1) := by show _ = _; unfold hasV; rw [h1]; exact if_pos rfl
    have hcb : codeB false (hasC n f) = 1 := rfl
    go_enter Tryz.func26, Tryz.ntmps26
    go_wp2_with (fail)
    generalize hw0 : W.alloc (Obj.cells (pic 144 a b f) 39) = w0
    have b1 : obj w0 W.heap.size = some (.cells (pic 144 a b f) 39) := by subst hw0; go_simp
    have hn0 : New W w0 := by subst hw0; exact (New.refl W).alloc _
    have hs0 := hs.new hn0
    have r1 := obj_lt b1
    clear hw0 hs
    go_wp2_with (fail)
    refine wp_region_new (by kernel_rfl) (by kernel_rfl) ?_
    repeat (go_big_quiet_step (first | fail | (go_at_call 19; with_reducible exact calls_new (validP_k a b f ha hb hf h1 _)) | (go_at_call 17; with_reducible exact calls_new (validPal_k _ n _ fp hn hcp rfl _ (hs0.new (NewW.is _)))) | (go_at_call 46; with_reducible exact calls_new (hasCol_k a b f hf _ n _ rfl _)) | (go_at_call 65; with_reducible exact calls_new (codeOf_k _ _ hcb _))))
    refine wpQuiet_nil ?_
    intro w1 hc1
    have hn1 := NewW.of hc1
    clear hc1
    have ho1 := hn1.objs
    have hz1 := hn1.le
    try simp at hz1
    go_wp2_with (fail)
    go_ret2
    exact ⟨_, by rw [hC.out]; rfl, by rw [stockN_0 hC.out (by omega)]; exact Row.nil, hn0.trans hn1⟩
  cases h2 : okPal n fp
  · have hC : Hid (hasV a b f n fp = 1) := by show _ = _; unfold hasV; rw [h2, Bool.and_false]; exact if_pos rfl
    have hcb : codeB false (hasC n f) = 1 := rfl
    go_enter Tryz.func26, Tryz.ntmps26
    go_wp2_with (fail)
    generalize hw0 : W.alloc (Obj.cells (pic 144 a b f) 39) = w0
    have b1 : obj w0 W.heap.size = some (.cells (pic 144 a b f) 39) := by subst hw0; go_simp
    have hn0 : New W w0 := by subst hw0; exact (New.refl W).alloc _
    have hs0 := hs.new hn0
    have r1 := obj_lt b1
    clear hw0 hs
    go_wp2_with (fail)
    refine wp_region_new (by kernel_rfl) (by kernel_rfl) ?_
    repeat (go_big_quiet_step (first | fail | (go_at_call 19; with_reducible exact calls_new (validP_k a b f ha hb hf h1 _)) | (go_at_call 17; with_reducible exact calls_new (validPal_k _ n _ fp hn hcp h2 _ (hs0.new (NewW.is _)))) | (go_at_call 46; with_reducible exact calls_new (hasCol_k a b f hf _ n _ rfl _)) | (go_at_call 65; with_reducible exact calls_new (codeOf_k _ _ hcb _))))
    refine wpQuiet_nil ?_
    intro w2 hc2
    have hn2 := NewW.of hc2
    clear hc2
    have ho2 := hn2.objs
    have hz2 := hn2.le
    try simp at hz2
    go_wp2_with (fail)
    go_ret2
    exact ⟨_, by rw [hC.out]; rfl, by rw [stockN_0 hC.out (by omega)]; exact Row.nil, hn0.trans hn2⟩
  cases h3 : hasC n f
  · have hC : Hid (hasV a b f n fp = 2) := by show _ = _; unfold hasV; rw [h1, h2, h3]; rfl
    have hcb : codeB true false = 2 := rfl
    go_enter Tryz.func26, Tryz.ntmps26
    go_wp2_with (fail)
    generalize hw0 : W.alloc (Obj.cells (pic 144 a b f) 39) = w0
    have b1 : obj w0 W.heap.size = some (.cells (pic 144 a b f) 39) := by subst hw0; go_simp
    have hn0 : New W w0 := by subst hw0; exact (New.refl W).alloc _
    have hs0 := hs.new hn0
    have r1 := obj_lt b1
    clear hw0 hs
    go_wp2_with (fail)
    refine wp_region_new (by kernel_rfl) (by kernel_rfl) ?_
    repeat (go_big_quiet_step (first | fail | (go_at_call 19; with_reducible exact calls_new (validP_k a b f ha hb hf h1 _)) | (go_at_call 17; with_reducible exact calls_new (validPal_k _ n _ fp hn hcp h2 _ (hs0.new (NewW.is _)))) | (go_at_call 46; with_reducible exact calls_new (hasCol_k a b f hf _ n _ h3 _)) | (go_at_call 65; with_reducible exact calls_new (codeOf_k _ _ hcb _))))
    refine wpQuiet_nil ?_
    intro w3 hc3
    have hn3 := NewW.of hc3
    clear hc3
    have ho3 := hn3.objs
    have hz3 := hn3.le
    try simp at hz3
    go_wp2_with (fail)
    go_ret2
    exact ⟨_, by rw [hC.out]; rfl, by rw [stockN_0 hC.out (by omega)]; exact Row.nil, hn0.trans hn3⟩
  · have hC : Hid (hasV a b f n fp = 0) := by show _ = _; unfold hasV; rw [h1, h2, h3]; rfl
    have hcb : codeB true true = 0 := rfl
    have hp := okPal_pos h2
    have hhc' := hide (hasC_e h3)
    have hE := hide (fun j => impC_eq hf h1 j 144 (Nat.le_refl _))
    go_enter Tryz.func26, Tryz.ntmps26
    go_wp2_with (fail)
    generalize hw0 : W.alloc (Obj.cells (pic 144 a b f) 39) = w0
    have b1 : obj w0 W.heap.size = some (.cells (pic 144 a b f) 39) := by subst hw0; go_simp
    have hn0 : New W w0 := by subst hw0; exact (New.refl W).alloc _
    have hs0 := hs.new hn0
    have r1 := obj_lt b1
    clear hw0 hs
    go_wp2_with (fail)
    refine wp_region_new (by kernel_rfl) (by kernel_rfl) ?_
    repeat (go_big_quiet_step (first | fail | (go_at_call 19; with_reducible exact calls_new (validP_k a b f ha hb hf h1 _)) | (go_at_call 17; with_reducible exact calls_new (validPal_k _ n _ fp hn hcp h2 _ (hs0.new (NewW.is _)))) | (go_at_call 46; with_reducible exact calls_new (hasCol_k a b f hf _ n _ h3 _)) | (go_at_call 65; with_reducible exact calls_new (codeOf_k _ _ hcb _))))
    refine wpQuiet_nil ?_
    intro w4 hc4
    have hn4 := NewW.of hc4
    clear hc4
    have ho4 := hn4.objs
    have hz4 := hn4.le
    try simp at hz4
    have c1 := (hn4.objs _ (obj_lt b1)).trans b1
    have hN1 := hn0.trans hn4
    have hWl := hN1.le
    clear ho4 b1 hs0 hn0 hn4 h1 h2 h3 r1 hcb
    have r1 := obj_lt c1
    have hn20 : n ≤ 1048576 := by omega
    go_wp2_with (fail)
    go_loopw [28] (fun i wr => ∃ k : Nat, k ≤ 144 ∧ i = .int .i64 k ∧ Hid (obj wr w4.heap.size = some (.cells (arr n .i64 (impC f k)) 2)) ∧ New W wr) (fun i _ => 144 - (intOf i).toNat)
    case atStart =>
      refine ⟨0, by omega, rfl, ?_, hN1.alloc _⟩
      show _ = _
      rw [obj_alloc_at _ _ _ rfl]
      rfl
    case round =>
      obtain ⟨k, hk, rfl, ho1, hnw⟩ := hrel
      have ho := ho1.out
      by_cases hlt : k < 144
      · have hfk := hf k
        by_cases hpos : 0 < f k
        · have hle := hhc'.out k hlt
          have ht : (f k).toNat - 1 < n := by omega
          have hq : Hid (impC f (k + 1) = upd (impC f k) ((f k).toNat - 1) (impC f k ((f k).toNat - 1) + 1)) := by show cntU _ _ (k + 1) = _; rw [cntU, if_pos (decide_eq_true hpos)]; rfl
          have hbb := cntU_le (fun i => decide (0 < f i)) (fun i => (f i).toNat - 1) k ((f k).toNat - 1)
          have hbb : 0 ≤ impC f k ((f k).toNat - 1) ∧ impC f k ((f k).toNat - 1) ≤ k := hbb
          clear ho1 hle
          go_wp2_with (fail)
          go_roundw
          case rel =>
            refine ⟨k + 1, by omega, by go_num, ?_, hnw.setCell (by show W.heap.size ≤ w4.heap.size; omega) _⟩
            show _ = _
            rw [obj_set_arr ho _ ((f k).toNat - 1) _ rfl, hq.out]
          case measure => simp [intOf]; omega
        · have hq : Hid (impC f (k + 1) = impC f k) := by show cntU _ _ (k + 1) = _; rw [cntU, if_neg (by simp; omega)]; rfl
          go_wp2_with (fail)
          go_roundw
          case rel => exact ⟨k + 1, by omega, by go_num, by rw [hq.out]; exact ho1, hnw⟩
          case measure => simp [intOf]; omega
      · obtain rfl : k = 144 := by omega
        go_wp2_with (fail)
        go_ret2
        refine ⟨_, by rw [hC.out]; rfl, ?_, hnw⟩
        rw [stockN_1 hC.out]
        exact Row.of ho (by omega) (Nat.le_refl _) (by unfold maxLen; omega) (by simp) fun j hj => by rw [get_arr, if_pos hj, hE.out j]; rfl
end Go.Proofs.YtphjhegaplochaaGreatDoor
/- The great law on nearest tones: pictures from a stock, in plain words; no condition. -/
set_option linter.unusedVariables false
namespace Go.Proofs.YtphjhegaplochaaGreatDoor
open Go.BigFrame
open Go.RowKit Go.Arr
theorem nearK_first {f : Nat → Int} {x y z : Int} {k i : Nat} (hi : i < (nearK f x y z k).1) : (nearK f x y z k).2 < farE f x y z i := by
  induction k with
  | zero => exact absurd hi (by simp [nearK])
  | succ k ih =>
    rw [nearK] at hi ⊢
    by_cases h : farE f x y z k < (nearK f x y z k).2
    · rw [if_pos h] at hi ⊢
      have := nearK_min (f := f) (x := x) (y := y) (z := z) (k := k) (i := i) hi
      dsimp only at hi ⊢
      omega
    · rw [if_neg h] at hi ⊢
      exact ih hi
theorem farC_E (fm fp : Nat → Int) (i c : Nat) : farC fm fp i c = farE fp (fm (i * 3)) (fm (i * 3 + 1)) (fm (i * 3 + 2)) c := rfl
theorem pick_is {fm fp L : Nat → Int} {i : Nat} (c : Nat) : (pick fm fp L i c = -1 ∧ ∀ d, d < c → ¬ 0 < L d) ∨ ∃ p : Nat, pick fm fp L i c = p ∧ p < c ∧ 0 < L p ∧ (∀ d, d < c → 0 < L d → farC fm fp i p ≤ farC fm fp i d) ∧ ∀ d, d < p → 0 < L d → farC fm fp i p < farC fm fp i d := by
  induction c with
  | zero => exact Or.inl ⟨rfl, fun d hd => by omega⟩
  | succ c ih =>
    by_cases hc : 0 < L c ∧ (pick fm fp L i c < 0 ∨ farC fm fp i c < farC fm fp i (pick fm fp L i c).toNat)
    · rw [pick_t hc.1 hc.2]
      refine Or.inr ⟨c, rfl, by omega, hc.1, fun d hd hL => ?_, fun d hd hL => ?_⟩
      · by_cases e : d = c
        · rw [e]; exact Int.le_refl _
        · rcases ih with ⟨_, h2⟩ | ⟨p, h1, h2, h3, h4, h5⟩
          · exact absurd hL (h2 d (by omega))
          · have h6 := h4 d (by omega) hL
            have h7 := hc.2
            rw [h1, Int.toNat_natCast] at h7
            omega
      · rcases ih with ⟨_, h2⟩ | ⟨p, h1, h2, h3, h4, h5⟩
        · exact absurd hL (h2 d (by omega))
        · have h6 := h4 d (by omega) hL
          have h7 := hc.2
          rw [h1, Int.toNat_natCast] at h7
          omega
    · rw [pick_f hc]
      rcases ih with ⟨h1, h2⟩ | ⟨p, h1, h2, h3, h4, h5⟩
      · refine Or.inl ⟨h1, fun d hd hL => ?_⟩
        by_cases e : d = c
        · exact hc ⟨by rw [← e]; exact hL, Or.inl (by rw [h1]; omega)⟩
        · exact h2 d (by omega) hL
      · refine Or.inr ⟨p, h1, by omega, h3, fun d hd hL => ?_, h5⟩
        by_cases e : d = c
        · rw [e]
          have h6 : ¬ farC fm fp i c < farC fm fp i p := fun h => hc ⟨by rw [← e]; exact hL, Or.inr (by rw [h1, Int.toNat_natCast]; exact h)⟩
          omega
        · exact h4 d (by omega) hL
theorem pick_near {fm fp L : Nat → Int} {i n : Nat} (hn : 0 < n) {t : Nat} (ht : (nearK fp (fm (i * 3)) (fm (i * 3 + 1)) (fm (i * 3 + 2)) n).1 = t) (hL : 0 < L t) : pick fm fp L i n = t := by
  have h0 := nearK_in (f := fp) (x := fm (i * 3)) (y := fm (i * 3 + 1)) (z := fm (i * 3 + 2)) hn
  have hat := nearK_at (f := fp) (x := fm (i * 3)) (y := fm (i * 3 + 1)) (z := fm (i * 3 + 2)) n
  rw [ht] at h0 hat
  rcases pick_is (fm := fm) (fp := fp) (L := L) (i := i) n with ⟨_, h2⟩ | ⟨p, h1, h2, h3, h4, h5⟩
  · exact absurd hL (h2 t h0)
  · have h6 := h4 t h0 hL
    have h7 := nearK_min (f := fp) (x := fm (i * 3)) (y := fm (i * 3 + 1)) (z := fm (i * 3 + 2)) h2
    rw [farC_E, farC_E] at h6
    have e : p = t := by
      rcases Nat.lt_trichotomy p t with h | h | h
      · have h8 := nearK_first (f := fp) (x := fm (i * 3)) (y := fm (i * 3 + 1)) (z := fm (i * 3 + 2)) (k := n) (i := p) (by rw [ht]; exact h)
        omega
      · exact h
      · have h8 := h5 t h hL
        rw [farC_E, farC_E] at h8
        omega
    rw [h1, e]
theorem cntU_mono {T : Nat → Bool} {v : Nat → Nat} (k m j : Nat) : cntU T v k j ≤ cntU T v (k + m) j := by
  induction m with
  | zero => exact Int.le_refl _
  | succ m ih =>
    rw [← Nat.add_assoc]
    have e : cntU T v (k + m + 1) = if T (k + m) = true then upd (cntU T v (k + m)) (v (k + m)) (cntU T v (k + m) (v (k + m)) + 1) else cntU T v (k + m) := rfl
    rw [e]
    split
    · show _ ≤ (if j = v (k + m) then _ else _)
      split
      · rename_i e2; rw [← e2]; omega
      · exact ih
    · exact ih
theorem cntF_s {a b : Int} {f : Nat → Int} {k : Nat} (hc : cellN a b k = true) : cntF a b f (k + 1) = upd (cntF a b f k) (f k).toNat (cntF a b f k (f k).toNat + 1) := if_pos hc
theorem cntF_n {a b : Int} {f : Nat → Int} {k : Nat} (hc : cellN a b k = false) : cntF a b f (k + 1) = cntF a b f k := if_neg (by show ¬ cellN a b k = true; rw [hc]; simp)
theorem cntF_cg {a b : Int} {f g : Nat → Int} {k : Nat} (h : ∀ i, i < k → f i = g i) : cntF a b f k = cntF a b g k := by
  induction k with
  | zero => rfl
  | succ k ih =>
    have e := ih fun i hi => h i (by omega)
    cases hc : cellN a b k
    · rw [cntF_n hc, cntF_n hc]; exact e
    · rw [cntF_s hc, cntF_s hc, e, h k (by omega)]
section
variable {a b : Int} {fm : Nat → Int} {n : Nat} {fp : Nat → Int}
/-- enough of each: the nearest tones -/
theorem stock_due (hn : 0 < n) (k : Nat) : k ≤ 144 → fsS fm fp n (stockF a b (picS n fp fm a b 144)) a b k = some (picS n fp fm a b k, fun j => stockF a b (picS n fp fm a b 144) j - cntF a b (picS n fp fm a b 144) k (j + 1)) := by
  induction k with
  | zero =>
    intro _
    show some (_, _) = some (_, _)
    congr 2
    funext j
    show _ = _ - (0 : Int)
    omega
  | succ k ih =>
    intro hk
    have ih := ih (by omega)
    unfold fsS at ih ⊢
    cases hc : cellN a b k
    · rw [recS_f hc, ih]
      unfold picS
      rw [recS_f hc, cntF_n hc]
    · obtain ⟨t, ht⟩ : ∃ t, (nearK fp (fm (k * 3)) (fm (k * 3 + 1)) (fm (k * 3 + 2)) n).1 = t := ⟨_, rfl⟩
      have hq : picS n fp fm a b 144 k = (t : Int) + 1 := by rw [picS_c hc]; unfold nearC; rw [ht]
      have hqn : (picS n fp fm a b 144 k).toNat = t + 1 := by rw [hq]; omega
      have hs := cntF_s (f := picS n fp fm a b 144) hc
      rw [hqn] at hs
      have h1 : cntF a b (picS n fp fm a b 144) (k + 1) (t + 1) = cntF a b (picS n fp fm a b 144) k (t + 1) + 1 := by rw [hs]; unfold upd; rw [if_pos rfl]
      have h2 := cntU_mono (T := fun i => cellB (i : Int) a b) (v := fun i => (picS n fp fm a b 144 i).toNat) (k + 1) (144 - (k + 1)) (t + 1)
      rw [show k + 1 + (144 - (k + 1)) = 144 by omega] at h2
      have h3 : cntF a b (picS n fp fm a b 144) (k + 1) (t + 1) ≤ cntF a b (picS n fp fm a b 144) 144 (t + 1) := h2
      have hp := pick_near (fm := fm) (fp := fp) (i := k) (L := fun j => stockF a b (picS n fp fm a b 144) j - cntF a b (picS n fp fm a b 144) k (j + 1)) hn ht (by unfold stockF; omega)
      rw [recS_t hc, ih, stepF_s hp]
      have e1 : picS n fp fm a b (k + 1) = upd (picS n fp fm a b k) k ((t : Int) + 1) := by
        unfold picS
        rw [recS_t hc]
        unfold stepP nearC
        rw [ht]
      rw [e1, hs]
      congr 2
      funext j
      unfold upd
      dsimp only
      by_cases e : j = t
      · rw [if_pos e, e, if_pos rfl]; omega
      · rw [if_neg e, if_neg (by omega)]
/-- what a stock gives -/
theorem stock_inv {st : Nat → Int} (hst : ∀ j, j < n → 0 ≤ st j) (hn15 : n ≤ 15) (k : Nat) : ∀ q L, fsS fm fp n st a b k = some (q, L) →
    (∀ i, (k ≤ i ∨ cellN a b i = false) → q i = 0) ∧ (∀ i, 0 ≤ q i ∧ q i ≤ n) ∧ (∀ j, j < n → 0 ≤ L j) ∧ ∀ j, j < n → cntF a b q k (j + 1) + L j = st j := by
  induction k with
  | zero =>
    intro q L h
    have h : some (_, _) = some (q, L) := h
    obtain ⟨rfl, rfl⟩ := Prod.mk.inj (Option.some.inj h)
    exact ⟨fun _ _ => rfl, fun _ => ⟨Int.le_refl 0, by show (0 : Int) ≤ n; omega⟩, hst, fun j _ => by show (0 : Int) + _ = _; omega⟩
  | succ k ih =>
    intro q' L' h
    unfold fsS at h ih
    cases hc : cellN a b k
    · rw [recS_f hc] at h
      obtain ⟨h1, h2, h3, h4⟩ := ih q' L' h
      refine ⟨fun i hi => ?_, h2, h3, fun j hj => by rw [cntF_n hc]; exact h4 j hj⟩
      by_cases e : i = k
      · rw [e]; exact h1 k (Or.inr hc)
      · exact h1 i (hi.imp (fun h => by omega) id)
    · rw [recS_t hc] at h
      cases hs : recS (stepF fm fp n) (some (fun _ => 0, st)) (cellN a b) k with
      | none => rw [hs] at h; cases h
      | some x =>
        obtain ⟨q, L⟩ := x
        rw [hs] at h
        obtain ⟨h1, h2, h3, h4⟩ := ih q L hs
        rcases pick_is (fm := fm) (fp := fp) (L := L) (i := k) n with ⟨hp, _⟩ | ⟨t, hp, htn, hLt, _, _⟩
        · rw [stepF_n (by rw [hp]; omega)] at h; cases h
        · rw [stepF_s hp] at h
          obtain ⟨rfl, rfl⟩ := Prod.mk.inj (Option.some.inj h)
          refine ⟨fun i hi => ?_, fun i => ?_, fun j hj => ?_, fun j hj => ?_⟩
          · unfold upd
            rw [if_neg (fun e => by
              rcases hi with hi | hi
              · omega
              · rw [e, hc] at hi; cases hi)]
            exact h1 i (hi.imp (fun h => by omega) id)
          · unfold upd
            split
            · omega
            · exact h2 i
          · unfold upd
            split
            · omega
            · exact h3 j hj
          · have e1 : cntF a b (upd q k ((t : Int) + 1)) k = cntF a b q k := cntF_cg fun i hi => by unfold upd; rw [if_neg (by omega)]
            rw [cntF_s hc, e1, show upd q k ((t : Int) + 1) k = (t : Int) + 1 by unfold upd; exact if_pos rfl, show ((t : Int) + 1).toNat = t + 1 by omega]
            have h5 := h4 j hj
            unfold upd
            by_cases e : j = t
            · rw [if_pos (by omega), if_pos e, ← e]; omega
            · rw [if_neg (by omega), if_neg e]; exact h5
structure NnDue (a b : Int) (fm : Nat → Int) (n : Nat) (fp : Nat → Int) (Q C : Nat → Int) : Prop where
  has : hasV a b Q n fp = 0
  many : stockN a b Q n fp = n
  is : stockF a b Q = C
  code : fsC a b fm n fp n C = 0
  pict : fsA a b fm n fp n C = pic 144 a b Q
theorem nn_due (ha : 1 ≤ a ∧ a ≤ 12) (hb : 1 ≤ b ∧ b ≤ 12) (hi : okImg a b fm = true) (hp : okPal n fp = true) : NnDue a b fm n fp (picS n fp fm a b 144) (stockF a b (picS n fp fm a b 144)) := by
  have hn := okPal_pos hp
  have hask : askOk a b fm n fp = true := by unfold askOk; rw [hi, hp]; rfl
  have hv : hasV a b (picS n fp fm a b 144) n fp = 0 := by
    unfold hasV
    rw [(picS_good fp fm hn).ok ha hb, hp, picS_has fp fm hn.1]
    simp
  have hin : inStock n (stockF a b (picS n fp fm a b 144)) = true := by
    unfold inStock
    rw [List.all_eq_true]
    intro i _
    rw [inB_t]
    have := cntU_le (fun i => cellB (i : Int) a b) (fun i => (picS n fp fm a b 144 i).toNat) 144 (i + 1)
    unfold stockF cntF
    omega
  have hs := stock_due (a := a) (b := b) (fm := fm) (fp := fp) hn.1 144 (Nat.le_refl _)
  have hc := fsC_0 hask rfl hin hs
  exact ⟨hv, stockN_1 hv, rfl, hc, fsA_s hc hs⟩
structure NnSome (a b : Int) (n : Nat) (fp st : Nat → Int) (q : Nat → Int) : Prop where
  good : GoodQ a b q
  has : hasV a b q n fp = 0
  many : stockN a b q n fp = n
  less : ∀ j, j < n → stockF a b q j ≤ st j
theorem nn_some (ha : 1 ≤ a ∧ a ≤ 12) (hb : 1 ≤ b ∧ b ≤ 12) (hi : okImg a b fm = true) (hp : okPal n fp = true) {st : Nat → Int} (hst : ∀ j, 0 ≤ st j ∧ st j ≤ 1000) :
    (fsC a b fm n fp n st = 6 ∧ fsA a b fm n fp n st = pic 144 0 0 fun _ => 0) ∨ ∃ q, fsC a b fm n fp n st = 0 ∧ fsA a b fm n fp n st = pic 144 a b q ∧ NnSome a b n fp st q := by
  have hn := okPal_pos hp
  have hask : askOk a b fm n fp = true := by unfold askOk; rw [hi, hp]; rfl
  have hin : inStock n st = true := by
    unfold inStock
    rw [List.all_eq_true]
    intro i _
    rw [inB_t]
    have := hst i
    omega
  cases hs : fsS fm fp n st a b 144 with
  | none =>
    have h := fsC_6 hask rfl hin hs
    exact Or.inl ⟨h, fsA_z h (by omega)⟩
  | some x =>
    obtain ⟨q, L⟩ := x
    have hc := fsC_0 hask rfl hin hs
    obtain ⟨h1, h2, h3, h4⟩ := stock_inv (fun j _ => (hst j).1) hn.2 144 q L hs
    have hg : GoodQ a b q := fun j => ⟨(h2 j).1, by have := h2 j; omega, fun hcj => h1 j (Or.inr hcj)⟩
    have hv : hasV a b q n fp = 0 := by
      unfold hasV
      rw [hg.ok ha hb, hp, hasC_t fun j _ => decide_eq_true (h2 j).2]
      simp
    refine Or.inr ⟨q, hc, fsA_s hc hs, hg, hv, stockN_1 hv, fun j hj => ?_⟩
    have := h4 j hj
    have := h3 j hj
    unfold stockF
    omega
end
end Go.Proofs.YtphjhegaplochaaGreatDoor
/- Pictures whose errors are spread: the plain step, small functions; no condition. -/
set_option linter.unusedVariables false
namespace Go.Proofs.YtphjhegaplochaaGreatDoor
open Go.BigFrame
open Go.RowKit Go.Arr
theorem agg85 : AggTy Tryz.prog 85 12 := ⟨⟨_, Tryz.underlying85, rfl⟩, by kernel_rfl⟩
theorem zero85 (w : World) : (zeroValue 85).run Tryz.prog w = .ok (.agg (arr 12 .i64 fun _ => 0)) w := by kernel_rfl
theorem lv85 : loadVar 85 = aggLoad 85 := rfl
theorem sv85 : storeVar 85 = aggStore 85 := rfl
theorem ld85 (g off : Nat) (w : World) : (aggLoad 85 ⟨g, off, none⟩).run Tryz.prog w = segOr (obj w g) off 12 w ((aggLoadOld 85 ⟨g, off, none⟩).run Tryz.prog w) := run_aggLoad 85 12 _ Tryz.underlying85 rfl (by kernel_rfl) g off w
theorem st85 (g off : Nat) (v : Value) (w : World) : (aggStore 85 ⟨g, off, none⟩ v).run Tryz.prog w = segStoreOr (obj w g) g off 12 v w ((aggStoreOld 85 ⟨g, off, none⟩ v).run Tryz.prog w) := run_aggStore 85 12 (by kernel_rfl) g off v w
@[simp, go_sem] theorem seg_all12 (F : Nat → Int) (a b c d e f g h i j k l : Value) : seg (arr 12 .i64 F) 0 #[a, b, c, d, e, f, g, h, i, j, k, l] = #[a, b, c, d, e, f, g, h, i, j, k, l] := rfl
attribute [go_sem ↓] zero85 lv85 sv85
attribute [go_sem] ld85 st85
theorem w64_b (x : Int) : -9223372036854775808 ≤ wrap64 x ∧ wrap64 x ≤ 9223372036854775807 := by unfold wrap64; omega
theorem wrap_i {x : Int} (h : -9223372036854775808 ≤ x ∧ x ≤ 9223372036854775807) : IntKind.i64.wrap x = x := by simp [IntKind.wrap, IntKind.bits, IntKind.signed]; omega
theorem wrap_u {x : Int} (h : 0 ≤ x ∧ x ≤ 255) : IntKind.u8.wrap x = x := by simp [IntKind.wrap, IntKind.bits, IntKind.signed]; omega
/-- the place of part d, seen from cell n -/
def dxD (d : Nat) : Int := if d = 0 then 1 else if d = 1 then -1 else if d = 2 then 0 else 1
def dyD (d : Nat) : Int := if d = 0 then 0 else 1
def wtD (d : Nat) : Int := if d = 0 then 7 else if d = 1 then 3 else if d = 2 then 5 else 1
def tgD (n d : Nat) : Nat := n + (if d = 0 then 1 else if d = 1 then 11 else if d = 2 then 12 else 13)
def inD (a b : Int) (n d : Nat) : Bool := isCellB ((n : Int) % 12 + dxD d) ((n : Int) / 12 + dyD d) a b
/-- the value of a target -/
def vlD (F e : Nat → Int) (n d k : Nat) : Int := wrap64 (F (tgD n d * 3 + k) + wrap64 (wtD d * e k) / 16)
/-- the values, where some parts are done -/
def spS (P : Nat → Nat → Bool) (a b : Int) (n : Nat) (F e : Nat → Int) (j : Nat) : Int :=
  if j / 3 = tgD n 0 ∧ inD a b n 0 = true ∧ P 0 (j % 3) = true then vlD F e n 0 (j % 3)
  else if j / 3 = tgD n 1 ∧ inD a b n 1 = true ∧ P 1 (j % 3) = true then vlD F e n 1 (j % 3)
  else if j / 3 = tgD n 2 ∧ inD a b n 2 = true ∧ P 2 (j % 3) = true then vlD F e n 2 (j % 3)
  else if j / 3 = tgD n 3 ∧ inD a b n 3 = true ∧ P 3 (j % 3) = true then vlD F e n 3 (j % 3)
  else F j
section
variable {P : Nat → Nat → Bool} {a b : Int} {n : Nat} {F e : Nat → Int}
theorem spS_0 (h : ∀ d k, P d k = false) (j : Nat) : spS P a b n F e j = F j := by
  unfold spS
  rw [if_neg (fun h1 => by rw [h] at h1; exact absurd h1.2.2 (by simp)), if_neg (fun h1 => by rw [h] at h1; exact absurd h1.2.2 (by simp)), if_neg (fun h1 => by rw [h] at h1; exact absurd h1.2.2 (by simp)), if_neg (fun h1 => by rw [h] at h1; exact absurd h1.2.2 (by simp))]
/-- the cells of no part -/
theorem spS_far {j : Nat} (h : j / 3 ≤ n) : spS P a b n F e j = F j := by
  unfold spS tgD
  rw [if_neg (fun h1 => by have := h1.1; simp at this; omega), if_neg (fun h1 => by have := h1.1; simp at this; omega), if_neg (fun h1 => by have := h1.1; simp at this; omega), if_neg (fun h1 => by have := h1.1; simp at this; omega)]
theorem spS_congr {P' : Nat → Nat → Bool} (h : ∀ d k, d < 4 → k < 3 → inD a b n d = true → P d k = P' d k) (j : Nat) : spS P a b n F e j = spS P' a b n F e j := by
  have hk : j % 3 < 3 := Nat.mod_lt _ (by omega)
  have e1 : ∀ d, d < 4 → ((j / 3 = tgD n d ∧ inD a b n d = true ∧ P d (j % 3) = true) ↔ (j / 3 = tgD n d ∧ inD a b n d = true ∧ P' d (j % 3) = true)) := fun d hd => by
    constructor
    · rintro ⟨h1, h2, h3⟩; exact ⟨h1, h2, by rw [← h d _ hd hk h2]; exact h3⟩
    · rintro ⟨h1, h2, h3⟩; exact ⟨h1, h2, by rw [h d _ hd hk h2]; exact h3⟩
  unfold spS
  simp only [e1 0 (by omega), e1 1 (by omega), e1 2 (by omega), e1 3 (by omega)]
/-- the value that a part's channel has before it is done -/
theorem spS_at {d k : Nat} (hd : d < 4) (hk : k < 3) (hP : P d k = false) : spS P a b n F e (tgD n d * 3 + k) = F (tgD n d * 3 + k) := by
  have hq : (tgD n d * 3 + k) / 3 = tgD n d := by omega
  have hr : (tgD n d * 3 + k) % 3 = k := by omega
  unfold spS
  rw [hq, hr]
  have hn : ∀ d', d' < 4 → ¬ (tgD n d = tgD n d' ∧ inD a b n d' = true ∧ P d' k = true) := fun d' hd' h1 => by
    have e1 : d = d' := by
      have := h1.1
      unfold tgD at this
      have h3 : d = 0 ∨ d = 1 ∨ d = 2 ∨ d = 3 := by omega
      have h4 : d' = 0 ∨ d' = 1 ∨ d' = 2 ∨ d' = 3 := by omega
      rcases h3 with rfl | rfl | rfl | rfl <;> rcases h4 with rfl | rfl | rfl | rfl <;> simp at this <;> first | rfl | omega
    subst e1
    rw [hP] at h1
    exact absurd h1.2.2 (by simp)
  rw [if_neg (hn 0 (by omega)), if_neg (hn 1 (by omega)), if_neg (hn 2 (by omega)), if_neg (hn 3 (by omega))]
/-- a part's channel is done -/
theorem spS_upd {d k : Nat} (hd : d < 4) (hk : k < 3) (hi : inD a b n d = true) (j : Nat) : upd (spS P a b n F e) (tgD n d * 3 + k) (vlD F e n d k) j = spS (fun d' k' => P d' k' || (d' == d && k' == k)) a b n F e j := by
  unfold upd
  by_cases hj : j = tgD n d * 3 + k
  · rw [if_pos hj]
    subst hj
    have hq : (tgD n d * 3 + k) / 3 = tgD n d := by omega
    have hr : (tgD n d * 3 + k) % 3 = k := by omega
    unfold spS
    rw [hq, hr]
    have h3 : d = 0 ∨ d = 1 ∨ d = 2 ∨ d = 3 := by omega
    rcases h3 with rfl | rfl | rfl | rfl
    · rw [if_pos ⟨rfl, hi, by simp⟩]
    · rw [if_neg (fun h => by have := h.1; unfold tgD at this; simp at this), if_pos ⟨rfl, hi, by simp⟩]
    · rw [if_neg (fun h => by have := h.1; unfold tgD at this; simp at this), if_neg (fun h => by have := h.1; unfold tgD at this; simp at this), if_pos ⟨rfl, hi, by simp⟩]
    · rw [if_neg (fun h => by have := h.1; unfold tgD at this; simp at this), if_neg (fun h => by have := h.1; unfold tgD at this; simp at this), if_neg (fun h => by have := h.1; unfold tgD at this; simp at this), if_pos ⟨rfl, hi, by simp⟩]
  · rw [if_neg hj]
    have e1 : ∀ d', (j / 3 = tgD n d' ∧ inD a b n d' = true ∧ P d' (j % 3) = true) ↔ (j / 3 = tgD n d' ∧ inD a b n d' = true ∧ (P d' (j % 3) || (d' == d && j % 3 == k)) = true) := fun d' => by
      constructor
      · rintro ⟨h1, h2, h3⟩; exact ⟨h1, h2, by rw [h3]; rfl⟩
      · rintro ⟨h1, h2, h3⟩
        refine ⟨h1, h2, ?_⟩
        by_cases h4 : d' = d ∧ j % 3 = k
        · exfalso
          apply hj
          rw [← h4.2, ← h4.1, ← h1]
          omega
        · rw [show (d' == d && j % 3 == k) = false by
            rw [Bool.and_eq_false_iff]
            by_cases h5 : d' = d
            · right; simpa using fun h6 => h4 ⟨h5, h6⟩
            · left; simpa using h5, Bool.or_false] at h3
          exact h3
    unfold spS
    simp only [e1]
end
/-- the error of a cell -/
def erD (F fp : Nat → Int) (n c k : Nat) : Int := wrap64 (F (n * 3 + k) - fp (c * 3 + k))
def clD (x : Int) : Int := if x < 0 then 0 else if 255 < x then 255 else x
theorem clD_b (x : Int) : 0 ≤ clD x ∧ clD x ≤ 255 := by unfold clD; split <;> (try split) <;> omega
/-- the nearest tone of a cell -/
def nrD (m : Nat) (F fp : Nat → Int) (n : Nat) : Nat := (nearK fp (clD (F (n * 3))) (clD (F (n * 3 + 1))) (clD (F (n * 3 + 2))) m).1
abbrev StD := (Nat → Int) × (Nat → Int)
/-- a cell is done: what is left, the picture -/
def stD (m : Nat) (a b : Int) (fp : Nat → Int) (s : StD) (n : Nat) : StD := (spS (fun _ _ => true) a b n s.1 (erD s.1 fp n (nrD m s.1 fp n)), upd s.2 n ((nrD m s.1 fp n : Nat) + 1))
def spD (m : Nat) (a b : Int) (fm fp : Nat → Int) : Nat → StD := recS (stD m a b fp) (fm, fun _ => 0) (cellN a b)
def sprC (a b : Int) (fm : Nat → Int) (m : Nat) (fp : Nat → Int) : Int := if askOk a b fm m fp = true then 0 else 1
def sprA (a b : Int) (fm : Nat → Int) (m : Nat) (fp : Nat → Int) : Array Value := if askOk a b fm m fp = true then pic 144 a b (spD m a b fm fp 144).2 else pic 144 0 0 fun _ => 0
def mnD (x y : Int) : Int := if x < y then x else y
def mxD (x y : Int) : Int := if y < x then x else y
theorem mx_mn (x : Int) : mxD 0 (mnD 255 x) = clD x := by
  unfold mxD mnD clD
  repeat' split
  all_goals omega
set_option maxHeartbeats 1000000 in
theorem min_any (x y : Int) (w : World) : Calls Tryz.prog 54 #[.int .i64 x, .int .i64 y] w fun e w' => e = .returned (.int .i64 (mnD x y)) ∧ w = w' := by
  by_cases h : x < y
  · have hv : Hid (mnD x y = x) := if_pos h
    go_enter Tryz.func54, Tryz.ntmps54
    go_wp2_with (fail)
    go_ret
    exact ⟨by rw [hv.out]; rfl, rfl⟩
  · have hv : Hid (mnD x y = y) := if_neg h
    go_enter Tryz.func54, Tryz.ntmps54
    go_wp2_with (fail)
    go_ret
    exact ⟨by rw [hv.out]; rfl, rfl⟩
set_option maxHeartbeats 1000000 in
theorem max_any (x y : Int) (w : World) : Calls Tryz.prog 53 #[.int .i64 x, .int .i64 y] w fun e w' => e = .returned (.int .i64 (mxD x y)) ∧ w = w' := by
  by_cases h : y < x
  · have hv : Hid (mxD x y = x) := if_pos h
    go_enter Tryz.func53, Tryz.ntmps53
    go_wp2_with (fail)
    go_ret
    exact ⟨by rw [hv.out]; rfl, rfl⟩
  · have hv : Hid (mxD x y = y) := if_neg h
    go_enter Tryz.func53, Tryz.ntmps53
    go_wp2_with (fail)
    go_ret
    exact ⟨by rw [hv.out]; rfl, rfl⟩
theorem tdm16 (x : Int) : (0 ≤ x ∧ Int.tdiv x 16 = x / 16 ∧ Int.tmod x 16 = x % 16) ∨ (x < 0 ∧ Int.tdiv x 16 = -((-x) / 16) ∧ Int.tmod x 16 = -((-x) % 16)) := by
  by_cases h : 0 ≤ x
  · exact Or.inl ⟨h, Int.tdiv_eq_ediv_of_nonneg h, Int.tmod_eq_emod_of_nonneg h⟩
  · refine Or.inr ⟨by omega, ?_, ?_⟩
    · have h1 : Int.tdiv (-(-x)) 16 = -(Int.tdiv (-x) 16) := Int.neg_tdiv _ _
      rw [Int.neg_neg] at h1
      rw [h1, Int.tdiv_eq_ediv_of_nonneg (by omega)]
    · have h1 : Int.tmod (-(-x)) 16 = -(Int.tmod (-x) 16) := Int.neg_tmod _ _
      rw [Int.neg_neg] at h1
      rw [h1, Int.tmod_eq_emod_of_nonneg (by omega)]
theorem tdiv16 (x : Int) : (Int.tdiv x 16 - (if Int.tmod x 16 < 0 then 1 else 0)) = x / 16 := by
  rcases tdm16 x with ⟨h, h1, h2⟩ | ⟨h, h1, h2⟩ <;> rw [h1, h2] <;> split <;> omega
set_option maxHeartbeats 1000000 in
theorem down_any (x : Int) (hx : -9223372036854775808 ≤ x ∧ x ≤ 9223372036854775807) (w : World) : Calls Tryz.prog 57 #[.int .i64 x] w fun e w' => e = .returned (.int .i64 (x / 16)) ∧ w = w' := by
  have ht := hide (tdiv16 x)
  have hq : -9223372036854775800 ≤ Int.tdiv x 16 ∧ Int.tdiv x 16 ≤ 9223372036854775800 := by
    rcases tdm16 x with ⟨h, h1, h2⟩ | ⟨h, h1, h2⟩ <;> rw [h1] <;> omega
  by_cases h : Int.tmod x 16 < 0
  · have h2 : Hid (Int.tdiv x 16 - 1 = x / 16) := by have := ht.out; rw [if_pos h] at this; exact this
    go_enter Tryz.func57, Tryz.ntmps57
    go_wp2_with (fail)
    go_ret
    exact ⟨by rw [← h2.out]; rfl, rfl⟩
  · have h2 : Hid (Int.tdiv x 16 = x / 16) := by have := ht.out; rw [if_neg h, Int.sub_zero] at this; exact this
    go_enter Tryz.func57, Tryz.ntmps57
    go_wp2_with (fail)
    go_ret
    exact ⟨by rw [← h2.out]; rfl, rfl⟩
end Go.Proofs.YtphjhegaplochaaGreatDoor
