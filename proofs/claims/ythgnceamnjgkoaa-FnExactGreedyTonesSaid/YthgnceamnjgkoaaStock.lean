/- The stock that a picture asks: the reference and the program answer alike; palettes marked; no condition. -/
import Derived.Test.YthgnceamnjgkoaaImOf
import Derived.Test.YthgnceamnjgkoaaCost
import Derived.Test.YthgnceamnjgkoaaCnt
import Derived.Test.YthgnceamnjgkoaaDif
set_option linter.unusedVariables false
namespace Go.Proofs.Ythgnceamnjgkoaa
open Go.BigFrame
open Go.RowKit Go.Arr
def impC (f : Nat → Int) : Nat → Nat → Int := cntU (fun i => decide (0 < f i)) (fun i => (f i).toNat - 1)
theorem impC_eq {a b : Int} {f : Nat → Int} (hf : ∀ i, 0 ≤ f i ∧ f i ≤ 255) (h : okPic a b f = true) (j k : Nat) (hk : k ≤ 144) : impC f k j = cntF a b f k (j + 1) := by
  induction k generalizing j with
  | zero => rfl
  | succ k ih =>
    have hb := okPic_bare h k (by omega)
    have hfk := hf k
    unfold impC cntF at *
    rw [cntU, cntU]
    by_cases hp : 0 < f k
    · have hc : cellB k a b = true := by
        cases hc : cellB k a b
        · have := hb hc; omega
        · rfl
      rw [if_pos (decide_eq_true hp), if_pos hc]
      unfold upd
      try dsimp only
      by_cases e : j = (f k).toNat - 1
      · rw [if_pos e, if_pos (by omega), ih _ (by omega)]
        rw [show (f k).toNat - 1 + 1 = (f k).toNat by omega]
      · rw [if_neg e, if_neg (by omega), ih _ (by omega)]
    · rw [if_neg (by simp; omega)]
      split
      · unfold upd
        rw [if_neg (by omega), ih _ (by omega)]
      · exact ih _ (by omega)
def stockN (a b : Int) (f : Nat → Int) (n : Nat) (fp : Nat → Int) : Nat := if hasV a b f n fp = 0 then n else 0
def stockF (a b : Int) (f : Nat → Int) : Nat → Int := fun j => cntF a b f 144 (j + 1)
theorem stockN_0 {a b : Int} {f : Nat → Int} {n : Nat} {fp : Nat → Int} {k : Int} (h : hasV a b f n fp = k) (hk : k ≠ 0) : stockN a b f n fp = 0 := if_neg (by rw [h]; exact hk)
theorem stockN_1 {a b : Int} {f : Nat → Int} {n : Nat} {fp : Nat → Int} (h : hasV a b f n fp = 0) : stockN a b f n fp = n := if_pos h
theorem stockN_le (a b : Int) (f : Nat → Int) (n : Nat) (fp : Nat → Int) : stockN a b f n fp ≤ 15 := by
  unfold stockN
  split
  · rename_i h
    rcases hasV_cases2 a b f n fp with ⟨h1, _⟩ | ⟨h1, _⟩ | ⟨_, h2, _⟩
    · omega
    · omega
    · exact (okPal_pos h2.2).2
  · omega
set_option maxHeartbeats 2000000 in
set_option maxRecDepth 100000 in
theorem stockFor_spec (a b : Int) (f : Nat → Int) (ha : -128 ≤ a ∧ a ≤ 127) (hb : -128 ≤ b ∧ b ≤ 127) (hf : ∀ i, 0 ≤ f i ∧ f i ≤ 255) (ad : Option Addr) (n cp : Nat) (fp : Nat → Int) (hn : n ≤ 1048576) (W : World) (hs : Sl W (.slice ad n cp) n 3 .u8 fp) :
    Calls Try.prog 29 #[.agg (pic 144 a b f), .slice ad n cp] W fun e w' => ∃ v, e = .returned (.tuple #[v, .int .i64 (hasV a b f n fp)]) ∧ Row w' W.heap.size v (stockN a b f n fp) (stockF a b f) ∧ New W w' := by
  have hcs := hasV_cases2 a b f n fp
  go_enter Try.func29, Try.ntmps29
  go_wp2_with (fail)
  generalize hw0 : W.alloc (Obj.cells (pic 144 a b f) 41) = w0
  have b1 : obj w0 W.heap.size = some (.cells (pic 144 a b f) 41) := by subst hw0; go_simp
  have hn0 : New W w0 := by subst hw0; exact (New.refl W).alloc _
  have hs0 := hs.new hn0
  clear hw0 hs
  refine (l02Has_any _ 41 a b f ha hb hf ad n cp fp hn _ b1 hs0).mono ?_
  rintro e w1 ⟨rfl, hn1⟩
  have c1 := (hn1.objs _ (obj_lt b1)).trans b1
  have hN1 := hn0.trans hn1
  have hWl := hN1.le
  have r1 := obj_lt c1
  clear b1 hs0 hn0 hn1
  rcases hcs with ⟨hv, _⟩ | ⟨hv, _⟩ | ⟨hv, hoo, hhc⟩
  · have hC := hide hv
    rw [hv]
    clear hv
    go_wp2_with (fail)
    go_ret2
    exact ⟨_, by rw [hC.out]; rfl, by rw [stockN_0 hC.out (by omega)]; exact row_empty2 (by go_simp) (by omega), hN1.alloc _⟩
  · have hC := hide hv
    rw [hv]
    clear hv
    go_wp2_with (fail)
    go_ret2
    exact ⟨_, by rw [hC.out]; rfl, by rw [stockN_0 hC.out (by omega)]; exact row_empty2 (by go_simp) (by omega), hN1.alloc _⟩
  have hC := hide hv
  rw [hv]
  have hp := okPal_pos hoo.2
  have hok := hide hoo.1
  clear hv hoo hhc
  go_wp2_with (fail)
  refine (l01Counts_any _ a b f ha hb hf hok.out _ c1).mono ?_
  rintro e w2 ⟨rfl, hn2⟩
  have hN2 := hN1.trans hn2
  have hW2 := hN2.le
  clear c1 r1 hn2
  go_wp2_with (fail)
  go_loopw [8, 9] (fun v i wr => ∃ k : Nat, k ≤ n ∧ i = .int .i64 k ∧ Row wr (w2.heap.size + 1) v k (stockF a b f) ∧ Hid (obj wr w2.heap.size = some (.cells (arr 16 .i64 (cntF a b f 144)) 99)) ∧ New W wr ∧ w2.heap.size + 1 ≤ wr.heap.size) (fun _ i _ => n - (intOf i).toNat)
  case atStart =>
    refine ⟨0, by omega, rfl, row_empty2 (by go_simp) (by omega), ?_, (hN2.alloc _).alloc _, by simp⟩
    show _ = _
    go_simp
  case round =>
    obtain ⟨k, hk, rfl, hrow, hp1, hnw, hlw⟩ := hrel
    have hq := hp1.out
    by_cases hlt : k < n
    · have hk16 : k + 1 < 16 := by omega
      have hbb := cntU_le (fun i => cellB i a b) (fun i => (f i).toNat) 144 (k + 1)
      have hbb : 0 ≤ cntF a b f 144 (k + 1) ∧ cntF a b f 144 (k + 1) ≤ (144 : Nat) := hbb
      go_wp2_with (at_builtin; refine wpList_app slInts rfl _ _ rfl (w2.heap.size + 1) _ _ _ rfl (hrow.new ((New.refl _).alloc _)) ⟨wr.heap.size, 0, none⟩ 1 1 [.int .i64 (cntF a b f 144 (k + 1))] rfl rfl (news_new _ _ _ _ _ rfl) (by simp [Value.oneCell']) (by omega) (by unfold maxLen; omega) (by omega) (by simp; omega) ?_)
      intro g1 cap1 w3 hown1 hg1 hat1 hlt1
      have hbk := hrow.block
      have hne1 : ∀ b, b < w2.heap.size + 1 → some b ≠ u8.ownBlock := fun b hb e => by have := hbk b e.symm; omega
      have hn1 : New W w3 := grown_new (hnw.alloc _) hg1 fun b hb => by have := hbk b hb; omega
      have hp' := hide ((grown_obj hg1 _ (by simp; omega) (hne1 _ (by omega))).trans ((obj_alloc_past _ _ _ (by omega)).trans hq))
      have hr1 := row_app2 hown1
      have hlw1 := grown_le hg1
      simp at hlw1
      clear hown1 hg1 hat1 hrow hq hnw hp1
      go_wp2_with (fail)
      go_roundw
      case rel =>
        refine ⟨k + 1, by omega, by go_num, ?_, hp', hn1, by omega⟩
        refine hr1.congr fun j hj => ?_
        unfold upd stockF
        by_cases e : j = k
        · rw [if_pos e, e]
        · rw [if_neg e]
      case measure => simp [intOf]; omega
    · obtain rfl : k = n := by omega
      go_wp2_with (fail)
      go_ret2
      exact ⟨_, by rw [hC.out]; rfl, by rw [stockN_1 hC.out]; exact hrow.lower (by omega), hnw⟩
set_option maxHeartbeats 4000000 in
set_option maxRecDepth 100000 in
theorem stockFor_impl (a b : Int) (f : Nat → Int) (ha : -128 ≤ a ∧ a ≤ 127) (hb : -128 ≤ b ∧ b ≤ 127) (hf : ∀ i, 0 ≤ f i ∧ f i ≤ 255) (ad : Option Addr) (n cp : Nat) (fp : Nat → Int) (hn : n ≤ 1048576) (hcp : n ≤ cp) (W : World) (hs : Sl W (.slice ad n cp) n 3 .u8 fp) :
    Calls Try.prog 30 #[.agg (pic 144 a b f), .slice ad n cp] W fun e w' => ∃ v, e = .returned (.tuple #[v, .int .i64 (hasV a b f n fp)]) ∧ Row w' W.heap.size v (stockN a b f n fp) (stockF a b f) ∧ New W w' := by
  cases h1 : okPic a b f
  · have hC : Hid (hasV a b f n fp = 1) := by show _ = _; unfold hasV; rw [h1]; exact if_pos rfl
    have hcb : codeB false (hasC n f) = 1 := rfl
    go_enter Try.func30, Try.ntmps30
    go_wp2_with (fail)
    generalize hw0 : W.alloc (Obj.cells (pic 144 a b f) 41) = w0
    have b1 : obj w0 W.heap.size = some (.cells (pic 144 a b f) 41) := by subst hw0; go_simp
    have hn0 : New W w0 := by subst hw0; exact (New.refl W).alloc _
    have hs0 := hs.new hn0
    have r1 := obj_lt b1
    clear hw0 hs
    go_wp2_with (fail)
    refine wp_region_new (by kernel_rfl) (by kernel_rfl) ?_
    repeat (go_big_quiet_step (first | fail | (go_at_call 63; with_reducible exact calls_new (validP_k a b f ha hb hf h1 _)) | (go_at_call 55; with_reducible exact calls_new (validPal_k _ n _ fp hn hcp rfl _ (hs0.new (NewW.is _)))) | (go_at_call 64; with_reducible exact calls_new (hasCol_k a b f hf _ n _ rfl _)) | (go_at_call 62; with_reducible exact calls_new (codeOf_k _ _ hcb _))))
    refine wpQuiet_nil ?_
    intro w1 hc1
    have hn1 := NewW.of hc1
    clear hc1
    have ho1 := hn1.objs
    have hz1 := hn1.le
    try simp at hz1
    go_wp2_with (fail)
    go_ret2
    exact ⟨_, by rw [hC.out]; rfl, by rw [stockN_0 hC.out (by omega)]; exact Row.nil, hn0.trans hn1⟩
  cases h2 : okPal n fp
  · have hC : Hid (hasV a b f n fp = 1) := by show _ = _; unfold hasV; rw [h2, Bool.and_false]; exact if_pos rfl
    have hcb : codeB false (hasC n f) = 1 := rfl
    go_enter Try.func30, Try.ntmps30
    go_wp2_with (fail)
    generalize hw0 : W.alloc (Obj.cells (pic 144 a b f) 41) = w0
    have b1 : obj w0 W.heap.size = some (.cells (pic 144 a b f) 41) := by subst hw0; go_simp
    have hn0 : New W w0 := by subst hw0; exact (New.refl W).alloc _
    have hs0 := hs.new hn0
    have r1 := obj_lt b1
    clear hw0 hs
    go_wp2_with (fail)
    refine wp_region_new (by kernel_rfl) (by kernel_rfl) ?_
    repeat (go_big_quiet_step (first | fail | (go_at_call 63; with_reducible exact calls_new (validP_k a b f ha hb hf h1 _)) | (go_at_call 55; with_reducible exact calls_new (validPal_k _ n _ fp hn hcp h2 _ (hs0.new (NewW.is _)))) | (go_at_call 64; with_reducible exact calls_new (hasCol_k a b f hf _ n _ rfl _)) | (go_at_call 62; with_reducible exact calls_new (codeOf_k _ _ hcb _))))
    refine wpQuiet_nil ?_
    intro w2 hc2
    have hn2 := NewW.of hc2
    clear hc2
    have ho2 := hn2.objs
    have hz2 := hn2.le
    try simp at hz2
    go_wp2_with (fail)
    go_ret2
    exact ⟨_, by rw [hC.out]; rfl, by rw [stockN_0 hC.out (by omega)]; exact Row.nil, hn0.trans hn2⟩
  cases h3 : hasC n f
  · have hC : Hid (hasV a b f n fp = 2) := by show _ = _; unfold hasV; rw [h1, h2, h3]; rfl
    have hcb : codeB true false = 2 := rfl
    go_enter Try.func30, Try.ntmps30
    go_wp2_with (fail)
    generalize hw0 : W.alloc (Obj.cells (pic 144 a b f) 41) = w0
    have b1 : obj w0 W.heap.size = some (.cells (pic 144 a b f) 41) := by subst hw0; go_simp
    have hn0 : New W w0 := by subst hw0; exact (New.refl W).alloc _
    have hs0 := hs.new hn0
    have r1 := obj_lt b1
    clear hw0 hs
    go_wp2_with (fail)
    refine wp_region_new (by kernel_rfl) (by kernel_rfl) ?_
    repeat (go_big_quiet_step (first | fail | (go_at_call 63; with_reducible exact calls_new (validP_k a b f ha hb hf h1 _)) | (go_at_call 55; with_reducible exact calls_new (validPal_k _ n _ fp hn hcp h2 _ (hs0.new (NewW.is _)))) | (go_at_call 64; with_reducible exact calls_new (hasCol_k a b f hf _ n _ h3 _)) | (go_at_call 62; with_reducible exact calls_new (codeOf_k _ _ hcb _))))
    refine wpQuiet_nil ?_
    intro w3 hc3
    have hn3 := NewW.of hc3
    clear hc3
    have ho3 := hn3.objs
    have hz3 := hn3.le
    try simp at hz3
    go_wp2_with (fail)
    go_ret2
    exact ⟨_, by rw [hC.out]; rfl, by rw [stockN_0 hC.out (by omega)]; exact Row.nil, hn0.trans hn3⟩
  · have hC : Hid (hasV a b f n fp = 0) := by show _ = _; unfold hasV; rw [h1, h2, h3]; rfl
    have hcb : codeB true true = 0 := rfl
    have hp := okPal_pos h2
    have hhc' := hide (hasC_e h3)
    have hE := hide (fun j => impC_eq hf h1 j 144 (Nat.le_refl _))
    go_enter Try.func30, Try.ntmps30
    go_wp2_with (fail)
    generalize hw0 : W.alloc (Obj.cells (pic 144 a b f) 41) = w0
    have b1 : obj w0 W.heap.size = some (.cells (pic 144 a b f) 41) := by subst hw0; go_simp
    have hn0 : New W w0 := by subst hw0; exact (New.refl W).alloc _
    have hs0 := hs.new hn0
    have r1 := obj_lt b1
    clear hw0 hs
    go_wp2_with (fail)
    refine wp_region_new (by kernel_rfl) (by kernel_rfl) ?_
    repeat (go_big_quiet_step (first | fail | (go_at_call 63; with_reducible exact calls_new (validP_k a b f ha hb hf h1 _)) | (go_at_call 55; with_reducible exact calls_new (validPal_k _ n _ fp hn hcp h2 _ (hs0.new (NewW.is _)))) | (go_at_call 64; with_reducible exact calls_new (hasCol_k a b f hf _ n _ h3 _)) | (go_at_call 62; with_reducible exact calls_new (codeOf_k _ _ hcb _))))
    refine wpQuiet_nil ?_
    intro w4 hc4
    have hn4 := NewW.of hc4
    clear hc4
    have ho4 := hn4.objs
    have hz4 := hn4.le
    try simp at hz4
    have c1 := (hn4.objs _ (obj_lt b1)).trans b1
    have hN1 := hn0.trans hn4
    have hWl := hN1.le
    clear ho4 b1 hs0 hn0 hn4 h1 h2 h3 r1 hcb
    have r1 := obj_lt c1
    have hn20 : n ≤ 1048576 := by omega
    go_wp2_with (fail)
    go_loopw [28] (fun i wr => ∃ k : Nat, k ≤ 144 ∧ i = .int .i64 k ∧ Hid (obj wr w4.heap.size = some (.cells (arr n .i64 (impC f k)) 2)) ∧ New W wr) (fun i _ => 144 - (intOf i).toNat)
    case atStart =>
      refine ⟨0, by omega, rfl, ?_, hN1.alloc _⟩
      show _ = _
      rw [obj_alloc_at _ _ _ rfl]
      rfl
    case round =>
      obtain ⟨k, hk, rfl, ho1, hnw⟩ := hrel
      have ho := ho1.out
      by_cases hlt : k < 144
      · have hfk := hf k
        by_cases hpos : 0 < f k
        · have hle := hhc'.out k hlt
          have ht : (f k).toNat - 1 < n := by omega
          have hq : Hid (impC f (k + 1) = upd (impC f k) ((f k).toNat - 1) (impC f k ((f k).toNat - 1) + 1)) := by show cntU _ _ (k + 1) = _; rw [cntU, if_pos (decide_eq_true hpos)]; rfl
          have hbb := cntU_le (fun i => decide (0 < f i)) (fun i => (f i).toNat - 1) k ((f k).toNat - 1)
          have hbb : 0 ≤ impC f k ((f k).toNat - 1) ∧ impC f k ((f k).toNat - 1) ≤ k := hbb
          clear ho1 hle
          go_wp2_with (fail)
          go_roundw
          case rel =>
            refine ⟨k + 1, by omega, by go_num, ?_, hnw.setCell (by show W.heap.size ≤ w4.heap.size; omega) _⟩
            show _ = _
            rw [obj_set_arr ho _ ((f k).toNat - 1) _ rfl, hq.out]
          case measure => simp [intOf]; omega
        · have hq : Hid (impC f (k + 1) = impC f k) := by show cntU _ _ (k + 1) = _; rw [cntU, if_neg (by simp; omega)]; rfl
          go_wp2_with (fail)
          go_roundw
          case rel => exact ⟨k + 1, by omega, by go_num, by rw [hq.out]; exact ho1, hnw⟩
          case measure => simp [intOf]; omega
      · obtain rfl : k = 144 := by omega
        go_wp2_with (fail)
        go_ret2
        refine ⟨_, by rw [hC.out]; rfl, ?_, hnw⟩
        rw [stockN_1 hC.out]
        exact Row.of ho (by omega) (Nat.le_refl _) (by unfold maxLen; omega) (by simp) fun j hj => by rw [get_arr, if_pos hj, hE.out j]; rfl
set_option maxHeartbeats 2000000 in
set_option maxRecDepth 100000 in
theorem markPal_any (g n c : Nat) (f : Nat → Int) (hn : n ≤ 1048576) (s : Int) (hs : 0 ≤ s ∧ s ≤ 1000000) (W : World) (h : Pal W g n f) :
    Calls Try.prog 32 #[.slice (some ⟨g, 0, none⟩) n c, .int .i64 s] W fun e w' => e = .returned (.int .i64 (s + 3 * n)) ∧ (∃ f', Pal w' g n f') ∧ (∀ b, b ≠ g → obj w' b = obj W b) ∧ w'.heap.size = W.heap.size ∧ ∀ a0, New a0 W → a0.heap.size ≤ g → New a0 w' := by
  unfold Pal at *
  go_enter Try.func32, Try.ntmps32
  go_wp2_with (fail)
  go_loopw [1, 5] (fun x i wr => ∃ k : Nat, k ≤ n ∧ i = .int .i64 k ∧ x = .int .i64 (s + 3 * k) ∧ Hid (∃ f', obj wr g = some (.cells (arr (n * 3) .u8 f') 35)) ∧ Hid (∀ b, b ≠ g → obj wr b = obj W b) ∧ wr.heap.size = W.heap.size ∧ Hid (∀ a0, New a0 W → a0.heap.size ≤ g → New a0 wr)) (fun _ i _ => n - (intOf i).toNat)
  case atStart => exact ⟨0, by omega, rfl, by simp, ⟨f, h⟩, fun _ _ => rfl, rfl, fun _ h _ => h⟩
  case round =>
    obtain ⟨k, hk, rfl, rfl, ho1, hot, hws, hnw⟩ := hrel
    by_cases hlt : k < n
    · go_wp2_with (fail)
      go_loopw [1, 6] (fun x j wq => ∃ q : Nat, q ≤ 3 ∧ j = .int .i64 q ∧ x = .int .i64 (s + 3 * k + q) ∧ Hid (∃ f', obj wq g = some (.cells (arr (n * 3) .u8 f') 35)) ∧ Hid (∀ b, b ≠ g → obj wq b = obj W b) ∧ wq.heap.size = W.heap.size ∧ Hid (∀ a0, New a0 W → a0.heap.size ≤ g → New a0 wq)) (fun _ j _ => 3 - (intOf j).toNat)
      case atStart => exact ⟨0, by omega, rfl, by simp, ho1, hot, hws, hnw⟩
      case round =>
        obtain ⟨q, hq, rfl, rfl, ho2, hot2, hws2, hnw2⟩ := hrel
        by_cases hq3 : q < 3
        · obtain ⟨f', ho⟩ := ho2.out
          have l1 : k * 3 + q < n * 3 := by omega
          clear ho1 hot hws hnw ho2
          go_wp2_with (fail)
          go_roundw
          case rel =>
            refine ⟨q + 1, by omega, by go_num, by go_num, ⟨_, obj_set_arr ho _ (k * 3 + q) _ rfl⟩, ?_, by rw [World.size_setCell]; exact hws2, ?_⟩
            · intro b hb
              rw [obj_setCell_other _ _ _ _ _ hb, hot2.out b hb]
            · intro a0 h0 hg
              exact (hnw2.out a0 h0 hg).setCell hg _
          case measure => simp [intOf]; omega
        · obtain rfl : q = 3 := by omega
          clear ho1 hot hws hnw
          go_wp2_with (fail)
          go_roundw
          case rel => exact ⟨k + 1, by omega, by go_num, by go_num, ho2, hot2, hws2, hnw2⟩
          case measure => simp [intOf]; omega
    · obtain rfl : k = n := by omega
      go_wp2_with (fail)
      go_ret
      exact ⟨rfl, ho1.out, hot.out, hws, hnw.out⟩
end Go.Proofs.Ythgnceamnjgkoaa
