/- The cost of an image for a picture and a palette: the reference and the program answer alike; no condition. -/
import Derived.Test.YtphjhegaplochaaGreatDoorU7
set_option linter.unusedVariables false
namespace Go.Proofs.YtphjhegaplochaaGreatDoor
open Go.BigFrame
open Go.RowKit Go.Arr
def farI (fm f fp : Nat → Int) (i : Nat) : Int := far (fm (i * 3)) (fm (i * 3 + 1)) (fm (i * 3 + 2)) (fp (((f i).toNat - 1) * 3)) (fp (((f i).toNat - 1) * 3 + 1)) (fp (((f i).toNat - 1) * 3 + 2))
theorem far_b {a b c d e f : Int} (ha : 0 ≤ a ∧ a ≤ 255) (hb : 0 ≤ b ∧ b ≤ 255) (hc : 0 ≤ c ∧ c ≤ 255) (hd : 0 ≤ d ∧ d ≤ 255) (he : 0 ≤ e ∧ e ≤ 255) (hf : 0 ≤ f ∧ f ≤ 255) : 0 ≤ far a b c d e f ∧ far a b c d e f ≤ 1000000 := by
  have s1 := sq3 3 (a - d) (by omega) (by omega) (by omega)
  have s2 := sq3 6 (b - e) (by omega) (by omega) (by omega)
  have s3 := sq_le (c - f) (by omega) (by omega)
  unfold far
  omega
def costStep (fm f fp : Nat → Int) (s : Int) (i : Nat) : Int := if 0 < f i then s + farI fm f fp i else s
def costS (fm f fp : Nat → Int) : Nat → Int := recS (costStep fm f fp) 0 fun _ => true
theorem costS_t {fm f fp : Nat → Int} {k : Nat} (h : 0 < f k) : costS fm f fp (k + 1) = costS fm f fp k + farI fm f fp k := by
  unfold costS
  rw [recS_t rfl, costStep, if_pos h]
theorem costS_f {fm f fp : Nat → Int} {k : Nat} (h : ¬ 0 < f k) : costS fm f fp (k + 1) = costS fm f fp k := by
  unfold costS
  rw [recS_t rfl, costStep, if_neg h]
theorem costS_b {fm f fp : Nat → Int} (hm : ∀ i, 0 ≤ fm i ∧ fm i ≤ 255) (hp : ∀ i, 0 ≤ fp i ∧ fp i ≤ 255) (k : Nat) : 0 ≤ costS fm f fp k ∧ costS fm f fp k ≤ 1000000 * k := by
  induction k with
  | zero => simp [costS, recS]
  | succ k ih =>
    by_cases h : 0 < f k
    · rw [costS_t h]
      have := far_b (hm (k * 3)) (hm (k * 3 + 1)) (hm (k * 3 + 2)) (hp (((f k).toNat - 1) * 3)) (hp (((f k).toNat - 1) * 3 + 1)) (hp (((f k).toNat - 1) * 3 + 2))
      unfold farI
      omega
    · rw [costS_f h]; omega
/-- a loop over the cells alone comes to the same, where the others are bare -/
theorem cost_cells {fm f fp : Nat → Int} {p : Nat → Bool} (h : ∀ i, i < 144 → p i = false → f i = 0) (k : Nat) (hk : k ≤ 144) : recS (costStep fm f fp) 0 p k = costS fm f fp k := by
  induction k with
  | zero => rfl
  | succ k ih =>
    cases hp : p k
    · rw [recS_f hp, costS_f (by rw [h k (by omega) hp]; omega), ih (by omega)]
    · rw [recS_t hp, ih (by omega)]
      unfold costS
      rw [recS_t rfl]
theorem okPic_bare {a b : Int} {f : Nat → Int} (h : okPic a b f = true) (i : Nat) (hi : i < 144) (hc : cellN a b i = false) : f i = 0 := by
  unfold okPic at h
  rw [Bool.and_eq_true] at h
  have h1 := List.all_eq_true.1 h.2 i (by simpa using hi)
  unfold goodAt at h1
  rw [Bool.and_eq_true, Bool.or_eq_true] at h1
  rcases h1.2 with h2 | h2
  · unfold cellN at hc; rw [h2] at hc; cases hc
  · exact of_decide_eq_true h2
def costC (a b : Int) (fm : Nat → Int) (c d : Int) (f : Nat → Int) (n : Nat) (fp : Nat → Int) : Int := if okImg a b fm = false then 1 else if hasV c d f n fp = 1 then 1 else if a = c ∧ b = d then hasV c d f n fp else 4
def costV (a b : Int) (fm : Nat → Int) (c d : Int) (f : Nat → Int) (n : Nat) (fp : Nat → Int) : Int := if costC a b fm c d f n fp = 0 then costS fm f fp 144 else 0
theorem costV_0 {a b : Int} {fm : Nat → Int} {c d : Int} {f : Nat → Int} {n : Nat} {fp : Nat → Int} {k : Int} (h : costC a b fm c d f n fp = k) (hk : k ≠ 0) : costV a b fm c d f n fp = 0 := by unfold costV; rw [h]; exact if_neg hk
theorem costV_1 {a b : Int} {fm : Nat → Int} {c d : Int} {f : Nat → Int} {n : Nat} {fp : Nat → Int} (h : costC a b fm c d f n fp = 0) : costV a b fm c d f n fp = costS fm f fp 144 := by unfold costV; rw [h]; exact if_pos rfl
theorem hasV_cases (a b : Int) (f : Nat → Int) (n : Nat) (fp : Nat → Int) : (hasV a b f n fp = 1 ∧ (okPic a b f && okPal n fp) = false) ∨ (hasV a b f n fp = 2 ∧ (okPic a b f = true ∧ okPal n fp = true) ∧ hasC n f = false) ∨ (hasV a b f n fp = 0 ∧ (okPic a b f = true ∧ okPal n fp = true) ∧ hasC n f = true) := by
  unfold hasV
  cases h1 : okPic a b f <;> cases h2 : okPal n fp <;> cases h3 : hasC n f <;> simp
set_option maxHeartbeats 4000000 in
set_option maxRecDepth 100000 in
theorem costOf_spec (a b : Int) (fm : Nat → Int) (ha : -128 ≤ a ∧ a ≤ 127) (hb : -128 ≤ b ∧ b ≤ 127) (hfm : ∀ i, 0 ≤ fm i ∧ fm i ≤ 255) (c d : Int) (f : Nat → Int) (hc : -128 ≤ c ∧ c ≤ 127) (hd : -128 ≤ d ∧ d ≤ 127) (hf : ∀ i, 0 ≤ f i ∧ f i ≤ 255) (ad : Option Addr) (n cp : Nat) (fp : Nat → Int) (hfp : ∀ i, 0 ≤ fp i ∧ fp i ≤ 255) (hn : n ≤ 1048576) (W : World) (hs : Sl W (.slice ad n cp) n 3 .u8 fp) :
    Calls Tryz.prog 12 #[.agg (pic 432 a b fm), .agg (pic 144 c d f), .slice ad n cp] W fun e w' => e = .returned (.tuple #[.int .i64 (costV a b fm c d f n fp), .int .i64 (costC a b fm c d f n fp)]) ∧ New W w' := by
  have hcs := hasV_cases c d f n fp
  have hCd : costC a b fm c d f n fp = if okImg a b fm = false then 1 else if hasV c d f n fp = 1 then 1 else if a = c ∧ b = d then hasV c d f n fp else 4 := rfl
  go_enter Tryz.func12, Tryz.ntmps12
  go_wp2_with (fail)
  generalize hw0 : ((W.alloc (Obj.cells (pic 432 a b fm) 29)).alloc (Obj.cells (pic 144 c d f) 39)) = w0
  have b1 : obj w0 W.heap.size = some (.cells (pic 432 a b fm) 29) := by subst hw0; go_simp
  have b2 : obj w0 (W.heap.size + 1) = some (.cells (pic 144 c d f) 39) := by subst hw0; go_simp
  have hn0 : New W w0 := by subst hw0; exact ((New.refl W).alloc _).alloc _
  have hs0 := hs.new hn0
  clear hw0 hs
  refine (l02Has_any _ 39 c d f hc hd hf ad n cp fp hn _ b2 hs0).mono ?_
  rintro e w1 ⟨rfl, hn1⟩
  have c1 := (hn1.objs _ (obj_lt b1)).trans b1
  have c2 := (hn1.objs _ (obj_lt b2)).trans b2
  have hs1 := hs0.new hn1
  have hN1 := hn0.trans hn1
  clear b1 b2 hs0 hn0 hn1
  cases hok : okImg a b fm
  · have hC : Hid (costC a b fm c d f n fp = 1) := by show _ = _; rw [hCd, if_pos hok]
    clear hCd hcs
    go_wp2_with (go_at_call 48; refine (l02Image_any _ 29 a b fm ha hb _ c1).mono ?_; rintro e w' ⟨rfl, rfl⟩; rw [hok])
    go_ret2
    exact ⟨by rw [costV_0 hC.out (by omega), hC.out]; rfl, hN1⟩
  rw [hok, if_neg (by simp)] at hCd
  rcases hcs with ⟨hv, _⟩ | ⟨hv, _⟩ | ⟨hv, hoo, hhc⟩
  · have hC : Hid (costC a b fm c d f n fp = 1) := by show _ = _; rw [hCd, if_pos hv]
    rw [hv]
    clear hCd hv
    go_wp2_with (go_at_call 48; refine (l02Image_any _ 29 a b fm ha hb _ c1).mono ?_; rintro e w' ⟨rfl, rfl⟩; rw [hok])
    go_ret2
    exact ⟨by rw [costV_0 hC.out (by omega), hC.out]; rfl, hN1⟩
  all_goals
    rw [hv, if_neg (by omega)] at hCd
    rw [hv]
    clear hv
  · by_cases e1 : a = c
    · by_cases e2 : b = d
      · have hC : Hid (costC a b fm c d f n fp = 2) := by show _ = _; rw [hCd, if_pos ⟨e1, e2⟩]
        have m1 : (a != c) = false := by simp [e1]
        have m2 : (b != d) = false := by simp [e2]
        clear hCd e1 e2
        go_wp2_with (go_at_call 48; refine (l02Image_any _ 29 a b fm ha hb _ c1).mono ?_; rintro e w' ⟨rfl, rfl⟩; rw [hok])
        go_ret2
        exact ⟨by rw [costV_0 hC.out (by omega), hC.out]; rfl, hN1⟩
      · have hC : Hid (costC a b fm c d f n fp = 4) := by show _ = _; rw [hCd, if_neg (fun h => e2 h.2)]
        have m1 : (a != c) = false := by simp [e1]
        have m2 : (b != d) = true := by simp [e2]
        clear hCd e1 e2
        go_wp2_with (go_at_call 48; refine (l02Image_any _ 29 a b fm ha hb _ c1).mono ?_; rintro e w' ⟨rfl, rfl⟩; rw [hok])
        go_ret2
        exact ⟨by rw [costV_0 hC.out (by omega), hC.out]; rfl, hN1⟩
    · have hC : Hid (costC a b fm c d f n fp = 4) := by show _ = _; rw [hCd, if_neg (fun h => e1 h.1)]
      have m1 : (a != c) = true := by simp [e1]
      clear hCd e1
      go_wp2_with (go_at_call 48; refine (l02Image_any _ 29 a b fm ha hb _ c1).mono ?_; rintro e w' ⟨rfl, rfl⟩; rw [hok])
      go_ret2
      exact ⟨by rw [costV_0 hC.out (by omega), hC.out]; rfl, hN1⟩
  · by_cases e1 : a = c
    · by_cases e2 : b = d
      · have hC : Hid (costC a b fm c d f n fp = 0) := by show _ = _; rw [hCd, if_pos ⟨e1, e2⟩]
        have m1 : (a != c) = false := by simp [e1]
        have m2 : (b != d) = false := by simp [e2]
        have hp := okPal_pos hoo.2
        have hhc' := hide (hasC_e hhc)
        clear hCd e1 e2 hoo hhc
        go_wp2_with (go_at_call 48; refine (l02Image_any _ 29 a b fm ha hb _ c1).mono ?_; rintro e w' ⟨rfl, rfl⟩; rw [hok])
        clear m1 m2
        obtain ⟨g, off, cur, t, fr, rfl, o1, hel⟩ := elsPal hs1 hp.1
        have hel' := hide hel
        clear hel hok
        go_loopw [10, 9] (fun i s wr => ∃ k : Nat, k ≤ 144 ∧ i = .int .i64 k ∧ s = .int .i64 (costS fm f fp k) ∧ New w1 wr) (fun i _ _ => 144 - (intOf i).toNat)
        case atStart => exact ⟨0, by omega, rfl, rfl, New.refl _⟩
        case round =>
          obtain ⟨k, hk, rfl, rfl, hnw⟩ := hrel
          by_cases hlt : k < 144
          · have p1 := (hnw.objs _ (obj_lt c1)).trans c1
            have p2 := (hnw.objs _ (obj_lt c2)).trans c2
            have p3 := (hnw.objs _ (obj_lt o1)).trans o1
            have q1 := obj_lt p1
            have q2 := obj_lt p2
            have q3 := obj_lt p3
            have hfk := hf k
            by_cases hpos : 0 < f k
            · have hle := hhc'.out k hlt
              have ht : ((f k).toNat - 1) < n := by omega
              obtain ⟨x2, l2⟩ := hel'.out _ ht
              have x1 : (pic 432 a b fm).extract (2 + k * 3) (2 + k * 3 + 3) = #[.int .u8 (fm (k * 3)), .int .u8 (fm (k * 3 + 1)), .int .u8 (fm (k * 3 + 2))] := pic3 (by omega) rfl
              have l1 : 2 + k * 3 + 3 ≤ 434 := by omega
              have hb1 := costS_b (f := f) hfm hfp k
              have hb2 := far_b (hfm (k * 3)) (hfm (k * 3 + 1)) (hfm (k * 3 + 2)) (hfp (((f k).toNat - 1) * 3)) (hfp (((f k).toNat - 1) * 3 + 1)) (hfp (((f k).toNat - 1) * 3 + 2))
              have hq : Hid (costS fm f fp (k + 1) = costS fm f fp k + far (fm (k * 3)) (fm (k * 3 + 1)) (fm (k * 3 + 2)) (fp (((f k).toNat - 1) * 3)) (fp (((f k).toNat - 1) * 3 + 1)) (fp (((f k).toNat - 1) * 3 + 2))) := costS_t hpos
              clear hle
              go_wp2_with (fail)
              refine wp_region_new (by kernel_rfl) (by kernel_rfl) ?_
              repeat (go_big_quiet_step (first | fail | (go_at_call 49; with_reducible exact calls_new (far_spec0 _ _ _ (hfm _) (hfm _) (hfm _) _ _ _ (hfp _) (hfp _) (hfp _) _))))
              refine wpQuiet_nil ?_
              intro w1 hc1
              have hn1 := NewW.of hc1
              clear hc1
              have ho1 := hn1.objs
              have hz1 := hn1.le
              try simp at hz1
              go_wp2_with (fail)
              go_roundw
              case rel => exact ⟨k + 1, by omega, by go_num, by rw [hq.out], hnw.trans hn1⟩
              case measure => simp [intOf]; omega
            · have hq := hide (costS_f (fm := fm) (fp := fp) hpos)
              go_wp2_with (fail)
              go_roundw
              case rel => exact ⟨k + 1, by omega, by go_num, by rw [hq.out], hnw⟩
              case measure => simp [intOf]; omega
          · obtain rfl : k = 144 := by omega
            go_wp2_with (fail)
            go_ret2
            exact ⟨by rw [costV_1 hC.out, hC.out]; rfl, hN1.trans hnw⟩
      · have hC : Hid (costC a b fm c d f n fp = 4) := by show _ = _; rw [hCd, if_neg (fun h => e2 h.2)]
        have m1 : (a != c) = false := by simp [e1]
        have m2 : (b != d) = true := by simp [e2]
        clear hCd e1 e2
        go_wp2_with (go_at_call 48; refine (l02Image_any _ 29 a b fm ha hb _ c1).mono ?_; rintro e w' ⟨rfl, rfl⟩; rw [hok])
        go_ret2
        exact ⟨by rw [costV_0 hC.out (by omega), hC.out]; rfl, hN1⟩
    · have hC : Hid (costC a b fm c d f n fp = 4) := by show _ = _; rw [hCd, if_neg (fun h => e1 h.1)]
      have m1 : (a != c) = true := by simp [e1]
      clear hCd e1
      go_wp2_with (go_at_call 48; refine (l02Image_any _ 29 a b fm ha hb _ c1).mono ?_; rintro e w' ⟨rfl, rfl⟩; rw [hok])
      go_ret2
      exact ⟨by rw [costV_0 hC.out (by omega), hC.out]; rfl, hN1⟩
theorem costT_b {fm f fp : Nat → Int} (hm : ∀ i, 0 ≤ fm i ∧ fm i ≤ 255) (hp : ∀ i, 0 ≤ fp i ∧ fp i ≤ 255) (G : Nat → Nat) (j : Nat) : 0 ≤ recT (costStep fm f fp) 0 G j ∧ recT (costStep fm f fp) 0 G j ≤ 1000000 * j := by
  induction j with
  | zero => simp [recT]
  | succ j ih =>
    rw [recT]
    unfold costStep
    split
    · have := far_b (hm (G j * 3)) (hm (G j * 3 + 1)) (hm (G j * 3 + 2)) (hp (((f (G j)).toNat - 1) * 3)) (hp (((f (G j)).toNat - 1) * 3 + 1)) (hp (((f (G j)).toNat - 1) * 3 + 2))
      unfold farI
      have h1 : recT (fun s i => if 0 < f i then s + far (fm (i * 3)) (fm (i * 3 + 1)) (fm (i * 3 + 2)) (fp (((f i).toNat - 1) * 3)) (fp (((f i).toNat - 1) * 3 + 1)) (fp (((f i).toNat - 1) * 3 + 2)) else s) 0 G j = recT (costStep fm f fp) 0 G j := rfl
      rw [h1]
      omega
    · have h1 : recT (fun s i => if 0 < f i then s + farI fm f fp i else s) 0 G j = recT (costStep fm f fp) 0 G j := rfl
      rw [h1]
      omega
set_option maxHeartbeats 4000000 in
set_option maxRecDepth 100000 in
theorem costOf_impl (a b : Int) (fm : Nat → Int) (ha : -128 ≤ a ∧ a ≤ 127) (hb : -128 ≤ b ∧ b ≤ 127) (hfm : ∀ i, 0 ≤ fm i ∧ fm i ≤ 255) (c d : Int) (f : Nat → Int) (hc : -128 ≤ c ∧ c ≤ 127) (hd : -128 ≤ d ∧ d ≤ 127) (hf : ∀ i, 0 ≤ f i ∧ f i ≤ 255) (ad : Option Addr) (n cp : Nat) (fp : Nat → Int) (hfp : ∀ i, 0 ≤ fp i ∧ fp i ≤ 255) (hn : n ≤ 1048576) (hcp : n ≤ cp) (W : World) (hs : Sl W (.slice ad n cp) n 3 .u8 fp) :
    Calls Tryz.prog 11 #[.agg (pic 432 a b fm), .agg (pic 144 c d f), .slice ad n cp] W fun e w' => e = .returned (.tuple #[.int .i64 (costV a b fm c d f n fp), .int .i64 (costC a b fm c d f n fp)]) ∧ New W w' := by
  have hCd : Hid (costC a b fm c d f n fp = if okImg a b fm = false then 1 else if hasV c d f n fp = 1 then 1 else if a = c ∧ b = d then hasV c d f n fp else 4) := rfl
  have hs' := hide hs
  go_enter Tryz.func11, Tryz.ntmps11
  go_wp2_with (fail)
  generalize hw0 : ((W.alloc (Obj.cells (pic 432 a b fm) 29)).alloc (Obj.cells (pic 144 c d f) 39)) = w0
  have b1 : obj w0 W.heap.size = some (.cells (pic 432 a b fm) 29) := by subst hw0; go_simp
  have b2 : obj w0 (W.heap.size + 1) = some (.cells (pic 144 c d f) 39) := by subst hw0; go_simp
  have hN0 : New W w0 := by subst hw0; exact ((New.refl W).alloc _).alloc _
  clear hw0 hs
  refine (validImage_impl a b fm ha hb _).mono ?_
  rintro e w1 ⟨rfl, hn1⟩
  have c1 := (hn1.objs _ (obj_lt b1)).trans b1
  have c2 := (hn1.objs _ (obj_lt b2)).trans b2
  have hN1 := hN0.trans hn1
  clear b1 b2 hN0 hn1
  cases hok : okImg a b fm
  · have hC : Hid (costC a b fm c d f n fp = 1) := by show _ = _; rw [hCd.out, if_pos hok]
    clear hok
    go_wp2_with (fail)
    go_ret2
    exact ⟨by rw [costV_0 hC.out (by omega), hC.out]; rfl, hN1⟩
  have hCd2 : Hid (costC a b fm c d f n fp = if hasV c d f n fp = 1 then 1 else if a = c ∧ b = d then hasV c d f n fp else 4) := by show _ = _; rw [hCd.out, if_neg (by rw [hok]; simp)]
  clear hCd hok
  go_wp2_with (fail)
  refine (validPicture_impl c d f hc hd hf _).mono ?_
  rintro e w2 ⟨rfl, hn2⟩
  have d1 := (hn2.objs _ (obj_lt c1)).trans c1
  have d2 := (hn2.objs _ (obj_lt c2)).trans c2
  have hN2 := hN1.trans hn2
  clear c1 c2 hN1 hn2
  cases h1 : okPic c d f
  · have hC : Hid (costC a b fm c d f n fp = 1) := by show _ = _; rw [hCd2.out, if_pos]; unfold hasV; rw [h1]; exact if_pos rfl
    clear h1
    go_wp2_with (fail)
    go_ret2
    exact ⟨by rw [costV_0 hC.out (by omega), hC.out]; rfl, hN2⟩
  go_wp2_with (fail)
  refine (validPal_impl _ n _ fp hn hcp _ (hs'.out.new hN2)).mono ?_
  rintro e w3 ⟨rfl, hn3⟩
  have f1 := (hn3.objs _ (obj_lt d1)).trans d1
  have f2 := (hn3.objs _ (obj_lt d2)).trans d2
  have hN3 := hN2.trans hn3
  clear d1 d2 hN2 hn3
  cases h2 : okPal n fp
  · have hC : Hid (costC a b fm c d f n fp = 1) := by show _ = _; rw [hCd2.out, if_pos]; unfold hasV; rw [h2, Bool.and_false]; exact if_pos rfl
    clear h1 h2
    go_wp2_with (fail)
    go_ret2
    exact ⟨by rw [costV_0 hC.out (by omega), hC.out]; rfl, hN3⟩
  have hV : Hid (hasV c d f n fp = if hasC n f = false then 2 else 0) := by show _ = _; unfold hasV; rw [h1, h2]; exact if_neg (by simp)
  have hV1 : Hid (costC a b fm c d f n fp = if a = c ∧ b = d then (if hasC n f = false then 2 else 0) else 4) := by
    show _ = _
    rw [hCd2.out, hV.out, if_neg (by split <;> omega)]
  have hbare := hide (okPic_bare h1)
  have hp := okPal_pos h2
  clear hCd2 hV h1 h2
  by_cases e1 : a = c
  rotate_left
  · have hC : Hid (costC a b fm c d f n fp = 4) := by show _ = _; rw [hV1.out, if_neg (fun h => e1 h.1)]
    have m1 : (a != c) = true := by simp [e1]
    clear e1
    go_wp2_with (fail)
    go_ret2
    exact ⟨by rw [costV_0 hC.out (by omega), hC.out]; rfl, hN3⟩
  by_cases e2 : b = d
  rotate_left
  · have hC : Hid (costC a b fm c d f n fp = 4) := by show _ = _; rw [hV1.out, if_neg (fun h => e2 h.2)]
    have m1 : (a != c) = false := by simp [e1]
    have m2 : (b != d) = true := by simp [e2]
    clear e1 e2
    go_wp2_with (fail)
    go_ret2
    exact ⟨by rw [costV_0 hC.out (by omega), hC.out]; rfl, hN3⟩
  subst e1
  subst e2
  have m1 : (a != a) = false := by simp
  have m2 : (b != b) = false := by simp
  have hV2 : Hid (costC a b fm a b f n fp = if hasC n f = false then 2 else 0) := by show _ = _; rw [hV1.out]; exact if_pos ⟨rfl, rfl⟩
  clear hV1
  go_wp2_with (fail)
  refine (hasColours_any a b f hf _ n _ _).mono ?_
  rintro e w4 ⟨rfl, hn4⟩
  have g1 := (hn4.objs _ (obj_lt f1)).trans f1
  have g2 := (hn4.objs _ (obj_lt f2)).trans f2
  have hN4 := hN3.trans hn4
  clear f1 f2 hN3 hn4 m1 m2
  cases hh : hasC n f
  · have hC : Hid (costC a b fm a b f n fp = 2) := by show _ = _; rw [hV2.out, if_pos hh]
    clear hh
    go_wp2_with (fail)
    go_ret2
    exact ⟨by rw [costV_0 hC.out (by omega), hC.out]; rfl, hN4⟩
  have hC : Hid (costC a b fm a b f n fp = 0) := by show _ = _; rw [hV2.out, if_neg (by rw [hh]; simp)]
  have hhc := hide (hasC_e hh)
  clear hh hV2
  go_wp2_with (fail)
  refine (cells_any a b fm ha hb _).mono ?_
  rintro e w5 ⟨v, rfl, hrow, hn5⟩
  obtain ⟨x, y, rfl, _⟩ := hrow.reads
  have p1 := (hn5.objs _ (obj_lt g1)).trans g1
  have p2 := (hn5.objs _ (obj_lt g2)).trans g2
  have hN5 := hN4.trans hn5
  have hle := selN_le (p := cellN a b) 144
  have hT : Hid (recT (costStep fm f fp) 0 (selG (cellN a b) 144) (selN (cellN a b) 144) = costS fm f fp 144) := by
    show _ = _
    rw [rec_eq (Nat.le_refl _)]
    exact cost_cells hbare.out 144 (Nat.le_refl _)
  have hsel := hide (selG_lt (p := cellN a b) 144)
  have hsl := hrow.sl
  obtain ⟨gp, offp, curp, tp, frp, rfl, op, hel⟩ := elsPal (hs'.out.new hN5) hp.1
  have hel' := hide hel
  clear g1 g2 hN4 hn5 hrow hel hs'
  go_wp2_with (fail)
  generalize selN (cellN a b) 144 = N at hsl hle hT hsel ⊢
  go_loopw [47, 8] (fun i s wr => ∃ j : Nat, j ≤ N ∧ i = .int .i64 j ∧ s = .int .i64 (recT (costStep fm f fp) 0 (selG (cellN a b) 144) j) ∧ New w5 wr) (fun i _ _ => N - (intOf i).toNat)
  case atStart => exact ⟨0, by omega, rfl, rfl, New.refl _⟩
  case round =>
    obtain ⟨j, hj, rfl, rfl, hnw⟩ := hrel
    by_cases hlt : j < N
    · obtain ⟨hi1, hi2⟩ := hsel.out j hlt
      have hq : Hid (recT (costStep fm f fp) 0 (selG (cellN a b) 144) (j + 1) = costStep fm f fp (recT (costStep fm f fp) 0 (selG (cellN a b) 144) j) (selG (cellN a b) 144 j)) := rfl
      have hb1 := costT_b (f := f) hfm hfp (selG (cellN a b) 144) j
      obtain ⟨gl, off, cur, t, fr, rfl, o1, hel2⟩ := elInts (hsl.new hnw) (by omega)
      obtain ⟨l1, e1⟩ := hel2 j hlt
      try dsimp only at e1
      generalize selG (cellN a b) 144 j = i at hi1 hi2 hq e1
      have s1 := (hnw.objs _ (obj_lt p1)).trans p1
      have s2 := (hnw.objs _ (obj_lt p2)).trans p2
      have s3 := (hnw.objs _ (obj_lt op)).trans op
      have q1 := obj_lt s1
      have q2 := obj_lt s2
      have q3 := obj_lt s3
      have hfk := hf i
      clear hel2
      by_cases hpos : 0 < f i
      · have hle2 := hhc.out i hi1
        have ht : (f i).toNat - 1 < n := by omega
        obtain ⟨x2, l2⟩ := hel'.out _ ht
        have x1 : (pic 432 a b fm).extract (2 + i * 3) (2 + i * 3 + 3) = #[.int .u8 (fm (i * 3)), .int .u8 (fm (i * 3 + 1)), .int .u8 (fm (i * 3 + 2))] := pic3 (by omega) rfl
        have l3 : 2 + i * 3 + 3 ≤ 434 := by omega
        have hb2 := far_b (hfm (i * 3)) (hfm (i * 3 + 1)) (hfm (i * 3 + 2)) (hfp (((f i).toNat - 1) * 3)) (hfp (((f i).toNat - 1) * 3 + 1)) (hfp (((f i).toNat - 1) * 3 + 2))
        have hq2 : Hid (recT (costStep fm f fp) 0 (selG (cellN a b) 144) (j + 1) = recT (costStep fm f fp) 0 (selG (cellN a b) 144) j + far (fm (i * 3)) (fm (i * 3 + 1)) (fm (i * 3 + 2)) (fp (((f i).toNat - 1) * 3)) (fp (((f i).toNat - 1) * 3 + 1)) (fp (((f i).toNat - 1) * 3 + 2))) := by
          show _ = _
          rw [hq.out]
          exact if_pos hpos
        clear hle2 hq
        generalize recT (costStep fm f fp) 0 (selG (cellN a b) 144) j = S at hb1 hq2 ⊢
        go_wp2_with (fail)
        refine wp_region_new (by kernel_rfl) (by kernel_rfl) ?_
        repeat (go_big_quiet_step (first | fail | (go_at_call 22; with_reducible exact calls_new (far_impl _ _ _ (hfm _) (hfm _) (hfm _) _ _ _ (hfp _) (hfp _) (hfp _) _))))
        refine wpQuiet_nil ?_
        intro w1 hc1
        have hn1 := NewW.of hc1
        clear hc1
        have ho1 := hn1.objs
        have hz1 := hn1.le
        try simp at hz1
        go_wp2_with (fail)
        go_roundw
        case rel => exact ⟨j + 1, by omega, by go_num, by rw [hq2.out], hnw.trans hn1⟩
        case measure => simp [intOf]; omega
      · have hq2 : Hid (recT (costStep fm f fp) 0 (selG (cellN a b) 144) (j + 1) = recT (costStep fm f fp) 0 (selG (cellN a b) 144) j) := by
          show _ = _
          rw [hq.out]
          exact if_neg hpos
        clear hq
        go_wp2_with (fail)
        go_roundw
        case rel => exact ⟨j + 1, by omega, by go_num, by rw [hq2.out], hnw⟩
        case measure => simp [intOf]; omega
    · obtain rfl : j = N := by omega
      rw [hT.out]
      go_wp2_with (fail)
      go_ret2
      exact ⟨by rw [costV_1 hC.out, hC.out]; rfl, hN5.trans hnw⟩
end Go.Proofs.YtphjhegaplochaaGreatDoor
/- A picture from a stock of tones: what the reference returns; no condition. -/
set_option linter.unusedVariables false
namespace Go.Proofs.YtphjhegaplochaaGreatDoor
open Go.BigFrame
open Go.RowKit Go.Arr
def farC (fm fp : Nat → Int) (i c : Nat) : Int := far (fp (c * 3)) (fp (c * 3 + 1)) (fp (c * 3 + 2)) (fm (i * 3)) (fm (i * 3 + 1)) (fm (i * 3 + 2))
def pick (fm fp : Nat → Int) (L : Nat → Int) (i : Nat) : Nat → Int
  | 0 => -1
  | c + 1 => if 0 < L c ∧ (pick fm fp L i c < 0 ∨ farC fm fp i c < farC fm fp i (pick fm fp L i c).toNat) then c else pick fm fp L i c
section
variable {fm fp L : Nat → Int} {i : Nat}
theorem pick_b (c : Nat) : -1 ≤ pick fm fp L i c ∧ pick fm fp L i c < c ∧ (0 ≤ pick fm fp L i c → 0 < L (pick fm fp L i c).toNat) := by
  induction c with
  | zero => simp [pick]
  | succ c ih =>
    unfold pick
    split
    · rename_i h
      refine ⟨by omega, by omega, fun _ => ?_⟩
      simpa using h.1
    · exact ⟨ih.1, by omega, ih.2.2⟩
theorem pick_t {c : Nat} (h1 : 0 < L c) (h2 : pick fm fp L i c < 0 ∨ farC fm fp i c < farC fm fp i (pick fm fp L i c).toNat) : pick fm fp L i (c + 1) = c := if_pos ⟨h1, h2⟩
theorem pick_f {c : Nat} (h : ¬ (0 < L c ∧ (pick fm fp L i c < 0 ∨ farC fm fp i c < farC fm fp i (pick fm fp L i c).toNat))) : pick fm fp L i (c + 1) = pick fm fp L i c := if_neg h
end
abbrev St := Option ((Nat → Int) × (Nat → Int))
def stepF (fm fp : Nat → Int) (n : Nat) (s : St) (i : Nat) : St := s.bind fun x => if pick fm fp x.2 i n < 0 then none else some (upd x.1 i (pick fm fp x.2 i n + 1), upd x.2 (pick fm fp x.2 i n).toNat (x.2 (pick fm fp x.2 i n).toNat - 1))
theorem stepF_n {fm fp : Nat → Int} {n : Nat} {q L : Nat → Int} {i : Nat} (h : pick fm fp L i n < 0) : stepF fm fp n (some (q, L)) i = none := if_pos h
theorem stepF_s {fm fp : Nat → Int} {n : Nat} {q L : Nat → Int} {i t : Nat} (h : pick fm fp L i n = t) : stepF fm fp n (some (q, L)) i = some (upd q i (t + 1), upd L t (L t - 1)) := by
  show (if pick fm fp L i n < 0 then none else some (upd q i (pick fm fp L i n + 1), upd L (pick fm fp L i n).toNat (L (pick fm fp L i n).toNat - 1))) = _
  rw [h, if_neg (by omega), Int.toNat_natCast]
def fsS (fm fp : Nat → Int) (n : Nat) (st : Nat → Int) (a b : Int) : Nat → St := recS (stepF fm fp n) (some (fun _ => 0, st)) (cellN a b)
theorem recS_none {fm fp : Nat → Int} {n : Nat} {s0 : St} {p : Nat → Bool} {k : Nat} (h : recS (stepF fm fp n) s0 p k = none) (m : Nat) : recS (stepF fm fp n) s0 p (k + m) = none := by
  induction m with
  | zero => exact h
  | succ m ih =>
    rw [← Nat.add_assoc]
    cases hp : p (k + m)
    · rw [recS_f hp]; exact ih
    · rw [recS_t hp, ih]; rfl
theorem recT_none {fm fp : Nat → Int} {n : Nat} {s0 : St} {G : Nat → Nat} {k : Nat} (h : recT (stepF fm fp n) s0 G k = none) (m : Nat) : recT (stepF fm fp n) s0 G (k + m) = none := by
  induction m with
  | zero => exact h
  | succ m ih => rw [← Nat.add_assoc, recT, ih]; rfl
def inStock (s : Nat) (st : Nat → Int) : Bool := (List.range s).all fun i => inB (st i) 0 1000000
theorem inStock_e {s : Nat} {st : Nat → Int} (h : inStock s st = true) (i : Nat) (hi : i < s) : 0 ≤ st i ∧ st i ≤ 1000000 := inB_t.1 (List.all_eq_true.1 h i (by simpa using hi))
def fsC (a b : Int) (fm : Nat → Int) (n : Nat) (fp : Nat → Int) (s : Nat) (st : Nat → Int) : Int := if askOk a b fm n fp = false then 1 else if ¬ s = n ∨ inStock s st = false then 2 else if fsS fm fp n st a b 144 = none then 6 else 0
def fsA (a b : Int) (fm : Nat → Int) (n : Nat) (fp : Nat → Int) (s : Nat) (st : Nat → Int) : Array Value := if fsC a b fm n fp s st = 0 then pic 144 a b (((fsS fm fp n st a b 144).getD (fun _ => 0, st)).1) else pic 144 0 0 fun _ => 0
section
variable {a b : Int} {fm : Nat → Int} {n : Nat} {fp : Nat → Int} {s : Nat} {st : Nat → Int}
theorem fsC_1 (h : askOk a b fm n fp = false) : fsC a b fm n fp s st = 1 := if_pos h
theorem fsC_2 (h : askOk a b fm n fp = true) (h2 : ¬ s = n ∨ inStock s st = false) : fsC a b fm n fp s st = 2 := by unfold fsC; rw [if_neg (by rw [h]; simp), if_pos h2]
theorem fsC_6 (h : askOk a b fm n fp = true) (h2 : s = n) (h3 : inStock s st = true) (h4 : fsS fm fp n st a b 144 = none) : fsC a b fm n fp s st = 6 := by
  unfold fsC
  rw [if_neg (by rw [h]; simp), if_neg (by rintro (h5 | h5); · exact h5 h2
                                           · rw [h3] at h5; cases h5), if_pos h4]
theorem fsC_0 {x : (Nat → Int) × (Nat → Int)} (h : askOk a b fm n fp = true) (h2 : s = n) (h3 : inStock s st = true) (h4 : fsS fm fp n st a b 144 = some x) : fsC a b fm n fp s st = 0 := by
  unfold fsC
  rw [if_neg (by rw [h]; simp), if_neg (by rintro (h5 | h5); · exact h5 h2
                                           · rw [h3] at h5; cases h5), if_neg (by rw [h4]; simp)]
theorem fsA_z {k : Int} (h : fsC a b fm n fp s st = k) (hk : k ≠ 0) : fsA a b fm n fp s st = pic 144 0 0 fun _ => 0 := if_neg (by rw [h]; exact hk)
theorem fsA_s {x : (Nat → Int) × (Nat → Int)} (h : fsC a b fm n fp s st = 0) (h4 : fsS fm fp n st a b 144 = some x) : fsA a b fm n fp s st = pic 144 a b x.1 := by unfold fsA; rw [if_pos h, h4]; rfl
end
/-- the numbers of a row that is written -/
def Own (W : World) (g n : Nat) (L : Nat → Int) : Prop := ∃ cur, obj W g = some (.cells cur 2) ∧ n ≤ cur.size ∧ ∀ j, j < n → cur[j]? = some (.int .i64 (L j))
theorem Own.new {W W' : World} {g n : Nat} {L : Nat → Int} (h : Own W g n L) (hn : New W W') : Own W' g n L := by
  obtain ⟨cur, ho, h2⟩ := h
  exact ⟨cur, (hn.objs _ (obj_lt ho)).trans ho, h2⟩
theorem Own.lt {W : World} {g n : Nat} {L : Nat → Int} (h : Own W g n L) : g < W.heap.size := by
  obtain ⟨cur, ho, h2⟩ := h
  exact obj_lt ho
theorem Own.same {W W' : World} {g n : Nat} {L : Nat → Int} (h : Own W g n L) (hs : obj W' g = obj W g) : Own W' g n L := by
  obtain ⟨cur, ho, h2⟩ := h
  exact ⟨cur, hs.trans ho, h2⟩
theorem Own.set {W : World} {g n t : Nat} {L : Nat → Int} (h : Own W g n L) (ht : t < n) (z : Int) : Own (W.setCell ⟨g, t, none⟩ (.int .i64 z)) g n (upd L t z) := by
  obtain ⟨cur, ho, hsz, hc⟩ := h
  refine ⟨cur.setIfInBounds t (.int .i64 z), ?_, by simpa using hsz, fun j hj => ?_⟩
  · rw [obj_setCell_same, ho]
    simp only [Option.map_some, reCell_cells]
  · rw [Array.getElem?_setIfInBounds]
    unfold upd
    by_cases e : t = j
    · subst e; rw [if_pos rfl, if_pos (by omega), if_pos rfl]
    · rw [if_neg e, if_neg (fun e2 => e e2.symm), hc j hj]
theorem Row.own {W : World} {base : Nat} {v : Value} {n : Nat} {f : Nat → Int} (h : Row W base v n f) (hp : 0 < n) : ∃ g cap, v = .slice (some ⟨g, 0, none⟩) n cap ∧ base ≤ g ∧ Own W g n f := by
  rcases h.shape with ⟨_, rfl⟩ | ⟨g, cap, cur, rfl, hb, _, ho, h4, _, h6, hc⟩
  · omega
  · exact ⟨g, cap, rfl, hb, cur, ho, by omega, hc⟩
/-- a whole row of numbers appended to an empty one -/
theorem news_sl {W : World} {g off : Nat} {cur : Array Value} {t : TypeId} {fr : Nat × Nat} {n : Nat} {f : Nat → Int} (ho : obj W g = some (.cells cur t fr)) (hc : ∀ j, j < n → ∃ l : off + j < cur.size, cur[off + j] = .int .i64 (f j)) : ∀ j u, (irow n .i64 f)[j]? = some u → W.cell? ((⟨g, off, none⟩ : Addr).add j) = some u := by
  intro j u hu
  have hj : j < n := by
    have := (List.getElem?_eq_some_iff.1 hu).1
    simpa using this
  rw [get_irow j hj] at hu
  obtain ⟨l, e⟩ := hc j hj
  rw [addr_add, cell_obj, ho, cellOf_cells, Array.getElem?_eq_getElem l, e]
  exact hu
end Go.Proofs.YtphjhegaplochaaGreatDoor
