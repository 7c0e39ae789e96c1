/- The great law on few tones: what it holds, in plain words; no condition. -/
import Derived.Test.YtpphckfalgapdaaU10
import Derived.Test.YtpphckfalgapdaaU9
import Derived.Test.YtpphckfalgapdaaU5
import Derived.Test.YtpphckfalgapdaaU12
import Derived.Test.YtpphckfalgapdaaU7
import Derived.Test.YtpphckfalgapdaaU8
import Derived.Test.YtpphckfalgapdaaU3
import Derived.Test.YtpphckfalgapdaaU2
set_option linter.unusedVariables false
namespace Go.Proofs.Ytpphckfalgapdaa
open Go.BigFrame
open Go.RowKit Go.Arr
theorem far_sym (a b c d e f : Int) : far a b c d e f = far d e f a b c := by
  unfold far
  have h1 : (a - d) = -(d - a) := by omega
  have h2 : (b - e) = -(e - b) := by omega
  have h3 : (c - f) = -(f - c) := by omega
  rw [h1, h2, h3]
  simp only [Int.mul_neg, Int.neg_mul, Int.neg_neg]
theorem far_self (a b c : Int) : far a b c a b c = 0 := by unfold far; simp
theorem nearK_at {f : Nat → Int} {x y z : Int} (k : Nat) : (nearK f x y z k).2 = farE f x y z (nearK f x y z k).1 := by
  induction k with
  | zero => rfl
  | succ k ih =>
    rw [nearK]
    split
    · rfl
    · exact ih
theorem nearK_min {f : Nat → Int} {x y z : Int} {k i : Nat} (hi : i < k) : (nearK f x y z k).2 ≤ farE f x y z i := by
  induction k with
  | zero => omega
  | succ k ih =>
    rw [nearK]
    split
    · rename_i h
      dsimp only
      by_cases e : i = k
      · rw [e]; exact Int.le_refl _
      · have := ih (by omega); omega
    · rename_i h
      by_cases e : i = k
      · rw [e]; omega
      · exact ih (by omega)
theorem nearK_in {f : Nat → Int} {x y z : Int} {k : Nat} (hk : 0 < k) : (nearK f x y z k).1 < k := by
  obtain ⟨k, rfl⟩ : ∃ j, k = j + 1 := ⟨k - 1, by omega⟩
  have := nearK_lt f x y z k
  omega
theorem farE_sub (fp L : Nat → Int) (x y z : Int) (i : Nat) : farE (subP fp L) x y z i = farE fp x y z ((L i).toNat - 1) := by
  unfold farE
  rw [subP_0, subP_1, subP_2]
/-- more colours cost no more -/
theorem farN_sub {fp fm L L' : Nat → Int} {m m' : Nat} (hm : 0 < m) (h : ∀ i, i < m → ∃ j, j < m' ∧ L' j = L i) (i : Nat) : farN m' (subP fp L') fm i ≤ farN m (subP fp L) fm i := by
  unfold farN
  rw [nearK_at (k := m)]
  obtain ⟨j, hj, e⟩ := h _ (nearK_in (f := subP fp L) (x := fm (i * 3)) (y := fm (i * 3 + 1)) (z := fm (i * 3 + 2)) hm)
  have h2 := nearK_min (f := subP fp L') (x := fm (i * 3)) (y := fm (i * 3 + 1)) (z := fm (i * 3 + 2)) hj
  rw [farE_sub] at h2 ⊢
  rw [← e]
  exact h2
theorem cosS_le {m m' : Nat} {fs fs' fm : Nat → Int} {a b : Int} (h : ∀ i, farN m' fs' fm i ≤ farN m fs fm i) (k : Nat) : cosS m' fs' fm a b k ≤ cosS m fs fm a b k := by
  unfold cosS
  induction k with
  | zero => exact Int.le_refl _
  | succ k ih =>
    cases hc : cellN a b k
    · rw [recS_f hc, recS_f hc]; exact ih
    · rw [recS_t hc, recS_t hc]
      have := h k
      show _ + _ ≤ _ + _
      omega
theorem cosS_sub {fp fm L L' : Nat → Int} {m m' : Nat} {a b : Int} (hm : 0 < m) (h : ∀ i, i < m → ∃ j, j < m' ∧ L' j = L i) (k : Nat) : cosS m' (subP fp L') fm a b k ≤ cosS m (subP fp L) fm a b k := cosS_le (farN_sub hm h) k
/-- different colours, put in order -/
theorem asc_place {m n : Nat} {L : Nat → Int} (h : asc m n L) {x : Int} (hx : ∀ j, j < m → L j ≠ x) : ∀ m', m' ≤ m → ∃ t, t ≤ m' ∧ (∀ j, j < t → L j < x) ∧ ∀ j, t ≤ j → j < m' → x < L j := by
  intro m'
  induction m' with
  | zero => exact fun _ => ⟨0, by omega, fun j hj => by omega, fun j _ hj => by omega⟩
  | succ q ih =>
    intro hq
    by_cases e : x < L q
    · obtain ⟨t, h1, h2, h3⟩ := ih (by omega)
      refine ⟨t, by omega, h2, fun j h4 h5 => ?_⟩
      by_cases e2 : j = q
      · rw [e2]; exact e
      · exact h3 j h4 (by omega)
    · have hn := hx q (by omega)
      refine ⟨q + 1, by omega, fun j hj => ?_, fun j h4 h5 => by omega⟩
      by_cases e2 : j = q
      · rw [e2]; omega
      · have := asc_lt h (show j < q by omega) (by omega); omega
theorem asc_of {n : Nat} {A : Nat → Int} (m : Nat) : (∀ j, j < m → 1 ≤ A j ∧ A j ≤ n) → (∀ i j, i < j → j < m → A i ≠ A j) → ∃ L, asc m n L ∧ (∀ i, i < m → ∃ j, j < m ∧ L j = A i) ∧ ∀ j, j < m → ∃ i, i < m ∧ A i = L j := by
  induction m with
  | zero => exact fun _ _ => ⟨fun _ => 0, ⟨fun j hj => by omega, fun j hj => by omega, fun j _ => rfl⟩, fun i hi => by omega, fun j hj => by omega⟩
  | succ m ih =>
    intro h1 h2
    obtain ⟨L, hL, h3, h4⟩ := ih (fun j hj => h1 j (by omega)) fun i j hi hj => h2 i j hi (by omega)
    have hx : ∀ j, j < m → L j ≠ A m := fun j hj e => by
      obtain ⟨i, hi, e2⟩ := h4 j hj
      exact h2 i m hi (by omega) (e2.trans e)
    obtain ⟨t, ht, hlo, hhi⟩ := asc_place hL hx m (Nat.le_refl _)
    have hA := h1 m (by omega)
    refine ⟨fun j => if j < t then L j else if j = t then A m else L (j - 1), ⟨fun j hj => ?_, fun j hj => ?_, fun j hj => ?_⟩, fun i hi => ?_, fun j hj => ?_⟩
    · dsimp only
      split
      · exact hL.1 j (by omega)
      · split
        · exact hA
        · exact hL.1 (j - 1) (by omega)
    · dsimp only
      by_cases e1 : j + 1 < t
      · rw [if_pos (by omega), if_pos e1]; exact hL.2.1 j (by omega)
      · by_cases e2 : j + 1 = t
        · rw [if_pos (by omega), if_neg e1, if_pos e2]; exact hlo j (by omega)
        · by_cases e3 : j = t
          · rw [if_neg (by omega), if_pos e3, if_neg (by omega), if_neg (by omega)]
            exact hhi _ (by omega) (by omega)
          · rw [if_neg (by omega), if_neg e3, if_neg e1, if_neg e2]
            have := hL.2.1 (j - 1) (by omega)
            rw [show j - 1 + 1 = j + 1 - 1 by omega] at this
            exact this
    · dsimp only
      rw [if_neg (by omega), if_neg (by omega)]
      exact hL.2.2 (j - 1) (by omega)
    · by_cases e : i = m
      · refine ⟨t, by omega, ?_⟩
        dsimp only
        rw [if_neg (by omega), if_pos rfl, e]
      · obtain ⟨j, hj, e2⟩ := h3 i (by omega)
        by_cases e3 : j < t
        · refine ⟨j, by omega, ?_⟩
          dsimp only
          rw [if_pos e3]; exact e2
        · refine ⟨j + 1, by omega, ?_⟩
          dsimp only
          rw [if_neg (by omega), if_neg (by omega)]; exact e2
    · dsimp only
      split
      · obtain ⟨i, hi, e⟩ := h4 j (by omega)
        exact ⟨i, by omega, e⟩
      · split
        · exact ⟨m, by omega, rfl⟩
        · obtain ⟨i, hi, e⟩ := h4 (j - 1) (by omega)
          exact ⟨i, by omega, e⟩
/-- the greedy colours differ, and their cost is that of them all -/
theorem gp_own {cost : Int → Int} {has : Int → Bool} (c : Nat) : (gp cost has c).1 ≠ 0 → has (gp cost has c).1 = false ∧ (gp cost has c).2 = cost (gp cost has c).1 := by
  induction c with
  | zero => intro h; exact absurd rfl h
  | succ c ih =>
    by_cases h : has ((c : Int) + 1) = true
    · rw [gp_h h]; exact ih
    · have h := Bool.eq_false_iff.2 h
      by_cases h2 : (gp cost has c).1 = 0 ∨ cost ((c : Int) + 1) < (gp cost has c).2
      · rw [gp_t h h2]; exact fun _ => ⟨h, rfl⟩
      · rw [gp_f h h2]; exact ih
theorem hasL_no {L : Nat → Int} {k : Nat} {c : Int} (h : hasL L k c = false) : ∀ j, j < k → L j ≠ c := fun j hj e => by rw [hasL_t hj e] at h; cases h
theorem gr_next {fp fm : Nat → Int} {a b : Int} {n k : Nat} (hk : k < n) : ∃ x : Int, (gr fp fm a b n (k + 1)).1 = upd (gr fp fm a b n k).1 k x ∧ (∀ j, j < k → (gr fp fm a b n k).1 j ≠ x) ∧ (gr fp fm a b n (k + 1)).2 = cosS (k + 1) (subP fp (gr fp fm a b n (k + 1)).1) fm a b 144 := by
  obtain ⟨c, hc, hh⟩ := free_colour (gr fp fm a b n k).1 hk
  have h1 := gp_some (cost := costG fp fm a b (gr fp fm a b n k).1 k) hc hh
  have h2 := gp_own n h1
  exact ⟨_, rfl, hasL_no h2.1, h2.2⟩
theorem gr_inj {fp fm : Nat → Int} {a b : Int} {n : Nat} (k : Nat) (hk : k ≤ n) : ∀ i j, i < j → j < k → (gr fp fm a b n k).1 i ≠ (gr fp fm a b n k).1 j := by
  induction k with
  | zero => intro i j _ h; omega
  | succ k ih =>
    intro i j hij hj
    obtain ⟨x, h1, h2, _⟩ := gr_next (fp := fp) (fm := fm) (a := a) (b := b) (show k < n by omega)
    rw [h1]
    unfold upd
    rw [if_neg (by omega)]
    by_cases e : j = k
    · rw [if_pos e]; exact h2 i (by omega)
    · rw [if_neg e]; exact ih (by omega) i j hij (by omega)
theorem gr_cost {fp fm : Nat → Int} {a b : Int} {n k : Nat} (h0 : 0 < k) (hk : k ≤ n) : (gr fp fm a b n k).2 = cosS k (subP fp (gr fp fm a b n k).1) fm a b 144 := by
  obtain ⟨q, rfl⟩ : ∃ j, k = j + 1 := ⟨k - 1, by omega⟩
  obtain ⟨x, _, _, h3⟩ := gr_next (fp := fp) (fm := fm) (a := a) (b := b) (show q < n by omega)
  exact h3
/-- there is a best list -/
theorem BI_all (C : (Nat → Int) → Int) {m : Nat} (n : Nat) (hm : 0 < m) (s : Nat) : ∃ k L c, BI C m n s k L c := by
  induction s with
  | zero => exact ⟨0, fun _ => 0, 0, BI_0⟩
  | succ s ih =>
    obtain ⟨k, L, c, h⟩ := ih
    by_cases h1 : (lsT s n).1 = m
    · by_cases h2 : k = 0 ∨ C (lsT s n).2 < c ∨ (C (lsT s n).2 = c ∧ lexP m (lsT s n).2 L)
      · exact ⟨_, _, _, BI_take h h1 h2 hm⟩
      · exact ⟨_, _, _, BI_keep h h1 (fun e => h2 (Or.inl e)) (fun e => h2 (Or.inr (Or.inl e))) fun e1 e2 => h2 (Or.inr (Or.inr ⟨e1, e2⟩))⟩
    · exact ⟨_, _, _, BI_skip h h1⟩
theorem best_is (C : (Nat → Int) → Int) {m n : Nat} (hm : 0 < m) (hn : m ≤ n) : isBest C m n (bestL C m n) := by
  obtain ⟨k, L, c, h⟩ := BI_all C n hm (2 ^ n)
  have h2 := BI_end h hn
  rcases h with ⟨h3, _⟩ | ⟨_, h4, h5, h6⟩
  · omega
  · rw [← h2.2.1]
    refine ⟨h4, fun L' hL' => ?_⟩
    obtain ⟨s, hs, e⟩ := lsT_onto hL'
    have := h6 s hs (by rw [e])
    rw [e] at this
    exact this
theorem greedy_no_less {fp fm : Nat → Int} {a b : Int} {n K : Nat} (hfp : ∀ i, 0 ≤ fp i ∧ fp i ≤ 255) (hfm : ∀ i, 0 ≤ fm i ∧ fm i ≤ 255) (h0 : 0 < K) (hK : K ≤ n) :
    cosS K (subP fp (bestL (fun L => cosS K (subP fp L) fm a b 144) K n)) fm a b 144 ≤ (gr fp fm a b n K).2 := by
  obtain ⟨L, hL, h1, h2⟩ := asc_of K (gr_b (a := a) (b := b) (n := n) hfp hfm K hK) (gr_inj (fp := fp) (fm := fm) (a := a) (b := b) K hK)
  have hb := (best_is (fun L => cosS K (subP fp L) fm a b 144) h0 hK).2 L hL
  have hc := cosS_sub (fp := fp) (fm := fm) (a := a) (b := b) h0 h1 144
  rw [gr_cost h0 hK]
  rcases hb with hb | hb <;> (dsimp only at hb; omega)
end Go.Proofs.Ytpphckfalgapdaa
/- The great law on fields: the small functions of the laws; no condition. -/
set_option linter.unusedVariables false
namespace Go.Proofs.Ytpphckfalgapdaa
open Go.BigFrame
open Go.RowKit Go.Arr
set_option maxHeartbeats 400000 in
theorem a2Long_any (x y : Option Addr) (n c m d : Nat) (w : World) : Calls Try.prog 4 #[.slice x n c, .slice y m d] w fun e w' => e = .returned (.bool (decide (3000 < n) || decide (3000 < m))) ∧ w = w' := by
  by_cases h : (3000 : Int) < n
  · have hd : Hid ((decide (3000 < n) || decide (3000 < m)) = true) := by show _ = _; rw [decide_eq_true (show 3000 < n by omega)]; rfl
    go_enter Try.func4, Try.ntmps4
    go_wp2_with (fail)
    go_ret
    exact ⟨by rw [hd.out]; rfl, rfl⟩
  · have hd : Hid ((decide (3000 < n) || decide (3000 < m)) = decide ((3000 : Int) < m)) := by
      show _ = _
      rw [decide_eq_false (show ¬ 3000 < n by omega), Bool.false_or, decide_eq_decide]
      omega
    go_enter Try.func4, Try.ntmps4
    go_wp2_with (fail)
    go_ret
    exact ⟨by rw [hd.out]; rfl, rfl⟩
/-- a number from some bytes -/
def atV (f : Nat → Int) (n i : Nat) (m : Int) : Int := if n ≤ i ∨ m < 1 then 0 else f i % m
theorem atV_b {f : Nat → Int} {n i : Nat} {m : Int} (hm : 1 ≤ m) : 0 ≤ atV f n i m ∧ atV f n i m < m := by
  unfold atV
  split
  · omega
  · exact ⟨Int.emod_nonneg _ (by omega), Int.emod_lt_of_pos _ (by omega)⟩
set_option maxHeartbeats 400000 in
theorem a2At_any (ad : Option Addr) (n c : Nat) (f : Nat → Int) (hf : ∀ i, 0 ≤ f i ∧ f i ≤ 255) (i : Nat) (m : Int) (hi : i ≤ 1000) (hm : 1 ≤ m ∧ m ≤ 1000) (hn : n ≤ 3000) (w : World) (hs : Sl w (.slice ad n c) n 1 .u8 f) :
    Calls Try.prog 7 #[.slice ad n c, .int .i64 (i : Nat), .int .i64 m] w fun e w' => e = .returned (.int .i64 (atV f n i m)) ∧ w = w' := by
  by_cases h : n ≤ i
  · have hv : Hid (atV f n i m = 0) := if_pos (Or.inl h)
    have h2 : (n : Int) ≤ i := by omega
    go_enter Try.func7, Try.ntmps7
    go_wp2_with (fail)
    go_ret
    exact ⟨by rw [hv.out]; rfl, rfl⟩
  · have hfi := hf i
    have hv : Hid (atV f n i m = f i % m) := if_neg (by omega)
    obtain ⟨g, off, cur, t, fr, rfl, o1, hel⟩ := elBytes hs (by omega)
    obtain ⟨l1, e1⟩ := hel i (by omega)
    have h2 : ¬ (n : Int) ≤ i := by omega
    have hwr : IntKind.i64.wrap (f i) = f i := by simp [IntKind.wrap, IntKind.bits, IntKind.signed]; omega
    have hmm : Int.tmod (f i) m = f i % m := Int.tmod_eq_emod_of_nonneg hfi.1
    have hb1 : 0 ≤ f i % m := Int.emod_nonneg _ (by omega)
    have hb2 : f i % m < m := Int.emod_lt_of_pos _ (by omega)
    clear hel hs
    go_enter Try.func7, Try.ntmps7
    go_wp2_with (fail)
    go_ret
    exact ⟨by rw [hv.out]; rfl, rfl⟩
set_option maxHeartbeats 1000000 in
set_option maxRecDepth 100000 in
theorem l00Same_refl (a1 a2 : Option Addr) (n c1 c2 : Nat) (f : Nat → Int) (hn : n ≤ 1000) (W : World) (h1 : Reads W a1 n f) (h2 : Reads W a2 n f) :
    Calls Try.prog 37 #[.slice a1 n c1, .slice a2 n c2] W fun e w' => e = .returned (.bool true) ∧ New W w' := by
  go_enter Try.func37, Try.ntmps37
  go_wp2_with (fail)
  go_loopw [5] (fun i wr => ∃ k : Nat, k ≤ n ∧ i = .int .i64 k ∧ New W wr) (fun i _ => n - (intOf i).toNat)
  case atStart => exact ⟨0, by omega, rfl, New.refl W⟩
  case round =>
    obtain ⟨k, hk, rfl, hnw⟩ := hrel
    by_cases hlt : k < n
    · obtain ⟨g1, cur1, rfl, o1, e1⟩ := h1 k hlt
      obtain ⟨g2, cur2, rfl, o2, e2⟩ := h2 k hlt
      have p1 := (hnw.objs _ (obj_lt o1)).trans o1
      have p2 := (hnw.objs _ (obj_lt o2)).trans o2
      obtain ⟨l1, e1⟩ := Array.getElem?_eq_some_iff.1 e1
      obtain ⟨l2, e2⟩ := Array.getElem?_eq_some_iff.1 e2
      clear o1 o2
      have hne : (f k != f k) = false := by simp
      go_wp2_with (fail)
      go_quiet (fail)
      go_wp2_with (fail)
      go_roundw
      case rel => exact ⟨k + 1, by omega, by go_num, hnw.drewN _⟩
      case measure => simp [intOf]; omega
    · obtain rfl : k = n := by omega
      go_wp2_with (fail)
      go_ret
      exact ⟨rfl, hnw⟩
set_option maxHeartbeats 400000 in
theorem a2Same_refl (a1 a2 : Option Addr) (n c1 c2 : Nat) (f : Nat → Int) (hn : n ≤ 1000) (W : World) (h1 : Reads W a1 n f) (h2 : Reads W a2 n f) :
    Calls Try.prog 12 #[.slice a1 n c1, .slice a2 n c2] W fun e w' => e = .returned (.bool true) ∧ New W w' := by
  go_enter Try.func12, Try.ntmps12
  go_wp2_with (fail)
  refine (l00Same_refl a1 a2 n c1 c2 f hn _ h1 h2).mono ?_
  rintro e w1 ⟨rfl, hn1⟩
  go_wp2_with (fail)
  go_ret
  exact ⟨rfl, hn1⟩
end Go.Proofs.Ytpphckfalgapdaa
/- A loop of laws.FnFewTones, cut out: a theorem of its own over a frame of letters; no condition. -/
set_option linter.unusedVariables false
namespace Go.Proofs.Ytpphckfalgapdaa
open Go.BigFrame
open Go.RowKit Go.Arr
noncomputable def ftLBody : Code := loopIn (Try.f3.body.getD .skip) 0
set_option maxHeartbeats 4000000 in
set_option maxRecDepth 1000000 in
theorem ftL (n K g0 cL cp : Nat) (L p : Nat → Int) (x1 x2 : Option Addr) (wB w9 : World) (hn : n ≤ 15) (hK : K ≤ 15) (hL : Hid (asc K n L)) (h1 : NewSl wB x1 K L) (h2 : Sl wB (.slice x2 n cp) n 3 .u8 p)
    (h0 : PRow w9 wB.heap.size (.slice (some ⟨g0, 0, none⟩) 0 0) 0 p) (hN9 : New wB w9)
    (Q0 : Exit → Act → World → Prop) (s0 s1 s2 s3 s4 s5 s7 s8 s9 s10 s12 s13 s14 s15 s16 s17 s18 s19 s22 s23 s24 s25 s26 s27 s28 s29 s30 s31 s32 s33 s34 s35 s36 s37 s38 s39 s40 s41 s42 s43 s44 s45 s46 s47 s48 s49 s50 s51 s52 s53 s54 s55 s56 s57 s58 s59 s60 s61 s62 s63 s64 s65 s66 s67 s68 s69 s70 s71 s72 s73 s74 s75 s76 s77 s78 s79 s80 s81 s82 s83 s84 s85 s86 s87 s88 s89 s90 s91 s92 s93 s94 s95 s96 s97 s98 s99 s100 s101 s102 s103 s104 s105 s106 s107 s108 s109 s110 s111 s112 s113 s114 s115 s116 s117 s118 s119 s120 s121 s122 s123 s124 s125 s126 s127 s128 s129 s130 s131 s132 s133 s134 s135 s136 s137 s138 s139 s140 s141 s142 s143 s144 s145 s146 s147 s148 s149 s150 s151 s152 s153 s154 s155 s156 s157 s158 s159 s160 s161 s162 s163 s164 s165 s166 s167 s168 s169 s170 s171 s172 s173 s174 s175 s176 s177 s178 s179 s180 s181 s182 s183 s184 s185 s186 s187 s188 s189 s190 s191 s192 s193 s194 s195 s196 s197 s198 s199 s200 s201 s202 s203 s204 s205 s206 s207 s208 s209 s210 s211 s212 s213 s214 s215 s216 s217 s218 s219 s220 s221 s222 s223 s224 s225 s226 s227 s228 s229 s230 s231 s232 s233 s234 s235 s236 s237 s238 s239 s240 s241 s242 s243 s244 s245 s246 s247 s248 s249 s250 s251 s252 s253 s254 s255 s256 s257 s258 s259 s260 s261 s262 s263 s264 s265 s266 s267 s268 s269 s270 s271 s272 s273 s274 s275 s276 s277 s278 s279 s280 s281 s282 s283 s284 s285 s286 s287 s288 s289 s290 s291 s292 s293 s294 s295 s296 s297 s298 s299 s300 s301 s302 s303 s304 s305 s306 s307 s308 s309 s310 s311 s312 s313 s314 s315 s316 s317 s318 s319 s320 s321 s322 s323 s324 s325 s326 s327 s328 s329 s330 s331 s332 s333 s334 s335 s336 s337 s338 s339 s340 s341 s342 s343 s344 s345 s346 s347 s348 s349 s350 s351 s352 s353 s354 s355 s356 s357 s358 s359 s360 s361 s362 s363 s364 s365 s366 s367 s368 s369 s370 s371 s372 s373 s374 s375 s376 s377 s378 : Value)
    (hexit : ∀ (u4 u20 u21 u149 u150 u151 u152 u153 u154 u155 u156 u157 u158 u159 u160 u161 u162 u163 u164 u165 u166 u167 u168 u169 u170 u171 u172 u173 u174 u175 u176 u177 u178 u179 u180 u181 u182 u183 u184 u185 u186 u187 u188 u189 u190 u191 u192 u193 u194 u195 : Value) (w' : World), (∃ go co, u20 = .slice (some ⟨go, 0, none⟩) K co ∧ PRow w' wB.heap.size (.slice (some ⟨go, 0, none⟩) K co) K (subP p L)) → New wB w' →
      Q0 (.exit 0) ⟨List.toArray (s0 :: s1 :: s2 :: s3 :: u4 :: s5 :: (.slice x2 n cp) :: s7 :: s8 :: s9 :: s10 :: (.slice x1 K cL) :: s12 :: s13 :: s14 :: s15 :: s16 :: s17 :: s18 :: s19 :: u20 :: u21 :: s22 :: s23 :: s24 :: s25 :: s26 :: s27 :: s28 :: s29 :: s30 :: s31 :: s32 :: s33 :: s34 :: s35 :: s36 :: s37 :: s38 :: s39 :: s40 :: s41 :: s42 :: s43 :: s44 :: s45 :: s46 :: s47 :: s48 :: s49 :: s50 :: s51 :: s52 :: s53 :: s54 :: s55 :: s56 :: s57 :: s58 :: s59 :: s60 :: s61 :: s62 :: s63 :: s64 :: s65 :: s66 :: s67 :: s68 :: s69 :: s70 :: s71 :: s72 :: s73 :: s74 :: s75 :: s76 :: s77 :: s78 :: s79 :: s80 :: s81 :: s82 :: s83 :: s84 :: s85 :: s86 :: s87 :: s88 :: s89 :: s90 :: s91 :: s92 :: s93 :: s94 :: s95 :: s96 :: s97 :: s98 :: s99 :: s100 :: s101 :: s102 :: s103 :: s104 :: s105 :: s106 :: s107 :: s108 :: s109 :: s110 :: s111 :: s112 :: s113 :: s114 :: s115 :: s116 :: s117 :: s118 :: s119 :: s120 :: s121 :: s122 :: s123 :: s124 :: s125 :: s126 :: s127 :: s128 :: s129 :: s130 :: s131 :: s132 :: s133 :: s134 :: s135 :: s136 :: s137 :: s138 :: s139 :: s140 :: s141 :: s142 :: s143 :: s144 :: s145 :: s146 :: s147 :: s148 :: u149 :: u150 :: u151 :: u152 :: u153 :: u154 :: u155 :: u156 :: u157 :: u158 :: u159 :: u160 :: u161 :: u162 :: u163 :: u164 :: u165 :: u166 :: u167 :: u168 :: u169 :: u170 :: u171 :: u172 :: u173 :: u174 :: u175 :: u176 :: u177 :: u178 :: u179 :: u180 :: u181 :: u182 :: u183 :: u184 :: u185 :: u186 :: u187 :: u188 :: u189 :: u190 :: u191 :: u192 :: u193 :: u194 :: u195 :: s196 :: s197 :: s198 :: s199 :: s200 :: s201 :: s202 :: s203 :: s204 :: s205 :: s206 :: s207 :: s208 :: s209 :: s210 :: s211 :: s212 :: s213 :: s214 :: s215 :: s216 :: s217 :: s218 :: s219 :: s220 :: s221 :: s222 :: s223 :: s224 :: s225 :: s226 :: s227 :: s228 :: s229 :: s230 :: s231 :: s232 :: s233 :: s234 :: s235 :: s236 :: s237 :: s238 :: s239 :: s240 :: s241 :: s242 :: s243 :: s244 :: s245 :: s246 :: s247 :: s248 :: s249 :: s250 :: s251 :: s252 :: s253 :: s254 :: s255 :: s256 :: s257 :: s258 :: s259 :: s260 :: s261 :: s262 :: s263 :: s264 :: s265 :: s266 :: s267 :: s268 :: s269 :: s270 :: s271 :: s272 :: s273 :: s274 :: s275 :: s276 :: s277 :: s278 :: s279 :: s280 :: s281 :: s282 :: s283 :: s284 :: s285 :: s286 :: s287 :: s288 :: s289 :: s290 :: s291 :: s292 :: s293 :: s294 :: s295 :: s296 :: s297 :: s298 :: s299 :: s300 :: s301 :: s302 :: s303 :: s304 :: s305 :: s306 :: s307 :: s308 :: s309 :: s310 :: s311 :: s312 :: s313 :: s314 :: s315 :: s316 :: s317 :: s318 :: s319 :: s320 :: s321 :: s322 :: s323 :: s324 :: s325 :: s326 :: s327 :: s328 :: s329 :: s330 :: s331 :: s332 :: s333 :: s334 :: s335 :: s336 :: s337 :: s338 :: s339 :: s340 :: s341 :: s342 :: s343 :: s344 :: s345 :: s346 :: s347 :: s348 :: s349 :: s350 :: s351 :: s352 :: s353 :: s354 :: s355 :: s356 :: s357 :: s358 :: s359 :: s360 :: s361 :: s362 :: s363 :: s364 :: s365 :: s366 :: s367 :: s368 :: s369 :: s370 :: s371 :: s372 :: s373 :: s374 :: s375 :: s376 :: s377 :: s378 :: []), []⟩ w') :
    Code.wp Try.prog (Code.loop ftLBody) Q0 ⟨List.toArray (s0 :: s1 :: s2 :: s3 :: s4 :: s5 :: (.slice x2 n cp) :: s7 :: s8 :: s9 :: s10 :: (.slice x1 K cL) :: s12 :: s13 :: s14 :: s15 :: s16 :: s17 :: s18 :: s19 :: (.slice (some ⟨g0, 0, none⟩) 0 0) :: (.int .i64 0) :: s22 :: s23 :: s24 :: s25 :: s26 :: s27 :: s28 :: s29 :: s30 :: s31 :: s32 :: s33 :: s34 :: s35 :: s36 :: s37 :: s38 :: s39 :: s40 :: s41 :: s42 :: s43 :: s44 :: s45 :: s46 :: s47 :: s48 :: s49 :: s50 :: s51 :: s52 :: s53 :: s54 :: s55 :: s56 :: s57 :: s58 :: s59 :: s60 :: s61 :: s62 :: s63 :: s64 :: s65 :: s66 :: s67 :: s68 :: s69 :: s70 :: s71 :: s72 :: s73 :: s74 :: s75 :: s76 :: s77 :: s78 :: s79 :: s80 :: s81 :: s82 :: s83 :: s84 :: s85 :: s86 :: s87 :: s88 :: s89 :: s90 :: s91 :: s92 :: s93 :: s94 :: s95 :: s96 :: s97 :: s98 :: s99 :: s100 :: s101 :: s102 :: s103 :: s104 :: s105 :: s106 :: s107 :: s108 :: s109 :: s110 :: s111 :: s112 :: s113 :: s114 :: s115 :: s116 :: s117 :: s118 :: s119 :: s120 :: s121 :: s122 :: s123 :: s124 :: s125 :: s126 :: s127 :: s128 :: s129 :: s130 :: s131 :: s132 :: s133 :: s134 :: s135 :: s136 :: s137 :: s138 :: s139 :: s140 :: s141 :: s142 :: s143 :: s144 :: s145 :: s146 :: s147 :: s148 :: s149 :: s150 :: s151 :: s152 :: s153 :: s154 :: s155 :: s156 :: s157 :: s158 :: s159 :: s160 :: s161 :: s162 :: s163 :: s164 :: s165 :: s166 :: s167 :: s168 :: s169 :: s170 :: s171 :: s172 :: s173 :: s174 :: s175 :: s176 :: s177 :: s178 :: s179 :: s180 :: s181 :: s182 :: s183 :: s184 :: s185 :: s186 :: s187 :: s188 :: s189 :: s190 :: s191 :: s192 :: s193 :: s194 :: s195 :: s196 :: s197 :: s198 :: s199 :: s200 :: s201 :: s202 :: s203 :: s204 :: s205 :: s206 :: s207 :: s208 :: s209 :: s210 :: s211 :: s212 :: s213 :: s214 :: s215 :: s216 :: s217 :: s218 :: s219 :: s220 :: s221 :: s222 :: s223 :: s224 :: s225 :: s226 :: s227 :: s228 :: s229 :: s230 :: s231 :: s232 :: s233 :: s234 :: s235 :: s236 :: s237 :: s238 :: s239 :: s240 :: s241 :: s242 :: s243 :: s244 :: s245 :: s246 :: s247 :: s248 :: s249 :: s250 :: s251 :: s252 :: s253 :: s254 :: s255 :: s256 :: s257 :: s258 :: s259 :: s260 :: s261 :: s262 :: s263 :: s264 :: s265 :: s266 :: s267 :: s268 :: s269 :: s270 :: s271 :: s272 :: s273 :: s274 :: s275 :: s276 :: s277 :: s278 :: s279 :: s280 :: s281 :: s282 :: s283 :: s284 :: s285 :: s286 :: s287 :: s288 :: s289 :: s290 :: s291 :: s292 :: s293 :: s294 :: s295 :: s296 :: s297 :: s298 :: s299 :: s300 :: s301 :: s302 :: s303 :: s304 :: s305 :: s306 :: s307 :: s308 :: s309 :: s310 :: s311 :: s312 :: s313 :: s314 :: s315 :: s316 :: s317 :: s318 :: s319 :: s320 :: s321 :: s322 :: s323 :: s324 :: s325 :: s326 :: s327 :: s328 :: s329 :: s330 :: s331 :: s332 :: s333 :: s334 :: s335 :: s336 :: s337 :: s338 :: s339 :: s340 :: s341 :: s342 :: s343 :: s344 :: s345 :: s346 :: s347 :: s348 :: s349 :: s350 :: s351 :: s352 :: s353 :: s354 :: s355 :: s356 :: s357 :: s358 :: s359 :: s360 :: s361 :: s362 :: s363 :: s364 :: s365 :: s366 :: s367 :: s368 :: s369 :: s370 :: s371 :: s372 :: s373 :: s374 :: s375 :: s376 :: s377 :: s378 :: []), []⟩ w9 := by
  conv => arg 2; arg 1; whnf
  have hKn : Hid (0 < K → 0 < n) := fun h => by have := hL.out.1 0 h; omega
  go_loopw [20, 21] (fun v x wq => ∃ (i go co : Nat), i ≤ K ∧ x = .int .i64 i ∧ v = .slice (some ⟨go, 0, none⟩) i co ∧ PRow wq wB.heap.size (.slice (some ⟨go, 0, none⟩) i co) i (subP p L) ∧ New wB wq) (fun _ x _ => K - (intOf x).toNat)
  case atStart => exact ⟨0, g0, 0, by omega, rfl, rfl, h0.congr (fun j hj => by omega), hN9⟩
  case round =>
    obtain ⟨i, go, co, hi, rfl, rfl, hrow, hnw⟩ := hrel
    by_cases hlt : i < K
    · have hLi := hL.out.1 i hlt
      obtain ⟨g1, cur1, rfl, o1, e1⟩ := h1 i hlt
      obtain ⟨gq, offq, cuq, tq, frq, rfl, oq, hel⟩ := elsPal h2 (hKn.out (by omega))
      obtain ⟨z, hz⟩ : ∃ z, Hid (L i = z) := ⟨_, rfl⟩
      rw [hz.out] at e1 hLi
      obtain ⟨d, hd⟩ : ∃ d : Nat, Hid (z - 1 = d) := ⟨(z - 1).toNat, show _ = _ by omega⟩
      have hdo := hd.out
      have hdn : (L i).toNat - 1 = d := by rw [hz.out]; omega
      have hdlt : d < n := by omega
      have hdlt2 : (d : Int) < n := by omega
      obtain ⟨y2, m2⟩ := hel d hdlt
      have hzw : IntKind.i64.wrap (z - 1) = (d : Int) := by rw [show IntKind.i64.wrap (z - 1) = z - 1 by simp [IntKind.wrap, IntKind.bits, IntKind.signed]; omega]; omega
      have e30 := hide (show subP p L (i * 3) = p (d * 3) by rw [subP_0, hdn])
      have e31 := hide (show subP p L (i * 3 + 1) = p (d * 3 + 1) by rw [subP_1, hdn])
      have e32 := hide (show subP p L (i * 3 + 2) = p (d * 3 + 2) by rw [subP_2, hdn])
      obtain ⟨l1, e1⟩ := Array.getElem?_eq_some_iff.1 e1
      have p1 := (hnw.objs _ (obj_lt o1)).trans o1
      have p2 := (hnw.objs _ (obj_lt oq)).trans oq
      have q1 := obj_lt p1
      have q2 := obj_lt p2
      have hz1 : decide (z < 1) = false := decide_eq_false (by omega)
      have hz2 : decide ((n : Int) < z) = false := decide_eq_false (by omega)
      have hlt2 : (i : Int) < K := by omega
      clear hdo hdn oq hel
      by_cases hi0 : i = 0
      · have hi00 : (i : Int) = 0 := by omega
        have hgt : decide ((0 : Int) < i) = false := decide_eq_false (by omega)
        have e10 : cur1[0]? = some (.int .i64 z) := by
          have h := Array.getElem?_eq_some_iff.2 ⟨l1, e1⟩
          rw [hi0] at h
          exact h
        obtain ⟨l10, e10⟩ := Array.getElem?_eq_some_iff.1 e10
        go_wp2_with (fail)
        go_quiet (fail)
        have hnq : New wB (wr.drewN nq) := hnw.drewN nq
        have hrq := hrow.new ((New.refl wr).drewN nq)
        have s1 : obj (wr.drewN nq) g1 = some (.cells cur1 2) := (obj_drewN _ _ _).trans p1
        have s2 : obj (wr.drewN nq) gq = some (.cells cuq tq frq) := (obj_drewN _ _ _).trans p2
        clear p1 p2 hrow hnw q1 q2 hgt hi00 e10 l10
        generalize wr.drewN nq = wq at *
        have q1 := obj_lt s1
        have q2 := obj_lt s2
        have hbk := hrq.block
        have hzq := hnq.le
        replace hi0 := hide hi0
        go_wp2_with (at_builtin; refine wpList_app slTones rfl _ _ rfl wB.heap.size _ _ _ rfl (hrq.new ((New.refl _).alloc _)) ⟨wq.heap.size, 0, none⟩ 1 1 [.int .u8 (p (d * 3)), .int .u8 (p (d * 3 + 1)), .int .u8 (p (d * 3 + 2))] rfl rfl (news_new _ _ _ _ _ rfl) (by simp [Value.oneCell']) (by omega) (by unfold maxLen; omega) (by omega) (by simp; omega) ?_)
        intro g3 cap3 w3 hown hg3 hat3 hlt3
        have hn3 : New wB w3 := grown_new (hnq.alloc _) hg3 fun b hb => (hbk b hb).1
        have hr3 := prow_app hown e30.out e31.out e32.out
        clear hown hg3 hat3 hrq hnq
        go_wp2_with (fail)
        go_roundw
        case rel => exact ⟨i + 1, g3, cap3, by omega, by go_num, rfl, hr3, hn3⟩
        case measure => simp [intOf]; omega
      · obtain ⟨i', hi'⟩ : ∃ i', Hid (i' + 1 = i) := ⟨i - 1, show _ = _ by omega⟩
        have hi'' := hi'.out
        have hip : 0 < i := by omega
        have hltp : i' < K := by omega
        have hip2 : (0 : Int) < i := by omega
        have hdec : IntKind.i64.wrap ((i : Int) - 1) = (i' : Int) := by rw [show IntKind.i64.wrap ((i : Int) - 1) = (i : Int) - 1 by simp [IntKind.wrap, IntKind.bits, IntKind.signed]; omega]; omega
        obtain ⟨z', hz'⟩ : ∃ z', Hid (L i' = z') := ⟨_, rfl⟩
        have hzz : z' < z := by
          have := hL.out.2.1 i' (by omega)
          rw [hi'', hz.out, hz'.out] at this
          exact this
        obtain ⟨g4, cur4, hg4, o4, e4⟩ := h1 i' (by omega)
        cases hg4
        have hcur : cur4 = cur1 := by
          have := o4.symm.trans o1
          simp only [Option.some.injEq, Obj.cells.injEq] at this
          exact this.1
        subst hcur
        rw [hz'.out] at e4
        obtain ⟨l4, e4⟩ := Array.getElem?_eq_some_iff.1 e4
        have hz3 : decide (z ≤ z') = false := decide_eq_false (by omega)
        clear hi'' o4
        go_wp2_with (fail)
        go_quiet (fail)
        have hnq : New wB (wr.drewN nq) := hnw.drewN nq
        have hrq := hrow.new ((New.refl wr).drewN nq)
        have s1 : obj (wr.drewN nq) g1 = some (.cells cur4 2) := (obj_drewN _ _ _).trans p1
        have s2 : obj (wr.drewN nq) gq = some (.cells cuq tq frq) := (obj_drewN _ _ _).trans p2
        clear p1 p2 hrow hnw q1 q2
        generalize wr.drewN nq = wq at *
        have q1 := obj_lt s1
        have q2 := obj_lt s2
        have hbk := hrq.block
        have hzq := hnq.le
        go_wp2_with (at_builtin; refine wpList_app slTones rfl _ _ rfl wB.heap.size _ _ _ rfl (hrq.new ((New.refl _).alloc _)) ⟨wq.heap.size, 0, none⟩ 1 1 [.int .u8 (p (d * 3)), .int .u8 (p (d * 3 + 1)), .int .u8 (p (d * 3 + 2))] rfl rfl (news_new _ _ _ _ _ rfl) (by simp [Value.oneCell']) (by omega) (by unfold maxLen; omega) (by omega) (by simp; omega) ?_)
        intro g3 cap3 w3 hown hg3 hat3 hlt3
        have hn3 : New wB w3 := grown_new (hnq.alloc _) hg3 fun b hb => (hbk b hb).1
        have hr3 := prow_app hown e30.out e31.out e32.out
        clear hown hg3 hat3 hrq hnq
        go_wp2_with (fail)
        go_roundw
        case rel => exact ⟨i + 1, g3, cap3, by omega, by go_num, rfl, hr3, hn3⟩
        case measure => simp [intOf]; omega
    · have hiK : i = K := by omega
      subst hiK
      go_wp2_with (fail)
      exact hexit _ _ _ _ _ _ _ _ _ _ _ _ _ _ _ _ _ _ _ _ _ _ _ _ _ _ _ _ _ _ _ _ _ _ _ _ _ _ _ _ _ _ _ _ _ _ _ _ _ _ _ ⟨go, co, rfl, hrow⟩ hnw
end Go.Proofs.Ytpphckfalgapdaa
