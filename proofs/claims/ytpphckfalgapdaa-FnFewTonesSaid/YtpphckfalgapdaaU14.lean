/- The great law on few tones: pictures, moved tones, all tones, in plain words; no condition. -/
import Derived.Test.YtpphckfalgapdaaU13
import Derived.Test.YtpphckfalgapdaaU10
import Derived.Test.YtpphckfalgapdaaU6
set_option linter.unusedVariables false
namespace Go.Proofs.Ytpphckfalgapdaa
open Go.BigFrame
open Go.RowKit Go.Arr
theorem okPal_e {n : Nat} {f : Nat → Int} (h : okPal n f = true) : (1 ≤ n ∧ n ≤ 15) ∧ ∀ i j, j < i → i < n → alikePal f f i j = false := by
  have hp := okPal_pos h
  refine ⟨by omega, fun i j hij hi => ?_⟩
  cases hc : alikePal f f i j
  · rfl
  · rw [okPal_f hi (firstAt_f hij hc)] at h; cases h
theorem okPal_mk {n : Nat} {f : Nat → Int} (hn : 1 ≤ n ∧ n ≤ 15) (h : ∀ i j, j < i → i < n → alikePal f f i j = false) : okPal n f = true := by
  rw [okPal_t fun i hi => firstAt_t fun j hj => h i j hj hi, inB_t]
  omega
theorem alike_sym {f g : Nat → Int} {i j : Nat} : alikePal f g i j = alikePal g f j i := by
  unfold alikePal
  rw [Bool.eq_iff_iff, eq3_t, eq3_t]
  constructor
  · rintro ⟨h1, h2, h3⟩; exact ⟨h1.symm, h2.symm, h3.symm⟩
  · rintro ⟨h1, h2, h3⟩; exact ⟨h1.symm, h2.symm, h3.symm⟩
theorem okPal_sub {n m : Nat} {fp L : Nat → Int} (h : okPal n fp = true) (hL : asc m n L) (hm : 0 < m) : okPal m (subP fp L) = true := by
  obtain ⟨h1, h2⟩ := okPal_e h
  have hmn : m ≤ n := by
    have hk : ∀ j, j < m → ((j : Int) + 1) ≤ L j := by
      intro j
      induction j with
      | zero => intro hj; have := hL.1 0 hj; omega
      | succ j ih => intro hj; have := hL.2.1 j hj; have := ih (by omega); omega
    have := hk (m - 1) (by omega)
    have := hL.1 (m - 1) (by omega)
    omega
  refine okPal_mk ⟨by omega, by omega⟩ fun i j hj hi => ?_
  have h3 := asc_lt hL hj hi
  have h4 := hL.1 i hi
  have h5 := hL.1 j (by omega)
  have h6 := h2 ((L i).toNat - 1) ((L j).toNat - 1) (by omega) (by omega)
  unfold alikePal at h6 ⊢
  rw [subP_0, subP_1, subP_2, subP_0, subP_1, subP_2]
  exact h6
/-- a picture of the nearest tones -/
theorem picS_at (n : Nat) (fp fm : Nat → Int) (a b : Int) (k : Nat) : ∀ i, picS n fp fm a b k i = if i < k ∧ cellN a b i = true then nearC n fp fm i else 0 := by
  induction k with
  | zero => intro i; rw [if_neg (by omega)]; rfl
  | succ k ih =>
    intro i
    unfold picS
    cases hc : cellN a b k
    · rw [recS_f hc]
      show picS n fp fm a b k i = _
      rw [ih]
      by_cases e : i = k
      · rw [e, if_neg (by omega), if_neg (by rw [hc]; simp)]
      · by_cases e2 : i < k ∧ cellN a b i = true
        · rw [if_pos e2, if_pos ⟨by omega, e2.2⟩]
        · rw [if_neg e2, if_neg fun h => e2 ⟨by omega, h.2⟩]
    · rw [recS_t hc]
      show upd (picS n fp fm a b k) k (nearC n fp fm k) i = _
      unfold upd
      by_cases e : i = k
      · rw [if_pos e, e, if_pos ⟨by omega, hc⟩]
      · rw [if_neg e, ih]
        by_cases e2 : i < k ∧ cellN a b i = true
        · rw [if_pos e2, if_pos ⟨by omega, e2.2⟩]
        · rw [if_neg e2, if_neg fun h => e2 ⟨by omega, h.2⟩]
theorem picS_c {n : Nat} {fp fm : Nat → Int} {a b : Int} {i : Nat} (hc : cellN a b i = true) : picS n fp fm a b 144 i = nearC n fp fm i := by
  rw [picS_at, if_pos ⟨(cellN_e.1 hc).1, hc⟩]
theorem picS_z {n : Nat} {fp fm : Nat → Int} {a b : Int} {i : Nat} (hc : cellN a b i = false) : picS n fp fm a b 144 i = 0 := by
  rw [picS_at, if_neg (by rw [hc]; simp)]
theorem nearC_in {n : Nat} (fp fm : Nat → Int) (i : Nat) (hn : 0 < n) : 1 ≤ nearC n fp fm i ∧ nearC n fp fm i ≤ n := by
  have := nearK_in (f := fp) (x := fm (i * 3)) (y := fm (i * 3 + 1)) (z := fm (i * 3 + 2)) hn
  unfold nearC
  omega
theorem picS_good {n : Nat} (fp fm : Nat → Int) {a b : Int} (hn : 0 < n ∧ n ≤ 15) : GoodQ a b (picS n fp fm a b 144) := by
  intro j
  cases hc : cellN a b j
  · rw [picS_z hc]; exact ⟨by omega, by omega, fun _ => rfl⟩
  · have := nearC_in fp fm j hn.1
    rw [picS_c hc]; exact ⟨by omega, by omega, fun h => by cases h⟩
theorem picS_has {n : Nat} (fp fm : Nat → Int) {a b : Int} (hn : 0 < n) : hasC n (picS n fp fm a b 144) = true := by
  refine hasC_t fun j _ => decide_eq_true ?_
  cases hc : cellN a b j
  · rw [picS_z hc]; omega
  · have := nearC_in fp fm j hn
    rw [picS_c hc]; omega
theorem far_pic {n : Nat} {fp fm : Nat → Int} {a b : Int} {i : Nat} (hc : cellN a b i = true) : farI fm (picS n fp fm a b 144) fp i = farN n fp fm i := by
  unfold farI
  rw [picS_c hc, far_sym]
  unfold farN nearC
  rw [nearK_at]
  unfold farE
  generalize (nearK fp (fm (i * 3)) (fm (i * 3 + 1)) (fm (i * 3 + 2)) n).1 = t
  rw [show ((t : Int) + 1).toNat - 1 = t by omega]
theorem cost_pic {n : Nat} {fp fm : Nat → Int} {a b : Int} (hn : 0 < n) (k : Nat) : costS fm (picS n fp fm a b 144) fp k = cosS n fp fm a b k := by
  induction k with
  | zero => rfl
  | succ k ih =>
    unfold cosS
    cases hc : cellN a b k
    · rw [costS_f (by rw [picS_z hc]; omega), recS_f hc]; exact ih
    · have := nearC_in fp fm k hn
      rw [costS_t (by rw [picS_c hc]; omega), recS_t hc, far_pic hc, ih]; rfl
structure PofE (a b : Int) (fm : Nat → Int) (n : Nat) (fp : Nat → Int) (Q : Nat → Int) : Prop where
  ask : askOk a b fm n fp = true
  at_ : pofA a b fm n fp = pic 144 a b Q
  code : pofC a b fm n fp = 0
  good : GoodQ a b Q
  cc : costC a b fm a b Q n fp = 0
  cv : costV a b fm a b Q n fp = cosS n fp fm a b 144
theorem pof_end {a b : Int} {fm : Nat → Int} {n : Nat} {fp : Nat → Int} (ha : 1 ≤ a ∧ a ≤ 12) (hb : 1 ≤ b ∧ b ≤ 12) (hi : okImg a b fm = true) (hp : okPal n fp = true) : PofE a b fm n fp (picS n fp fm a b 144) := by
  have hask : askOk a b fm n fp = true := by unfold askOk; rw [hi, hp]; rfl
  have hn := okPal_pos hp
  have hg := picS_good fp fm (a := a) (b := b) hn
  have hok := hg.ok ha hb
  have hh := picS_has fp fm (a := a) (b := b) hn.1
  have hv : hasV a b (picS n fp fm a b 144) n fp = 0 := by
    unfold hasV
    rw [hok, hp, hh]
    simp
  have hcc : costC a b fm a b (picS n fp fm a b 144) n fp = 0 := by
    unfold costC
    rw [if_neg (by rw [hi]; simp), if_neg (by rw [hv]; omega), if_pos ⟨rfl, rfl⟩, hv]
  exact ⟨hask, (pof_t hask).1, (pof_t hask).2, hg, hcc, by rw [costV_1 hcc, cost_pic hn.1]⟩
/-- moved tones -/
theorem samePal_self (n : Nat) (f : Nat → Int) : samePal n n f f = true := samePal_t fun j _ => by unfold alikePal; rw [eq3_t]; exact ⟨rfl, rfl, rfl⟩
theorem mvO_end {n : Nat} {fm : Nat → Int} {a b : Int} (hm : ∀ i, 0 ≤ fm i ∧ fm i ≤ 255) (r : Nat) : ∀ (m : Nat) (p : Nat → Int), okPal n p = true → (∀ i, 0 ≤ p i ∧ p i ≤ 255) → (mvO n fm a b r m p).1 = 0 →
    (mvO n fm a b r m p).2.1 ≤ m + r ∧ okPal n (mvO n fm a b r m p).2.2 = true ∧ (∀ i, 0 ≤ (mvO n fm a b r m p).2.2 i ∧ (mvO n fm a b r m p).2.2 i ≤ 255) ∧
    ((mvO n fm a b r m p).2.1 < m + r → okPal n (mvP n fm a b (mvO n fm a b r m p).2.2) = true ∧ samePal n n (mvP n fm a b (mvO n fm a b r m p).2.2) (mvO n fm a b r m p).2.2 = true) := by
  induction r with
  | zero => exact fun m p h1 h2 _ => ⟨by show m ≤ m + 0; omega, h1, h2, fun h => absurd h (by show ¬ m < m + 0; omega)⟩
  | succ r ih =>
    intro m p h1 h2 h3
    cases hc : okPal n (mvP n fm a b p)
    · rw [mvO_bad hc] at h3; exact absurd h3 (by decide)
    · cases hd : samePal n n (mvP n fm a b p) p
      · rw [mvO_next hc hd] at h3 ⊢
        have h4 := ih (m + 1) _ hc (mvP_b hm h2) h3
        rw [show m + 1 + r = m + (r + 1) by omega] at h4
        exact h4
      · rw [mvO_same hc hd]
        exact ⟨by show m + 1 ≤ _; omega, h1, h2, fun _ => ⟨hc, hd⟩⟩
theorem mvC_b {a b : Int} {fm : Nat → Int} {n : Nat} {fp : Nat → Int} {r : Int} (hask : askOk a b fm n fp = true) (hr : 0 ≤ r ∧ r ≤ 50) : mvC a b fm n fp r = (mvO n fm a b r.toNat 0 fp).1 := by
  unfold mvC
  rw [if_neg (by rw [hask]; simp), if_neg (by rw [inB_t.2 hr]; simp)]
theorem mvC_two {a b : Int} {fm : Nat → Int} {n : Nat} {fp : Nat → Int} {r : Int} (hask : askOk a b fm n fp = true) (hr : 0 ≤ r ∧ r ≤ 50) : mvC a b fm n fp r = 0 ∨ mvC a b fm n fp r = 4 := by
  rw [mvC_b hask hr]; exact mvO_c _ _ _
structure MvE (a b : Int) (fm : Nat → Int) (n : Nat) (fp : Nat → Int) (r : Int) (M : Nat) (P : Nat → Int) : Prop where
  made : mvM a b fm n fp r = M
  most : (M : Int) ≤ r
  many : mvN a b fm n fp r = n
  is : mvF a b fm n fp r = P
  pal : okPal n P = true
  byte : ∀ i, 0 ≤ P i ∧ P i ≤ 255
  c2 : (M : Int) < r → mvC a b fm n P 1 = 0
  m2 : (M : Int) < r → mvM a b fm n P 1 = 1
  n2 : (M : Int) < r → mvN a b fm n P 1 = n
  f2 : (M : Int) < r → mvF a b fm n P 1 = P
theorem mv_end {a b : Int} {fm : Nat → Int} {n : Nat} {fp : Nat → Int} {r : Int} (hm : ∀ i, 0 ≤ fm i ∧ fm i ≤ 255) (hp : ∀ i, 0 ≤ fp i ∧ fp i ≤ 255) (hask : askOk a b fm n fp = true) (hr : 0 ≤ r ∧ r ≤ 50) (h : mvC a b fm n fp r = 0) : ∃ M P, MvE a b fm n fp r M P := by
  have h0 := (mvC_b hask hr).symm.trans h
  obtain ⟨h1, h2, h3, h4⟩ := mvO_end hm r.toNat 0 fp (askOk_e hask).2 hp h0
  have hk : (((mvO n fm a b r.toNat 0 fp).2.1 : Nat) : Int) < r → mvC a b fm n (mvO n fm a b r.toNat 0 fp).2.2 1 = 0 ∧ mvO n fm a b 1 0 (mvO n fm a b r.toNat 0 fp).2.2 = (0, 1, (mvO n fm a b r.toNat 0 fp).2.2) := fun hlt => by
    obtain ⟨h5, h6⟩ := h4 (by omega)
    have h7 : mvO n fm a b 1 0 (mvO n fm a b r.toNat 0 fp).2.2 = (0, 1, (mvO n fm a b r.toNat 0 fp).2.2) := mvO_same h5 h6
    refine ⟨?_, h7⟩
    rw [mvC_b (by unfold askOk; rw [(askOk_e hask).1, h2]; rfl) ⟨by omega, by omega⟩, show (1 : Int).toNat = 1 from rfl, h7]
  refine ⟨(mvO n fm a b r.toNat 0 fp).2.1, (mvO n fm a b r.toNat 0 fp).2.2, ?_, by omega, if_pos h, rfl, h2, h3, fun hl => (hk hl).1, fun hl => ?_, fun hl => if_pos (hk hl).1, fun hl => ?_⟩
  · unfold mvM; rw [if_pos h]
  · unfold mvM; rw [if_pos (hk hl).1, show (1 : Int).toNat = 1 from rfl, (hk hl).2]; rfl
  · show (mvO n fm a b (1 : Int).toNat 0 (mvO n fm a b r.toNat 0 fp).2.2).2.2 = (mvO n fm a b r.toNat 0 fp).2.2
    rw [show (1 : Int).toNat = 1 from rfl, (hk hl).2]
/-- all tones -/
theorem tsP_place {M : List Tn} {x : Tn} (hM : M.Pairwise tl) (hx : x ∉ M) : ∀ m', m' ≤ M.length → ∃ t, t ≤ m' ∧ (∀ j, j < t → tl (M.getD j tn0) x) ∧ ∀ j, t ≤ j → j < m' → tl x (M.getD j tn0) := by
  intro m'
  induction m' with
  | zero => exact fun _ => ⟨0, by omega, fun j hj => by omega, fun j _ hj => by omega⟩
  | succ q ih =>
    intro hq
    by_cases e : tl x (M.getD q tn0)
    · obtain ⟨t, h1, h2, h3⟩ := ih (by omega)
      refine ⟨t, by omega, h2, fun j h4 h5 => ?_⟩
      by_cases e2 : j = q
      · rw [e2]; exact e
      · exact h3 j h4 (by omega)
    · have hlt : tl (M.getD q tn0) x := by
        by_cases e2 : tl (M.getD q tn0) x
        · exact e2
        · exact absurd (getT_mem (M := M) (show q < M.length by omega)) (by rw [tl_tri e2 e]; exact hx)
      refine ⟨q + 1, by omega, fun j hj => ?_, fun j h4 h5 => by omega⟩
      by_cases e2 : j = q
      · rw [e2]; exact hlt
      · exact tl_trans (pw_getT.1 hM j q (by omega) (by omega)) hlt
theorem tsP_all (p : Nat → Bool) (T : Nat → Tn) (k : Nat) : ∃ M, tsP p T k M := by
  induction k with
  | zero => exact ⟨[], tsP_0⟩
  | succ k ih =>
    obtain ⟨M, hM⟩ := ih
    cases hp : p k
    · exact ⟨M, tsP_f hp hM⟩
    · by_cases hm : T k ∈ M
      · exact ⟨M, tsP_old hp hm hM⟩
      · obtain ⟨t, h1, h2, h3⟩ := tsP_place hM.1 hm M.length (Nat.le_refl _)
        refine ⟨_, tsP_ins hp h1 h2 ?_ hM⟩
        by_cases e : t = M.length
        · exact Or.inl e
        · exact Or.inr (h3 t (by omega) (by omega))
theorem tin_is (a b : Int) (fm : Nat → Int) : tsP (cellN a b) (tnF fm) 144 (tinL a b fm) := Classical.epsilon_spec (tsP_all _ _ _)
theorem tinC_two {a b : Int} {fm : Nat → Int} (hi : okImg a b fm = true) : tinC a b fm = 0 ∨ tinC a b fm = 3 := by
  unfold tinC
  rw [if_neg (by rw [hi]; simp)]
  split
  · exact Or.inr rfl
  · exact Or.inl rfl
theorem tn_eq {x y : Tn} (h0 : n0 x = n0 y) (h1 : n1 x = n1 y) (h2 : n2 x = n2 y) : x = y := by
  have hb : brT x = brT y := by unfold brT; rw [h0, h1, h2]
  refine tl_tri ?_ ?_ <;> (unfold tl; omega)
theorem tin_end {a b : Int} {fm : Nat → Int} (ha : 1 ≤ a ∧ a ≤ 12) (hb : 1 ≤ b ∧ b ≤ 12) (hfm : ∀ i, 0 ≤ fm i ∧ fm i ≤ 255) (hi : okImg a b fm = true) (h : tinC a b fm = 0) :
    okPal (tinN a b fm) (tinF a b fm) = true ∧ cosS (tinN a b fm) (tinF a b fm) fm a b 144 = 0 := by
  have hts := tin_is a b fm
  have hN : tinN a b fm = (tinL a b fm).length := if_pos h
  have h15 : (tinL a b fm).length ≤ 15 := by
    unfold tinC at h
    rw [if_neg (by rw [hi]; simp)] at h
    by_cases e : 15 < (tinL a b fm).length
    · rw [if_pos e] at h; exact absurd h (by decide)
    · omega
  have hmem : ∀ i, cellN a b i = true → ∃ j, j < (tinL a b fm).length ∧ (tinL a b fm).getD j tn0 = tnF fm i := fun i hc => mem_getT ((hts.2 _).2 ⟨i, (cellN_e.1 hc).1, hc, rfl⟩)
  have h0 : cellN a b 0 = true := by rw [cellN_e]; omega
  have hpos : 0 < (tinL a b fm).length := by obtain ⟨j, hj, _⟩ := hmem 0 h0; omega
  rw [hN]
  unfold tinF
  refine ⟨okPal_mk ⟨by omega, h15⟩ fun i j hj hi2 => ?_, ?_⟩
  · cases hc : alikePal (flF (tinL a b fm)) (flF (tinL a b fm)) i j
    · rfl
    · exfalso
      unfold alikePal at hc
      rw [eq3_t, flF_0, flF_1, flF_2, flF_0, flF_1, flF_2] at hc
      have h1 := pw_getT.1 hts.1 j i hj hi2
      rw [tn_eq hc.1 hc.2.1 hc.2.2] at h1
      exact tl_irr _ h1
  · have hz : ∀ i, cellN a b i = true → farN (tinL a b fm).length (flF (tinL a b fm)) fm i = 0 := fun i hc => by
      obtain ⟨j, hj, e⟩ := hmem i hc
      have h1 := nearK_min (f := flF (tinL a b fm)) (x := fm (i * 3)) (y := fm (i * 3 + 1)) (z := fm (i * 3 + 2)) hj
      have h2 := farN_b (fs := flF (tinL a b fm)) (fm := fm) (fun j => flF_b _ j) hfm (tinL a b fm).length i
      unfold farE at h1
      rw [flF_0, flF_1, flF_2, e, tnF_0 hfm, tnF_1 hfm, tnF_2 hfm, far_self] at h1
      unfold farN at h2 ⊢
      omega
    have hk : ∀ k, k ≤ 144 → cosS (tinL a b fm).length (flF (tinL a b fm)) fm a b k = 0 := by
      intro k
      induction k with
      | zero => exact fun _ => rfl
      | succ k ih =>
        intro hk
        unfold cosS at ih ⊢
        cases hc : cellN a b k
        · rw [recS_f hc]; exact ih (by omega)
        · rw [recS_t hc, ih (by omega)]
          show 0 + _ = (0 : Int)
          rw [hz k hc]; rfl
    exact hk 144 (Nat.le_refl _)
theorem mean_three {a b : Int} {fm : Nat → Int} {z : Nat → Int} (ha : 1 ≤ a ∧ a ≤ 12) (hb : 1 ≤ b ∧ b ≤ 12) (hi : okImg a b fm = true) (h0 : z 0 = 0) (h1 : z 1 = 0) (h2 : z 2 = a - 1) : meanC a b fm 3 z = 0 := by
  have hc : cellsOk a b 3 z = true := cellsOk_t fun j hj => by
    have : j = 0 ∨ j = 1 ∨ j = 2 := by omega
    unfold cellB
    rcases this with rfl | rfl | rfl
    · rw [h0]; simp [inB_t]; omega
    · rw [h1]; simp [inB_t]; omega
    · rw [h2]; simp [inB_t]; omega
  unfold meanC
  rw [if_neg (by rw [hi]; simp), if_neg (by rw [hc]; simp), if_neg (by omega)]
end Go.Proofs.Ytpphckfalgapdaa
/- Tones that are the best: what the reference returns, walked; no condition. -/
set_option linter.unusedVariables false
namespace Go.Proofs.Ytpphckfalgapdaa
open Go.BigFrame
open Go.RowKit Go.Arr
theorem lex_at {m i : Nat} {A B : Nat → Int} (hi : i < m) (h : ∀ j, j < i → A j = B j) (hne : A i ≠ B i) : lexP m A B ↔ A i < B i := by
  constructor
  · rintro ⟨q, h1, h2, h3⟩
    by_cases e : q < i
    · have := h q e; omega
    · by_cases e2 : i < q
      · exact absurd (h2 i e2) hne
      · have : q = i := by omega
        subst this; exact h3
  · exact fun h3 => ⟨i, hi, h, h3⟩
theorem lex_no {m : Nat} {A B : Nat → Int} (h : ∀ j, j < m → A j = B j) : ¬ lexP m A B := by
  rintro ⟨q, h1, h2, h3⟩
  have := h q h1
  omega
theorem eq_succ {A B : Nat → Int} {i : Nat} (h : ∀ j, j < i → A j = B j) (h2 : A i = B i) : ∀ j, j < i + 1 → A j = B j := fun j hj => by
  by_cases e : j = i
  · subst e; exact h2
  · exact h j (by omega)
theorem bit_e (s i : Nat) : (((s : Int) / 2 ^ i).tmod 2 == 1) = decide (s / 2 ^ i % 2 = 1) := by
  have e : ((s : Int) / 2 ^ i) = ((s / 2 ^ i : Nat) : Int) := by rw [Int.natCast_ediv, Int.natCast_pow]; rfl
  rw [e]
  generalize s / 2 ^ i = q
  rw [Int.tmod_eq_emod_of_nonneg (by omega)]
  by_cases h : q % 2 = 1
  · rw [decide_eq_true h]; simp; omega
  · rw [decide_eq_false h]; simp; omega
set_option maxHeartbeats 2000000 in
set_option maxRecDepth 100000 in
theorem less_any (la lb : Option Addr) (m ca cb : Nat) (A B : Nat → Int) (hm : m ≤ 1000) (W : World) (hs : Sl W (.slice la m ca) m 1 .i64 A) (ht : Sl W (.slice lb m cb) m 1 .i64 B) :
    Calls Try.prog 33 #[.slice la m ca, .slice lb m cb] W fun e w' => ∃ r, e = .returned (.bool r) ∧ (r = true ↔ lexP m A B) ∧ New W w' := by
  go_enter Try.func33, Try.ntmps33
  go_wp2_with (fail)
  go_loopw [5] (fun x wr => ∃ i : Nat, i ≤ m ∧ x = .int .i64 (i : Nat) ∧ Hid (∀ j, j < i → A j = B j) ∧ New W wr) (fun x _ => m - (intOf x).toNat)
  case atStart => exact ⟨0, by omega, rfl, fun j hj => absurd hj (by omega), New.refl _⟩
  case round =>
    obtain ⟨i, hi, rfl, hal, hnw⟩ := hrel
    by_cases hlt : i < m
    · obtain ⟨g1, o1, cur1, t1, f1, rfl, og1, hel1⟩ := elInts (hs.new hnw) (by omega)
      obtain ⟨g2, o2, cur2, t2, f2, rfl, og2, hel2⟩ := elInts (ht.new hnw) (by omega)
      obtain ⟨l1, e1⟩ := hel1 i hlt
      obtain ⟨l2, e2⟩ := hel2 i hlt
      have hz1 := obj_lt og1
      have hz2 := obj_lt og2
      clear hel1 hel2 hs ht
      by_cases he : A i = B i
      · have hal' := hide (eq_succ hal.out he)
        have hd : (A i != B i) = false := by simp [he]
        have hd2 : (B i != B i) = false := by simp
        replace he := hide he
        go_wp2_with (fail)
        go_quiet (fail)
        go_wp2_with (fail)
        go_roundw
        case rel => exact ⟨i + 1, by omega, by go_num, hal', hnw.drewN _⟩
        case measure => simp [intOf]; omega
      · have hx := hide (lex_at hlt hal.out he)
        have hd : (A i != B i) = true := by simp [he]
        replace he := hide he
        go_wp2_with (fail)
        go_quiet (fail)
        go_wp2_with (fail)
        go_quiet (fail)
        go_wp2_with (fail)
        go_ret
        exact ⟨_, rfl, by rw [hx.out, decide_eq_true_iff], (hnw.drewN _).drewN _⟩
    · have hie : i = m := by omega
      have hx := hide (lex_no (m := m) (A := A) (B := B) (by rw [← hie]; exact hal.out))
      clear hie hal
      go_wp2_with (fail)
      go_ret
      exact ⟨_, rfl, ⟨fun h => absurd h (by simp), fun h => absurd h hx.out⟩, hnw⟩
set_option maxHeartbeats 8000000 in
set_option maxRecDepth 100000 in
theorem best_spec (a b : Int) (fm : Nat → Int) (ha : -128 ≤ a ∧ a ≤ 127) (hb : -128 ≤ b ∧ b ≤ 127) (hfm : ∀ i, 0 ≤ fm i ∧ fm i ≤ 255) (ad : Option Addr) (n cp : Nat) (fp : Nat → Int) (hfp : ∀ i, 0 ≤ fp i ∧ fp i ≤ 255) (hn : n ≤ 1048576) (count : Int) (W : World) (hs : Sl W (.slice ad n cp) n 3 .u8 fp) :
    Calls Try.prog 9 #[.agg (pic 432 a b fm), .slice ad n cp, .int .i64 count] W fun e w' => ∃ v, e = .returned (.tuple #[v, .int .i64 (btV a b fm n fp count), .int .i64 (btC a b fm n fp count)]) ∧ Row w' W.heap.size v (btN a b fm n fp count) (btL a b fm n fp count) ∧ New W w' := by
  go_enter Try.func9, Try.ntmps9
  go_wp2_with (fail)
  generalize hw0 : W.alloc (Obj.cells (pic 432 a b fm) 29) = w0
  have b1 : obj w0 W.heap.size = some (.cells (pic 432 a b fm) 29) := by subst hw0; go_simp
  have hn0 : New W w0 := by subst hw0; exact (New.refl W).alloc _
  have hs0 := hs.new hn0
  clear hw0 hs
  refine (l02Counted_any _ 29 a b fm ha hb ad n cp fp hn count _ b1 hs0).mono ?_
  rintro e w1 ⟨rfl, hn1⟩
  have c1 := (hn1.objs _ (obj_lt b1)).trans b1
  have hN1 := hn0.trans hn1
  have hs1 := hs0.new hn1
  clear b1 hn0 hn1 hs0
  by_cases hcc : cntC a b fm n fp count = 0
  rotate_left
  · have hC := hide hcc
    generalize hk : cntC a b fm n fp count = C at *
    have hk2 := hide hk
    have mC : (C != 0) = true := by simp [hcc]
    have mC2 : (C == 0) = false := by simp [hcc]
    have hB := hide (btC_k hk hcc)
    have hWl := hN1.le
    clear hk hcc
    go_wp2_with (fail)
    go_ret3
    exact ⟨_, by rw [btV_z hB.out hC.out, hB.out]; rfl, by rw [btN_z hB.out hC.out]; exact row_empty2 (obj_alloc_at _ _ _ rfl) (by omega), hN1.alloc _⟩
  have hC0 := hide hcc
  obtain ⟨hok, hc1, hc2⟩ := cntC_le hcc
  have hp := okPal_pos (askOk_e hok).2
  obtain ⟨K, rfl⟩ : ∃ K : Nat, count = K := ⟨count.toNat, by omega⟩
  have hWl := hN1.le
  rw [hcc]
  clear hcc hok
  by_cases hbig : 10 < n
  · have hC := hide (btC_3 hC0.out hbig)
    go_wp2_with (fail)
    go_ret3
    exact ⟨_, by rw [btV_z hC.out (by omega), hC.out]; rfl, by rw [btN_z hC.out (by omega)]; exact row_empty2 (obj_alloc_at _ _ _ rfl) (by omega), hN1.alloc _⟩
  have hC := hide (btC_0 hC0.out hbig)
  obtain ⟨C, hCe⟩ : ∃ C : (Nat → Int) → Int, Hid (C = fun L => cosS K (subP fp L) fm a b 144) := ⟨_, rfl⟩
  have hCb : ∀ L, 0 ≤ C L ∧ C L ≤ 144000000 := fun L => by rw [hCe.out]; show 0 ≤ cosS K (subP fp L) fm a b 144 ∧ cosS K (subP fp L) fm a b 144 ≤ 144000000; have := cosS_b (fs := subP fp L) (fun i => hfp _) hfm K a b 144; omega
  have hn10 : n ≤ 10 := by omega
  clear hbig
  have r1 := obj_lt c1
  obtain ⟨N, hN⟩ : ∃ N : Nat, Hid (2 ^ n = N) := ⟨_, rfl⟩
  have hNb : 1 ≤ N ∧ N ≤ 1024 := by rw [← hN.out]; exact ⟨Nat.one_le_two_pow, Nat.pow_le_pow_right (by omega) (show n ≤ 10 by omega)⟩
  have hsh : wrap64 ((2 : Int) ^ n) = (N : Int) := by
    have e : ((2 : Int) ^ n) = (N : Int) := by rw [← hN.out, Int.natCast_pow]; rfl
    rw [e]
    exact IntWalk.wrap64_in _ (by omega)
  go_wp2_with (fail)
  go_loopw [12, 10, 11] (fun x v l wr => ∃ (s k : Nat) (L : Nat → Int) (c : Int), s ≤ N ∧ x = .int .i64 (s : Nat) ∧ l = .int .i64 c ∧ (0 ≤ c ∧ c ≤ 144000000) ∧ Hid (BI C K n s k L c) ∧ (k = 0 ∨ k = K) ∧ Row wr w1.heap.size v k L ∧ New w1 wr ∧ w1.heap.size ≤ wr.heap.size) (fun x _ _ _ => N - (intOf x).toNat)
  case atStart => exact ⟨0, 0, fun _ => 0, 0, by omega, rfl, rfl, by omega, BI_0, Or.inl rfl, row_empty2 (obj_alloc_at _ _ _ rfl) (Nat.le_refl _), (New.refl _).alloc _, by simp⟩
  case round =>
    obtain ⟨s, k, L, c, hs', rfl, rfl, hcb, hI, hk, hrow, hnw, hlw⟩ := hrel
    by_cases hlt : s < N
    · obtain ⟨wR, hwR⟩ : ∃ x, x = wr := ⟨_, rfl⟩
      subst hwR
      go_wp2_with (fail)
      try simp only [hsh]
      try simp only [show decide ((s : Int) < (N : Int)) = true from decide_eq_true (by omega)]
      go_loopw [14, 13] (fun x v wq => ∃ i : Nat, i ≤ n ∧ x = .int .i64 (i : Nat) ∧ Row wq wR.heap.size v (lsT s i).1 (lsT s i).2 ∧ New wR wq ∧ wR.heap.size ≤ wq.heap.size) (fun x _ _ => n - (intOf x).toNat)
      case atStart => exact ⟨0, by omega, rfl, row_empty2 (obj_alloc_at _ _ _ rfl) (Nat.le_refl _), (New.refl _).alloc _, by simp⟩
      case round =>
        obtain ⟨i, hi, rfl, hr, hnq, hlq⟩ := hrel
        by_cases hli : i < n
        · obtain ⟨x5, y5, rfl, _⟩ := hr.reads
          have hlb := lsT_le s i
          by_cases hbit : s / 2 ^ i % 2 = 1
          · have hd : (((s : Int) / 2 ^ i).tmod 2 == 1) = true := by rw [bit_e, decide_eq_true hbit]
            have hq := hide (lsT_t hbit)
            have hbk := hide hr.block
            generalize lsT s i = P at hr hlb hq hbk ⊢
            obtain ⟨k1, L1⟩ := P
            dsimp only at hr hlb hq hbk ⊢
            go_wp2_with (at_builtin; refine wpList_app slInts rfl _ _ rfl wR.heap.size _ _ _ rfl (hr.new ((New.refl _).alloc _)) ⟨wr.heap.size, 0, none⟩ 1 1 [.int .i64 ((i : Int) + 1)] rfl rfl (news_new _ _ _ _ _ rfl) (by simp [Value.oneCell']) (by omega) (by unfold maxLen; omega) (by omega) (by simp; omega) ?_)
            intro g1 cap1 w3 hown1 hg1 hat1 hlt1
            have hr1 := row_app2 hown1
            have hn1 : New wR w3 := grown_new (hnq.alloc _) hg1 fun b hb => (hbk.out b hb).1
            have hz1 := hn1.le
            clear hown1 hg1 hat1 hbk hr
            go_wp2_with (fail)
            go_roundw
            case rel => exact ⟨i + 1, by omega, by go_num, by rw [hq.out]; exact hr1, hn1, hz1⟩
            case measure => simp [intOf]; omega
          · have hd : (((s : Int) / 2 ^ i).tmod 2 == 1) = false := by rw [bit_e, decide_eq_false hbit]
            have hq := hide (lsT_f hbit)
            go_wp2_with (fail)
            go_roundw
            case rel => exact ⟨i + 1, by omega, by go_num, by rw [hq.out]; exact hr, hnq, hlq⟩
            case measure => simp [intOf]; omega
        · have hie : i = n := by omega
          rw [hie] at hr
          have hla := lsT_asc s n
          have hlb := lsT_le s n
          obtain ⟨x5, y5, rfl, _⟩ := hr.reads
          have hSk := hide (fun (h : (lsT s n).1 ≠ K) => BI_skip hI.out h)
          have hTk := hide (fun (h : (lsT s n).1 = K) (hb : k = 0 ∨ C (lsT s n).2 < c ∨ (C (lsT s n).2 = c ∧ lexP K (lsT s n).2 L)) => BI_take hI.out h hb (by omega))
          have hKk := hide (fun (h : (lsT s n).1 = K) (h0 : k ≠ 0) (hb : ¬ C (lsT s n).2 < c) (hb2 : C (lsT s n).2 = c → ¬ lexP K (lsT s n).2 L) => BI_keep hI.out h h0 hb hb2)
          generalize lsT s n = P at hr hla hlb hSk hTk hKk ⊢
          obtain ⟨k1, L1⟩ := P
          dsimp only at hr hla hlb hSk hTk hKk ⊢
          have hrow2 := hrow.new hnq
          have hnw2 := hnw.trans hnq
          clear hie hrow hnw hI
          by_cases hkK : k1 = K
          rotate_left
          · have hI2 := hide (hSk.out hkK)
            have hd : ((k1 : Int) != (K : Int)) = true := by simp; omega
            clear hSk hTk hKk
            go_wp2_with (fail)
            go_roundw
            case rel => exact ⟨s + 1, k, L, c, by omega, by go_num, rfl, hcb, hI2, hk, hrow2, hnw2, by omega⟩
            case measure => simp [intOf]; omega
          · have hd : ((k1 : Int) != (K : Int)) = false := by simp; omega
            have hr2 : Row wr wR.heap.size (.slice x5 K y5) K L1 := by rw [← hkK]; exact hr
            have hkK' := hide hkK
            have d3 := (hnw2.objs _ r1).trans c1
            have hs3 := hs1.new hnw2
            have hlL : ∀ j, j < K → 1 ≤ L1 j ∧ L1 j ≤ n := fun j hj => hla.1 j (by omega)
            clear hSk hr hla
            rw [hkK]
            replace hd : ((K : Int) != (K : Int)) = false := by simp
            clear hkK
            go_wp2_with (fail)
            refine (l02Cost_any _ 29 a b fm ha hb hfm ad n cp fp hfp (by omega) x5 K y5 L1 (by omega) hlL _ d3 hs3 hr2.sl).mono ?_
            rintro e w6 ⟨rfl, hn6⟩
            rw [show cosS K (subP fp L1) fm a b 144 = C L1 by rw [hCe.out]]
            have hcl := hCb L1
            have hnw6 := hnw2.trans hn6
            have hz6 := hn6.le
            have hr6 := hr2.new hn6
            have hr7 : Row w6 w1.heap.size (.slice x5 K y5) K L1 := hr6.lower (by omega)
            have hrow6 := hrow2.new hn6
            obtain ⟨x8, y8, rfl, _⟩ := hrow6.reads
            generalize C L1 = cl at hcl hTk hKk ⊢
            clear hr2 hrow2 d3 hs3
            by_cases hk0 : k = 0
            · have hI2 := hide (hTk.out hkK'.out (Or.inl hk0))
              have m0 : ((k : Int) == 0) = true := by simp [hk0]
              replace hk0 := hide hk0
              clear hTk hKk
              go_wp2_with (fail)
              go_roundw
              case rel => exact ⟨s + 1, K, L1, cl, by omega, by go_num, rfl, hcl, hI2, Or.inr rfl, hr7, hnw6, by omega⟩
              case measure => simp [intOf]; omega
            · have m0 : ((k : Int) == 0) = false := by simp [hk0]
              have hkk : k = K := by omega
              by_cases h1 : cl < c
              · have hI2 := hide (hTk.out hkK'.out (Or.inr (Or.inl h1)))
                clear hTk hKk
                go_wp2_with (fail)
                go_roundw
                case rel => exact ⟨s + 1, K, L1, cl, by omega, by go_num, rfl, hcl, hI2, Or.inr rfl, hr7, hnw6, by omega⟩
                case measure => simp [intOf]; omega
              · by_cases h2 : cl = c
                · have m1 : (cl == c) = true := by simp [h2]
                  subst hkk
                  have h2' := hide h2
                  have hb8 := hrow6.sl
                  clear h2
                  go_wp2_with (fail)
                  refine (less_any x5 x8 k y5 y8 L1 L (by omega) _ hr6.sl hb8).mono ?_
                  rintro e w8 ⟨r, rfl, hrl, hn8⟩
                  have hnw8 := hnw6.trans hn8
                  have hz8 := hn8.le
                  cases r
                  · have hI2 := hide (hKk.out hkK'.out hk0 (by omega) (fun _ h => absurd (hrl.2 h) (by simp)))
                    have hrow8 := hrow6.new hn8
                    clear hTk hKk hrl
                    go_wp2_with (fail)
                    go_roundw
                    case rel => exact ⟨s + 1, k, L, c, by omega, by go_num, rfl, hcb, hI2, Or.inr rfl, hrow8, hnw8, by omega⟩
                    case measure => simp [intOf]; omega
                  · have hI2 := hide (hTk.out hkK'.out (Or.inr (Or.inr ⟨h2'.out, hrl.1 rfl⟩)))
                    have hr8 := hr7.new hn8
                    clear hTk hKk hrl
                    go_wp2_with (fail)
                    go_roundw
                    case rel => exact ⟨s + 1, k, L1, cl, by omega, by go_num, rfl, hcl, hI2, Or.inr rfl, hr8, hnw8, by omega⟩
                    case measure => simp [intOf]; omega
                · have hI2 := hide (hKk.out hkK'.out hk0 (by omega) (fun h => absurd h h2))
                  have m1 : (cl == c) = false := by simp [h2]
                  clear hTk hKk hkk
                  go_wp2_with (fail)
                  go_roundw
                  case rel => exact ⟨s + 1, k, L, c, by omega, by go_num, rfl, hcb, hI2, hk, hrow6, hnw6, by omega⟩
                  case measure => simp [intOf]; omega
    · have hse : s = N := by omega
      have hI2 := hI.out
      rw [hse, ← hN.out] at hI2
      obtain ⟨e0, e1, e2⟩ := BI_end hI2 (by omega)
      have hV := hide (btV_s hC.out hCe.out)
      have hNn := hide (btN_s hC.out)
      have hL := hide (btL_s (n := n) hCe.out)
      have e1 := hide e1
      have e2 := hide e2
      have hrow7 := hrow.lower (b := W.heap.size) (by omega)
      rw [e0] at hrow7
      clear hI hI2 hse hrow e0 hk
      go_wp2_with (fail)
      go_ret3
      exact ⟨_, by rw [hV.out, hC.out, ← e2.out]; rfl, by rw [hNn.out, hL.out, ← e1.out]; exact hrow7, hN1.trans hnw⟩
end Go.Proofs.Ytpphckfalgapdaa
