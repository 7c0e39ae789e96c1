/- The great law on nearest tones: rough pictures, images of pictures, in plain words; no condition. -/
import Derived.Test.YtphjhegaplochaaGreatDoorU12
import Derived.Test.YtphjhegaplochaaGreatDoorU9
import Derived.Test.YtphjhegaplochaaGreatDoorU13
import Derived.Test.YtphjhegaplochaaGreatDoorU14
set_option linter.unusedVariables false
namespace Go.Proofs.YtphjhegaplochaaGreatDoor
open Go.BigFrame
open Go.RowKit Go.Arr
section
variable {a b : Int} {fm : Nat → Int} {n : Nat} {fp : Nat → Int}
theorem spD_at (hn : 0 < n) (k : Nat) : ∀ i, (¬ (i < k ∧ cellN a b i = true) → (spD n a b fm fp k).2 i = 0) ∧ (i < k → cellN a b i = true → 1 ≤ (spD n a b fm fp k).2 i ∧ (spD n a b fm fp k).2 i ≤ n) := by
  induction k with
  | zero => exact fun i => ⟨fun _ => rfl, fun h => absurd h (by omega)⟩
  | succ k ih =>
    intro i
    unfold spD at ih ⊢
    cases hc : cellN a b k
    · rw [recS_f hc]
      refine ⟨fun h => (ih i).1 fun h2 => h ⟨by omega, h2.2⟩, fun h1 h2 => (ih i).2 ?_ h2⟩
      by_cases e : i = k
      · rw [e, hc] at h2; cases h2
      · omega
    · rw [recS_t hc]
      have hlt := nearK_in (f := fp) (x := clD ((recS (stD n a b fp) (fm, fun _ => 0) (cellN a b) k).1 (k * 3))) (y := clD ((recS (stD n a b fp) (fm, fun _ => 0) (cellN a b) k).1 (k * 3 + 1))) (z := clD ((recS (stD n a b fp) (fm, fun _ => 0) (cellN a b) k).1 (k * 3 + 2))) hn
      show (¬ (i < k + 1 ∧ cellN a b i = true) → upd _ k _ i = 0) ∧ (i < k + 1 → cellN a b i = true → 1 ≤ upd _ k _ i ∧ upd _ k _ i ≤ n)
      unfold upd
      by_cases e : i = k
      · rw [if_pos e, e]
        refine ⟨fun h => absurd ⟨by omega, hc⟩ h, fun _ _ => ?_⟩
        unfold nrD
        omega
      · rw [if_neg e]
        exact ⟨fun h => (ih i).1 fun h2 => h ⟨by omega, h2.2⟩, fun h1 h2 => (ih i).2 (by omega) h2⟩
structure NnRough (a b : Int) (fm : Nat → Int) (n : Nat) (fp Q R : Nat → Int) (V U : Int) : Prop where
  code : sprC a b fm n fp = 0
  pict : sprA a b fm n fp = pic 144 a b R
  good : GoodQ a b R
  cell : ∀ i, cellN a b i = true → 1 ≤ R i ∧ R i ≤ n
  cc : costC a b fm a b R n fp = 0
  cv : costV a b fm a b R n fp = U
  qc : costC a b fm a b Q n fp = 0
  qv : costV a b fm a b Q n fp = V
  less : V ≤ U
theorem cost_good (ha : 1 ≤ a ∧ a ≤ 12) (hb : 1 ≤ b ∧ b ≤ 12) (hi : okImg a b fm = true) (hp : okPal n fp = true) {R : Nat → Int} (hg : GoodQ a b R) (hR : ∀ i, R i ≤ n) : hasV a b R n fp = 0 ∧ costC a b fm a b R n fp = 0 ∧ costV a b fm a b R n fp = costS fm R fp 144 := by
  have hv : hasV a b R n fp = 0 := by
    unfold hasV
    rw [hg.ok ha hb, hp, hasC_t fun j _ => decide_eq_true (hR j)]
    simp
  have hc : costC a b fm a b R n fp = 0 := by
    unfold costC
    rw [if_neg (by rw [hi]; simp), if_neg (by rw [hv]; omega), if_pos ⟨rfl, rfl⟩, hv]
  exact ⟨hv, hc, costV_1 hc⟩
theorem picS_le (hn : 0 < n) (i : Nat) : picS n fp fm a b 144 i ≤ n := by
  cases hc : cellN a b i
  · rw [picS_z hc]; omega
  · rw [picS_c hc]; exact (nearC_in fp fm i hn).2
theorem nn_rough (ha : 1 ≤ a ∧ a ≤ 12) (hb : 1 ≤ b ∧ b ≤ 12) (hi : okImg a b fm = true) (hp : okPal n fp = true) : ∃ R V U, NnRough a b fm n fp (picS n fp fm a b 144) R V U := by
  have hn := okPal_pos hp
  have hask : askOk a b fm n fp = true := by unfold askOk; rw [hi, hp]; rfl
  have hat := spD_at (a := a) (b := b) (fm := fm) (fp := fp) hn.1 144
  have hz : ∀ i, cellN a b i = false → (spD n a b fm fp 144).2 i = 0 := fun i hc => (hat i).1 fun h => by rw [hc] at h; cases h.2
  have hcl : ∀ i, cellN a b i = true → 1 ≤ (spD n a b fm fp 144).2 i ∧ (spD n a b fm fp 144).2 i ≤ n := fun i hc => (hat i).2 (cellN_e.1 hc).1 hc
  have hg : GoodQ a b (spD n a b fm fp 144).2 := fun j => by
    cases hc : cellN a b j
    · rw [hz j hc]; exact ⟨by omega, by omega, fun _ => rfl⟩
    · have := hcl j hc; exact ⟨by omega, by omega, fun h => by cases h⟩
  have hle : ∀ i, (spD n a b fm fp 144).2 i ≤ n := fun i => by
    cases hc : cellN a b i
    · rw [hz i hc]; omega
    · exact (hcl i hc).2
  obtain ⟨_, h2, h3⟩ := cost_good ha hb hi hp hg hle
  obtain ⟨_, h5, h6⟩ := cost_good ha hb hi hp (picS_good fp fm (a := a) (b := b) hn) (picS_le hn.1)
  exact ⟨_, _, _, if_pos hask, if_pos hask, hg, hcl, h2, h3, h5, h6, cost_least hn.1 hcl hz 144⟩
/-- one cell -/
theorem sq_zero {x : Int} (h : x * x = 0) : x = 0 := by
  rcases Int.mul_eq_zero.1 h with h | h <;> exact h
theorem far_zero {a b c d e f : Int} : far a b c d e f = 0 ↔ a = d ∧ b = e ∧ c = f := by
  unfold far
  have h1 := mul_self_nonneg' (a - d)
  have h2 := mul_self_nonneg' (b - e)
  have h3 := mul_self_nonneg' (c - f)
  rw [Int.mul_assoc 3, Int.mul_assoc 6]
  constructor
  · intro h
    have g1 := sq_zero (x := a - d) (by omega)
    have g2 := sq_zero (x := b - e) (by omega)
    have g3 := sq_zero (x := c - f) (by omega)
    omega
  · rintro ⟨rfl, rfl, rfl⟩
    simp
theorem far_b0 {a b c d e f : Int} : 0 ≤ far a b c d e f := by
  unfold far
  have h1 := mul_self_nonneg' (a - d)
  have h2 := mul_self_nonneg' (b - e)
  have h3 := mul_self_nonneg' (c - f)
  rw [Int.mul_assoc 3, Int.mul_assoc 6]
  omega
/-- images of pictures -/
theorem imS_at {f : Nat → Int} (k : Nat) : ∀ i, i < k → cellN a b i = true → 0 < f i → imS f fp 0 0 0 a b k (i * 3) = fp (((f i).toNat - 1) * 3) ∧ imS f fp 0 0 0 a b k (i * 3 + 1) = fp (((f i).toNat - 1) * 3 + 1) ∧ imS f fp 0 0 0 a b k (i * 3 + 2) = fp (((f i).toNat - 1) * 3 + 2) := by
  induction k with
  | zero => intro i h; omega
  | succ k ih =>
    intro i hik hc hf
    unfold imS at ih ⊢
    have far3 : ∀ (q : Nat → Int) (x y z : Int), i ≠ k → put3 q k x y z (i * 3) = q (i * 3) ∧ put3 q k x y z (i * 3 + 1) = q (i * 3 + 1) ∧ put3 q k x y z (i * 3 + 2) = q (i * 3 + 2) := fun q x y z e => by
      unfold put3
      refine ⟨?_, ?_, ?_⟩ <;> rw [if_neg (by omega), if_neg (by omega), if_neg (by omega)]
    cases hk : cellN a b k
    · rw [recS_f hk]
      refine ih i ?_ hc hf
      by_cases e : i = k
      · rw [e, hk] at hc; cases hc
      · omega
    · rw [recS_t hk]
      by_cases e : i = k
      · subst e
        unfold imStep
        rw [if_pos hf]
        unfold put3
        refine ⟨by rw [if_pos rfl], by rw [if_neg (by omega), if_pos rfl], by rw [if_neg (by omega), if_neg (by omega), if_pos rfl]⟩
      · have hi := ih i (by omega) hc hf
        generalize recS (imStep f fp 0 0 0) (fun _ => 0) (cellN a b) k = q0 at hi ⊢
        unfold imStep
        split
        · obtain ⟨g0, g1, g2⟩ := far3 q0 (fp (((f k).toNat - 1) * 3)) (fp (((f k).toNat - 1) * 3 + 1)) (fp (((f k).toNat - 1) * 3 + 2)) e
          rw [g0, g1, g2]; exact hi
        · obtain ⟨g0, g1, g2⟩ := far3 q0 0 0 0 e
          rw [g0, g1, g2]; exact hi
theorem imS_good {f : Nat → Int} (hfp : ∀ i, 0 ≤ fp i ∧ fp i ≤ 255) (k : Nat) : GoodI a b (imS f fp 0 0 0 a b k) := by
  induction k with
  | zero => exact ⟨fun j => ⟨Int.le_refl 0, by show (0 : Int) ≤ 255; omega⟩, fun _ _ => ⟨rfl, rfl, rfl⟩⟩
  | succ k ih =>
    unfold imS at ih ⊢
    cases hk : cellN a b k
    · rw [recS_f hk]; exact ih
    · rw [recS_t hk]
      generalize recS (imStep f fp 0 0 0) (fun _ => 0) (cellN a b) k = q0 at ih ⊢
      unfold imStep
      split
      · exact ih.put hk (hfp _) (hfp _) (hfp _)
      · exact ih.put hk ⟨by omega, by omega⟩ ⟨by omega, by omega⟩ ⟨by omega, by omega⟩
theorem near_own (hp : okPal n fp = true) {t : Nat} (ht : t < n) {x y z : Int} (hx : x = fp (t * 3)) (hy : y = fp (t * 3 + 1)) (hz : z = fp (t * 3 + 2)) : (nearK fp x y z n).1 = t := by
  subst hx hy hz
  have hz : farE fp (fp (t * 3)) (fp (t * 3 + 1)) (fp (t * 3 + 2)) t = 0 := by unfold farE; exact far_self _ _ _
  have h1 := nearK_min (f := fp) (x := fp (t * 3)) (y := fp (t * 3 + 1)) (z := fp (t * 3 + 2)) ht
  have h2 := nearK_at (f := fp) (x := fp (t * 3)) (y := fp (t * 3 + 1)) (z := fp (t * 3 + 2)) n
  have h3 := nearK_in (f := fp) (x := fp (t * 3)) (y := fp (t * 3 + 1)) (z := fp (t * 3 + 2)) (show 0 < n by omega)
  generalize (nearK fp (fp (t * 3)) (fp (t * 3 + 1)) (fp (t * 3 + 2)) n).1 = s at h2 h3 ⊢
  have h4 : farE fp (fp (t * 3)) (fp (t * 3 + 1)) (fp (t * 3 + 2)) s = 0 := by
    have h5 : 0 ≤ farE fp (fp (t * 3)) (fp (t * 3 + 1)) (fp (t * 3 + 2)) s := by unfold farE; exact far_b0
    omega
  unfold farE at h4
  have h6 := far_zero.1 h4
  have hd := (okPal_e hp).2
  rcases Nat.lt_trichotomy s t with h | h | h
  · have := hd t s h ht
    unfold alikePal at this
    rw [Bool.eq_false_iff] at this
    exact absurd (eq3_t.2 ⟨h6.1.symm, h6.2.1.symm, h6.2.2.symm⟩) this
  · exact h
  · have := hd s t h h3
    unfold alikePal at this
    rw [Bool.eq_false_iff] at this
    exact absurd (eq3_t.2 h6) this
structure NnIm (a b : Int) (n : Nat) (fp Q I : Nat → Int) : Prop where
  im : iofA a b Q n fp 0 0 0 = pic 432 a b I
  code : hasV a b Q n fp = 0
  byte : ∀ i, 0 ≤ I i ∧ I i ≤ 255
  pict : pofA a b I n fp = pic 144 a b Q
  pc : pofC a b I n fp = 0
  cc : costC a b I a b Q n fp = 0
  cv : costV a b I a b Q n fp = 0
theorem nn_im (ha : 1 ≤ a ∧ a ≤ 12) (hb : 1 ≤ b ∧ b ≤ 12) (hfp : ∀ i, 0 ≤ fp i ∧ fp i ≤ 255) (hp : okPal n fp = true) {Q : Nat → Int} (hg : GoodQ a b Q) (hQ : ∀ i, cellN a b i = true → 1 ≤ Q i ∧ Q i ≤ n) : NnIm a b n fp Q (imS Q fp 0 0 0 a b 144) := by
  have hn := okPal_pos hp
  have hG := imS_good (a := a) (b := b) (f := Q) hfp 144
  have hok := hG.ok ha hb
  have hask : askOk a b (imS Q fp 0 0 0 a b 144) n fp = true := by unfold askOk; rw [hok, hp]; rfl
  have hle : ∀ i, Q i ≤ n := fun i => by
    cases hc : cellN a b i
    · rw [(hg i).2.2 hc]; omega
    · exact (hQ i hc).2
  obtain ⟨h1, h2, h3⟩ := cost_good ha hb hok hp hg hle
  have hq : ∀ i, cellN a b i = true → nearC n fp (imS Q fp 0 0 0 a b 144) i = Q i := fun i hc => by
    have h4 := hQ i hc
    obtain ⟨g0, g1, g2⟩ := imS_at (fp := fp) (f := Q) 144 i (cellN_e.1 hc).1 hc (by omega)
    unfold nearC
    rw [near_own hp (t := (Q i).toNat - 1) (by omega) g0 g1 g2]
    omega
  have hpic : ∀ j, j < 144 → picS n fp (imS Q fp 0 0 0 a b 144) a b 144 j = Q j := fun j _ => by
    cases hc : cellN a b j
    · rw [picS_z hc, (hg j).2.2 hc]
    · rw [picS_c hc, hq j hc]
  have hcost : ∀ k, k ≤ 144 → costS (imS Q fp 0 0 0 a b 144) Q fp k = 0 := by
    intro k
    induction k with
    | zero => exact fun _ => rfl
    | succ k ih =>
      intro hk
      cases hc : cellN a b k
      · rw [costS_f (by rw [(hg k).2.2 hc]; omega)]; exact ih (by omega)
      · have h4 := hQ k hc
        obtain ⟨g0, g1, g2⟩ := imS_at (fp := fp) (f := Q) 144 k (by omega) hc (by omega)
        rw [costS_t (by omega), ih (by omega)]
        unfold farI
        rw [g0, g1, g2, far_self]
        rfl
  exact ⟨iof_t h1, h1, hG.1, by rw [(pof_t hask).1, pic_congr hpic], (pof_t hask).2, h2, by rw [h3]; exact hcost 144 (Nat.le_refl _)⟩
end
end Go.Proofs.YtphjhegaplochaaGreatDoor
