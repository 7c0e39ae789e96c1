/- Tones that are chosen greedily: what the reference returns; no condition. -/
import Derived.Test.YtpofhbdnjecfjaaGreB
set_option linter.unusedVariables false
namespace Go.Proofs.Ytpofhbdnjecfjaa
open Go.BigFrame
open Go.RowKit Go.Arr
def gp (cost : Int → Int) (has : Int → Bool) : Nat → Int × Int
  | 0 => (0, -1)
  | c + 1 => if has ((c : Int) + 1) = true then gp cost has c else if (gp cost has c).1 = 0 ∨ cost ((c : Int) + 1) < (gp cost has c).2 then ((c : Int) + 1, cost ((c : Int) + 1)) else gp cost has c
section
variable {cost : Int → Int} {has : Int → Bool}
theorem gp_h {c : Nat} (h : has ((c : Int) + 1) = true) : gp cost has (c + 1) = gp cost has c := by rw [gp, if_pos h]
theorem gp_t {c : Nat} (h : has ((c : Int) + 1) = false) (h2 : (gp cost has c).1 = 0 ∨ cost ((c : Int) + 1) < (gp cost has c).2) : gp cost has (c + 1) = ((c : Int) + 1, cost ((c : Int) + 1)) := by rw [gp, if_neg (by rw [h]; simp), if_pos h2]
theorem gp_f {c : Nat} (h : has ((c : Int) + 1) = false) (h2 : ¬ ((gp cost has c).1 = 0 ∨ cost ((c : Int) + 1) < (gp cost has c).2)) : gp cost has (c + 1) = gp cost has c := by rw [gp, if_neg (by rw [h]; simp), if_neg h2]
theorem gp_b (hc : ∀ c, 0 ≤ cost c) (c : Nat) : 0 ≤ (gp cost has c).1 ∧ (gp cost has c).1 ≤ c ∧ ((gp cost has c).1 = 0 → (gp cost has c).2 = -1) ∧ ((gp cost has c).1 ≠ 0 → 0 ≤ (gp cost has c).2) := by
  induction c with
  | zero => simp [gp]
  | succ c ih =>
    unfold gp
    split
    · exact ⟨ih.1, by omega, ih.2.2⟩
    · split
      · exact ⟨by dsimp only; omega, by dsimp only; omega, fun h => by dsimp only at h; omega, fun _ => hc _⟩
      · exact ⟨ih.1, by omega, ih.2.2⟩
theorem gp_some {n c : Nat} (hcn : c < n) (h : has ((c : Int) + 1) = false) : (gp cost has n).1 ≠ 0 := by
  have h0 : (gp cost has (c + 1)).1 ≠ 0 := by
    by_cases h2 : (gp cost has c).1 = 0 ∨ cost ((c : Int) + 1) < (gp cost has c).2
    · rw [gp_t h h2]; dsimp only; omega
    · rw [gp_f h h2]; exact fun h3 => h2 (Or.inl h3)
  have h1 : ∀ m, (gp cost has (c + 1 + m)).1 ≠ 0 := by
    intro m
    induction m with
    | zero => exact h0
    | succ m ih =>
      rw [← Nat.add_assoc]
      unfold gp
      split
      · exact ih
      · split
        · dsimp only; omega
        · exact ih
  have := h1 (n - (c + 1))
  rwa [show c + 1 + (n - (c + 1)) = n by omega] at this
end
theorem sel_or (p : Nat → Bool) (x : Int) (n : Nat) : selN (fun c => p c || x == ((c : Int) + 1)) n ≤ selN p n + (if 1 ≤ x ∧ x ≤ n then 1 else 0) := by
  induction n with
  | zero => simp [selN]
  | succ n ih =>
    cases hp : p n
    · rw [selN_f (p := p) hp]
      by_cases hx : x = (n : Int) + 1
      · rw [selN_t (p := fun c => p c || x == ((c : Int) + 1)) (by simp [hx])]
        rw [if_neg (by omega)] at ih
        rw [if_pos (by omega)]
        omega
      · rw [selN_f (p := fun c => p c || x == ((c : Int) + 1)) (by simp [hx, hp])]
        split at ih
        · rw [if_pos (by omega)]; omega
        · omega
    · rw [selN_t (p := p) hp, selN_t (p := fun c => p c || x == ((c : Int) + 1)) (by simp [hp])]
      split at ih
      · rw [if_pos (by omega)]; omega
      · omega
theorem sel_has (L : Nat → Int) (n k : Nat) : selN (fun c => hasL L k ((c : Int) + 1)) n ≤ k := by
  induction k with
  | zero =>
    have : ∀ n, selN (fun c => hasL L 0 ((c : Int) + 1)) n = 0 := by
      intro n
      induction n with
      | zero => rfl
      | succ n ih => rw [selN_f (by rfl)]; exact ih
    rw [this]
    exact Nat.le_refl _
  | succ k ih =>
    have h := sel_or (fun c => hasL L k ((c : Int) + 1)) (L k) n
    have h2 : (fun c : Nat => hasL L (k + 1) ((c : Int) + 1)) = fun c => (fun c : Nat => hasL L k ((c : Int) + 1)) c || L k == ((c : Int) + 1) := by
      funext c
      rfl
    rw [h2]
    refine Nat.le_trans h ?_
    split <;> omega
theorem sel_all {p : Nat → Bool} {n : Nat} (h : ∀ c, c < n → p c = true) : selN p n = n := by
  induction n with
  | zero => rfl
  | succ n ih => rw [selN_t (h n (by omega)), ih fun c hc => h c (by omega)]
theorem free_colour (L : Nat → Int) {n k : Nat} (h : k < n) : ∃ c, c < n ∧ hasL L k ((c : Int) + 1) = false := by
  by_cases hx : ∃ c, c < n ∧ hasL L k ((c : Int) + 1) = false
  · exact hx
  · have h1 : selN (fun c => hasL L k ((c : Int) + 1)) n = n := sel_all fun c hc => by
      cases h2 : hasL L k ((c : Int) + 1)
      · exact absurd ⟨c, hc, h2⟩ hx
      · rfl
    have := sel_has L n k
    omega
/-- the cost with one colour more -/
def costG (fp fm : Nat → Int) (a b : Int) (L : Nat → Int) (k : Nat) (c : Int) : Int := cosS (k + 1) (subP fp (upd L k c)) fm a b 144
def gr (fp fm : Nat → Int) (a b : Int) (n : Nat) : Nat → (Nat → Int) × Int
  | 0 => (fun _ => 0, 0)
  | k + 1 => (upd (gr fp fm a b n k).1 k (gp (costG fp fm a b (gr fp fm a b n k).1 k) (hasL (gr fp fm a b n k).1 k) n).1, (gp (costG fp fm a b (gr fp fm a b n k).1 k) (hasL (gr fp fm a b n k).1 k) n).2)
section
variable {fp fm : Nat → Int} {a b : Int} {n : Nat}
theorem costG_b (hfp : ∀ i, 0 ≤ fp i ∧ fp i ≤ 255) (hfm : ∀ i, 0 ≤ fm i ∧ fm i ≤ 255) (L : Nat → Int) (k : Nat) (c : Int) : 0 ≤ costG fp fm a b L k c ∧ costG fp fm a b L k c ≤ 144000000 := by
  have h := cosS_b (fs := subP fp (upd L k c)) (fm := fm) (fun i => hfp _) hfm (k + 1) a b 144
  unfold costG
  omega
theorem gr_b (hfp : ∀ i, 0 ≤ fp i ∧ fp i ≤ 255) (hfm : ∀ i, 0 ≤ fm i ∧ fm i ≤ 255) (k : Nat) (hk : k ≤ n) : ∀ j, j < k → 1 ≤ (gr fp fm a b n k).1 j ∧ (gr fp fm a b n k).1 j ≤ n := by
  induction k with
  | zero => intro j hj; omega
  | succ k ih =>
    intro j hj
    show 1 ≤ upd (gr fp fm a b n k).1 k _ j ∧ upd (gr fp fm a b n k).1 k _ j ≤ n
    unfold upd
    by_cases e : j = k
    · rw [if_pos e]
      obtain ⟨c, hc, hh⟩ := free_colour (gr fp fm a b n k).1 (show k < n by omega)
      have h1 := gp_some (cost := costG fp fm a b (gr fp fm a b n k).1 k) hc hh
      have h2 := gp_b (cost := costG fp fm a b (gr fp fm a b n k).1 k) (has := hasL (gr fp fm a b n k).1 k) (fun c => (costG_b hfp hfm _ _ c).1) n
      omega
    · rw [if_neg e]
      exact ih (by omega) j (by omega)
end
/-- the code, the list, its cost -/
def cntC (a b : Int) (fm : Nat → Int) (n : Nat) (fp : Nat → Int) (count : Int) : Int := if askOk a b fm n fp = false then 1 else if inB count 1 n = false then 2 else 0
def grN (a b : Int) (fm : Nat → Int) (n : Nat) (fp : Nat → Int) (count : Int) : Nat := if cntC a b fm n fp count = 0 then count.toNat else 0
def grV (a b : Int) (fm : Nat → Int) (n : Nat) (fp : Nat → Int) (count : Int) : Int := if cntC a b fm n fp count = 0 then (gr fp fm a b n count.toNat).2 else 0
section
variable {a b : Int} {fm : Nat → Int} {n : Nat} {fp : Nat → Int} {count : Int}
theorem cntC_1 (h : askOk a b fm n fp = false) : cntC a b fm n fp count = 1 := if_pos h
theorem cntC_2 (h : askOk a b fm n fp = true) (h2 : inB count 1 n = false) : cntC a b fm n fp count = 2 := by unfold cntC; rw [if_neg (by rw [h]; simp), if_pos h2]
theorem cntC_0 (h : askOk a b fm n fp = true) (h2 : inB count 1 n = true) : cntC a b fm n fp count = 0 := by unfold cntC; rw [if_neg (by rw [h]; simp), if_neg (by rw [h2]; simp)]
theorem grN_z {k : Int} (h : cntC a b fm n fp count = k) (hk : k ≠ 0) : grN a b fm n fp count = 0 := if_neg (by rw [h]; exact hk)
theorem grV_z {k : Int} (h : cntC a b fm n fp count = k) (hk : k ≠ 0) : grV a b fm n fp count = 0 := if_neg (by rw [h]; exact hk)
theorem grN_s {K : Nat} (h : cntC a b fm n fp K = 0) : grN a b fm n fp K = K := by unfold grN; rw [if_pos h, Int.toNat_natCast]
theorem grV_s {K : Nat} (h : cntC a b fm n fp K = 0) : grV a b fm n fp K = (gr fp fm a b n K).2 := by unfold grV; rw [if_pos h, Int.toNat_natCast]
theorem cntC_le : cntC a b fm n fp count = 0 → askOk a b fm n fp = true ∧ 1 ≤ count ∧ count ≤ n := by
  intro h
  unfold cntC at h
  split at h
  · omega
  · split at h
    · omega
    · rename_i h1 h2
      refine ⟨by simpa using h1, inB_t.1 (by simpa using h2)⟩
theorem grN_le (a b : Int) (fm : Nat → Int) (n : Nat) (fp : Nat → Int) (count : Int) : grN a b fm n fp count ≤ 15 := by
  unfold grN
  split
  · rename_i h
    have h1 := cntC_le h
    have := okPal_pos (askOk_e h1.1).2
    omega
  · omega
end
set_option maxHeartbeats 1000000 in
theorem l02Counted_any (gm : Nat) (t0 : TypeId) (a b : Int) (fm : Nat → Int) (ha : -128 ≤ a ∧ a ≤ 127) (hb : -128 ≤ b ∧ b ≤ 127) (ad : Option Addr) (n c : Nat) (fp : Nat → Int) (hn : n ≤ 1048576) (count : Int) (W : World) (om : obj W gm = some (.cells (pic 432 a b fm) t0)) (hs : Sl W (.slice ad n c) n 3 .u8 fp) :
    Calls Try.prog 35 #[.pointer (some ⟨gm, 0, none⟩), .slice ad n c, .int .i64 count] W fun e w' => e = .returned (.int .i64 (cntC a b fm n fp count)) ∧ New W w' := by
  cases h1 : askOk a b fm n fp
  · have hC := hide (cntC_1 (count := count) h1)
    go_enter Try.func35, Try.ntmps35
    go_wp2_with (fail)
    refine (l02Asked_any gm t0 a b fm ha hb ad n c fp hn _ om hs).mono ?_
    rintro e w1 ⟨rfl, hn1⟩
    rw [h1, if_neg (by simp)]
    go_wp2_with (fail)
    go_ret
    exact ⟨by rw [hC.out]; rfl, hn1⟩
  cases h2 : inB count 1 n
  · have hC := hide (cntC_2 h1 h2)
    go_enter Try.func35, Try.ntmps35
    go_wp2_with (fail)
    refine (l02Asked_any gm t0 a b fm ha hb ad n c fp hn _ om hs).mono ?_
    rintro e w1 ⟨rfl, hn1⟩
    rw [h1, if_pos rfl]
    go_wp2_with (go_at_call 23; refine (l00In_any _ _ _ _).mono ?_; rintro e w' ⟨rfl, rfl⟩; rw [h2])
    go_ret
    exact ⟨by rw [hC.out]; rfl, hn1⟩
  · have hC := hide (cntC_0 h1 h2)
    go_enter Try.func35, Try.ntmps35
    go_wp2_with (fail)
    refine (l02Asked_any gm t0 a b fm ha hb ad n c fp hn _ om hs).mono ?_
    rintro e w1 ⟨rfl, hn1⟩
    rw [h1, if_pos rfl]
    go_wp2_with (go_at_call 23; refine (l00In_any _ _ _ _).mono ?_; rintro e w' ⟨rfl, rfl⟩; rw [h2])
    go_ret
    exact ⟨by rw [hC.out]; rfl, hn1⟩
end Go.Proofs.Ytpofhbdnjecfjaa
