/- Fields part a picture: what is in one, which starts one, how many cells there are; no condition. -/
import Derived.Test.YtmmckoemkpfgbaaFld
set_option linter.unusedVariables false
namespace Go.Proofs.Ytmmckoemkpfgbaa
open Go.BigFrame
open Go.RowKit Go.Arr
section
variable {a b : Int} {f : Nat → Int} {c d i k : Nat}
theorem nbL_sym (ha : a ≤ 12) (hb : b ≤ 12) (hi : cellN a b i = true) (hk : k ∈ nbL a b i) : i ∈ nbL a b k := by
  have hkc := nbL_cell ha hb hi hk
  rw [cellN_e] at hi hkc
  rw [nbL_e] at hk ⊢
  omega
theorem bfs_least (S : Nat → Prop) (h0 : S c) (hs : ∀ i k, S i → k ∈ nbL a b i → f k = f c → S k) (n : Nat) : ∀ k ∈ bfs a b f c n, S k := by
  induction n with
  | zero => intro k hk; simp [bfs] at hk; subst hk; exact h0
  | succ n ih =>
    intro k hk
    rw [bfs] at hk
    split at hk
    · rename_i hl
      rcases (addN_mem _ _).1 hk with h | ⟨h, h2⟩
      · exact ih k h
      · refine hs _ _ (ih _ ?_) h h2
        rw [List.getD_eq_getElem?_getD, List.getElem?_eq_getElem hl]
        exact List.getElem_mem hl
    · exact ih k hk
theorem fldQ_least (S : Nat → Prop) (h0 : S c) (hs : ∀ i k, S i → k ∈ nbL a b i → f k = f c → S k) : ∀ k ∈ fldQ a b f c, S k := bfs_least S h0 hs 144
theorem fldQ_self : c ∈ fldQ a b f c := by
  have h := bfs_pre (a := a) (b := b) (f := f) (c0 := c) 0 144
  rw [Nat.zero_add] at h
  exact h.subset (by simp [bfs])
theorem fldQ_sub (ha : a ≤ 12) (hb : b ≤ 12) (hc : cellN a b c = true) (hd : d ∈ fldQ a b f c) : ∀ k ∈ fldQ a b f d, k ∈ fldQ a b f c := by
  have hfd := (fldQ_in ha hb hc d hd).2
  exact fldQ_least (fun k => k ∈ fldQ a b f c) hd fun i k hi hk hf => fldQ_closed ha hb hc hi hk (hf.trans hfd)
theorem fldQ_back (ha : a ≤ 12) (hb : b ≤ 12) (hc : cellN a b c = true) (hd : d ∈ fldQ a b f c) : c ∈ fldQ a b f d := by
  have h := fldQ_least (a := a) (b := b) (f := f) (c := c) (fun i => i ∈ fldQ a b f c ∧ c ∈ fldQ a b f i) ⟨fldQ_self, fldQ_self⟩ fun i k hi hk hf => by
    have hik := fldQ_closed ha hb hc hi.1 hk hf
    have hkc := (fldQ_in ha hb hc k hik).1
    have hic := fldQ_in ha hb hc i hi.1
    have h1 : i ∈ fldQ a b f k := fldQ_closed ha hb hkc fldQ_self (nbL_sym ha hb hic.1 hk) (by rw [hf, hic.2])
    exact ⟨hik, fldQ_sub ha hb hkc h1 c hi.2⟩
  exact (h d hd).2
theorem fldQ_eq (ha : a ≤ 12) (hb : b ≤ 12) (hc : cellN a b c = true) (hd : d ∈ fldQ a b f c) : inF (fldQ a b f d) = inF (fldQ a b f c) := by
  funext k
  unfold inF
  rw [decide_eq_decide]
  exact ⟨fldQ_sub ha hb hc hd k, fldQ_sub ha hb (fldQ_in ha hb hc d hd).1 (fldQ_back ha hb hc hd) k⟩
/-- the cells that have a field when so many have been looked at -/
def fsD (a b : Int) (f : Nat → Int) : Nat → Nat → Bool
  | 0 => fun _ => false
  | i + 1 => if (cellN a b i && !fsD a b f i i) = true then fun k => fsD a b f i k || inF (fldQ a b f i) k else fsD a b f i
def fsP (a b : Int) (f : Nat → Int) (i : Nat) : Bool := cellN a b i && !fsD a b f i i
theorem fsD_t (h : fsP a b f i = true) : fsD a b f (i + 1) = fun k => fsD a b f i k || inF (fldQ a b f i) k := if_pos h
theorem fsD_f (h : fsP a b f i = false) : fsD a b f (i + 1) = fsD a b f i := if_neg (by unfold fsP at h; rw [h]; simp)
theorem fsP_cell (h : fsP a b f i = true) : cellN a b i = true := by unfold fsP at h; simp at h; exact h.1
theorem fsD_e (n k : Nat) : fsD a b f n k = true ↔ ∃ s, s < n ∧ fsP a b f s = true ∧ k ∈ fldQ a b f s := by
  induction n with
  | zero => simp [fsD]
  | succ n ih =>
    cases hp : fsP a b f n
    · rw [fsD_f hp, ih]
      constructor
      · rintro ⟨s, h1, h2⟩; exact ⟨s, by omega, h2⟩
      · rintro ⟨s, h1, h2, h3⟩
        by_cases e : s = n
        · subst e; rw [hp] at h2; cases h2
        · exact ⟨s, by omega, h2, h3⟩
    · rw [fsD_t hp]
      simp only [Bool.or_eq_true, ih, inF, decide_eq_true_eq]
      constructor
      · rintro (⟨s, h1, h2⟩ | h)
        · exact ⟨s, by omega, h2⟩
        · exact ⟨n, by omega, hp, h⟩
      · rintro ⟨s, h1, h2, h3⟩
        by_cases e : s = n
        · subst e; exact Or.inr h3
        · exact Or.inl ⟨s, by omega, h2, h3⟩
theorem start_of (hc : cellN a b c = true) : ∃ s, s ≤ c ∧ fsP a b f s = true ∧ c ∈ fldQ a b f s := by
  cases hp : fsP a b f c
  · have h : fsD a b f c c = true := by unfold fsP at hp; simp [hc] at hp; exact hp
    obtain ⟨s, h1, h2⟩ := (fsD_e c c).1 h
    exact ⟨s, by omega, h2⟩
  · exact ⟨c, Nat.le_refl _, hp, fldQ_self⟩
theorem start_one (ha : a ≤ 12) (hb : b ≤ 12) {s t : Nat} (hs : fsP a b f s = true) (ht : fsP a b f t = true) (h1 : c ∈ fldQ a b f s) (h2 : c ∈ fldQ a b f t) : s = t := by
  have key : ∀ {s t : Nat}, fsP a b f s = true → fsP a b f t = true → c ∈ fldQ a b f s → c ∈ fldQ a b f t → ¬ s < t := by
    intro s t hs ht h1 h2 hlt
    have hsc := fsP_cell hs
    have htc := fsP_cell ht
    have hcc := (fldQ_in ha hb hsc c h1).1
    have h3 : t ∈ fldQ a b f s := fldQ_sub ha hb hsc h1 t (fldQ_back ha hb htc h2)
    have h4 : fsD a b f t t = true := (fsD_e t t).2 ⟨s, hlt, hs, h3⟩
    unfold fsP at ht
    rw [h4] at ht
    simp at ht
  have h3 := key hs ht h1 h2
  have h4 := key ht hs h2 h1
  omega
theorem start_le (ha : a ≤ 12) (hb : b ≤ 12) {s : Nat} (hs : fsP a b f s = true) (h1 : c ∈ fldQ a b f s) : s ≤ c := by
  obtain ⟨t, h2, h3, h4⟩ := start_of (f := f) (fldQ_in ha hb (fsP_cell hs) c h1).1
  have := start_one ha hb hs h3 h1 h4
  omega
/-- a row's first number is where the field starts -/
theorem row_first (ha : a ≤ 12) (hb : b ≤ 12) {s : Nat} (hs : fsP a b f s = true) : 0 < selN (inF (fldQ a b f s)) 144 ∧ selG (inF (fldQ a b f s)) 144 0 = s := by
  have hsc := fsP_cell hs
  obtain ⟨j, hj, he⟩ := selG_onto (p := inF (fldQ a b f s)) (cellN_e.1 hsc).1 (by unfold inF; simp; exact fldQ_self)
  have h0 : 0 < selN (inF (fldQ a b f s)) 144 := by omega
  have hin := (selG_lt (p := inF (fldQ a b f s)) 144 0 h0).2
  have hle := start_le ha hb hs (c := selG (inF (fldQ a b f s)) 144 0) (of_decide_eq_true hin)
  refine ⟨h0, ?_⟩
  by_cases e : j = 0
  · subst e; exact he
  · have := selG_inc (p := inF (fldQ a b f s)) 144 0 j (by omega) hj
    omega
theorem selN_sub {p q : Nat → Bool} (h : ∀ i, p i = true → q i = true) (n : Nat) : selN p n ≤ selN q n := by
  induction n with
  | zero => simp [selN]
  | succ n ih =>
    cases hp : p n
    · rw [selN_f hp]
      cases hq : q n
      · rw [selN_f hq]; exact ih
      · rw [selN_t hq]; omega
    · rw [selN_t hp, selN_t (h n hp)]; omega
theorem selN_congr {p q : Nat → Bool} {n : Nat} (h : ∀ i, i < n → p i = q i) : selN p n = selN q n := by
  induction n with
  | zero => rfl
  | succ n ih =>
    have e := h n (by omega)
    have ih := ih fun i hi => h i (by omega)
    cases hp : p n
    · rw [selN_f hp, selN_f (e ▸ hp), ih]
    · rw [selN_t hp, selN_t (e ▸ hp), ih]
theorem selN_updB {p : Nat → Bool} {k n : Nat} (hk : k < n) (hp : p k = false) : selN (updB p k true) n = selN p n + 1 := by
  induction n with
  | zero => omega
  | succ n ih =>
    by_cases e : k = n
    · subst e
      have h1 : updB p k true k = true := by simp [updB]
      rw [selN_t h1, selN_f hp, selN_congr (q := p) fun i hi => by unfold updB; rw [if_neg (by omega)]]
    · have h1 : updB p k true n = p n := by unfold updB; rw [if_neg (by omega)]
      have ih := ih (by omega)
      cases hq : p n
      · rw [selN_f (h1.trans hq), selN_f hq, ih]
      · rw [selN_t (h1.trans hq), selN_t hq, ih]
end
theorem cells_many : ∀ a, a < 13 → ∀ b, b < 13 → selN (cellN (a : Nat) (b : Nat)) 144 = a * b := by decide +kernel
end Go.Proofs.Ytmmckoemkpfgbaa
