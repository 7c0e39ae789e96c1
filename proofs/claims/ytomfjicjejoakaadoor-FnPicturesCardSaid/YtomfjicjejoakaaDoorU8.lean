/- The cells of an image as a list; a loop over the list and a loop over all cells come to the same; no condition. -/
import Derived.Test.YtomfjicjejoakaaDoorU7
import Derived.Test.YtomfjicjejoakaaDoorU3
set_option linter.unusedVariables false
namespace Go.Proofs.YtomfjicjejoakaaDoor
open Go.BigFrame
open Go.RowKit Go.Arr
def selN (p : Nat → Bool) : Nat → Nat
  | 0 => 0
  | k + 1 => if p k = true then selN p k + 1 else selN p k
def selG (p : Nat → Bool) : Nat → Nat → Nat
  | 0 => fun _ => 0
  | k + 1 => if p k = true then (fun j => if j = selN p k then k else selG p k j) else selG p k
section
variable {p : Nat → Bool}
theorem selN_t {k : Nat} (h : p k = true) : selN p (k + 1) = selN p k + 1 := by rw [selN, if_pos h]
theorem selN_f {k : Nat} (h : p k = false) : selN p (k + 1) = selN p k := by rw [selN, if_neg (by simp [h])]
theorem selG_t {k : Nat} (h : p k = true) : selG p (k + 1) = fun j => if j = selN p k then k else selG p k j := by rw [selG, if_pos h]
theorem selG_f {k : Nat} (h : p k = false) : selG p (k + 1) = selG p k := by rw [selG, if_neg (by simp [h])]
theorem selN_le (k : Nat) : selN p k ≤ k := by
  induction k with
  | zero => simp [selN]
  | succ k ih => unfold selN; split <;> omega
theorem selN_mono {k m : Nat} : selN p k ≤ selN p (k + m) := by
  induction m with
  | zero => exact Nat.le_refl _
  | succ m ih => rw [← Nat.add_assoc, selN]; split <;> omega
theorem selG_lt (k : Nat) : ∀ j, j < selN p k → selG p k j < k ∧ p (selG p k j) = true := by
  induction k with
  | zero => intro j hj; simp [selN] at hj
  | succ k ih =>
    intro j hj
    cases h : p k
    · rw [selN_f h] at hj
      rw [selG_f h]
      have := ih j hj
      exact ⟨by omega, this.2⟩
    · rw [selN_t h] at hj
      rw [selG_t h]
      dsimp only
      by_cases e : j = selN p k
      · rw [if_pos e]; exact ⟨by omega, h⟩
      · rw [if_neg e]
        have := ih j (by omega)
        exact ⟨by omega, this.2⟩
theorem selG_keep (k m : Nat) : ∀ j, j < selN p k → selG p (k + m) j = selG p k j := by
  induction m with
  | zero => intro j _; rfl
  | succ m ih =>
    intro j hj
    have h1 := selN_mono (p := p) (k := k) (m := m)
    rw [← Nat.add_assoc]
    cases h : p (k + m)
    · rw [selG_f h]; exact ih j hj
    · rw [selG_t h]; dsimp only; rw [if_neg (by omega)]; exact ih j hj
theorem selG_at {k K : Nat} (hk : k < K) (hp : p k = true) : selG p K (selN p k) = k := by
  obtain ⟨m, rfl⟩ : ∃ m, K = k + 1 + m := ⟨K - k - 1, by omega⟩
  rw [selG_keep (k + 1) m _ (by rw [selN_t hp]; omega), selG_t hp]
  exact if_pos rfl
end
def recT {σ : Type} (step : σ → Nat → σ) (s0 : σ) (G : Nat → Nat) : Nat → σ
  | 0 => s0
  | j + 1 => step (recT step s0 G j) (G j)
def recS {σ : Type} (step : σ → Nat → σ) (s0 : σ) (p : Nat → Bool) : Nat → σ
  | 0 => s0
  | k + 1 => if p k = true then step (recS step s0 p k) k else recS step s0 p k
section
variable {σ : Type} {step : σ → Nat → σ} {s0 : σ} {p : Nat → Bool}
theorem recS_t {k : Nat} (h : p k = true) : recS step s0 p (k + 1) = step (recS step s0 p k) k := by rw [recS, if_pos h]
theorem recS_f {k : Nat} (h : p k = false) : recS step s0 p (k + 1) = recS step s0 p k := by rw [recS, if_neg (by simp [h])]
theorem rec_eq {k K : Nat} (h : k ≤ K) : recT step s0 (selG p K) (selN p k) = recS step s0 p k := by
  induction k with
  | zero => rfl
  | succ k ih =>
    cases hp : p k
    · rw [selN_f hp, recS_f hp]; exact ih (by omega)
    · rw [selN_t hp, recS_t hp, recT, ih (by omega), selG_at (by omega) hp]
end
def cellN (a b : Int) (k : Nat) : Bool := cellB k a b
theorem Row.sl {W : World} {base : Nat} {v : Value} {n : Nat} {f : Nat → Int} (h : Row W base v n f) : Sl W v n 1 .i64 f := by
  rcases h.shape with ⟨rfl, rfl⟩ | ⟨g, cap, cur, rfl, _, _, ho, _, _, _, hc⟩
  · exact ⟨none, 0, rfl, fun h => absurd h (by omega)⟩
  · exact Sl.of ho fun i hi => by rw [Nat.zero_add]; exact hc i (by omega)
theorem row_app2 {w' : World} {base n g cap : Nat} {f : Nat → Int} {x : Int} (h : w'.ownsRow base 2 1 (.slice (some ⟨g, 0, none⟩) (n + 1) cap) (n + 1) (irow n .i64 f ++ [.int .i64 x])) : Row w' base (.slice (some ⟨g, 0, none⟩) (n + 1) cap) (n + 1) (upd f n x) := by
  unfold Row
  rw [← irow_snoc]
  exact h
theorem row_empty2 {W : World} {base g : Nat} {f : Nat → Int} (h : obj W g = some (.cells #[] 2)) (hb : base ≤ g) : Row W base (.slice (some ⟨g, 0, none⟩) 0 0) 0 f :=
  Row.of h hb (Nat.le_refl _) (by unfold maxLen; omega) rfl fun j hj => absurd hj (by omega)
end Go.Proofs.YtomfjicjejoakaaDoor
/- The field of a cell, as a list that grows; what is in it; no condition. -/
set_option linter.unusedVariables false
namespace Go.Proofs.YtomfjicjejoakaaDoor
open Go.BigFrame
open Go.RowKit Go.Arr
/-- the neighbours of a cell -/
def nbL (a b : Int) (c : Nat) : List Nat :=
  (if 12 ≤ c then [c - 12] else []) ++ (if 0 < c % 12 then [c - 1] else []) ++ (if ((c % 12 : Nat) : Int) + 1 < a then [c + 1] else []) ++ (if ((c / 12 : Nat) : Int) + 1 < b then [c + 12] else [])
theorem cellN_e {a b : Int} {c : Nat} : cellN a b c = true ↔ c < 144 ∧ ((c % 12 : Nat) : Int) < a ∧ ((c / 12 : Nat) : Int) < b := by
  unfold cellN cellB
  simp only [Bool.and_eq_true, decide_eq_true_eq, inB_t]
  have e1 : ((c % 12 : Nat) : Int) = (c : Int) % 12 := by omega
  have e2 : ((c / 12 : Nat) : Int) = (c : Int) / 12 := by omega
  rw [e1, e2]
  omega
theorem mem_ite {p : Prop} [Decidable p] {x y : Nat} : x ∈ (if p then [y] else []) ↔ p ∧ x = y := by split <;> simp_all
theorem len_ite {p : Prop} [Decidable p] {x : Nat} : (if p then [x] else []).length ≤ 1 := by split <;> simp
theorem nbL_e {a b : Int} {c k : Nat} : k ∈ nbL a b c ↔ (12 ≤ c ∧ k = c - 12) ∨ (0 < c % 12 ∧ k = c - 1) ∨ (((c % 12 : Nat) : Int) + 1 < a ∧ k = c + 1) ∨ (((c / 12 : Nat) : Int) + 1 < b ∧ k = c + 12) := by
  unfold nbL
  simp only [List.mem_append, mem_ite, or_assoc]
theorem nbL_cell {a b : Int} {c k : Nat} (ha : a ≤ 12) (hb : b ≤ 12) (hc : cellN a b c = true) (hk : k ∈ nbL a b c) : cellN a b k = true := by
  rw [cellN_e] at *
  rw [nbL_e] at hk
  omega
theorem nbL_len (a b : Int) (c : Nat) : (nbL a b c).length ≤ 4 := by
  unfold nbL
  simp only [List.length_append]
  have h1 := len_ite (p := 12 ≤ c) (x := c - 12)
  have h2 := len_ite (p := 0 < c % 12) (x := c - 1)
  have h3 := len_ite (p := ((c % 12 : Nat) : Int) + 1 < a) (x := c + 1)
  have h4 := len_ite (p := ((c / 12 : Nat) : Int) + 1 < b) (x := c + 12)
  omega
section
variable (f : Nat → Int) (z : Int)
def addQ (Q : List Nat) (k : Nat) : List Nat := if f k = z ∧ ¬ k ∈ Q then Q ++ [k] else Q
def addN (Q : List Nat) (l : List Nat) : List Nat := l.foldl (addQ f z) Q
end
section
variable {f : Nat → Int} {z : Int} {Q : List Nat} {k : Nat}
theorem addQ_t (h : f k = z) (h2 : ¬ k ∈ Q) : addQ f z Q k = Q ++ [k] := if_pos ⟨h, h2⟩
theorem addQ_c (h : ¬ f k = z) : addQ f z Q k = Q := if_neg fun h2 => h h2.1
theorem addQ_m (h : k ∈ Q) : addQ f z Q k = Q := if_neg fun h2 => h2.2 h
theorem addQ_pre : Q <+: addQ f z Q k := by
  unfold addQ
  split
  · exact List.prefix_append _ _
  · exact List.prefix_rfl
theorem addQ_mem {x : Nat} : x ∈ addQ f z Q k ↔ x ∈ Q ∨ (x = k ∧ f k = z) := by
  unfold addQ
  split
  · rename_i h; simp [h.1]
  · rename_i h
    constructor
    · exact Or.inl
    · rintro (h1 | ⟨rfl, h2⟩)
      · exact h1
      · by_cases hx : x ∈ Q
        · exact hx
        · exact absurd ⟨h2, hx⟩ h
theorem addQ_nodup (h : Q.Nodup) : (addQ f z Q k).Nodup := by
  unfold addQ
  split
  · rename_i h2
    rw [List.nodup_append]
    refine ⟨h, by simp, fun x hx y hy => ?_⟩
    simp at hy
    subst hy
    intro e
    subst e
    exact h2.2 hx
  · exact h
theorem addN_pre (l : List Nat) : ∀ Q, Q <+: addN f z Q l := by
  induction l with
  | nil => intro Q; exact List.prefix_rfl
  | cons x l ih => intro Q; exact addQ_pre.trans (ih _)
theorem addN_mem (l : List Nat) {x : Nat} : ∀ Q, x ∈ addN f z Q l ↔ x ∈ Q ∨ (x ∈ l ∧ f x = z) := by
  induction l with
  | nil => intro Q; simp [addN]
  | cons y l ih =>
    intro Q
    show x ∈ addN f z (addQ f z Q y) l ↔ _
    rw [ih, addQ_mem]
    constructor
    · rintro ((h | ⟨rfl, h⟩) | ⟨h, h2⟩)
      · exact Or.inl h
      · exact Or.inr ⟨by simp, h⟩
      · exact Or.inr ⟨by simp [h], h2⟩
    · rintro (h | ⟨h, h2⟩)
      · exact Or.inl (Or.inl h)
      · rcases List.mem_cons.1 h with rfl | h
        · exact Or.inl (Or.inr ⟨rfl, h2⟩)
        · exact Or.inr ⟨h, h2⟩
theorem addN_nodup (l : List Nat) : ∀ Q : List Nat, Q.Nodup → (addN f z Q l).Nodup := by
  induction l with
  | nil => intro Q h; exact h
  | cons x l ih => intro Q h; exact ih _ (addQ_nodup h)
theorem addN_take {l : List Nat} {j : Nat} (hj : j < l.length) : addN f z Q (l.take (j + 1)) = addQ f z (addN f z Q (l.take j)) (l.getD j 0) := by
  rw [List.take_add_one, List.getElem?_eq_getElem hj]
  unfold addN
  rw [List.foldl_append]
  simp [List.getD, hj]
end
/-- the list when so many have been looked at -/
def bfs (a b : Int) (f : Nat → Int) (c0 : Nat) : Nat → List Nat
  | 0 => [c0]
  | at_ + 1 => if at_ < (bfs a b f c0 at_).length then addN f (f c0) (bfs a b f c0 at_) (nbL a b ((bfs a b f c0 at_).getD at_ 0)) else bfs a b f c0 at_
def fldQ (a b : Int) (f : Nat → Int) (c0 : Nat) : List Nat := bfs a b f c0 144
section
variable {a b : Int} {f : Nat → Int} {c0 : Nat}
theorem bfs_s {i : Nat} (h : i < (bfs a b f c0 i).length) : bfs a b f c0 (i + 1) = addN f (f c0) (bfs a b f c0 i) (nbL a b ((bfs a b f c0 i).getD i 0)) := if_pos h
theorem bfs_pre (i m : Nat) : bfs a b f c0 i <+: bfs a b f c0 (i + m) := by
  induction m with
  | zero => exact List.prefix_rfl
  | succ m ih =>
    refine ih.trans ?_
    rw [← Nat.add_assoc, bfs]
    split
    · exact addN_pre _ _
    · exact List.prefix_rfl
theorem bfs_in (ha : a ≤ 12) (hb : b ≤ 12) (hc : cellN a b c0 = true) (i : Nat) : ∀ k ∈ bfs a b f c0 i, cellN a b k = true ∧ f k = f c0 := by
  induction i with
  | zero => intro k hk; simp [bfs] at hk; subst hk; exact ⟨hc, rfl⟩
  | succ i ih =>
    intro k hk
    rw [bfs] at hk
    split at hk
    · rename_i hl
      rcases (addN_mem _ _).1 hk with h | ⟨h, h2⟩
      · exact ih k h
      · refine ⟨nbL_cell ha hb (ih _ ?_).1 h, h2⟩
        rw [List.getD_eq_getElem?_getD, List.getElem?_eq_getElem hl]
        exact List.getElem_mem hl
    · exact ih k hk
theorem bfs_nodup (i : Nat) : (bfs a b f c0 i).Nodup := by
  induction i with
  | zero => simp [bfs]
  | succ i ih =>
    rw [bfs]
    split
    · exact addN_nodup _ _ ih
    · exact ih
theorem bfs_len (ha : a ≤ 12) (hb : b ≤ 12) (hc : cellN a b c0 = true) (i : Nat) : (bfs a b f c0 i).length ≤ 144 := by
  have h := (bfs_nodup (a := a) (b := b) (f := f) (c0 := c0) i).length_le_of_subset (l₂ := List.range 144) fun k hk => by
    have := (cellN_e.1 (bfs_in (f := f) ha hb hc i k hk).1).1
    simpa using this
  simpa using h
theorem bfs_end {i : Nat} (h : (bfs a b f c0 i).length ≤ i) (m : Nat) : bfs a b f c0 (i + m) = bfs a b f c0 i := by
  induction m with
  | zero => rfl
  | succ m ih => rw [← Nat.add_assoc, bfs, if_neg (by rw [ih]; omega), ih]
theorem fldQ_of {i : Nat} (hi : i ≤ 144) (h : (bfs a b f c0 i).length ≤ i) : fldQ a b f c0 = bfs a b f c0 i := by
  have := bfs_end h (144 - i)
  rwa [show i + (144 - i) = 144 by omega] at this
theorem bfs_closed (i : Nat) : ∀ j, j < i → j < (bfs a b f c0 i).length → ∀ k ∈ nbL a b ((bfs a b f c0 i).getD j 0), f k = f c0 → k ∈ bfs a b f c0 i := by
  induction i with
  | zero => intro j hj; omega
  | succ i ih =>
    intro j hj hl k hk hf
    have hpre := bfs_pre (a := a) (b := b) (f := f) (c0 := c0) i 1
    by_cases hjl : j < (bfs a b f c0 i).length
    · have hget : (bfs a b f c0 (i + 1)).getD j 0 = (bfs a b f c0 i).getD j 0 := by
        obtain ⟨t, ht⟩ := hpre
        rw [← ht, List.getD_eq_getElem?_getD, List.getElem?_append_left hjl, List.getD_eq_getElem?_getD]
      rw [hget] at hk
      by_cases hji : j < i
      · exact hpre.subset (ih j hji hjl k hk hf)
      · obtain rfl : j = i := by omega
        rw [bfs_s hjl, addN_mem]
        exact Or.inr ⟨hk, hf⟩
    · by_cases hil : i < (bfs a b f c0 i).length
      · omega
      · have he : bfs a b f c0 (i + 1) = bfs a b f c0 i := by rw [bfs, if_neg hil]
        rw [he] at hl
        omega
/-- what has a neighbour of its colour in the field is in the field -/
theorem fldQ_closed (ha : a ≤ 12) (hb : b ≤ 12) (hc : cellN a b c0 = true) {i k : Nat} (hi : i ∈ fldQ a b f c0) (hk : k ∈ nbL a b i) (hf : f k = f c0) : k ∈ fldQ a b f c0 := by
  obtain ⟨j, hj, rfl⟩ := List.getElem_of_mem hi
  have hlen := bfs_len (f := f) ha hb hc 144
  have hj2 : j < (bfs a b f c0 144).length := hj
  refine bfs_closed 144 j (by omega) hj2 k ?_ hf
  rw [List.getD_eq_getElem?_getD, List.getElem?_eq_getElem hj2]
  exact hk
theorem fldQ_in (ha : a ≤ 12) (hb : b ≤ 12) (hc : cellN a b c0 = true) : ∀ k ∈ fldQ a b f c0, cellN a b k = true ∧ f k = f c0 := bfs_in ha hb hc 144
end
/-- whether a number is in the field -/
def inF (Q : List Nat) (k : Nat) : Bool := decide (k ∈ Q)
theorem selG_inc {p : Nat → Bool} (n : Nat) : ∀ i j, i < j → j < selN p n → selG p n i < selG p n j := by
  induction n with
  | zero => intro i j _ h; simp [selN] at h
  | succ n ih =>
    intro i j hij hj
    cases hp : p n
    · rw [selN_f hp] at hj
      rw [selG_f hp]
      exact ih i j hij hj
    · rw [selN_t hp] at hj
      rw [selG_t hp]
      dsimp only
      by_cases e : j = selN p n
      · rw [if_pos e, if_neg (by omega)]
        exact (selG_lt (p := p) n i (by omega)).1
      · rw [if_neg e, if_neg (by omega)]
        exact ih i j hij (by omega)
theorem selG_onto {p : Nat → Bool} {n k : Nat} (hk : k < n) (hp : p k = true) : ∃ j, j < selN p n ∧ selG p n j = k := by
  refine ⟨selN p k, ?_, selG_at hk hp⟩
  have h := selN_mono (p := p) (k := k + 1) (m := n - (k + 1))
  rw [selN_t hp, show k + 1 + (n - (k + 1)) = n by omega] at h
  omega
def selL (p : Nat → Bool) (n : Nat) : List Int := (List.range (selN p n)).map fun j => (selG p n j : Int)
/-- the sorted list -/
theorem sort_field {Q : List Nat} (hn : Q.Nodup) (hq : ∀ k ∈ Q, k < 144) : ((Q.map fun k : Nat => (k : Int)).mergeSort fun x y => decide (x ≤ y)) = selL (inF Q) 144 := by
  refine List.Perm.eq_of_pairwise (le := fun x y : Int => x ≤ y) (fun x y _ _ h1 h2 => by omega) ?_ ?_ ?_
  · have h := List.pairwise_mergeSort (le := fun x y : Int => decide (x ≤ y)) (fun x y z h1 h2 => by simp at *; omega) (fun x y => by simp; omega) (Q.map fun k : Nat => (k : Int))
    exact h.imp (fun h => by simpa using h)
  · unfold selL
    rw [List.pairwise_map]
    refine List.Pairwise.imp_of_mem (R := fun i j : Nat => i < j) ?_ List.pairwise_lt_range
    intro i j hi hj hij
    have := selG_inc (p := inF Q) 144 i j hij (by simpa using hj)
    omega
  · refine (List.mergeSort_perm _ _).trans ?_
    unfold selL
    have hperm : Q.Perm ((List.range (selN (inF Q) 144)).map fun j => selG (inF Q) 144 j) := by
      rw [List.perm_ext_iff_of_nodup hn]
      · intro k
        constructor
        · intro hk
          obtain ⟨j, hj, he⟩ := selG_onto (p := inF Q) (hq k hk) (by unfold inF; simpa using hk)
          rw [List.mem_map]
          exact ⟨j, by simpa using hj, he⟩
        · intro hk
          rw [List.mem_map] at hk
          obtain ⟨j, hj, rfl⟩ := hk
          have := (selG_lt (p := inF Q) 144 j (by simpa using hj)).2
          exact of_decide_eq_true this
      · unfold List.Nodup
        rw [List.pairwise_map]
        refine List.Pairwise.imp_of_mem (R := fun i j : Nat => i < j) ?_ List.pairwise_lt_range
        intro i j hi hj hij
        have := selG_inc (p := inF Q) 144 i j hij (by simpa using hj)
        omega
    have h2 := hperm.map fun k : Nat => (k : Int)
    rw [List.map_map] at h2
    exact h2
end Go.Proofs.YtomfjicjejoakaaDoor
/- The picture that is drawn is valid; no condition. -/
set_option linter.unusedVariables false
namespace Go.Proofs.YtomfjicjejoakaaDoor
open Go.BigFrame
open Go.RowKit Go.Arr
/-- colours that fit, and none beside the cells -/
def GoodQ (a b : Int) (q : Nat → Int) : Prop := ∀ j, 0 ≤ q j ∧ q j < 16 ∧ (cellN a b j = false → q j = 0)
theorem GoodQ.ok {a b : Int} {q : Nat → Int} (ha : 1 ≤ a ∧ a ≤ 12) (hb : 1 ≤ b ∧ b ≤ 12) (h : GoodQ a b q) : okPic a b q = true := by
  refine okPic_of a b q ?_ fun j hj => ?_
  · unfold isSizeB
    rw [inB_t.2 ha, inB_t.2 hb]
    rfl
  · obtain ⟨h1, h2, h3⟩ := h j
    unfold goodAt
    cases hc : cellB (j : Int) a b
    · rw [h3 hc]; decide
    · simp; omega
theorem GoodQ.put {a b : Int} {q : Nat → Int} {i : Nat} {x : Int} (h : GoodQ a b q) (hi : cellN a b i = true) (hx : 0 ≤ x ∧ x < 16) : GoodQ a b (upd q i x) := by
  intro j
  unfold upd
  by_cases e : j = i
  · subst e; rw [if_pos rfl]; exact ⟨hx.1, hx.2, fun h2 => by rw [hi] at h2; cases h2⟩
  · rw [if_neg e]; exact h j
theorem Src.grown2 {W w : World} {g : Nat} {ad : Option Addr} {n c A q : Nat} {f : Nat → Int} (h : Src W g ad n c f A) (hg : W.grownBy w (some q)) (hq : q ≠ g) (hq2 : ∀ a, ad = some a → a.block ≠ q ∨ n = 0) : Src w g ad n c f A := by
  obtain ⟨⟨t, s, h1, h2, h3⟩, h4, h5⟩ := h
  refine ⟨⟨t, s, (grown_obj hg g (obj_lt h1) fun e => hq (Option.some.inj e).symm).trans h1, h2, h3⟩, ?_, h5⟩
  by_cases h0 : n = 0
  · exact ⟨ad, c, rfl, fun hp => absurd hp (by omega)⟩
  · exact h4.grown hg fun a' c' e => by
      simp only [Value.slice.injEq] at e
      intro e2
      rcases hq2 a' e.1 with h6 | h6
      · exact h6 (Option.some.inj e2)
      · exact h0 h6
theorem set_pic_h {n : Nat} {a b b2 : Int} {f : Nat → Int} : (pic n a b f).setIfInBounds 1 (.int .i8 b2) = pic n a b2 f := by simp [pic]
theorem l01Least_any (x y : Int) (w : World) : Calls Tryd.prog 58 #[.int .i8 x, .int .i8 y] w fun e w' => e = .returned (.int .i8 (if x < y then x else y)) ∧ w = w' := by
  by_cases h : x < y
  · rw [if_pos h]
    go_enter Tryd.func58, Tryd.ntmps58
    go_wp2_with (fail)
    go_ret
    exact ⟨rfl, rfl⟩
  · rw [if_neg h]
    go_enter Tryd.func58, Tryd.ntmps58
    go_wp2_with (fail)
    go_ret
    exact ⟨rfl, rfl⟩
set_option maxHeartbeats 8000000 in
set_option maxRecDepth 100000 in
theorem l01Drawn_any (g : Nat) (ad : Option Addr) (n c A : Nat) (f : Nat → Int) (hA : A ≤ 500000) (hn : n ≤ 1000000) (hf : ∀ i, 0 ≤ f i ∧ f i ≤ 255) (W : World) (hs : Src W g ad n c f A) :
    Calls Tryd.prog 27 #[.pointer (some ⟨g, 0, none⟩)] W fun e w' => ∃ (a b : Int) (q : Nat → Int), e = .returned (.agg (pic 144 a b q)) ∧ (1 ≤ a ∧ a ≤ 6) ∧ (1 ≤ b ∧ b ≤ 6) ∧ GoodQ a b q ∧ Src w' g ad n c f (A + 300) ∧ W.grownBy w' (some g) := by
  have hgl := hs.lt
  have hadl : Hid (∀ a, ad = some a → a.block < W.heap.size ∨ n = 0) := fun a e => by
    subst e
    by_cases h0 : n = 0
    · exact Or.inr h0
    · obtain ⟨gq, offq, curq, tq, frq, he, oq, _⟩ := elBytes hs.2.1 (by omega)
      cases he
      exact Or.inl (obj_lt oq)
  have hf := hide hf
  go_enter Tryd.func27, Tryd.ntmps27
  go_wp2_with (fail)
  refine (pick_any g ad n c A f 6 (by omega) (by omega) hn hf.out _ (hs.new ((New.refl _).alloc _))).mono ?_
  rintro e w1 ⟨x, rfl, hx, hs1, hg1⟩
  go_wp2_with (fail)
  refine (pick_any g ad n c (A + 2) f 6 (by omega) (by omega) hn hf.out _ hs1).mono ?_
  rintro e w2 ⟨y, rfl, hy, hs2, hg2⟩
  obtain ⟨a, ha0, ha⟩ : ∃ a : Int, 1 + x = a ∧ 1 ≤ a ∧ a ≤ 6 := ⟨_, rfl, by omega, by omega⟩
  obtain ⟨b, hb0, hb⟩ : ∃ b : Int, 1 + y = b ∧ 1 ≤ b ∧ b ≤ 6 := ⟨_, rfl, by omega, by omega⟩
  go_wp2_with (fail)
  obtain ⟨P, hP⟩ : ∃ P, w2.heap.size = P := ⟨_, rfl⟩
  have hl1 := hg1.size
  have hl2 := hg2.size
  simp at hl1
  refine (pick_any g ad n c (A + 2 + 2) f 4 (by omega) (by omega) hn hf.out _ (hs2.new ((New.refl _).alloc _))).mono ?_
  rintro e w3 ⟨z, rfl, hz, hs3, hg3⟩
  have hg3' : W.grownBy w3 (some g) := ((grown_over (grown_over (new_grown ((New.refl _).alloc _)) hg1 fun q hq => Or.inr (Option.some.inj hq).symm) hg2 fun q hq => Or.inr (Option.some.inj hq).symm).trans (new_grown ((New.refl _).alloc _))).trans hg3
  have hR : obj w3 W.heap.size = some (.cells (pic 144 0 0 fun _ => 0) 27) := (grown_step hg3 (by simp; omega) (by omega)).trans ((obj_alloc_past _ _ _ (by omega)).trans ((grown_step hg2 (by omega) (by omega)).trans ((grown_step hg1 (by simp) (by omega)).trans (obj_alloc_at _ _ _ rfl))))
  have hPo : obj w3 P = some (.cells (pic 144 a b fun _ => 0) 27) := (grown_step hg3 (by simp; omega) (by omega)).trans (obj_alloc_at _ _ _ hP.symm)
  have hPl := obj_lt hPo
  have hq0 : GoodQ a b fun _ => 0 := fun j => ⟨Int.le_refl 0, by show (0 : Int) < 16; omega, fun _ => rfl⟩
  clear hs hs1 hs2 hg1 hg2 hg3
  go_wp2_with (fail)
  go_loopw [5] (fun x wr => ∃ (i : Nat) (q : Nat → Int), i ≤ 144 ∧ x = .int .i64 i ∧ GoodQ a b q ∧ Hid (obj wr P = some (.cells (pic 144 a b q) 27)) ∧ Hid (obj wr W.heap.size = some (.cells (pic 144 0 0 fun _ => 0) 27)) ∧ Src wr g ad n c f (A + 6 + 2 * i) ∧ W.grownBy wr (some g)) (fun x _ => 144 - (intOf x).toNat)
  case atStart => exact ⟨0, fun _ => 0, by omega, rfl, hq0, hPo, hR, hs3.more (by omega), hg3'⟩
  case round =>
    clear hR hPo hq0 hs3 hg3'
    obtain ⟨i, q, hi, rfl, hq, hPo, hR, hsr, hgr⟩ := hrel
    have p1 := hPo.out
    have l1 := obj_lt p1
    by_cases hlt : i < 144
    · cases hc : cellN a b i
      · have hc' : cellB (i : Int) a b = false := hc
        clear hc
        go_wp2_with (fail)
        refine (l01Is_any P 27 a b q i (by omega) (by omega) _ p1).mono ?_
        rintro e w9 ⟨rfl, rfl⟩
        rw [hc']
        go_wp2_with (fail)
        go_roundw
        case rel => exact ⟨i + 1, q, by omega, by go_num, hq, hPo, hR, hsr.more (by omega), hgr⟩
        case measure => simp [intOf]; omega
      · have hc' : cellB (i : Int) a b = true := hc
        have hcH := hide hc
        clear hc
        go_wp2_with (fail)
        refine (l01Is_any P 27 a b q i (by omega) (by omega) _ p1).mono ?_
        rintro e w9 ⟨rfl, rfl⟩
        rw [hc']
        go_wp2_with (fail)
        refine (pick_any g ad n c (A + 6 + 2 * i) f (1 + z) (by omega) (by omega) hn hf.out _ hsr).mono ?_
        rintro e w5 ⟨y5, rfl, hy5, hs5, hg5⟩
        have p5 := (grown_step hg5 l1 (by omega)).trans p1
        have r5 := (grown_step hg5 (obj_lt hR.out) (by omega)).trans hR.out
        have g5 := hgr.trans hg5
        have l5 := obj_lt p5
        clear p1 hPo hR hsr hgr hg5 l1
        go_wp2_with (fail)
        go_roundw
        case rel =>
          refine ⟨i + 1, upd q i y5, by omega, by go_num, hq.put hcH.out (by omega), ?_, ?_, (hs5.grown2 (setCell_grown (grown_refl _ _) _ _) (by omega) fun a' e => (hadl.out a' e).imp (fun h => by omega) id).more (by omega), ?_⟩
          · show _ = _
            exact obj_set_pic p5 _ i _ rfl
          · show _ = _
            rw [obj_setCell_other _ _ _ _ _ (by omega)]
            exact r5
          · exact grown_over g5 (setCell_grown (grown_refl _ (some P)) _ _) fun q hq => Or.inl (by have := Option.some.inj hq; omega)
        case measure => simp [intOf]; omega
    · obtain rfl : i = 144 := by omega
      have r1 := hR.out
      have lr := obj_lt r1
      clear hPo hR
      go_wp2_with (fail)
      refine (pick_any g ad n c _ f 5 (by omega) (by omega) hn hf.out _ hsr).mono ?_
      rintro e w5 ⟨y5, rfl, hy5, hs5, hg5⟩
      have p5 := (grown_step hg5 l1 (by omega)).trans p1
      have r5 := (grown_step hg5 lr (by omega)).trans r1
      have g5 := hgr.trans hg5
      have l5 := obj_lt p5
      have lr5 := obj_lt r5
      clear p1 r1 hsr hgr hg5 l1 lr
      by_cases h0 : y5 = 0
      · subst h0
        go_wp2_with (fail)
        go_loopw [6] (fun x wr => ∃ (i : Nat) (q : Nat → Int), i ≤ 144 ∧ x = .int .i64 i ∧ GoodQ a b q ∧ Hid (obj wr P = some (.cells (pic 144 a b q) 27)) ∧ Hid (obj wr W.heap.size = some (.cells (pic 144 0 0 fun _ => 0) 27)) ∧ Src wr g ad n c f (A + 300) ∧ W.grownBy wr (some g)) (fun x _ => 144 - (intOf x).toNat)
        case atStart => exact ⟨0, q, by omega, rfl, hq, p5, r5, hs5.more (by omega), g5⟩
        case round =>
          clear hq p5 r5 hs5 g5
          obtain ⟨i, q, hi, rfl, hq, hPo, hR, hsr, hgr⟩ := hrel
          have p1 := hPo.out
          have l1 := obj_lt p1
          by_cases hlt : i < 144
          · cases hc : cellN a b i
            · have hc' : cellB (i : Int) a b = false := hc
              clear hc
              go_wp2_with (fail)
              refine (l01Is_any P 27 a b q i (by omega) (by omega) _ p1).mono ?_
              rintro e w9 ⟨rfl, rfl⟩
              rw [hc']
              go_wp2_with (fail)
              go_roundw
              case rel => exact ⟨i + 1, q, by omega, by go_num, hq, hPo, hR, hsr, hgr⟩
              case measure => simp [intOf]; omega
            · have hc' : cellB (i : Int) a b = true := hc
              have hcH := hide hc
              have hin := cellN_e.1 hc
              obtain ⟨m, hm⟩ : ∃ m : Nat, (i : Int) - 2 * ((i : Int) % 12) + a - 1 = m := ⟨((i : Int) - 2 * ((i : Int) % 12) + a - 1).toNat, by omega⟩
              have hml : m < 144 := by omega
              have q1 : 0 ≤ (i : Int) - 2 * ((i : Int) % 12) + a - 1 := by omega
              have q2 : (i : Int) - 2 * ((i : Int) % 12) + a - 1 < 144 := by omega
              have hqm := hq m
              clear hc hin
              go_wp2_with (fail)
              refine (l01Is_any P 27 a b q i (by omega) (by omega) _ p1).mono ?_
              rintro e w9 ⟨rfl, rfl⟩
              rw [hc']
              go_wp2_with (fail)
              go_roundw
              case rel =>
                refine ⟨i + 1, upd q i (q m), by omega, by go_num, hq.put hcH.out ⟨hqm.1, hqm.2.1⟩, ?_, ?_, hsr.grown2 (setCell_grown (grown_refl _ _) _ _) (by omega) fun a' e => (hadl.out a' e).imp (fun h => by omega) id, ?_⟩
                · show _ = _
                  exact obj_set_pic p1 _ i _ rfl
                · show _ = _
                  rw [obj_setCell_other _ _ _ _ _ (by omega)]
                  exact hR.out
                · exact grown_over hgr (setCell_grown (grown_refl _ (some P)) _ _) fun q hq => Or.inl (by have := Option.some.inj hq; omega)
              case measure => simp [intOf]; omega
          · obtain rfl : i = 144 := by omega
            have r1 := hR.out
            have lr := obj_lt r1
            clear hPo hR
            go_wp2_with (fail)
            refine ret_cell agg27 rfl rfl (c := pic 144 a b q) (t := 27) (fr := (0, 0)) (by rw [obj_setRow_same, r1]; simp only [Option.map_some, reCells_cells]) size_pic rfl ⟨a, b, q, rfl, ha, hb, hq, hsr.grown2 (setRow_grown (grown_refl _ _) _) (by omega) (fun a' e => (hadl.out a' e).imp (fun h => by omega) id), grown_over hgr (setRow_grown (grown_refl _ (some W.heap.size)) _) fun q hq => Or.inl (by have := Option.some.inj hq; omega)⟩
      · by_cases h1 : y5 = 1
        · subst h1
          have hqc : Hid (∀ j, 0 ≤ q j ∧ q j < 16) := fun j => ⟨(hq j).1, (hq j).2.1⟩
          obtain ⟨b2, hb2, hb2r⟩ : ∃ b2 : Int, (if b < a then b else a) = b2 ∧ (1 ≤ b2 ∧ b2 ≤ 6) := ⟨_, rfl, by split <;> omega⟩
          go_wp2_with (fail)
          refine (l01Least_any b a _).mono ?_
          rintro e w9 ⟨rfl, rfl⟩
          rw [hb2]
          go_wp2_with (fail)
          go_loopw [7] (fun x wr => ∃ (i : Nat) (q : Nat → Int), i ≤ 144 ∧ x = .int .i64 i ∧ Hid (∀ j, 0 ≤ q j ∧ q j < 16) ∧ Hid (∀ j, j < i → cellN a b2 j = false → q j = 0) ∧ Hid (obj wr P = some (.cells (pic 144 a b2 q) 27)) ∧ Hid (obj wr W.heap.size = some (.cells (pic 144 0 0 fun _ => 0) 27)) ∧ Src wr g ad n c f (A + 300) ∧ W.grownBy wr (some g)) (fun x _ => 144 - (intOf x).toNat)
          case atStart =>
            refine ⟨0, q, by omega, rfl, hqc, fun j hj => absurd hj (by omega), ?_, ?_, (hs5.grown2 (setCell_grown (grown_refl _ _) _ _) (by omega) fun a' e => (hadl.out a' e).imp (fun h => by omega) id).more (by omega), grown_over g5 (setCell_grown (grown_refl _ (some P)) _ _) fun q hq => Or.inl (by have := Option.some.inj hq; omega)⟩
            · show _ = _
              rw [obj_setCell_same, p5]
              simp only [Option.map_some, reCell_cells, set_pic_h]
            · show _ = _
              rw [obj_setCell_other _ _ _ _ _ (by omega)]
              exact r5
          case round =>
            clear hq p5 r5 hs5 g5 hqc
            obtain ⟨i, q, hi, rfl, hq, hqz, hPo, hR, hsr, hgr⟩ := hrel
            have p1 := hPo.out
            have l1 := obj_lt p1
            by_cases hlt : i < 144
            · cases hc : cellN a b2 i
              · have hc' : cellB (i : Int) a b2 = false := hc
                clear hc
                go_wp2_with (fail)
                refine (l01Is_any P 27 a b2 q i (by omega) (by omega) _ p1).mono ?_
                rintro e w9 ⟨rfl, rfl⟩
                rw [hc']
                go_wp2_with (fail)
                go_roundw
                case rel =>
                  refine ⟨i + 1, upd q i 0, by omega, by go_num, fun j => ?_, fun j hj hcj => ?_, ?_, ?_, hsr.grown2 (setCell_grown (grown_refl _ _) _ _) (by omega) fun a' e => (hadl.out a' e).imp (fun h => by omega) id, ?_⟩
                  · unfold upd
                    by_cases e : j = i
                    · rw [if_pos e]; omega
                    · rw [if_neg e]; exact hq.out j
                  · unfold upd
                    by_cases e : j = i
                    · rw [if_pos e]
                    · rw [if_neg e]; exact hqz.out j (by omega) hcj
                  · show _ = _
                    exact obj_set_pic p1 _ i _ rfl
                  · show _ = _
                    rw [obj_setCell_other _ _ _ _ _ (by omega)]
                    exact hR.out
                  · exact grown_over hgr (setCell_grown (grown_refl _ (some P)) _ _) fun q hq => Or.inl (by have := Option.some.inj hq; omega)
                case measure => simp [intOf]; omega
              · have hc' : cellB (i : Int) a b2 = true := hc
                have hcH := hide hc
                clear hc
                go_wp2_with (fail)
                refine (l01Is_any P 27 a b2 q i (by omega) (by omega) _ p1).mono ?_
                rintro e w9 ⟨rfl, rfl⟩
                rw [hc']
                go_wp2_with (fail)
                go_roundw
                case rel =>
                  refine ⟨i + 1, q, by omega, by go_num, hq, fun j hj hcj => ?_, hPo, hR, hsr, hgr⟩
                  by_cases e : j = i
                  · subst e; rw [hcH.out] at hcj; cases hcj
                  · exact hqz.out j (by omega) hcj
                case measure => simp [intOf]; omega
            · obtain rfl : i = 144 := by omega
              have r1 := hR.out
              have lr := obj_lt r1
              have hGd : GoodQ a b2 (fun j => if j < 144 then q j else 0) := fun j => by
                dsimp only
                by_cases e : j < 144
                · rw [if_pos e]; exact ⟨(hq.out j).1, (hq.out j).2, hqz.out j e⟩
                · rw [if_neg e]; exact ⟨by omega, by omega, fun _ => rfl⟩
              have hpc : Hid (pic 144 a b2 q = pic 144 a b2 (fun j => if j < 144 then q j else 0)) := pic_congr fun j hj => by rw [if_pos hj]
              clear hPo hR
              go_wp2_with (fail)
              refine ret_cell agg27 rfl rfl (c := pic 144 a b2 q) (t := 27) (fr := (0, 0)) (by rw [obj_setRow_same, r1]; simp only [Option.map_some, reCells_cells]) size_pic rfl ⟨a, b2, _, by rw [hpc.out], ha, hb2r, hGd, hsr.grown2 (setRow_grown (grown_refl _ _) _) (by omega) (fun a' e => (hadl.out a' e).imp (fun h => by omega) id), grown_over hgr (setRow_grown (grown_refl _ (some W.heap.size)) _) fun q hq => Or.inl (by have := Option.some.inj hq; omega)⟩
        · have e0 : (y5 == 0) = false := by simp [h0]
          have e1 : (y5 == 1) = false := by simp [h1]
          clear h0 h1
          go_wp2_with (fail)
          refine ret_cell agg27 rfl rfl (c := pic 144 a b q) (t := 27) (fr := (0, 0)) (by rw [obj_setRow_same, r5]; simp only [Option.map_some, reCells_cells]) size_pic rfl ⟨a, b, q, rfl, ha, hb, hq, hs5.grown2 (setRow_grown (grown_refl _ _) _) (by omega) (fun a' e => (hadl.out a' e).imp (fun h => by omega) id) |>.more (by omega), grown_over g5 (setRow_grown (grown_refl _ (some W.heap.size)) _) fun q hq => Or.inl (by have := Option.some.inj hq; omega)⟩
theorem l00From_any (ad : Option Addr) (n c : Nat) (f : Nat → Int) (W : World) (hs : Sl W (.slice ad n c) n 1 .u8 f) (had : ∀ a, ad = some a → a.block < W.heap.size) :
    Calls Tryd.prog 28 #[.slice ad n c] W fun e w' => e = .returned (.pointer (some ⟨W.heap.size, 0, none⟩)) ∧ Src w' W.heap.size ad n c f 0 ∧ New W w' := by
  go_enter Tryd.func28, Tryd.ntmps28
  go_wp2_with (fail)
  go_ret
  refine ⟨rfl, ⟨⟨0, 0, ?_, Nat.le_refl _, by omega, by omega⟩, hs.new ((New.refl _).alloc _), fun a e => ?_⟩, (New.refl _).alloc _⟩
  · exact obj_alloc_at _ _ _ rfl
  · have := had a e; omega
set_option maxHeartbeats 2000000 in
set_option maxRecDepth 100000 in
theorem a2Picture_any (ad : Option Addr) (n c : Nat) (f : Nat → Int) (hn : n ≤ 1000000) (hf : ∀ i, 0 ≤ f i ∧ f i ≤ 255) (W : World) (hs : Sl W (.slice ad n c) n 1 .u8 f) (had : ∀ a, ad = some a → a.block < W.heap.size) :
    Calls Tryd.prog 5 #[.slice ad n c] W fun e w' => ∃ (a b : Int) (q : Nat → Int), e = .returned (.agg (pic 144 a b q)) ∧ (1 ≤ a ∧ a ≤ 6) ∧ (1 ≤ b ∧ b ≤ 6) ∧ GoodQ a b q ∧ New W w' := by
  have had := hide had
  go_enter Tryd.func5, Tryd.ntmps5
  go_wp2_with (fail)
  refine (l00From_any ad n c f _ (hs.new ((New.refl _).alloc _)) fun a e => by have := had.out a e; simp; omega).mono ?_
  rintro e w1 ⟨rfl, hs1, hn1⟩
  have hz := hn1.le
  simp at hz
  have hR : obj w1 W.heap.size = some (.cells (pic 144 0 0 fun _ => 0) 27) := (hn1.objs _ (by simp)).trans (obj_alloc_at _ _ _ rfl)
  have hl := obj_lt hR
  have hsz : (W.alloc (Obj.cells (pic 144 0 0 fun _ => 0) 27)).heap.size = W.heap.size + 1 := by simp
  rw [hsz] at hs1
  clear hsz hs
  go_wp2_with (fail)
  refine (l01Drawn_any (W.heap.size + 1) ad n c 0 f (by omega) hn hf _ hs1).mono ?_
  rintro e w2 ⟨a, b, q, rfl, ha, hb, hq, hs2, hg2⟩
  have r2 := (grown_step hg2 hl (by simp)).trans hR
  have hN : New W w2 := grown_new (((New.refl _).alloc _).trans hn1) hg2 fun q hq => by simp at hq; omega
  have l2 := obj_lt r2
  go_wp2_with (fail)
  refine ret_cell agg27 rfl rfl (c := pic 144 a b q) (t := 27) (fr := (0, 0)) (by rw [obj_setRow_same, r2]; simp only [Option.map_some, reCells_cells]) size_pic rfl ⟨a, b, q, rfl, ha, hb, hq, hN.setRow (Nat.le_refl _) _⟩
end Go.Proofs.YtomfjicjejoakaaDoor
