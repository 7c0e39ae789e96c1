/- Palettes put in order of brightness: the plain order, the comparison; no condition. -/
import Derived.Test.YtmiafnlaooggjaaSrt
import Derived.Test.YtmiafnlaooggjaaGre
import Derived.Test.YtmiafnlaooggjaaVpal
set_option linter.unusedVariables false
namespace Go.Proofs.Ytmiafnlaooggjaa
open Go.BigFrame
open Go.RowKit Go.Arr
def mkB (z : Int) : Fin 256 := ⟨z.toNat % 256, Nat.mod_lt _ (by omega)⟩
theorem mkB_v {z : Int} (h : 0 ≤ z ∧ z ≤ 255) : (((mkB z).val : Nat) : Int) = z := by unfold mkB; dsimp only; omega
/-- the tone of colour i -/
def tnF (f : Nat → Int) (i : Nat) : Tn := (mkB (f (i * 3)), mkB (f (i * 3 + 1)), mkB (f (i * 3 + 2)))
section
variable {f : Nat → Int} (hf : ∀ i, 0 ≤ f i ∧ f i ≤ 255) (i : Nat)
include hf
theorem tnF_0 : n0 (tnF f i) = f (i * 3) := mkB_v (hf _)
theorem tnF_1 : n1 (tnF f i) = f (i * 3 + 1) := mkB_v (hf _)
theorem tnF_2 : n2 (tnF f i) = f (i * 3 + 2) := mkB_v (hf _)
end
def ordP (n : Nat) (f : Nat → Int) (L : List Nat) : Prop := L.Perm (List.range n) ∧ L.Pairwise fun i j => tl (tnF f i) (tnF f j)
theorem ordP_one {n : Nat} {f : Nat → Int} {L M : List Nat} (h : ordP n f L) (h2 : ordP n f M) : L = M := by
  refine List.Perm.eq_of_pairwise (le := fun i j => tl (tnF f i) (tnF f j)) (fun a b _ _ h1 h2 => ?_) h.2 h2.2 (h.1.trans h2.1.symm)
  exact absurd (tl_trans h1 h2) (tl_irr _)
noncomputable def ordL (n : Nat) (f : Nat → Int) : List Nat := Classical.epsilon (ordP n f)
theorem ordL_eq {n : Nat} {f : Nat → Int} {L : List Nat} (h : ordP n f L) : ordL n f = L := ordP_one (Classical.epsilon_spec ⟨L, h⟩) h
/-- the colours of a list of places -/
def lsF (L : List Nat) (i : Nat) : Int := ((L.getD i 0 : Nat) : Int) + 1
def insP (L : List Nat) (x p : Nat) : List Nat := L.take p ++ x :: L.drop p
theorem getD_ins {L : List Nat} {x p : Nat} (hp : p ≤ L.length) (j : Nat) : (insP L x p).getD j 0 = if j < p then L.getD j 0 else if j = p then x else L.getD (j - 1) 0 := by
  unfold insP
  simp only [List.getD_eq_getElem?_getD, List.getElem?_append, List.length_take, Nat.min_eq_left hp]
  by_cases h1 : j < p
  · rw [if_pos h1, if_pos h1, List.getElem?_take_of_lt h1]
  · rw [if_neg h1, if_neg h1]
    by_cases h2 : j = p
    · subst h2; simp
    · rw [if_neg h2]
      obtain ⟨d, rfl⟩ : ∃ d, j = p + 1 + d := ⟨j - (p + 1), by omega⟩
      rw [show p + 1 + d - p = d + 1 by omega, List.getElem?_cons_succ, List.getElem?_drop, show p + 1 + d - 1 = p + d by omega]
theorem len_ins {L : List Nat} {x p : Nat} (hp : p ≤ L.length) : (insP L x p).length = L.length + 1 := by
  unfold insP
  simp
  omega
theorem ins_end {L : List Nat} {x : Nat} : insP L x L.length = L ++ [x] := by simp [insP]
theorem perm_ins {L : List Nat} {x p : Nat} : (insP L x p).Perm (x :: L) := by
  unfold insP
  refine List.perm_middle.trans ?_
  rw [List.take_append_drop]
theorem perm_range {L : List Nat} {i p : Nat} (h : L.Perm (List.range i)) : (insP L i p).Perm (List.range (i + 1)) := by
  rw [List.range_succ]
  refine perm_ins.trans ((h.cons i).trans ?_)
  exact (List.perm_append_singleton i (List.range i)).symm
theorem pw_getD {R : Nat → Nat → Prop} {L : List Nat} : L.Pairwise R ↔ ∀ i j, i < j → j < L.length → R (L.getD i 0) (L.getD j 0) := by
  rw [List.pairwise_iff_getElem]
  constructor
  · intro h i j h1 h2
    have := h i j (by omega) h2 h1
    rwa [List.getD_eq_getElem?_getD, List.getD_eq_getElem?_getD, List.getElem?_eq_getElem h2, List.getElem?_eq_getElem (show i < L.length by omega)]
  · intro h i j h1 h2 h3
    have := h i j h3 h2
    rwa [List.getD_eq_getElem?_getD, List.getD_eq_getElem?_getD, List.getElem?_eq_getElem h2, List.getElem?_eq_getElem h1] at this
theorem ordP_ins {f : Nat → Int} {L : List Nat} {i p : Nat} (h : ordP i f L) (hp : p ≤ i) (hup : ∀ j, p ≤ j → j < i → tl (tnF f i) (tnF f (L.getD j 0))) (hdn : p = 0 ∨ tl (tnF f (L.getD (p - 1) 0)) (tnF f i)) : ordP (i + 1) f (insP L i p) := by
  have hl : L.length = i := by rw [h.1.length_eq, List.length_range]
  refine ⟨perm_range h.1, pw_getD.2 fun a b hab hb => ?_⟩
  rw [len_ins (by omega), hl] at hb
  have hw := pw_getD.1 h.2
  rw [hl] at hw
  have hdn' : ∀ q, q < p → tl (tnF f (L.getD q 0)) (tnF f i) := fun q hq => by
    rcases hdn with h0 | h0
    · omega
    · by_cases e : q = p - 1
      · subst e; exact h0
      · exact tl_trans (hw q (p - 1) (by omega) (by omega)) h0
  rw [getD_ins (by omega), getD_ins (by omega)]
  by_cases h1 : b < p
  · rw [if_pos h1, if_pos (by omega)]; exact hw a b hab (by omega)
  · rw [if_neg h1]
    by_cases h2 : b = p
    · rw [if_pos h2, if_pos (by omega)]; exact hdn' a (by omega)
    · rw [if_neg h2]
      by_cases h3 : a < p
      · rw [if_pos h3]; exact hw a (b - 1) (by omega) (by omega)
      · rw [if_neg h3]
        by_cases h4 : a = p
        · rw [if_pos h4]; exact hup (b - 1) (by omega) (by omega)
        · rw [if_neg h4]; exact hw (a - 1) (b - 1) (by omega) (by omega)
theorem ordP_lt {n : Nat} {f : Nat → Int} {L : List Nat} (h : ordP n f L) {j : Nat} (hj : j < n) : L.getD j 0 < n := by
  have hl : L.length = n := by rw [h.1.length_eq, List.length_range]
  have hm : L.getD j 0 ∈ L := by
    rw [List.getD_eq_getElem?_getD, List.getElem?_eq_getElem (by omega)]
    exact List.getElem_mem _
  exact List.mem_range.1 (h.1.mem_iff.1 hm)
theorem ordP_len {n : Nat} {f : Nat → Int} {L : List Nat} (h : ordP n f L) : L.length = n := by rw [h.1.length_eq, List.length_range]
/-- the comparison, as the reference makes it -/
def befI (a b c d e f : Int) : Bool := if bright a b c ≠ bright d e f then decide (bright a b c < bright d e f) else if a ≠ d then decide (a < d) else decide (b < e)
theorem befI_tl (x y : Tn) : befI (n0 x) (n1 x) (n2 x) (n0 y) (n1 y) (n2 y) = decide (tl x y) := by
  unfold befI
  have e1 : bright (n0 x) (n1 x) (n2 x) = brT x := rfl
  have e2 : bright (n0 y) (n1 y) (n2 y) = brT y := rfl
  have b1 : brT x = 3 * n0 x + 6 * n1 x + n2 x := rfl
  have b2 : brT y = 3 * n0 y + 6 * n1 y + n2 y := rfl
  rw [e1, e2]
  split
  · exact decide_eq_decide.2 (by unfold tl; omega)
  · split
    · exact decide_eq_decide.2 (by unfold tl; omega)
    · exact decide_eq_decide.2 (by unfold tl; omega)
theorem befI_f {f : Nat → Int} (hf : ∀ i, 0 ≤ f i ∧ f i ≤ 255) (i j : Nat) : befI (f (i * 3)) (f (i * 3 + 1)) (f (i * 3 + 2)) (f (j * 3)) (f (j * 3 + 1)) (f (j * 3 + 2)) = decide (tl (tnF f i) (tnF f j)) := by
  rw [← befI_tl, tnF_0 hf, tnF_1 hf, tnF_2 hf, tnF_0 hf, tnF_1 hf, tnF_2 hf]
set_option maxHeartbeats 2000000 in
set_option maxRecDepth 100000 in
theorem before_any (a b c d e f : Int) (ha : 0 ≤ a ∧ a ≤ 255) (hb : 0 ≤ b ∧ b ≤ 255) (hc : 0 ≤ c ∧ c ≤ 255) (hd : 0 ≤ d ∧ d ≤ 255) (he : 0 ≤ e ∧ e ≤ 255) (hf : 0 ≤ f ∧ f ≤ 255) (w : World) :
    Calls Try.prog 79 #[.agg #[.int .u8 a, .int .u8 b, .int .u8 c], .agg #[.int .u8 d, .int .u8 e, .int .u8 f]] w fun x w' => x = .returned (.bool (befI a b c d e f)) ∧ New w w' := by
  have hv : Hid (befI a b c d e f = if bright a b c ≠ bright d e f then decide (bright a b c < bright d e f) else if a ≠ d then decide (a < d) else decide (b < e)) := rfl
  go_enter Try.func79, Try.ntmps79
  go_wp2_with (fail)
  generalize hw0 : (w.alloc (Obj.cells #[.int .u8 a, .int .u8 b, .int .u8 c] 40)).alloc (Obj.cells #[.int .u8 d, .int .u8 e, .int .u8 f] 40) = w0
  have b1 : obj w0 w.heap.size = some (.cells #[.int .u8 a, .int .u8 b, .int .u8 c] 40) := by subst hw0; go_simp
  have b2 : obj w0 (w.heap.size + 1) = some (.cells #[.int .u8 d, .int .u8 e, .int .u8 f] 40) := by subst hw0; go_simp
  have hN0 : New w w0 := by subst hw0; exact ((New.refl w).alloc _).alloc _
  clear hw0
  refine (bright_spec0 a b c ha hb hc _).mono ?_
  rintro x w1 ⟨rfl, hn1⟩
  have c1 := (hn1.objs _ (obj_lt b1)).trans b1
  have c2 := (hn1.objs _ (obj_lt b2)).trans b2
  have hN1 := hN0.trans hn1
  clear b1 b2 hN0 hn1
  go_wp2_with (fail)
  refine (bright_spec0 d e f hd he hf _).mono ?_
  rintro x w2 ⟨rfl, hn2⟩
  have d1 := (hn2.objs _ (obj_lt c1)).trans c1
  have d2 := (hn2.objs _ (obj_lt c2)).trans c2
  have hN2 := hN1.trans hn2
  clear c1 c2 hN1 hn2
  generalize bright a b c = X at hv ⊢
  generalize bright d e f = Y at hv ⊢
  by_cases h1 : X = Y
  · subst h1
    by_cases h2 : a = d
    · subst h2
      have hv := hide (hv.out.trans ((if_neg (by simp)).trans (if_neg (by simp))))
      go_wp2_with (fail)
      go_ret
      exact ⟨by rw [hv.out]; rfl, hN2⟩
    · have h3 : (a != d) = true := by simp [h2]
      have hv := hide (hv.out.trans ((if_neg (by simp)).trans (if_pos h2)))
      go_wp2_with (fail)
      go_ret
      exact ⟨by rw [hv.out]; rfl, hN2⟩
  · have h3 : (X != Y) = true := by simp [h1]
    have hv := hide (hv.out.trans (if_pos h1))
    go_wp2_with (fail)
    go_ret
    exact ⟨by rw [hv.out]; rfl, hN2⟩
end Go.Proofs.Ytmiafnlaooggjaa
