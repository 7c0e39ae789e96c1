/- The great law on fields: what its last part holds, in plain words; no condition. -/
import Derived.Test.YtmmckoemkpfgbaaFfQ
import Derived.Test.YtmmckoemkpfgbaaFfA
import Derived.Test.YtmmckoemkpfgbaaWithCol
import Derived.Test.YtmmckoemkpfgbaaImplB
import Derived.Test.YtmmckoemkpfgbaaPlace
set_option linter.unusedVariables false
namespace Go.Proofs.Ytmmckoemkpfgbaa
open Go.BigFrame
open Go.RowKit Go.Arr
theorem GoodQ.b {a b : Int} {q : Nat → Int} (h : GoodQ a b q) : ∀ i, 0 ≤ q i ∧ q i ≤ 255 := fun i => by have := h i; omega
theorem fs_pos {a b : Int} {q : Nat → Int} (ha : 1 ≤ a ∧ a ≤ 12) (hb : 1 ≤ b ∧ b ≤ 12) : 0 < fsN a b q 144 := by
  have h0 : cellN a b 0 = true := by rw [cellN_e]; omega
  obtain ⟨s, h1, h2, h3⟩ := start_of (f := q) h0
  have := selN_below (p := fsP a b q) (cellN_e.1 (fsP_cell h2)).1 h2
  unfold fsN
  omega
theorem own_cells {a b : Int} {q : Nat → Int} (ha : 1 ≤ a ∧ a ≤ 12) (hb : 1 ≤ b ∧ b ≤ 12) : ((owC a b q (fsN a b q 144) 0 : Nat) : Int) = a * b := by
  rw [owC_end ha.2 hb.2]
  have := cells_many a.toNat (by omega) b.toNat (by omega)
  rw [show ((a.toNat : Nat) : Int) = a by omega, show ((b.toNat : Nat) : Int) = b by omega] at this
  rw [this, Int.natCast_mul, show ((a.toNat : Nat) : Int) = a by omega, show ((b.toNat : Nat) : Int) = b by omega]
theorem upd_good {a b : Int} {q : Nat → Int} (h : GoodQ a b q) {c0 : Nat} (hc0 : cellN a b c0 = true) {z : Int} (hz : 0 ≤ z ∧ z < 16) : GoodQ a b (upd q c0 z) := by
  intro j
  unfold upd
  by_cases e : j = c0
  · subst e; rw [if_pos rfl]; exact ⟨hz.1, hz.2, fun h2 => by rw [hc0] at h2; cases h2⟩
  · rw [if_neg e]; exact h j
theorem paint_cell {a b : Int} {h : Int → Int → Int} {i : Nat} (hi : cellN a b i = true) : paint a b h i = h ((i : Int) % 12) ((i : Int) / 12) := by
  have := cellN_e.1 hi
  unfold paint
  exact if_pos (by unfold inside; omega)
theorem paint_not {a b : Int} {h : Int → Int → Int} {i : Nat} (hb : b ≤ 12) (hi : cellN a b i = false) : paint a b h i = 0 := by
  unfold paint
  refine if_neg fun h2 => ?_
  unfold inside at h2
  have : cellN a b i = true := by rw [cellN_e]; omega
  rw [hi] at this
  cases this
theorem plain_good {a b : Int} (hb : b ≤ 12) {z : Int} (hz : 0 ≤ z ∧ z < 16) : GoodQ a b (paint a b fun _ _ => z) := by
  intro j
  cases h : cellN a b j
  · rw [paint_not hb h]; exact ⟨by omega, by omega, fun _ => rfl⟩
  · rw [paint_cell h]; exact ⟨hz.1, hz.2, fun h2 => by cases h2⟩
structure FfEnd (a b : Int) (q : Nat → Int) (X Y C : Int) (G G2 G3 : Nat → Int) (M M2 D : Nat) (F0 F2 : Nat → Int) : Prop where
  fill : fillA a b q X Y C = ⟨0, a, b, G⟩
  good : GoodQ a b G
  fc : fC a b G X Y = 0
  fc0 : fC a b q X Y = 0
  fn : fN a b G X Y = M2
  fn0 : fN a b q X Y = M
  dc : difC a b q a b G = 0
  dm : difM a b q a b G = D
  d : D = 0 ∨ D = M
  le : M ≤ M2
  m2 : M2 ≤ 144
  wi : withA a b q X Y C = ⟨0, a, b, G2⟩
  good2 : GoodQ a b G2
  co : colC a b G2 X Y = C
  cc : codeB (okPic a b G2) (isCellB X Y a b) = 0
  plain : plainA a b C = ⟨0, a, b, G3⟩
  good3 : GoodQ a b G3
  one : fsN a b G3 144 = 1
  cells : ∀ j, j < M → ∃ e : Nat, e < 144 ∧ Hid (F0 j = e) ∧ G e = C ∧ ∃ t, t < M2 ∧ F2 t = e
theorem ff_end {a b : Int} {q : Nat → Int} {X Y C : Int} (ha : 1 ≤ a ∧ a ≤ 12) (hb : 1 ≤ b ∧ b ≤ 12) (hg : GoodQ a b q) (hX : 0 ≤ X ∧ X < a) (hY : 0 ≤ Y ∧ Y < b) (hC : 0 ≤ C ∧ C < 16) :
    ∃ G G2 G3 M M2 D, FfEnd a b q X Y C G G2 G3 M M2 D (fG a b q X Y) (fG a b G X Y) := by
  have hok := hg.ok ha hb
  have hcell : isCellB X Y a b = true := by unfold isCellB; rw [Bool.and_eq_true, inB_t, inB_t]; omega
  have hcol : inB C 0 15 = true := inB_t.2 (by omega)
  obtain ⟨_, hx, hy, he, hc0⟩ := place_cell hok hcell
  have hq : ∀ k ∈ fQ a b q X Y, cellN a b k = true ∧ q k = q (X + 12 * Y).toNat := fldQ_in ha.2 hb.2 hc0
  have hG : GoodQ a b (fillS (fQ a b q X Y) C q 144) := fill_good hg (fun k hk => (hq k hk).1) hC
  have hokG := hG.ok ha hb
  have hG2 : GoodQ a b (upd q (X + 12 * Y).toNat C) := upd_good hg hc0 hC
  have hG3 : GoodQ a b (paint a b fun _ _ => C) := plain_good hb.2 hC
  have hw : codeB (okPic a b q) (withQ a b X Y C) = 0 := by unfold withQ; rw [hok, hcell, hcol]; rfl
  have fc0 : fC a b q X Y = 0 := by unfold fC; rw [hok, hcell]; rfl
  have fcG : fC a b (fillS (fQ a b q X Y) C q 144) X Y = 0 := by unfold fC; rw [hokG, hcell]; rfl
  have dc : difC a b q a b (fillS (fQ a b q X Y) C q 144) = 0 := by unfold difC; rw [if_pos ⟨hok, hokG⟩, if_pos ⟨rfl, rfl⟩]
  refine ⟨fillS (fQ a b q X Y) C q 144, upd q (X + 12 * Y).toNat C, paint a b fun _ _ => C, selN (inF (fQ a b q X Y)) 144, selN (inF (fQ a b (fillS (fQ a b q X Y) C q 144) X Y)) 144,
    difN q (fillS (fQ a b q X Y) C q 144) 144, ?_⟩
  refine ⟨?_, hG, fcG, fc0, ?_, ?_, dc, ?_, ?_, ?_, selN_le 144, ?_, hG2, ?_, ?_, ?_, hG3, ?_, ?_⟩
  · unfold fillA; rw [if_pos hw]
  · unfold fN; rw [if_pos fcG]
  · unfold fN; rw [if_pos fc0]
  · unfold difM; rw [if_pos dc]
  · rw [difN_fill (fun k hk => (hq k hk).2) 144 (Nat.le_refl _)]
    split
    · exact Or.inl rfl
    · exact Or.inr rfl
  · exact fill_len ha.2 hb.2 hc0 C
  · unfold withA; rw [if_pos hw]
  · unfold colC; rw [hG2.ok ha hb, hcell]
    rw [if_pos (show codeB true true = 0 from rfl)]
    unfold upd
    rw [if_pos rfl]
  · rw [hG2.ok ha hb, hcell]; rfl
  · unfold plainA plainQ
    rw [inB_t.2 ha, inB_t.2 hb, hcol]
    rfl
  · exact plain_one ha hb (z := C) fun c hc => paint_cell hc
  · intro j hj
    have h1 := selG_lt (p := inF (fQ a b q X Y)) 144 j hj
    have h2 : selG (inF (fQ a b q X Y)) 144 j ∈ fQ a b q X Y := of_decide_eq_true h1.2
    have h3 := fill_more ha.2 hb.2 hc0 C _ h2
    obtain ⟨t, ht, hte⟩ := selG_onto (p := inF (fQ a b (fillS (fQ a b q X Y) C q 144) X Y)) h1.1 (decide_eq_true h3)
    exact ⟨_, h1.1, rfl, fill_in h1.1 h2, t, ht, by unfold fG; rw [hte]⟩
end Go.Proofs.Ytmmckoemkpfgbaa
