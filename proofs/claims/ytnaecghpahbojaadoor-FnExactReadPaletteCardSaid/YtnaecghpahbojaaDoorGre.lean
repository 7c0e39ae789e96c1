/- The cost of an image for some colours of a palette: the reference and the program answer alike; no condition. -/
import Derived.Test.YtnaecghpahbojaaDoorPicOf
import Derived.Test.YtnaecghpahbojaaDoorFroB
set_option linter.unusedVariables false
namespace Go.Proofs.YtnaecghpahbojaaDoor
open Go.BigFrame
open Go.RowKit Go.Arr
theorem slTones : SlTy Tryd.prog 31 45 (.agg #[.int .u8 0, .int .u8 0, .int .u8 0]) 3 3 := ⟨Tryd.underlying31, by kernel_rfl, rfl, by omega⟩
theorem slTones2 : SlTy Tryd.prog 30 45 (.agg #[.int .u8 0, .int .u8 0, .int .u8 0]) 3 3 := ⟨Tryd.underlying30, by kernel_rfl, rfl, by omega⟩
/-- a row of tones of the call's own -/
def PRow (W : World) (base : Nat) (v : Value) (n : Nat) (f : Nat → Int) : Prop := W.ownsRow base 45 3 v n (irow (n * 3) .u8 f)
section
variable {W W' : World} {base : Nat} {v : Value} {n : Nat} {f f' : Nat → Int}
theorem PRow.new (h : PRow W base v n f) (hn : New W W') : PRow W' base v n f := own_new h hn
theorem PRow.lower {b : Nat} (h : PRow W base v n f) (hb : b ≤ base) : PRow W b v n f := own_lower h hb
theorem PRow.shape (h : PRow W base v n f) : (v = .slice none 0 0 ∧ n = 0) ∨ ∃ g cap cur, v = .slice (some ⟨g, 0, none⟩) n cap ∧ base ≤ g ∧ g < W.heap.size ∧ obj W g = some (.cells cur 45) ∧ n ≤ cap ∧ cap ≤ maxLen ∧ cur.size = cap * 3 ∧ ∀ j, j < n * 3 → cur[j]? = some (.int .u8 (f j)) := by
  obtain ⟨hl, h | ⟨g, cap, cur, h1, h2, h3, h4, h5, h6, h7⟩⟩ := h
  · exact .inl h
  · refine .inr ⟨g, cap, cur, h1, h2, obj_lt h3, h3, h4, h5, by omega, fun j hj => ?_⟩
    have h8 := congrArg (fun l => l[j]?) h7
    try dsimp only at h8
    rw [List.getElem?_take, if_pos hj, Array.getElem?_toList, get_irow j hj] at h8
    exact h8
theorem PRow.of {g cap : Nat} {cur : Array Value} (h : obj W g = some (.cells cur 45)) (hb : base ≤ g) (hn : n ≤ cap) (hc : cap ≤ maxLen) (hs : cur.size = cap * 3) (hf : ∀ j, j < n * 3 → cur[j]? = some (.int .u8 (f j))) : PRow W base (.slice (some ⟨g, 0, none⟩) n cap) n f := by
  refine ⟨by simp, .inr ⟨g, cap, cur, rfl, hb, h, hn, hc, by omega, ?_⟩⟩
  apply List.ext_getElem?
  intro j
  rw [List.getElem?_take]
  by_cases hj : j < n * 3
  · rw [if_pos hj, Array.getElem?_toList, get_irow j hj]; exact hf j hj
  · rw [if_neg hj, List.getElem?_eq_none (by simp; omega)]
theorem PRow.same (h : PRow W base v n f) (hs : ∀ b, v.ownBlock = some b → obj W' b = obj W b) : PRow W' base v n f := by
  rcases h.shape with ⟨rfl, rfl⟩ | ⟨g, cap, cur, rfl, hb, _, ho, h4, h5, h6, hc⟩
  · exact ⟨by simp, .inl ⟨rfl, rfl⟩⟩
  · exact PRow.of ((hs g rfl).trans ho) hb h4 h5 h6 hc
theorem PRow.block (h : PRow W base v n f) : ∀ b, v.ownBlock = some b → base ≤ b ∧ b < W.heap.size := by
  rcases h.shape with ⟨rfl, rfl⟩ | ⟨g, cap, cur, rfl, hb, hl, _⟩
  · intro b hb; simp [Value.ownBlock] at hb
  · intro b hb2; simp [Value.ownBlock] at hb2; omega
theorem PRow.sl (h : PRow W base v n f) : Sl W v n 3 .u8 f := by
  rcases h.shape with ⟨rfl, rfl⟩ | ⟨g, cap, cur, rfl, _, _, ho, _, _, _, hc⟩
  · exact ⟨none, 0, rfl, fun h => absurd h (by omega)⟩
  · exact Sl.of ho fun i hi => by rw [Nat.zero_add]; exact hc i (by omega)
theorem PRow.congr (h : PRow W base v n f) (hf : ∀ j, j < n * 3 → f j = f' j) : PRow W base v n f' := by
  unfold PRow at *
  rw [← irow_congr hf]
  exact h
theorem irow3_snoc {x y z : Int} (hx : f (n * 3) = x) (hy : f (n * 3 + 1) = y) (hz : f (n * 3 + 2) = z) : irow (n * 3) .u8 f ++ [.int .u8 x, .int .u8 y, .int .u8 z] = irow ((n + 1) * 3) .u8 f := by
  subst hx hy hz
  unfold irow
  rw [show (n + 1) * 3 = n * 3 + 1 + 1 + 1 by omega, List.range_succ, List.range_succ, List.range_succ]
  simp [List.map_append, List.append_assoc]
theorem prow_app {g cap : Nat} {x y z : Int} (h : W.ownsRow base 45 3 (.slice (some ⟨g, 0, none⟩) (n + 1) cap) (n + 1) (irow (n * 3) .u8 f ++ [.int .u8 x, .int .u8 y, .int .u8 z])) (hx : f (n * 3) = x) (hy : f (n * 3 + 1) = y) (hz : f (n * 3 + 2) = z) : PRow W base (.slice (some ⟨g, 0, none⟩) (n + 1) cap) (n + 1) f := by
  unfold PRow
  rw [← irow3_snoc hx hy hz]
  exact h
theorem prow_empty {g : Nat} (h : obj W g = some (.cells #[] 45)) (hb : base ≤ g) : PRow W base (.slice (some ⟨g, 0, none⟩) 0 0) 0 f :=
  PRow.of h hb (Nat.le_refl _) (by unfold maxLen; omega) rfl fun j hj => absurd hj (by omega)
end
/-- the tones of some colours -/
def subP (fp L : Nat → Int) : Nat → Int := fun j => fp (((L (j / 3)).toNat - 1) * 3 + j % 3)
theorem subP_0 (fp L : Nat → Int) (i : Nat) : subP fp L (i * 3) = fp (((L i).toNat - 1) * 3) := by
  unfold subP
  rw [show i * 3 / 3 = i by omega, show i * 3 % 3 = 0 by omega, Nat.add_zero]
theorem subP_1 (fp L : Nat → Int) (i : Nat) : subP fp L (i * 3 + 1) = fp (((L i).toNat - 1) * 3 + 1) := by
  unfold subP
  rw [show (i * 3 + 1) / 3 = i by omega, show (i * 3 + 1) % 3 = 1 by omega]
theorem subP_2 (fp L : Nat → Int) (i : Nat) : subP fp L (i * 3 + 2) = fp (((L i).toNat - 1) * 3 + 2) := by
  unfold subP
  rw [show (i * 3 + 2) / 3 = i by omega, show (i * 3 + 2) % 3 = 2 by omega]
theorem subP_congr {fp L L' : Nat → Int} {m : Nat} (h : ∀ j, j < m → L j = L' j) (j : Nat) (hj : j < m * 3) : subP fp L j = subP fp L' j := by
  unfold subP
  rw [h _ (by omega)]
theorem nearK_congr {f f' : Nat → Int} {x y z : Int} {k : Nat} (h : ∀ j, j < k * 3 → f j = f' j) (hk : 0 < k) : nearK f x y z k = nearK f' x y z k := by
  induction k with
  | zero => omega
  | succ k ih =>
    have h0 : ∀ i, i < k + 1 → farE f x y z i = farE f' x y z i := by
      intro i hi
      unfold farE
      rw [h _ (by omega), h _ (by omega), h _ (by omega)]
    unfold nearK
    by_cases hk : k = 0
    · subst hk
      simp [nearK, h0 0 (by omega)]
    · rw [ih (fun j hj => h j (by omega)) (by omega), h0 k (by omega)]
theorem nearK_b {f : Nat → Int} {x y z : Int} (hx : 0 ≤ x ∧ x ≤ 255) (hy : 0 ≤ y ∧ y ≤ 255) (hz : 0 ≤ z ∧ z ≤ 255) (hf : ∀ i, 0 ≤ f i ∧ f i ≤ 255) (k : Nat) : 0 ≤ (nearK f x y z k).2 ∧ (nearK f x y z k).2 ≤ 1000000 := by
  have hb : ∀ i, 0 ≤ farE f x y z i ∧ farE f x y z i ≤ 1000000 := fun i => far_b (hf _) (hf _) (hf _) hx hy hz
  induction k with
  | zero => exact hb 0
  | succ k ih =>
    unfold nearK
    split
    · exact hb k
    · exact ih
def farN (m : Nat) (fs fm : Nat → Int) (i : Nat) : Int := (nearK fs (fm (i * 3)) (fm (i * 3 + 1)) (fm (i * 3 + 2)) m).2
def cosStep (m : Nat) (fs fm : Nat → Int) (s : Int) (i : Nat) : Int := s + farN m fs fm i
def cosS (m : Nat) (fs fm : Nat → Int) (a b : Int) : Nat → Int := recS (cosStep m fs fm) 0 (cellN a b)
theorem farN_b {fs fm : Nat → Int} (hs : ∀ i, 0 ≤ fs i ∧ fs i ≤ 255) (hm : ∀ i, 0 ≤ fm i ∧ fm i ≤ 255) (m i : Nat) : 0 ≤ farN m fs fm i ∧ farN m fs fm i ≤ 1000000 := nearK_b (hm _) (hm _) (hm _) hs m
theorem cosS_b {fs fm : Nat → Int} (hs : ∀ i, 0 ≤ fs i ∧ fs i ≤ 255) (hm : ∀ i, 0 ≤ fm i ∧ fm i ≤ 255) (m : Nat) (a b : Int) (k : Nat) : 0 ≤ cosS m fs fm a b k ∧ cosS m fs fm a b k ≤ 1000000 * k := by
  induction k with
  | zero => simp [cosS, recS]
  | succ k ih =>
    have h := farN_b hs hm m k
    cases hc : cellN a b k
    · have e : cosS m fs fm a b (k + 1) = cosS m fs fm a b k := recS_f hc
      omega
    · have e : cosS m fs fm a b (k + 1) = cosS m fs fm a b k + farN m fs fm k := recS_t hc
      omega
theorem cosT_b {fs fm : Nat → Int} (hs : ∀ i, 0 ≤ fs i ∧ fs i ≤ 255) (hm : ∀ i, 0 ≤ fm i ∧ fm i ≤ 255) (m : Nat) (G : Nat → Nat) (j : Nat) : 0 ≤ recT (cosStep m fs fm) 0 G j ∧ recT (cosStep m fs fm) 0 G j ≤ 1000000 * j := by
  induction j with
  | zero => simp [recT]
  | succ j ih =>
    have h := farN_b hs hm m (G j)
    have e : recT (cosStep m fs fm) 0 G (j + 1) = recT (cosStep m fs fm) 0 G j + farN m fs fm (G j) := rfl
    omega
theorem cosS_congr {fs fs' fm : Nat → Int} {m : Nat} {a b : Int} (h : ∀ j, j < m * 3 → fs j = fs' j) (hm : 0 < m) (k : Nat) : cosS m fs fm a b k = cosS m fs' fm a b k := by
  induction k with
  | zero => rfl
  | succ k ih =>
    cases hc : cellN a b k
    · have e : cosS m fs fm a b (k + 1) = cosS m fs fm a b k := recS_f hc
      have e' : cosS m fs' fm a b (k + 1) = cosS m fs' fm a b k := recS_f hc
      rw [e, e', ih]
    · have e : cosS m fs fm a b (k + 1) = cosS m fs fm a b k + farN m fs fm k := recS_t hc
      have e' : cosS m fs' fm a b (k + 1) = cosS m fs' fm a b k + farN m fs' fm k := recS_t hc
      have e2 : farN m fs fm k = farN m fs' fm k := by unfold farN; rw [nearK_congr h hm]
      rw [e, e', ih, e2]
theorem cosTe (m : Nat) (fs fm : Nat → Int) (a b : Int) : recT (cosStep m fs fm) 0 (selG (cellN a b) 144) (selN (cellN a b) 144) = cosS m fs fm a b 144 := rec_eq (Nat.le_refl _)
end Go.Proofs.YtnaecghpahbojaaDoor
