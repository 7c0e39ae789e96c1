/- Tones that move to the means of their cells: the plain step, palettes cloned and written; no condition. -/
import Derived.Test.YtnaecghpahbojaaDoorMean
import Derived.Test.YtnaecghpahbojaaDoorGre
import Derived.Test.YtnaecghpahbojaaDoorPal
import Derived.Test.YtnaecghpahbojaaDoorGrw
import Derived.Test.YtnaecghpahbojaaDoorVpal
set_option linter.unusedVariables false
namespace Go.Proofs.YtnaecghpahbojaaDoor
open Go.BigFrame
open Go.RowKit Go.Arr
/-- the cells that have tone c as the nearest one -/
def clP (n : Nat) (fp fm : Nat → Int) (a b : Int) (c : Nat) (i : Nat) : Bool := cellN a b i && decide ((nearK fp (fm (i * 3)) (fm (i * 3 + 1)) (fm (i * 3 + 2)) n).1 = c)
def clN (n : Nat) (fp fm : Nat → Int) (a b : Int) (c : Nat) : Nat := selN (clP n fp fm a b c) 144
def clG (n : Nat) (fp fm : Nat → Int) (a b : Int) (c : Nat) : Nat → Int := fun j => (selG (clP n fp fm a b c) 144 j : Int)
def mvP (n : Nat) (fm : Nat → Int) (a b : Int) (fp : Nat → Int) : Nat → Int := fun j => if 0 < clN n fp fm a b (j / 3) then meanZ fm (clG n fp fm a b (j / 3)) (clN n fp fm a b (j / 3)) (j % 3) else fp j
/-- so many tones moved -/
def mvU (n : Nat) (fm : Nat → Int) (a b : Int) (fp : Nat → Int) (c : Nat) : Nat → Int := fun j => if j < c * 3 then mvP n fm a b fp j else fp j
theorem mvP_b {n : Nat} {fm fp : Nat → Int} {a b : Int} (hm : ∀ i, 0 ≤ fm i ∧ fm i ≤ 255) (hp : ∀ i, 0 ≤ fp i ∧ fp i ≤ 255) (j : Nat) : 0 ≤ mvP n fm a b fp j ∧ mvP n fm a b fp j ≤ 255 := by
  unfold mvP
  split
  · rename_i h; exact meanZ_b hm _ _ h
  · exact hp j
theorem clG_b (n : Nat) (fp fm : Nat → Int) (a b : Int) (c : Nat) : ∀ i, i < clN n fp fm a b c → 0 ≤ clG n fp fm a b c i ∧ clG n fp fm a b c i < 144 := by
  intro i hi
  have := (selG_lt (p := clP n fp fm a b c) 144 i hi).1
  unfold clG
  omega
/-- the rounds: how many are left, how many have been made, the palette -/
def mvO (n : Nat) (fm : Nat → Int) (a b : Int) : Nat → Nat → (Nat → Int) → Int × Nat × (Nat → Int)
  | 0, m, p => (0, m, p)
  | r + 1, m, p => if okPal n (mvP n fm a b p) = false then (4, 0, fun _ => 0) else if samePal n n (mvP n fm a b p) p = true then (0, m + 1, p) else mvO n fm a b r (m + 1) (mvP n fm a b p)
section
variable {n : Nat} {fm p : Nat → Int} {a b : Int} {r m : Nat}
theorem mvO_bad (h : okPal n (mvP n fm a b p) = false) : mvO n fm a b (r + 1) m p = (4, 0, fun _ => 0) := if_pos h
theorem mvO_same (h : okPal n (mvP n fm a b p) = true) (h2 : samePal n n (mvP n fm a b p) p = true) : mvO n fm a b (r + 1) m p = (0, m + 1, p) := by rw [mvO, if_neg (by rw [h]; simp), if_pos h2]
theorem mvO_next (h : okPal n (mvP n fm a b p) = true) (h2 : samePal n n (mvP n fm a b p) p = false) : mvO n fm a b (r + 1) m p = mvO n fm a b r (m + 1) (mvP n fm a b p) := by rw [mvO, if_neg (by rw [h]; simp), if_neg (by rw [h2]; simp)]
theorem mvO_c (r m : Nat) (p : Nat → Int) : (mvO n fm a b r m p).1 = 0 ∨ (mvO n fm a b r m p).1 = 4 := by
  induction r generalizing m p with
  | zero => exact Or.inl rfl
  | succ r ih =>
    unfold mvO
    split
    · exact Or.inr rfl
    · split
      · exact Or.inl rfl
      · exact ih _ _
end
theorem same_at {n : Nat} {f g : Nat → Int} (h : samePal n n f g = true) : ∀ j, j < n * 3 → f j = g j := by
  intro j hj
  unfold samePal at h
  simp only [Bool.and_eq_true, List.all_eq_true, List.mem_range] at h
  have h3 := h.2 (j / 3) (by omega)
  unfold alikePal at h3
  rw [eq3_t] at h3
  have h4 : j % 3 = 0 ∨ j % 3 = 1 ∨ j % 3 = 2 := by omega
  rcases h4 with h4 | h4 | h4
  · rw [show j = j / 3 * 3 by omega]; exact h3.1
  · rw [show j = j / 3 * 3 + 1 by omega]; exact h3.2.1
  · rw [show j = j / 3 * 3 + 2 by omega]; exact h3.2.2
/-- the codes and the results -/
def mvC (a b : Int) (fm : Nat → Int) (n : Nat) (fp : Nat → Int) (r : Int) : Int := if askOk a b fm n fp = false then 1 else if inB r 0 50 = false then 2 else (mvO n fm a b r.toNat 0 fp).1
def mvM (a b : Int) (fm : Nat → Int) (n : Nat) (fp : Nat → Int) (r : Int) : Int := if mvC a b fm n fp r = 0 then (mvO n fm a b r.toNat 0 fp).2.1 else 0
def mvN (a b : Int) (fm : Nat → Int) (n : Nat) (fp : Nat → Int) (r : Int) : Nat := if mvC a b fm n fp r = 0 then n else 0
def mvF (a b : Int) (fm : Nat → Int) (n : Nat) (fp : Nat → Int) (r : Int) : Nat → Int := (mvO n fm a b r.toNat 0 fp).2.2
/-- the cells of a slice that is laid behind another one -/
theorem news_sl3 {W : World} {g off : Nat} {cur : Array Value} {t : TypeId} {fr : Nat × Nat} {n : Nat} {f : Nat → Int} (ho : obj W g = some (.cells cur t fr)) (hc : ∀ j, j < n * 3 → cur[off + j]? = some (.int .u8 (f j))) : ∀ j u, (irow (n * 3) .u8 f)[j]? = some u → W.cell? ((⟨g, off, none⟩ : Addr).add j) = some u := by
  intro j u hu
  have hj : j < n * 3 := by
    have := (List.getElem?_eq_some_iff.1 hu).1
    simpa using this
  rw [get_irow j hj] at hu
  rw [addr_add, cell_obj, ho, cellOf_cells, hc j hj]
  exact hu
/-- tone k of a row written -/
def putT (f : Nat → Int) (k : Nat) (d : Nat → Int) : Nat → Int := fun j => if k * 3 ≤ j ∧ j < k * 3 + 3 then d (j - k * 3) else f j
section
variable {W : World} {base n : Nat} {v : Value} {f : Nat → Int}
theorem PRow.at (h : PRow W base v n f) (hn : 0 < n) : ∃ g cap cur, v = .slice (some ⟨g, 0, none⟩) n cap ∧ base ≤ g ∧ obj W g = some (.cells cur 45) ∧ n ≤ cap ∧ n * 3 ≤ cur.size ∧ ∀ j, j < n * 3 → cur[j]? = some (.int .u8 (f j)) := by
  rcases h.shape with ⟨_, h0⟩ | ⟨g, cap, cur, h1, h2, h3, h4, h5, h6, h7, h8⟩
  · omega
  · exact ⟨g, cap, cur, h1, h2, h4, h5, by omega, h8⟩
theorem PRow.nil : PRow W base (.slice none 0 0) 0 f := ⟨by simp, .inl ⟨rfl, rfl⟩⟩
theorem PRow.form (h : PRow W base v n f) : ∃ a cap, v = .slice a n cap := by
  rcases h.shape with ⟨h1, h2⟩ | ⟨g, cap, cur, h1, _⟩
  · exact ⟨_, _, by rw [h2]; exact h1⟩
  · exact ⟨_, _, h1⟩
theorem PRow.put {g cap k : Nat} {cur : Array Value} {d : Nat → Int} (h : PRow W base (.slice (some ⟨g, 0, none⟩) n cap) n f) (ho : obj W g = some (.cells cur 45)) (hk : k < n) : PRow (W.setRow g (seg cur (k * 3) (arr 3 .u8 d))) base (.slice (some ⟨g, 0, none⟩) n cap) n (putT f k d) := by
  rcases h.shape with ⟨h1, _⟩ | ⟨g', cap', cur', h1, h2, h3, h4, h5, h6, h7, h8⟩
  · cases h1
  · simp only [Value.slice.injEq, Option.some.injEq, Addr.mk.injEq, and_true, true_and] at h1
    obtain ⟨rfl, rfl⟩ := h1
    rw [ho] at h4
    simp only [Option.some.injEq, Obj.cells.injEq, and_true] at h4
    subst h4
    have hsz : (seg cur (k * 3) (arr 3 .u8 d)).size = cur.size := by
      have hsa : (arr 3 .u8 d).size = 3 := size_arr
      unfold seg
      simp [hsa]
      omega
    refine PRow.of (cur := seg cur (k * 3) (arr 3 .u8 d)) (by rw [obj_setRow_same, ho]; rfl) h2 h5 h6 (by rw [hsz, h7]) fun j hj => ?_
    rw [get_seg _ _ _ _ (by rw [size_arr]; omega), size_arr]
    unfold putT
    by_cases e : k * 3 ≤ j ∧ j < k * 3 + 3
    · rw [if_pos e, if_pos e, get_arr, if_pos (by omega)]
    · rw [if_neg e, if_neg e]; exact h8 j hj
end
theorem putT_mv {n : Nat} {fm fp : Nat → Int} {a b : Int} {c : Nat} (h : 0 < clN n fp fm a b c) : putT (mvU n fm a b fp c) c (meanZ fm (clG n fp fm a b c) (clN n fp fm a b c)) = mvU n fm a b fp (c + 1) := by
  funext j
  unfold putT mvU
  by_cases e : c * 3 ≤ j ∧ j < c * 3 + 3
  · rw [if_pos e, if_pos (by omega)]
    unfold mvP
    rw [show j / 3 = c by omega, if_pos h, show j - c * 3 = j % 3 by omega]
  · rw [if_neg e]
    by_cases e2 : j < c * 3
    · rw [if_pos e2, if_pos (by omega)]
    · rw [if_neg e2, if_neg (by omega)]
theorem mvU_skip {n : Nat} {fm fp : Nat → Int} {a b : Int} {c : Nat} (h : ¬ 0 < clN n fp fm a b c) : mvU n fm a b fp (c + 1) = mvU n fm a b fp c := by
  funext j
  unfold mvU
  by_cases e2 : j < c * 3
  · rw [if_pos e2, if_pos (by omega)]
  · rw [if_neg e2]
    by_cases e : j < (c + 1) * 3
    · rw [if_pos e]
      unfold mvP
      rw [show j / 3 = c by omega, if_neg h]
    · rw [if_neg e]
theorem mvU_0 {n : Nat} {fm fp : Nat → Int} {a b : Int} : mvU n fm a b fp 0 = fp := by
  funext j
  unfold mvU
  rw [if_neg (by omega)]
theorem mvU_n {n : Nat} {fm fp : Nat → Int} {a b : Int} : ∀ j, j < n * 3 → mvU n fm a b fp n j = mvP n fm a b fp j := fun j hj => if_pos hj
/-- the picture's colours and the classes of cells -/
theorem picS_e (n : Nat) (fp fm : Nat → Int) (a b : Int) (k i : Nat) : picS n fp fm a b k i = if i < k ∧ cellN a b i = true then nearC n fp fm i else 0 := by
  induction k with
  | zero => rw [if_neg (by omega)]; rfl
  | succ k ih =>
    cases hp : cellN a b k
    · rw [picS, recS_f hp]
      show picS n fp fm a b k i = _
      rw [ih]
      by_cases e : i = k
      · subst e; rw [hp, if_neg (by simp), if_neg (by simp)]
      · by_cases h : i < k ∧ cellN a b i = true
        · rw [if_pos h, if_pos ⟨by omega, h.2⟩]
        · rw [if_neg h, if_neg fun h2 => h ⟨by omega, h2.2⟩]
    · rw [picS, recS_t hp]
      show stepP n fp fm (picS n fp fm a b k) k i = _
      unfold stepP upd
      by_cases e : i = k
      · subst e; rw [if_pos rfl, if_pos ⟨by omega, hp⟩]
      · rw [if_neg e, ih]
        by_cases h : i < k ∧ cellN a b i = true
        · rw [if_pos h, if_pos ⟨by omega, h.2⟩]
        · rw [if_neg h, if_neg fun h2 => h ⟨by omega, h2.2⟩]
theorem cl_pic (n : Nat) (fp fm : Nat → Int) (a b : Int) (c i : Nat) (hi : i < 144) : decide (picS n fp fm a b 144 i = (c : Int) + 1) = clP n fp fm a b c i := by
  rw [picS_e]
  unfold clP
  cases hp : cellN a b i
  · rw [if_neg (by simp)]; simp; omega
  · rw [if_pos ⟨hi, rfl⟩]
    unfold nearC
    rw [Bool.true_and, decide_eq_decide]
    omega
theorem picS_b (n : Nat) (fp fm : Nat → Int) (a b : Int) (hn : n ≤ 15) (i : Nat) : 0 ≤ picS n fp fm a b 144 i ∧ picS n fp fm a b 144 i ≤ 16 := by
  rw [picS_e]
  split
  · exact nearC_b n fp fm i hn
  · omega
end Go.Proofs.YtnaecghpahbojaaDoor
