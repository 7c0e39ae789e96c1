/- The mean tone of some cells: the reference and the program answer alike; no condition. -/
import Derived.Test.YtphjhegaplochaaGreatDoorU6
import Derived.Test.YtphjhegaplochaaGreatDoorU10
import Derived.Test.YtphjhegaplochaaGreatDoorU4
import Derived.Test.YtphjhegaplochaaGreatDoorU11
import Derived.Test.YtphjhegaplochaaGreatDoorU12
import Derived.Test.YtphjhegaplochaaGreatDoorU9
set_option linter.unusedVariables false
namespace Go.Proofs.YtphjhegaplochaaGreatDoor
open Go.BigFrame
open Go.RowKit Go.Arr
theorem lvSums : loadVar 83 = aggLoad 83 := rfl
theorem svSums : storeVar 83 = aggStore 83 := rfl
theorem ldSums (g off : Nat) (w : World) : (aggLoad 83 ⟨g, off, none⟩).run Tryz.prog w = segOr (obj w g) off 3 w ((aggLoadOld 83 ⟨g, off, none⟩).run Tryz.prog w) := run_aggLoad 83 3 _ Tryz.underlying83 rfl (by kernel_rfl) g off w
theorem stSums (g off : Nat) (v : Value) (w : World) : (aggStore 83 ⟨g, off, none⟩ v).run Tryz.prog w = segStoreOr (obj w g) g off 3 v w ((aggStoreOld 83 ⟨g, off, none⟩ v).run Tryz.prog w) := run_aggStore 83 3 (by kernel_rfl) g off v w
theorem zeroSums (w : World) : (zeroValue 83).run Tryz.prog w = .ok (.agg (arr 3 .i64 fun _ => 0)) w := by kernel_rfl
theorem zeroTone (w : World) : (zeroValue 26).run Tryz.prog w = .ok (.agg (arr 3 .u8 fun _ => 0)) w := by kernel_rfl
theorem sizeInt (w : World) : (sizeOf 2).run Tryz.prog w = .ok 1 w := by kernel_rfl
theorem sizeByte (w : World) : (sizeOf 5).run Tryz.prog w = .ok 1 w := by kernel_rfl
theorem ixSums (f : Nat → Int) (ik : IntKind) (i : Int) (h0 : 0 ≤ i) (h1 : i < 3) (w : World) : (Instr.index 83 (.agg (arr 3 .i64 f)) (.int ik i)).run Tryz.prog w = .ok (.int .i64 (f i.toNat)) w := run_index_arr (n := 3) 83 2 Tryz.underlying83 Tryz.underlying2 sizeInt ik i h0 (by omega) w
theorem ixTone (f : Nat → Int) (ik : IntKind) (i : Int) (h0 : 0 ≤ i) (h1 : i < 3) (w : World) : (Instr.index 26 (.agg (arr 3 .u8 f)) (.int ik i)).run Tryz.prog w = .ok (.int .u8 (f i.toNat)) w := run_index_arr (n := 3) 26 5 Tryz.underlying26 Tryz.underlying5 sizeByte ik i h0 (by omega) w
attribute [local go_sem ↓] lvSums svSums zeroSums zeroTone
attribute [local go_sem] ldSums stSums
attribute [local go_sem high] ixSums ixTone
theorem pic3a {n o p : Nat} {a b : Int} {f : Nat → Int} (ho : o + 3 ≤ n) (hp : p = 2 + o + 3) : (pic n a b f).extract (2 + o) p = arr 3 .u8 fun j => f (o + j) := pic3 ho hp
theorem arr3z : (arr 3 .u8 fun _ => 0) = #[.int .u8 0, .int .u8 0, .int .u8 0] := rfl
theorem tone_arr (g : Nat → Int) : arr 3 .u8 g = #[.int .u8 (g 0), .int .u8 (g 1), .int .u8 (g 2)] := rfl
def sumK (f c : Nat → Int) (k : Nat) : Nat → Int
  | 0 => 0
  | i + 1 => sumK f c k i + f ((c i).toNat * 3 + k)
theorem sumK_b {f c : Nat → Int} (hf : ∀ i, 0 ≤ f i ∧ f i ≤ 255) (k i : Nat) : 0 ≤ sumK f c k i ∧ sumK f c k i ≤ 255 * i := by
  induction i with
  | zero => simp [sumK]
  | succ i ih =>
    have := hf ((c i).toNat * 3 + k)
    unfold sumK
    omega
def meanZ (f c : Nat → Int) (n k : Nat) : Int := sumK f c k n / n
theorem meanZ_b {f c : Nat → Int} (hf : ∀ i, 0 ≤ f i ∧ f i ≤ 255) (n k : Nat) (hn : 0 < n) : 0 ≤ meanZ f c n k ∧ meanZ f c n k ≤ 255 := by
  have h := sumK_b (c := c) hf k n
  unfold meanZ
  refine ⟨Int.ediv_nonneg h.1 (by omega), ?_⟩
  have h1 : sumK f c k n / n ≤ (255 * n) / n := Int.ediv_le_ediv (by omega) h.2
  rwa [Int.mul_ediv_cancel _ (by omega)] at h1
def cellsOk (a b : Int) (n : Nat) (z : Nat → Int) : Bool := (List.range n).all fun i => cellB (z i) a b
def meanC (a b : Int) (f : Nat → Int) (n : Nat) (z : Nat → Int) : Int := if okImg a b f = false then 1 else if cellsOk a b n z = false then 2 else if n = 0 then 6 else 0
def meanV (a b : Int) (f : Nat → Int) (n : Nat) (z : Nat → Int) : Nat → Int := if meanC a b f n z = 0 then meanZ f z n else fun _ => 0
theorem cellB_b {i a b : Int} (h : cellB i a b = true) : 0 ≤ i ∧ i < 144 := by
  unfold cellB at h
  rw [Bool.and_eq_true] at h
  have := inB_t.1 h.1
  omega
theorem cellsOk_t {a b : Int} {n : Nat} {z : Nat → Int} (h : ∀ j, j < n → cellB (z j) a b = true) : cellsOk a b n z = true := List.all_eq_true.2 fun i hi => h i (by simpa using hi)
theorem cellsOk_f {a b : Int} {n i : Nat} {z : Nat → Int} (hi : i < n) (h : cellB (z i) a b = false) : cellsOk a b n z = false := List.all_eq_false.2 ⟨i, by simpa using hi, by simp [h]⟩
theorem cellsOk_e {a b : Int} {n : Nat} {z : Nat → Int} (h : cellsOk a b n z = true) : ∀ i, i < n → cellB (z i) a b = true := fun i hi => List.all_eq_true.1 h i (by simpa using hi)
theorem meanV_0 {a b : Int} {f : Nat → Int} {n : Nat} {z : Nat → Int} {k : Int} (h : meanC a b f n z = k) (hk : k ≠ 0) : meanV a b f n z = fun _ => 0 := by unfold meanV; rw [h]; exact if_neg hk
theorem meanV_1 {a b : Int} {f : Nat → Int} {n : Nat} {z : Nat → Int} (h : meanC a b f n z = 0) : meanV a b f n z = meanZ f z n := by unfold meanV; rw [h]; exact if_pos rfl
theorem upto_c {p : Nat → Bool} {k : Nat} (h : ∀ j, j < k → p j = true) (hk : p k = true) : ∀ j, j < k + 1 → p j = true := by
  intro j hj
  rcases Nat.lt_succ_iff_lt_or_eq.1 hj with h1 | rfl
  · exact h j h1
  · exact hk
def badZ (a b i : Int) : Bool := decide (i < 0) || !isCellB (i % 12) (i / 12) a b
theorem badZ_cell (a b i : Int) (ha : a ≤ 12) (hb : b ≤ 12) : badZ a b i = !cellB i a b := by
  unfold badZ cellB isCellB
  by_cases h : i < 0
  · rw [decide_eq_true h, show inB i 0 143 = false from inB_f.2 (by omega)]; rfl
  · rw [decide_eq_false h, Bool.false_or]
    congr 1
    have e1 : inB (i % 12) 0 (a - 1) = decide (i % 12 < a) := by unfold inB; rw [decide_eq_decide]; omega
    have e2 : inB (i / 12) 0 (b - 1) = decide (i / 12 < b) := by unfold inB; rw [decide_eq_decide]; omega
    rw [e1, e2]
    by_cases h2 : i / 12 < b
    · rw [show inB i 0 143 = true from inB_t.2 (by omega), Bool.true_and]
    · rw [decide_eq_false h2, Bool.and_false, Bool.and_false]
def anyBad (a b : Int) (n : Nat) (z : Nat → Int) : Bool := (List.range n).any fun i => badZ a b (z i)
theorem anyBad_ok (a b : Int) (n : Nat) (z : Nat → Int) (ha : a ≤ 12) (hb : b ≤ 12) : anyBad a b n z = !cellsOk a b n z := by
  unfold anyBad cellsOk
  rw [List.not_all_eq_any_not]
  congr 1
  funext i
  exact badZ_cell a b (z i) ha hb
end Go.Proofs.YtphjhegaplochaaGreatDoor
/- Tones that move to the means of their cells: the plain step, palettes cloned and written; no condition. -/
set_option linter.unusedVariables false
namespace Go.Proofs.YtphjhegaplochaaGreatDoor
open Go.BigFrame
open Go.RowKit Go.Arr
/-- the cells that have tone c as the nearest one -/
def clP (n : Nat) (fp fm : Nat → Int) (a b : Int) (c : Nat) (i : Nat) : Bool := cellN a b i && decide ((nearK fp (fm (i * 3)) (fm (i * 3 + 1)) (fm (i * 3 + 2)) n).1 = c)
def clN (n : Nat) (fp fm : Nat → Int) (a b : Int) (c : Nat) : Nat := selN (clP n fp fm a b c) 144
def clG (n : Nat) (fp fm : Nat → Int) (a b : Int) (c : Nat) : Nat → Int := fun j => (selG (clP n fp fm a b c) 144 j : Int)
def mvP (n : Nat) (fm : Nat → Int) (a b : Int) (fp : Nat → Int) : Nat → Int := fun j => if 0 < clN n fp fm a b (j / 3) then meanZ fm (clG n fp fm a b (j / 3)) (clN n fp fm a b (j / 3)) (j % 3) else fp j
/-- so many tones moved -/
def mvU (n : Nat) (fm : Nat → Int) (a b : Int) (fp : Nat → Int) (c : Nat) : Nat → Int := fun j => if j < c * 3 then mvP n fm a b fp j else fp j
theorem mvP_b {n : Nat} {fm fp : Nat → Int} {a b : Int} (hm : ∀ i, 0 ≤ fm i ∧ fm i ≤ 255) (hp : ∀ i, 0 ≤ fp i ∧ fp i ≤ 255) (j : Nat) : 0 ≤ mvP n fm a b fp j ∧ mvP n fm a b fp j ≤ 255 := by
  unfold mvP
  split
  · rename_i h; exact meanZ_b hm _ _ h
  · exact hp j
theorem clG_b (n : Nat) (fp fm : Nat → Int) (a b : Int) (c : Nat) : ∀ i, i < clN n fp fm a b c → 0 ≤ clG n fp fm a b c i ∧ clG n fp fm a b c i < 144 := by
  intro i hi
  have := (selG_lt (p := clP n fp fm a b c) 144 i hi).1
  unfold clG
  omega
/-- the rounds: how many are left, how many have been made, the palette -/
def mvO (n : Nat) (fm : Nat → Int) (a b : Int) : Nat → Nat → (Nat → Int) → Int × Nat × (Nat → Int)
  | 0, m, p => (0, m, p)
  | r + 1, m, p => if okPal n (mvP n fm a b p) = false then (4, 0, fun _ => 0) else if samePal n n (mvP n fm a b p) p = true then (0, m + 1, p) else mvO n fm a b r (m + 1) (mvP n fm a b p)
section
variable {n : Nat} {fm p : Nat → Int} {a b : Int} {r m : Nat}
theorem mvO_bad (h : okPal n (mvP n fm a b p) = false) : mvO n fm a b (r + 1) m p = (4, 0, fun _ => 0) := if_pos h
theorem mvO_same (h : okPal n (mvP n fm a b p) = true) (h2 : samePal n n (mvP n fm a b p) p = true) : mvO n fm a b (r + 1) m p = (0, m + 1, p) := by rw [mvO, if_neg (by rw [h]; simp), if_pos h2]
theorem mvO_next (h : okPal n (mvP n fm a b p) = true) (h2 : samePal n n (mvP n fm a b p) p = false) : mvO n fm a b (r + 1) m p = mvO n fm a b r (m + 1) (mvP n fm a b p) := by rw [mvO, if_neg (by rw [h]; simp), if_neg (by rw [h2]; simp)]
theorem mvO_c (r m : Nat) (p : Nat → Int) : (mvO n fm a b r m p).1 = 0 ∨ (mvO n fm a b r m p).1 = 4 := by
  induction r generalizing m p with
  | zero => exact Or.inl rfl
  | succ r ih =>
    unfold mvO
    split
    · exact Or.inr rfl
    · split
      · exact Or.inl rfl
      · exact ih _ _
end
theorem same_at {n : Nat} {f g : Nat → Int} (h : samePal n n f g = true) : ∀ j, j < n * 3 → f j = g j := by
  intro j hj
  unfold samePal at h
  simp only [Bool.and_eq_true, List.all_eq_true, List.mem_range] at h
  have h3 := h.2 (j / 3) (by omega)
  unfold alikePal at h3
  rw [eq3_t] at h3
  have h4 : j % 3 = 0 ∨ j % 3 = 1 ∨ j % 3 = 2 := by omega
  rcases h4 with h4 | h4 | h4
  · rw [show j = j / 3 * 3 by omega]; exact h3.1
  · rw [show j = j / 3 * 3 + 1 by omega]; exact h3.2.1
  · rw [show j = j / 3 * 3 + 2 by omega]; exact h3.2.2
/-- the codes and the results -/
def mvC (a b : Int) (fm : Nat → Int) (n : Nat) (fp : Nat → Int) (r : Int) : Int := if askOk a b fm n fp = false then 1 else if inB r 0 50 = false then 2 else (mvO n fm a b r.toNat 0 fp).1
def mvM (a b : Int) (fm : Nat → Int) (n : Nat) (fp : Nat → Int) (r : Int) : Int := if mvC a b fm n fp r = 0 then (mvO n fm a b r.toNat 0 fp).2.1 else 0
def mvN (a b : Int) (fm : Nat → Int) (n : Nat) (fp : Nat → Int) (r : Int) : Nat := if mvC a b fm n fp r = 0 then n else 0
def mvF (a b : Int) (fm : Nat → Int) (n : Nat) (fp : Nat → Int) (r : Int) : Nat → Int := (mvO n fm a b r.toNat 0 fp).2.2
/-- the cells of a slice that is laid behind another one -/
theorem news_sl3 {W : World} {g off : Nat} {cur : Array Value} {t : TypeId} {fr : Nat × Nat} {n : Nat} {f : Nat → Int} (ho : obj W g = some (.cells cur t fr)) (hc : ∀ j, j < n * 3 → cur[off + j]? = some (.int .u8 (f j))) : ∀ j u, (irow (n * 3) .u8 f)[j]? = some u → W.cell? ((⟨g, off, none⟩ : Addr).add j) = some u := by
  intro j u hu
  have hj : j < n * 3 := by
    have := (List.getElem?_eq_some_iff.1 hu).1
    simpa using this
  rw [get_irow j hj] at hu
  rw [addr_add, cell_obj, ho, cellOf_cells, hc j hj]
  exact hu
/-- tone k of a row written -/
def putT (f : Nat → Int) (k : Nat) (d : Nat → Int) : Nat → Int := fun j => if k * 3 ≤ j ∧ j < k * 3 + 3 then d (j - k * 3) else f j
section
variable {W : World} {base n : Nat} {v : Value} {f : Nat → Int}
theorem PRow.at (h : PRow W base v n f) (hn : 0 < n) : ∃ g cap cur, v = .slice (some ⟨g, 0, none⟩) n cap ∧ base ≤ g ∧ obj W g = some (.cells cur 26) ∧ n ≤ cap ∧ n * 3 ≤ cur.size ∧ ∀ j, j < n * 3 → cur[j]? = some (.int .u8 (f j)) := by
  rcases h.shape with ⟨_, h0⟩ | ⟨g, cap, cur, h1, h2, h3, h4, h5, h6, h7, h8⟩
  · omega
  · exact ⟨g, cap, cur, h1, h2, h4, h5, by omega, h8⟩
theorem PRow.nil : PRow W base (.slice none 0 0) 0 f := ⟨by simp, .inl ⟨rfl, rfl⟩⟩
theorem PRow.form (h : PRow W base v n f) : ∃ a cap, v = .slice a n cap := by
  rcases h.shape with ⟨h1, h2⟩ | ⟨g, cap, cur, h1, _⟩
  · exact ⟨_, _, by rw [h2]; exact h1⟩
  · exact ⟨_, _, h1⟩
theorem PRow.put {g cap k : Nat} {cur : Array Value} {d : Nat → Int} (h : PRow W base (.slice (some ⟨g, 0, none⟩) n cap) n f) (ho : obj W g = some (.cells cur 26)) (hk : k < n) : PRow (W.setRow g (seg cur (k * 3) (arr 3 .u8 d))) base (.slice (some ⟨g, 0, none⟩) n cap) n (putT f k d) := by
  rcases h.shape with ⟨h1, _⟩ | ⟨g', cap', cur', h1, h2, h3, h4, h5, h6, h7, h8⟩
  · cases h1
  · simp only [Value.slice.injEq, Option.some.injEq, Addr.mk.injEq, and_true, true_and] at h1
    obtain ⟨rfl, rfl⟩ := h1
    rw [ho] at h4
    simp only [Option.some.injEq, Obj.cells.injEq, and_true] at h4
    subst h4
    have hsz : (seg cur (k * 3) (arr 3 .u8 d)).size = cur.size := by
      have hsa : (arr 3 .u8 d).size = 3 := size_arr
      unfold seg
      simp [hsa]
      omega
    refine PRow.of (cur := seg cur (k * 3) (arr 3 .u8 d)) (by rw [obj_setRow_same, ho]; rfl) h2 h5 h6 (by rw [hsz, h7]) fun j hj => ?_
    rw [get_seg _ _ _ _ (by rw [size_arr]; omega), size_arr]
    unfold putT
    by_cases e : k * 3 ≤ j ∧ j < k * 3 + 3
    · rw [if_pos e, if_pos e, get_arr, if_pos (by omega)]
    · rw [if_neg e, if_neg e]; exact h8 j hj
end
theorem putT_mv {n : Nat} {fm fp : Nat → Int} {a b : Int} {c : Nat} (h : 0 < clN n fp fm a b c) : putT (mvU n fm a b fp c) c (meanZ fm (clG n fp fm a b c) (clN n fp fm a b c)) = mvU n fm a b fp (c + 1) := by
  funext j
  unfold putT mvU
  by_cases e : c * 3 ≤ j ∧ j < c * 3 + 3
  · rw [if_pos e, if_pos (by omega)]
    unfold mvP
    rw [show j / 3 = c by omega, if_pos h, show j - c * 3 = j % 3 by omega]
  · rw [if_neg e]
    by_cases e2 : j < c * 3
    · rw [if_pos e2, if_pos (by omega)]
    · rw [if_neg e2, if_neg (by omega)]
theorem mvU_skip {n : Nat} {fm fp : Nat → Int} {a b : Int} {c : Nat} (h : ¬ 0 < clN n fp fm a b c) : mvU n fm a b fp (c + 1) = mvU n fm a b fp c := by
  funext j
  unfold mvU
  by_cases e2 : j < c * 3
  · rw [if_pos e2, if_pos (by omega)]
  · rw [if_neg e2]
    by_cases e : j < (c + 1) * 3
    · rw [if_pos e]
      unfold mvP
      rw [show j / 3 = c by omega, if_neg h]
    · rw [if_neg e]
theorem mvU_0 {n : Nat} {fm fp : Nat → Int} {a b : Int} : mvU n fm a b fp 0 = fp := by
  funext j
  unfold mvU
  rw [if_neg (by omega)]
theorem mvU_n {n : Nat} {fm fp : Nat → Int} {a b : Int} : ∀ j, j < n * 3 → mvU n fm a b fp n j = mvP n fm a b fp j := fun j hj => if_pos hj
/-- the picture's colours and the classes of cells -/
theorem picS_e (n : Nat) (fp fm : Nat → Int) (a b : Int) (k i : Nat) : picS n fp fm a b k i = if i < k ∧ cellN a b i = true then nearC n fp fm i else 0 := by
  induction k with
  | zero => rw [if_neg (by omega)]; rfl
  | succ k ih =>
    cases hp : cellN a b k
    · rw [picS, recS_f hp]
      show picS n fp fm a b k i = _
      rw [ih]
      by_cases e : i = k
      · subst e; rw [hp, if_neg (by simp), if_neg (by simp)]
      · by_cases h : i < k ∧ cellN a b i = true
        · rw [if_pos h, if_pos ⟨by omega, h.2⟩]
        · rw [if_neg h, if_neg fun h2 => h ⟨by omega, h2.2⟩]
    · rw [picS, recS_t hp]
      show stepP n fp fm (picS n fp fm a b k) k i = _
      unfold stepP upd
      by_cases e : i = k
      · subst e; rw [if_pos rfl, if_pos ⟨by omega, hp⟩]
      · rw [if_neg e, ih]
        by_cases h : i < k ∧ cellN a b i = true
        · rw [if_pos h, if_pos ⟨by omega, h.2⟩]
        · rw [if_neg h, if_neg fun h2 => h ⟨by omega, h2.2⟩]
theorem cl_pic (n : Nat) (fp fm : Nat → Int) (a b : Int) (c i : Nat) (hi : i < 144) : decide (picS n fp fm a b 144 i = (c : Int) + 1) = clP n fp fm a b c i := by
  rw [picS_e]
  unfold clP
  cases hp : cellN a b i
  · rw [if_neg (by simp)]; simp; omega
  · rw [if_pos ⟨hi, rfl⟩]
    unfold nearC
    rw [Bool.true_and, decide_eq_decide]
    omega
theorem picS_b (n : Nat) (fp fm : Nat → Int) (a b : Int) (hn : n ≤ 15) (i : Nat) : 0 ≤ picS n fp fm a b 144 i ∧ picS n fp fm a b 144 i ≤ 16 := by
  rw [picS_e]
  split
  · exact nearC_b n fp fm i hn
  · omega
end Go.Proofs.YtphjhegaplochaaGreatDoor
/- The tones, palettes and images that are drawn are valid; no condition. -/
set_option linter.unusedVariables false
namespace Go.Proofs.YtphjhegaplochaaGreatDoor
open Go.BigFrame
open Go.RowKit Go.Arr
theorem PRow.grown {W W' : World} {base n g : Nat} {v : Value} {f : Nat → Int} (h : PRow W base v n f) (hg : W.grownBy W' (some g)) (hgl : g < base) : PRow W' base v n f :=
  h.same fun b hb => grown_obj hg b (h.block b hb).2 fun e => by have := (h.block b hb).1; have := Option.some.inj e; omega
theorem u8_wrap (x : Int) : 0 ≤ x % 256 ∧ x % 256 ≤ 255 := by omega
theorem seg3 (F : Nat → Int) (x y z : Int) : seg (arr 3 .u8 F) 0 #[.int .u8 x, .int .u8 y, .int .u8 z] = #[.int .u8 x, .int .u8 y, .int .u8 z] := rfl
theorem one_any (g : Nat) (ad : Option Addr) (n c A : Nat) (f : Nat → Int) (m : Int) (hm : m ≤ 100000) (hA : A ≤ 900000) (hn : n ≤ 1000000) (hf : ∀ i, 0 ≤ f i ∧ f i ≤ 255) (W : World) (hs : Src W g ad n c f A) :
    Calls Tryz.prog 81 #[.pointer (some ⟨g, 0, none⟩), .int .i64 m] W fun e w' => ∃ x : Bool, e = .returned (.bool x) ∧ Src w' g ad n c f (A + 2) ∧ W.grownBy w' (some g) := by
  go_enter Tryz.func81, Tryz.ntmps81
  go_wp2_with (fail)
  refine (pick_any g ad n c A f m hm hA hn hf _ hs).mono ?_
  rintro e w1 ⟨x, rfl, hx, hs1, hg1⟩
  go_wp2_with (fail)
  go_ret
  exact ⟨_, rfl, hs1, hg1⟩
theorem among_any (g : Nat) (ad : Option Addr) (n c A : Nat) (f : Nat → Int) (hA : A ≤ 900000) (hn : n ≤ 1000000) (hf : ∀ i, 0 ≤ f i ∧ f i ≤ 255) (W : World) (hs : Src W g ad n c f A) (q : Nat) (z : Nat → Int) (hz : Sl W (.slice (some ⟨q, 0, none⟩) 5 5) 5 1 .i64 z) (hq : q ≠ g) :
    Calls Tryz.prog 101 #[.pointer (some ⟨g, 0, none⟩), .slice (some ⟨q, 0, none⟩) 5 5] W fun e w' => ∃ x : Int, e = .returned (.int .i64 x) ∧ Src w' g ad n c f (A + 2) ∧ W.grownBy w' (some g) := by
  go_enter Tryz.func101, Tryz.ntmps101
  go_wp2_with (fail)
  refine (pick_any g ad n c A f 5 (by omega) hA hn hf _ hs).mono ?_
  rintro e w1 ⟨x, rfl, hx, hs1, hg1⟩
  obtain ⟨k, rfl⟩ : ∃ k : Nat, x = k := ⟨x.toNat, by omega⟩
  have hk : k < 5 := by omega
  obtain ⟨gs, offs, curs, ts, frs, he, o5, hE⟩ := elInts hz (by omega)
  simp only [Option.some.injEq, Addr.mk.injEq, and_true] at he
  obtain ⟨rfl, rfl⟩ := he
  have p5 := (grown_step hg1 (obj_lt o5) hq).trans o5
  obtain ⟨l5, e5⟩ := hE k hk
  have y5 := obj_lt p5
  clear hx o5 hE hz hs
  try simp only [Nat.zero_add] at l5 e5
  go_wp2_with (fail)
  go_ret
  exact ⟨_, rfl, hs1, hg1⟩
set_option maxHeartbeats 4000000 in
set_option maxRecDepth 100000 in
theorem l02Tone_any (g : Nat) (ad : Option Addr) (n c A : Nat) (f : Nat → Int) (hA : A ≤ 800000) (hn : n ≤ 1000000) (hf : ∀ i, 0 ≤ f i ∧ f i ≤ 255) (W : World) (hs : Src W g ad n c f A) :
    Calls Tryz.prog 82 #[.pointer (some ⟨g, 0, none⟩)] W fun e w' => ∃ x y z : Int, e = .returned (.agg #[.int .u8 x, .int .u8 y, .int .u8 z]) ∧ ((0 ≤ x ∧ x ≤ 255) ∧ (0 ≤ y ∧ y ≤ 255) ∧ (0 ≤ z ∧ z ≤ 255)) ∧ Src w' g ad n c f (A + 8) ∧ W.grownBy w' (some g) := by
  have hgl := hs.lt
  have hadl : Hid (∀ a, ad = some a → a.block < W.heap.size ∨ n = 0) := fun a e => by
    subst e
    by_cases h0 : n = 0
    · exact Or.inr h0
    · obtain ⟨gq, offq, curq, tq, frq, he, oq, _⟩ := elBytes hs.2.1 (by omega)
      cases he
      exact Or.inl (obj_lt oq)
  have hf := hide hf
  go_enter Tryz.func82, Tryz.ntmps82
  go_wp2_with (fail)
  refine (one_any g ad n c A f 3 (by omega) (by omega) hn hf.out _ (hs.new ((New.refl _).alloc _))).mono ?_
  rintro e w1 ⟨x, rfl, hs1, hg1⟩
  have hl1 := hg1.size
  simp at hl1
  have hR : obj w1 W.heap.size = some (.cells (arr 3 .u8 fun _ => 0) 26) := (grown_step hg1 (by simp) (by omega)).trans (obj_alloc_at _ _ _ rfl)
  have hg1' : W.grownBy w1 (some g) := grown_over (new_grown ((New.refl _).alloc _)) hg1 fun q hq => Or.inr (Option.some.inj hq).symm
  have lR := obj_lt hR
  clear hs hg1
  cases x
  · go_wp2_with (fail)
    refine (pick_any g ad n c (A + 2) f 256 (by omega) (by omega) hn hf.out _ hs1).mono ?_
    rintro e w2 ⟨x, rfl, hx, hs2, hg2⟩
    go_wp2_with (fail)
    refine (pick_any g ad n c (A + 2 + 2) f 256 (by omega) (by omega) hn hf.out _ hs2).mono ?_
    rintro e w3 ⟨y, rfl, hy, hs3, hg3⟩
    go_wp2_with (fail)
    refine (pick_any g ad n c (A + 2 + 2 + 2) f 256 (by omega) (by omega) hn hf.out _ hs3).mono ?_
    rintro e w4 ⟨z, rfl, hz, hs4, hg4⟩
    have h2 := hg2.size
    have h3 := hg3.size
    have h4 := hg4.size
    have r4 := (grown_step hg4 (by omega) (by omega)).trans ((grown_step hg3 (by omega) (by omega)).trans ((grown_step hg2 lR (by omega)).trans hR))
    have g4 := ((hg1'.trans hg2).trans hg3).trans hg4
    have l4 := obj_lt r4
    clear hR hs1 hs2 hs3 hg1' hg2 hg3 hg4 lR
    go_wp2_with (fail)
    refine ret_cell agg26 rfl rfl (c := #[.int .u8 x, .int .u8 y, .int .u8 z]) (t := 26) (fr := (0, 0)) (by rw [obj_setRow_same, r4]; simp only [Option.map_some, reCells_cells, seg3]) rfl rfl ⟨x, y, z, rfl, by omega, (hs4.grown2 (setRow_grown (grown_refl _ _) _) (by omega) fun a' e => (hadl.out a' e).imp (fun h => by omega) id).more (by omega), grown_over g4 (setRow_grown (grown_refl _ (some W.heap.size)) _) fun q hq => Or.inl (by have := Option.some.inj hq; omega)⟩
  · go_wp2_with (fail)
    refine (among_any g ad n c (A + 2) f (by omega) hn hf.out _ (hs1.new ((New.refl _).alloc _)) w1.heap.size (fun j => if j = 0 then 0 else if j = 1 then 64 else if j = 2 then 128 else if j = 3 then 192 else 255) (Sl.of (obj_alloc_at _ _ _ rfl) fun i hi => by
      have : i = 0 ∨ i = 1 ∨ i = 2 ∨ i = 3 ∨ i = 4 := by omega
      rcases this with rfl | rfl | rfl | rfl | rfl <;> rfl) (by have := hs1.lt; omega)).mono ?_
    rintro e w2 ⟨x, rfl, hs2, hg2⟩
    have hx := u8_wrap x
    have h2 := hg2.size
    simp at h2
    have r2 := (grown_step hg2 (by simp; omega) (by omega)).trans ((obj_alloc_past _ _ _ lR).trans hR)
    have g2 := (hg1'.trans (new_grown ((New.refl _).alloc _))).trans hg2
    have l2 := obj_lt r2
    clear hR hs1 hg1' hg2 lR
    go_wp2_with (fail)
    refine ret_cell agg26 rfl rfl (c := #[.int .u8 (x % 256), .int .u8 (x % 256), .int .u8 (x % 256)]) (t := 26) (fr := (0, 0)) (by rw [obj_setRow_same, r2]; simp only [Option.map_some, reCells_cells, seg3]) rfl rfl ⟨_, _, _, rfl, ⟨hx, hx, hx⟩, (hs2.grown2 (setRow_grown (grown_refl _ _) _) (by omega) fun a' e => (hadl.out a' e).imp (fun h => by omega) id).more (by omega), grown_over g2 (setRow_grown (grown_refl _ (some W.heap.size)) _) fun q hq => Or.inl (by have := Option.some.inj hq; omega)⟩
/-- one tone more, behind m of them -/
def app3 (p : Nat → Int) (m : Nat) (x y z : Int) : Nat → Int := fun j => if j < m * 3 then p j else if j = m * 3 then x else if j = m * 3 + 1 then y else z
theorem app3_b {p : Nat → Int} {m : Nat} {x y z : Int} (hp : ∀ i, 0 ≤ p i ∧ p i ≤ 255) (hx : 0 ≤ x ∧ x ≤ 255) (hy : 0 ≤ y ∧ y ≤ 255) (hz : 0 ≤ z ∧ z ≤ 255) : ∀ i, 0 ≤ app3 p m x y z i ∧ app3 p m x y z i ≤ 255 := fun i => by
  unfold app3
  split
  · exact hp i
  · split
    · exact hx
    · split
      · exact hy
      · exact hz
theorem app3_0 (p : Nat → Int) (m : Nat) (x y z : Int) : app3 p m x y z (m * 3) = x := by unfold app3; rw [if_neg (by omega), if_pos rfl]
theorem app3_1 (p : Nat → Int) (m : Nat) (x y z : Int) : app3 p m x y z (m * 3 + 1) = y := by unfold app3; rw [if_neg (by omega), if_neg (by omega), if_pos rfl]
theorem app3_2 (p : Nat → Int) (m : Nat) (x y z : Int) : app3 p m x y z (m * 3 + 2) = z := by unfold app3; rw [if_neg (by omega), if_neg (by omega), if_neg (by omega)]
theorem app3_old (p : Nat → Int) (m : Nat) (x y z : Int) (j : Nat) (h : j < m * 3) : p j = app3 p m x y z j := by unfold app3; rw [if_pos h]
theorem okPal_one (f : Nat → Int) : okPal 1 f = true := by
  rw [okPal_t fun j hj => firstAt_t fun i hi => by omega]
  decide
set_option maxHeartbeats 4000000 in
set_option maxRecDepth 100000 in
theorem palDrawn_any (g : Nat) (ad : Option Addr) (n c A : Nat) (f : Nat → Int) (hA : A ≤ 700000) (hn : n ≤ 1000000) (hf : ∀ i, 0 ≤ f i ∧ f i ≤ 255) (W : World) (hs : Src W g ad n c f A) :
    Calls Tryz.prog 39 #[.pointer (some ⟨g, 0, none⟩), .int .i64 5] W fun e w' => ∃ (go co m : Nat) (p : Nat → Int), e = .returned (.slice (some ⟨go, 0, none⟩) m co) ∧ PRow w' W.heap.size (.slice (some ⟨go, 0, none⟩) m co) m p ∧ (1 ≤ m ∧ m ≤ 5) ∧ okPal m p = true ∧ (∀ i, 0 ≤ p i ∧ p i ≤ 255) ∧ Src w' g ad n c f (A + 50) ∧ W.grownBy w' (some g) := by
  have hgl := hs.lt
  have hadl : Hid (∀ a, ad = some a → a.block < W.heap.size ∨ n = 0) := fun a e => by
    subst e
    by_cases h0 : n = 0
    · exact Or.inr h0
    · obtain ⟨gq, offq, curq, tq, frq, he, oq, _⟩ := elBytes hs.2.1 (by omega)
      cases he
      exact Or.inl (obj_lt oq)
  have hf := hide hf
  go_enter Tryz.func39, Tryz.ntmps39
  go_wp2_with (fail)
  refine (l02Tone_any g ad n c A f (by omega) hn hf.out _ hs).mono ?_
  rintro e w1 ⟨x, y, z, rfl, hb, hs1, hg1⟩
  have h1 := hg1.size
  go_wp2_with (fail)
  refine (pick_any g ad n c (A + 8) f 5 (by omega) (by omega) hn hf.out _ (hs1.new ((New.refl _).alloc _))).mono ?_
  rintro e w2 ⟨k, rfl, hk, hs2, hg2⟩
  have h2 := hg2.size
  simp at h2
  have o2 : obj w2 w1.heap.size = some (.cells #[.int .u8 x, .int .u8 y, .int .u8 z] 26) := (grown_step hg2 (by simp) (by omega)).trans (obj_alloc_at _ _ _ rfl)
  have g2 := (hg1.trans (new_grown ((New.refl _).alloc _))).trans hg2
  have hr2 : PRow w2 W.heap.size (.slice (some ⟨w1.heap.size, 0, none⟩) 1 1) 1 (app3 (fun _ => 0) 0 x y z) := PRow.of o2 h1 (by omega) (by unfold maxLen; omega) rfl fun j hj => by
    have : j = 0 ∨ j = 1 ∨ j = 2 := by omega
    rcases this with rfl | rfl | rfl <;> rfl
  have hb2 := app3_b (p := fun _ => 0) (m := 0) (fun _ => ⟨Int.le_refl 0, by decide⟩) hb.1 hb.2.1 hb.2.2
  have ho2 := okPal_one (app3 (fun _ => 0) 0 x y z)
  obtain ⟨k, rfl⟩ : ∃ t : Nat, k = t := ⟨k.toNat, by omega⟩
  have hk5 : k < 5 := by omega
  clear hs hs1 hg1 hg2 hk o2 hb
  go_wp2_with (fail)
  go_loopw [5, 6] (fun v x wr => ∃ (i go co m : Nat) (p : Nat → Int), x = .int .i64 i ∧ i < 5 ∧ v = .slice (some ⟨go, 0, none⟩) m co ∧ PRow wr W.heap.size (.slice (some ⟨go, 0, none⟩) m co) m p ∧ 1 ≤ m ∧ m + i ≤ 5 ∧ okPal m p = true ∧ Hid (∀ i, 0 ≤ p i ∧ p i ≤ 255) ∧ Src wr g ad n c f (A + 50 - 8 * i) ∧ W.grownBy wr (some g)) (fun _ x _ => (intOf x).toNat)
  case atStart => exact ⟨k, _, _, 1, _, rfl, hk5, rfl, hr2, by omega, by omega, ho2, hb2, hs2.more (by omega), g2⟩
  case round =>
    clear hr2 ho2 hb2 hs2 g2
    obtain ⟨i, go, co, m, p, rfl, hi, rfl, hrow, hm1, hm5, hok, hpb, hsr, hgr⟩ := hrel
    by_cases hlt : 0 < i
    · have hpz := hgr.size
      obtain ⟨gq, cq, cuq, he, hbq, oq, _, hsq, heq⟩ := hrow.at (by omega)
      simp only [Value.slice.injEq, true_and] at he
      obtain ⟨he1, rfl⟩ := he
      have he2 := Option.some.inj he1
      simp only [Addr.mk.injEq, and_true] at he2
      subst he2
      have ro := obj_lt oq
      have heq := hide heq
      go_wp2_with (at_builtin; refine wpList_app slTones rfl _ _ rfl wr.heap.size (.slice (some ⟨wr.heap.size, 0, none⟩) 0 0) 0 [] rfl (prow_empty (f := p) (obj_alloc_at _ _ _ rfl) (Nat.le_refl _)) ⟨go, 0, none⟩ m co (irow (m * 3) .u8 p) rfl (by simp) (news_sl3 ((obj_alloc_past _ _ _ ro).trans oq) (fun j hj => by rw [Nat.zero_add]; exact heq.out j hj)) irow_one (by omega) (by unfold maxLen; omega) (by omega) (by simp) ?_)
      intro g0 cap0 w2 hown0 hg0 hat0 hlt0
      try simp only [Nat.zero_add, List.nil_append] at hown0
      try simp only [Nat.zero_add]
      have hr2 : PRow w2 wr.heap.size (.slice (some ⟨g0, 0, none⟩) m cap0) m p := hown0
      have hn2 : New wr w2 := grown_new ((New.refl wr).alloc _) hg0 fun b hb => by simp [Value.ownBlock] at hb; omega
      have hg0b := (hr2.block g0 rfl).1
      clear hown0 hg0 hat0
      go_wp2_with (fail)
      refine (l02Tone_any g ad n c (A + 50 - 8 * i) f (by omega) hn hf.out _ (hsr.new hn2)).mono ?_
      rintro e w3 ⟨x, y, z, rfl, hb, hs3, hg3⟩
      have hz3 := hg3.size
      have hz2 := hn2.le
      have hr3 : PRow w3 wr.heap.size (.slice (some ⟨g0, 0, none⟩) m cap0) m (app3 p m x y z) := (hr2.grown hg3 (by omega)).congr (app3_old p m x y z)
      have hrow3 := (hrow.new hn2).grown hg3 hgl
      have g3 := (hgr.trans (new_grown hn2)).trans hg3
      clear hr2 hg3 hsr hgr
      go_wp2_with (at_builtin; refine wpList_app slTones rfl _ _ rfl wr.heap.size _ _ _ rfl (hr3.new ((New.refl _).alloc _)) ⟨w3.heap.size, 0, none⟩ 1 1 [.int .u8 x, .int .u8 y, .int .u8 z] rfl rfl (news_new _ _ _ _ _ rfl) (by simp [Value.oneCell']) (by omega) (by unfold maxLen; omega) (by omega) (by simp; omega) ?_)
      intro g1 cap1 w4 hown1 hg1 hat1 hlt1
      have hr4 := prow_app hown1 (app3_0 p m x y z) (app3_1 p m x y z) (app3_2 p m x y z)
      have hg1' : (w3.alloc (Obj.cells #[.int .u8 x, .int .u8 y, .int .u8 z] 26)).grownBy w4 (some g0) := hg1
      have hs4 := Src.grown2 (hs3.new ((New.refl _).alloc _)) hg1' (by omega) fun a' e => (hadl.out a' e).imp (fun h => by omega) id
      have g4 := grown_over (g3.trans (new_grown ((New.refl _).alloc _))) hg1' fun q hq => Or.inl (by have := Option.some.inj hq; omega)
      have hrow4 : PRow w4 W.heap.size (.slice (some ⟨go, 0, none⟩) m co) m p := (hrow3.new ((New.refl _).alloc _)).same fun b hb => by
        simp [Value.ownBlock] at hb
        subst hb
        exact grown_step hg1' (by simp; omega) (by omega)
      have hb4 := hide (app3_b (m := m) hpb.out hb.1 hb.2.1 hb.2.2)
      clear hown1 hg1 hg1' hat1 hr3 hrow3 hs3 g3 hrow oq heq hb
      go_wp2_with (fail)
      refine (l02Palette_any _ (m + 1) cap1 _ (by omega) _ hr4.sl).mono ?_
      rintro e w5 ⟨rfl, hn5⟩
      have hr5 := (hr4.new hn5).lower (show W.heap.size ≤ wr.heap.size by omega)
      have hrow5 := hrow4.new hn5
      have hs5 := hs4.new hn5
      have g5 := g4.trans (new_grown hn5)
      clear hr4 hrow4 hs4 g4
      cases hok2 : okPal (m + 1) (app3 p m x y z)
      · go_wp2_with (fail)
        go_roundw
        case rel => exact ⟨i - 1, go, co, m, p, by go_num, by omega, rfl, hrow5, by omega, by omega, hok, hpb, hs5.more (by omega), g5⟩
        case measure => simp [intOf]; omega
      · have hokh := hide hok2
        go_wp2_with (fail)
        go_roundw
        case rel => exact ⟨i - 1, g1, cap1, m + 1, _, by go_num, by omega, rfl, hr5, by omega, by omega, hokh.out, hb4, hs5.more (by omega), g5⟩
        case measure => simp [intOf]; omega
    · obtain rfl : i = 0 := by omega
      go_wp2_with (fail)
      go_ret
      exact ⟨go, co, m, p, rfl, hrow, by omega, hok, hpb.out, hsr.more (by omega), hgr⟩
/-- tones that are bytes, and none beside the cells -/
def GoodI (a b : Int) (q : Nat → Int) : Prop := (∀ j, 0 ≤ q j ∧ q j ≤ 255) ∧ ∀ i, cellN a b i = false → q (i * 3) = 0 ∧ q (i * 3 + 1) = 0 ∧ q (i * 3 + 2) = 0
theorem GoodI.ok {a b : Int} {q : Nat → Int} (ha : 1 ≤ a ∧ a ≤ 12) (hb : 1 ≤ b ∧ b ≤ 12) (h : GoodI a b q) : okImg a b q = true := by
  refine okImg_of a b q ?_ fun j hj => ?_
  · unfold isSizeB
    rw [inB_t.2 ha, inB_t.2 hb]
    rfl
  · unfold goodTone
    cases hc : cellB (j : Int) a b
    · obtain ⟨h1, h2, h3⟩ := h.2 j hc
      rw [h1, h2, h3]
      rfl
    · rfl
theorem GoodI.put {a b : Int} {q : Nat → Int} {i : Nat} {x y z : Int} (h : GoodI a b q) (hi : cellN a b i = true) (hx : 0 ≤ x ∧ x ≤ 255) (hy : 0 ≤ y ∧ y ≤ 255) (hz : 0 ≤ z ∧ z ≤ 255) : GoodI a b (put3 q i x y z) := by
  refine ⟨fun j => ?_, fun k hk => ?_⟩
  · unfold put3
    split
    · exact hx
    · split
      · exact hy
      · split
        · exact hz
        · exact h.1 j
  · have hne : k ≠ i := fun e => by rw [e, hi] at hk; cases hk
    unfold put3
    rw [if_neg (by omega), if_neg (by omega), if_neg (by omega), if_neg (by omega), if_neg (by omega), if_neg (by omega), if_neg (by omega), if_neg (by omega), if_neg (by omega)]
    exact h.2 k hk
end Go.Proofs.YtphjhegaplochaaGreatDoor
