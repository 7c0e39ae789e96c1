/- slices.Compact at a palette of the call's own; no condition. -/
import Derived.Test.YtpphckfalgapdaaU7
import Derived.Test.YtpphckfalgapdaaU4
import Derived.Lib.SliceRun
set_option linter.unusedVariables false
namespace Go.Proofs.Ytpphckfalgapdaa
open Go.BigFrame
open Go.RowKit Go.Arr
/-- element i is unlike the one before -/
def kpP (f : Nat → Int) (i : Nat) : Bool := i == 0 || !(eq3 (f (i * 3)) (f (i * 3 + 1)) (f (i * 3 + 2)) (f ((i - 1) * 3)) (f ((i - 1) * 3 + 1)) (f ((i - 1) * 3 + 2)))
theorem kpP_s (f : Nat → Int) (q : Nat) : kpP f (q + 1) = !(eq3 (f ((q + 1) * 3)) (f ((q + 1) * 3 + 1)) (f ((q + 1) * 3 + 2)) (f (q * 3)) (f (q * 3 + 1)) (f (q * 3 + 2))) := by simp [kpP]
/-- the kept ones of the first m -/
def kpF (f : Nat → Int) (m : Nat) : Nat → Int := fun j => f (selG (kpP f) m (j / 3) * 3 + j % 3)
/-- the row amid the second loop -/
def cpF (f : Nat → Int) (m : Nat) : Nat → Int := fun j => if j < selN (kpP f) m * 3 then kpF f m j else f j
theorem sel_id {p : Nat → Bool} {n : Nat} (h : ∀ j, j < n → p j = true) : selN p n = n ∧ ∀ j, j < n → selG p n j = j := by
  induction n with
  | zero => exact ⟨rfl, fun j hj => absurd hj (by omega)⟩
  | succ n ih =>
    obtain ⟨h1, h2⟩ := ih fun j hj => h j (by omega)
    have hp := h n (by omega)
    refine ⟨by rw [selN_t hp, h1], fun j hj => ?_⟩
    rw [selG_t hp, h1]
    dsimp only
    by_cases e : j = n
    · rw [if_pos e]; exact e.symm
    · rw [if_neg e]; exact h2 j (by omega)
theorem cpF_id {f : Nat → Int} {m : Nat} (h : ∀ j, j < m → kpP f j = true) (j : Nat) : cpF f m j = f j := by
  unfold cpF kpF
  split
  · rename_i h1
    rw [(sel_id h).1] at h1
    rw [(sel_id h).2 _ (by omega), show j / 3 * 3 + j % 3 = j by omega]
  · rfl
theorem cpF_t {f : Nat → Int} {m : Nat} (h : kpP f m = true) (j : Nat) : cpF f (m + 1) j = if selN (kpP f) m * 3 ≤ j ∧ j < selN (kpP f) m * 3 + 3 then f (m * 3 + (j - selN (kpP f) m * 3)) else cpF f m j := by
  unfold cpF kpF
  rw [selN_t h, selG_t h]
  dsimp only
  by_cases h1 : j < selN (kpP f) m * 3
  · rw [if_pos (by omega), if_neg (by omega), if_neg (by omega), if_pos h1]
  · by_cases h2 : j < selN (kpP f) m * 3 + 3
    · rw [if_pos (by omega), if_pos (by omega), if_pos (by omega), show j - selN (kpP f) m * 3 = j % 3 by omega]
    · rw [if_neg (by omega), if_neg (by omega), if_neg h1]
theorem cpF_f {f : Nat → Int} {m : Nat} (h : kpP f m = false) : cpF f (m + 1) = cpF f m := by
  unfold cpF kpF
  rw [selN_f h, selG_f h]
theorem setCells_keep (vs : List Value) : ∀ (w : World) (b o : Nat) (cur : Array Value) (T : TypeId), obj w b = some (.cells cur T) → ∃ cur', obj (w.setCells b o vs) b = some (.cells cur' T) ∧ cur'.size = cur.size ∧ ∀ j, j < o → cur'[j]? = cur[j]? := by
  induction vs with
  | nil => intro w b o cur T h; exact ⟨cur, h, rfl, fun _ _ => rfl⟩
  | cons v r ih =>
    intro w b o cur T h
    obtain ⟨c', h1, h2, h3⟩ := ih (w.setCell ⟨b, o, none⟩ v) b (o + 1) (cur.setIfInBounds o v) T (by rw [obj_setCell_same, h]; simp only [Option.map_some, reCell_cells])
    refine ⟨c', h1, by rw [h2]; simp, fun j hj => ?_⟩
    rw [h3 j (by omega), Array.getElem?_setIfInBounds, if_neg (by omega)]
theorem setCells_grown (vs : List Value) : ∀ (W w : World) (b o : Nat), W.grownBy w (some b) → W.grownBy (w.setCells b o vs) (some b) := by
  induction vs with
  | nil => intro W w b o h; exact h
  | cons v r ih => intro W w b o h; exact ih W _ b (o + 1) (setCell_grown h o v)
theorem run_clear3 (w : World) (ty : TypeId) (b o n c : Nat) (hn : 0 < n) (cur : Array Value) (T : TypeId) (ho : obj w b = some (.cells cur T)) (hs : o + n * 3 ≤ cur.size) :
    (Builtin.clear_ #[32] ty #[.slice (some ⟨b, o, none⟩) n c]).run Try.prog w = .ok (.tuple #[]) (w.setCells b o (List.replicate (n * 3) (.int .u8 0))) := by
  have hb : w.heap[b]? = some (.cells cur T (0, 0)) := ho
  have hzc : (Builtin.zeroCells (Value.agg #[.int .u8 0, .int .u8 0, .int .u8 0]).cells n).toList = List.replicate (n * 3) (.int .u8 0) := by
    simp [Builtin.zeroCells, Value.cells]
    apply List.ext_getElem
    · simp
    · intro i h1 h2
      have : i % 3 = 0 ∨ i % 3 = 1 ∨ i % 3 = 2 := by omega
      rcases this with h | h | h <;> simp [h]
  have hst := run_storeCells_cells (P := Try.prog) b o (List.replicate (n * 3) (.int .u8 0)) 0 w (by
    intro j hj
    have hj : j < n * 3 := by simpa using hj
    simp [World.cell?, hb, show o + j < cur.size by omega]) (by
    intro j hj
    simp [World.frozen?, hb]) (by intro v hv; rw [List.eq_of_mem_replicate hv]; rfl)
  simp only [Nat.add_zero] at hst
  obtain ⟨m, rfl⟩ : ∃ m, n = m + 1 := ⟨n - 1, by omega⟩
  simp [Builtin.clear_, run_underlying Try.underlying32, Try.zeroValue26, hzc, hst]
end Go.Proofs.Ytpphckfalgapdaa
