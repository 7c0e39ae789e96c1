/- Rows of cells by their nearest tone, as the program keeps them; palettes cloned; no condition. -/
import Derived.Test.YtpofhbdnjecfjaaMov
import Derived.Test.YtpofhbdnjecfjaaRRow
import Derived.Test.YtpofhbdnjecfjaaFroS
set_option linter.unusedVariables false
namespace Go.Proofs.Ytpofhbdnjecfjaa
open Go.BigFrame
open Go.RowKit Go.Arr
def nilRows (n : Nat) : Array Value := ((List.range n).map fun _ => Value.slice none 0 0).toArray
theorem size_nilRows (n : Nat) : (nilRows n).size = n := by simp [nilRows]
theorem get_nilRows {n i : Nat} (h : i < n) : (nilRows n)[i]? = some (.slice none 0 0) := by simp [nilRows, h]
theorem mkRows (n : Nat) (hn : n ≤ 1048576) (w : World) : (Instr.makeSlice 77 (.int .i64 n) (.int .i64 n)).run Try.prog w = .ok (.slice (some ⟨w.heap.size, 0, none⟩) n n) (w.alloc (.cells (nilRows n) 45)) := by
  obtain ⟨i, h1, h2⟩ := Option.map_eq_some_iff.1 (show (Try.prog.info? 45).map (fun i => (i.zero, i.size, i.bytes)) = some (some (.slice none 0 0), 1, 24) by kernel_rfl)
  simp only [Prod.mk.injEq] at h2
  obtain ⟨hz0, hs, hbb⟩ := h2
  have hr := run_make (P := Try.prog) w 77 45 i (.slice none 0 0) Try.underlying77 h1 hz0 .i64 .i64 n n (by omega) (Int.le_refl _) (by rw [hbb]; omega) (by omega)
  simp only [Int.toNat_natCast, hs] at hr
  have hmc : madeCells (Value.slice none 0 0).cells (n * 1) = nilRows n := by
    apply Array.ext_getElem?
    intro j
    by_cases hj : j < n
    · rw [get_nilRows hj]; simp [madeCells, hj, Value.cells, Nat.mod_one]
    · rw [Array.getElem?_eq_none (by simp [madeCells]; omega), Array.getElem?_eq_none (by rw [size_nilRows]; omega)]
  rw [hr, hmc]
theorem RR.made {W : World} {base g n : Nat} {F : Nat → Nat → Int} (h : obj W g = some (.cells (nilRows n) 45)) (hb : base ≤ g) (hn : n ≤ maxLen) : RR W base (.slice (some ⟨g, 0, none⟩) n n) n (fun _ => .slice none 0 0) (fun _ => 0) F := by
  refine ⟨?_, fun i hi => Row.nil, fun i j b hi hj h1 => by simp [Value.ownBlock] at h1, fun i b hi h1 => by simp [Value.ownBlock] at h1⟩
  refine ⟨by simp, .inr ⟨g, n, nilRows n, rfl, hb, h, Nat.le_refl _, hn, by rw [size_nilRows, Nat.mul_one], ?_⟩⟩
  rw [Nat.mul_one]
  exact List.take_of_length_le (by simp [nilRows])
theorem RR.put {W W' : World} {base go n cap0 i k : Nat} {vs : Nat → Value} {m : Nat → Nat} {F : Nat → Nat → Int} {r : Value} {f : Nat → Int} (h : RR W base (.slice (some ⟨go, 0, none⟩) n cap0) n vs m F) (hi : i < n)
    (hr : Row W' base r k f) (hg : W.grownBy W' (vs i).ownBlock) (hat : ∀ q, r.ownBlock = some q → (vs i).ownBlock = some q ∨ W.heap.size ≤ q) :
    RR (W'.setCell ⟨go, i, none⟩ r) base (.slice (some ⟨go, 0, none⟩) n cap0) n (fun j => if j = i then r else vs j) (fun j => if j = i then k else m j) (fun j => if j = i then f else F j) := by
  have hgo := (h.block go rfl).2
  have hne : ∀ j, j < n → (vs j).ownBlock ≠ some go := fun j hj e => h.2.2.2 j go hj e rfl
  have hrgo : ∀ q, r.ownBlock = some q → q ≠ go := fun q hq e => by
    subst e
    rcases hat _ hq with h1 | h1
    · exact hne i hi h1
    · omega
  have hbj : ∀ j q, j < n → (vs j).ownBlock = some q → q < W.heap.size := fun j q hj hq => ((h.row hj).block q hq).2
  have hout : ∀ b, b ≠ go → obj (W'.setCell ⟨go, i, none⟩ r) b = obj W' b := fun b hb => obj_setCell_other _ _ _ _ _ hb
  refine ⟨?_, ?_, ?_, ?_⟩
  · obtain ⟨hl, h' | ⟨g, cap, cur, e1, e2, e3, e4, e5, e6, e7⟩⟩ := h.1
    · cases h'.1
    · simp only [Value.slice.injEq, Option.some.injEq, Addr.mk.injEq, and_true, true_and] at e1
      obtain ⟨rfl, rfl⟩ := e1
      have hW' : obj W' go = some (.cells cur 45) := (grown_obj hg go hgo fun e => hne i hi e.symm).trans e3
      refine ⟨by simp, .inr ⟨go, cap0, cur.setIfInBounds i r, rfl, e2, ?_, e4, e5, by rw [Array.size_setIfInBounds, e6], ?_⟩⟩
      · show obj _ go = _
        rw [obj_setCell_same, hW']
        rfl
      · have e7' : ∀ j, j < n → cur[j]? = some (vs j) := fun j hj => by
          have e : (cur.toList.take (n * 1))[j]? = ((List.range n).map vs)[j]? := by rw [e7]
          rw [Nat.mul_one, List.getElem?_take, if_pos hj, Array.getElem?_toList] at e
          rw [e]
          simp [hj]
        apply List.ext_getElem?
        intro j
        by_cases hj : j < n
        · rw [Nat.mul_one, List.getElem?_take, if_pos hj, Array.getElem?_toList, Array.getElem?_setIfInBounds]
          by_cases e : i = j
          · subst e
            rw [if_pos rfl, if_pos (by omega)]
            simp [hj]
          · rw [if_neg e, e7' j hj]
            simp [hj, Ne.symm e]
        · rw [List.getElem?_eq_none (by simp; omega), List.getElem?_eq_none (by simp; omega)]
  · intro j hj
    by_cases e : j = i
    · simp only [if_pos e]; exact hr.same fun q hq => hout q (hrgo q hq)
    · simp only [if_neg e]
      refine (h.row hj).same fun q hq => ?_
      rw [hout q fun e2 => hne j hj (by rw [hq, e2])]
      exact grown_obj hg q (hbj j q hj hq) fun e2 => e (h.2.2.1 j i q hj hi hq e2.symm)
  · intro j l q hj hl h1 h2
    by_cases ej : j = i
    · by_cases el : l = i
      · omega
      · simp only [if_pos ej] at h1
        simp only [if_neg el] at h2
        rcases hat q h1 with h3 | h3
        · exact absurd (h.2.2.1 l i q hl hi h2 h3) el
        · have := hbj l q hl h2; omega
    · by_cases el : l = i
      · simp only [if_neg ej] at h1
        simp only [if_pos el] at h2
        rcases hat q h2 with h3 | h3
        · exact absurd (h.2.2.1 j i q hj hi h1 h3) ej
        · have := hbj j q hj h1; omega
      · simp only [if_neg ej] at h1
        simp only [if_neg el] at h2
        exact h.2.2.1 j l q hj hl h1 h2
  · intro j q hj h1 e
    simp only [Value.ownBlock, Option.some.injEq] at e
    by_cases ej : j = i
    · simp only [if_pos ej] at h1; exact hrgo q h1 e.symm
    · simp only [if_neg ej] at h1; exact hne j hj (by rw [h1, e])
/-- the classes, cell by cell -/
def stp (near : Nat → Nat) (s : Nat → Nat × (Nat → Nat)) (i : Nat) : Nat → Nat × (Nat → Nat) := fun c => if c = near i then ((s c).1 + 1, fun j => if j = (s c).1 then i else (s c).2 j) else s c
theorem stp_e (near : Nat → Nat) (p : Nat → Bool) (k : Nat) : recS (stp near) (fun _ => (0, fun _ => 0)) p k = fun c => (selN (fun i => p i && decide (near i = c)) k, selG (fun i => p i && decide (near i = c)) k) := by
  induction k with
  | zero => rfl
  | succ k ih =>
    funext c
    cases hp : p k
    · rw [recS_f hp, ih]
      have hq : (fun i => p i && decide (near i = c)) k = false := by simp [hp]
      rw [selN_f hq, selG_f hq]
    · rw [recS_t hp, ih]
      unfold stp
      by_cases e : c = near k
      · have hq : (fun i => p i && decide (near i = c)) k = true := by simp [hp, e]
        rw [if_pos e, selN_t hq, selG_t hq]
      · have hq : (fun i => p i && decide (near i = c)) k = false := by simp [hp]; exact fun h => e h.symm
        rw [if_neg e, selN_f hq, selG_f hq]
def nearI (n : Nat) (fp fm : Nat → Int) (i : Nat) : Nat := (nearK fp (fm (i * 3)) (fm (i * 3 + 1)) (fm (i * 3 + 2)) n).1
def clsT (n : Nat) (fp fm : Nat → Int) (a b : Int) (t : Nat) : Nat → Nat × (Nat → Nat) := recT (stp (nearI n fp fm)) (fun _ => (0, fun _ => 0)) (selG (cellN a b) 144) t
theorem clsT_s (n : Nat) (fp fm : Nat → Int) (a b : Int) (t : Nat) : clsT n fp fm a b (t + 1) = stp (nearI n fp fm) (clsT n fp fm a b t) (selG (cellN a b) 144 t) := rfl
theorem clsT_end (n : Nat) (fp fm : Nat → Int) (a b : Int) : clsT n fp fm a b (selN (cellN a b) 144) = fun c => (clN n fp fm a b c, selG (clP n fp fm a b c) 144) := by
  unfold clsT
  rw [rec_eq (Nat.le_refl _), stp_e]
  rfl
theorem clsT_le (n : Nat) (fp fm : Nat → Int) (a b : Int) (t c : Nat) : (clsT n fp fm a b t c).1 ≤ t := by
  induction t with
  | zero => exact Nat.le_refl _
  | succ t ih =>
    rw [clsT_s]
    unfold stp
    split
    · dsimp only; omega
    · omega
theorem nearK_lt (f : Nat → Int) (x y z : Int) (k : Nat) : (nearK f x y z (k + 1)).1 ≤ k := by
  induction k with
  | zero => rw [nearK_one]; exact Nat.le_refl _
  | succ k ih =>
    obtain ⟨q, le, he⟩ : ∃ q le, nearK f x y z (k + 1) = (q, le) := ⟨_, _, rfl⟩
    rw [he] at ih
    by_cases h : farE f x y z (k + 1) < le
    · rw [nearK_t he h]; exact Nat.le_refl _
    · rw [nearK_f he h]; dsimp only at ih ⊢; omega
theorem nearI_lt {n : Nat} (fp fm : Nat → Int) (i : Nat) (hn : 0 < n) : nearI n fp fm i < n := by
  obtain ⟨k, rfl⟩ : ∃ k, n = k + 1 := ⟨n - 1, by omega⟩
  have := nearK_lt fp (fm (i * 3)) (fm (i * 3 + 1)) (fm (i * 3 + 2)) k
  unfold nearI
  omega
theorem stp_m (near : Nat → Nat) (s : Nat → Nat × (Nat → Nat)) (i : Nat) : (fun c => (stp near s i c).1) = fun c => if c = near i then (s (near i)).1 + 1 else (s c).1 := by
  funext c
  unfold stp
  by_cases e : c = near i
  · subst e; simp
  · simp [e]
theorem stp_F (near : Nat → Nat) (s : Nat → Nat × (Nat → Nat)) (i : Nat) : (fun c j => ((stp near s i c).2 j : Int)) = fun c => if c = near i then (fun j => upd (fun j => ((s (near i)).2 j : Int)) (s (near i)).1 i j) else fun j => ((s c).2 j : Int) := by
  funext c j
  unfold stp upd
  by_cases e : c = near i
  · subst e
    simp only [if_true]
    by_cases e2 : j = (s (near i)).1
    · rw [if_pos e2, if_pos e2]
    · rw [if_neg e2, if_neg e2]
  · simp [e]
end Go.Proofs.Ytpofhbdnjecfjaa
