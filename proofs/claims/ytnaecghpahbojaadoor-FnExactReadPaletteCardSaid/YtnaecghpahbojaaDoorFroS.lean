/- A picture from a stock of tones: what the reference returns; no condition. -/
import Derived.Test.YtnaecghpahbojaaDoorCost
set_option linter.unusedVariables false
namespace Go.Proofs.YtnaecghpahbojaaDoor
open Go.BigFrame
open Go.RowKit Go.Arr
def farC (fm fp : Nat → Int) (i c : Nat) : Int := far (fp (c * 3)) (fp (c * 3 + 1)) (fp (c * 3 + 2)) (fm (i * 3)) (fm (i * 3 + 1)) (fm (i * 3 + 2))
def pick (fm fp : Nat → Int) (L : Nat → Int) (i : Nat) : Nat → Int
  | 0 => -1
  | c + 1 => if 0 < L c ∧ (pick fm fp L i c < 0 ∨ farC fm fp i c < farC fm fp i (pick fm fp L i c).toNat) then c else pick fm fp L i c
section
variable {fm fp L : Nat → Int} {i : Nat}
theorem pick_b (c : Nat) : -1 ≤ pick fm fp L i c ∧ pick fm fp L i c < c ∧ (0 ≤ pick fm fp L i c → 0 < L (pick fm fp L i c).toNat) := by
  induction c with
  | zero => simp [pick]
  | succ c ih =>
    unfold pick
    split
    · rename_i h
      refine ⟨by omega, by omega, fun _ => ?_⟩
      simpa using h.1
    · exact ⟨ih.1, by omega, ih.2.2⟩
theorem pick_t {c : Nat} (h1 : 0 < L c) (h2 : pick fm fp L i c < 0 ∨ farC fm fp i c < farC fm fp i (pick fm fp L i c).toNat) : pick fm fp L i (c + 1) = c := if_pos ⟨h1, h2⟩
theorem pick_f {c : Nat} (h : ¬ (0 < L c ∧ (pick fm fp L i c < 0 ∨ farC fm fp i c < farC fm fp i (pick fm fp L i c).toNat))) : pick fm fp L i (c + 1) = pick fm fp L i c := if_neg h
end
abbrev St := Option ((Nat → Int) × (Nat → Int))
def stepF (fm fp : Nat → Int) (n : Nat) (s : St) (i : Nat) : St := s.bind fun x => if pick fm fp x.2 i n < 0 then none else some (upd x.1 i (pick fm fp x.2 i n + 1), upd x.2 (pick fm fp x.2 i n).toNat (x.2 (pick fm fp x.2 i n).toNat - 1))
theorem stepF_n {fm fp : Nat → Int} {n : Nat} {q L : Nat → Int} {i : Nat} (h : pick fm fp L i n < 0) : stepF fm fp n (some (q, L)) i = none := if_pos h
theorem stepF_s {fm fp : Nat → Int} {n : Nat} {q L : Nat → Int} {i t : Nat} (h : pick fm fp L i n = t) : stepF fm fp n (some (q, L)) i = some (upd q i (t + 1), upd L t (L t - 1)) := by
  show (if pick fm fp L i n < 0 then none else some (upd q i (pick fm fp L i n + 1), upd L (pick fm fp L i n).toNat (L (pick fm fp L i n).toNat - 1))) = _
  rw [h, if_neg (by omega), Int.toNat_natCast]
def fsS (fm fp : Nat → Int) (n : Nat) (st : Nat → Int) (a b : Int) : Nat → St := recS (stepF fm fp n) (some (fun _ => 0, st)) (cellN a b)
theorem recS_none {fm fp : Nat → Int} {n : Nat} {s0 : St} {p : Nat → Bool} {k : Nat} (h : recS (stepF fm fp n) s0 p k = none) (m : Nat) : recS (stepF fm fp n) s0 p (k + m) = none := by
  induction m with
  | zero => exact h
  | succ m ih =>
    rw [← Nat.add_assoc]
    cases hp : p (k + m)
    · rw [recS_f hp]; exact ih
    · rw [recS_t hp, ih]; rfl
theorem recT_none {fm fp : Nat → Int} {n : Nat} {s0 : St} {G : Nat → Nat} {k : Nat} (h : recT (stepF fm fp n) s0 G k = none) (m : Nat) : recT (stepF fm fp n) s0 G (k + m) = none := by
  induction m with
  | zero => exact h
  | succ m ih => rw [← Nat.add_assoc, recT, ih]; rfl
def inStock (s : Nat) (st : Nat → Int) : Bool := (List.range s).all fun i => inB (st i) 0 1000000
theorem inStock_e {s : Nat} {st : Nat → Int} (h : inStock s st = true) (i : Nat) (hi : i < s) : 0 ≤ st i ∧ st i ≤ 1000000 := inB_t.1 (List.all_eq_true.1 h i (by simpa using hi))
def fsC (a b : Int) (fm : Nat → Int) (n : Nat) (fp : Nat → Int) (s : Nat) (st : Nat → Int) : Int := if askOk a b fm n fp = false then 1 else if ¬ s = n ∨ inStock s st = false then 2 else if fsS fm fp n st a b 144 = none then 6 else 0
def fsA (a b : Int) (fm : Nat → Int) (n : Nat) (fp : Nat → Int) (s : Nat) (st : Nat → Int) : Array Value := if fsC a b fm n fp s st = 0 then pic 144 a b (((fsS fm fp n st a b 144).getD (fun _ => 0, st)).1) else pic 144 0 0 fun _ => 0
section
variable {a b : Int} {fm : Nat → Int} {n : Nat} {fp : Nat → Int} {s : Nat} {st : Nat → Int}
theorem fsC_1 (h : askOk a b fm n fp = false) : fsC a b fm n fp s st = 1 := if_pos h
theorem fsC_2 (h : askOk a b fm n fp = true) (h2 : ¬ s = n ∨ inStock s st = false) : fsC a b fm n fp s st = 2 := by unfold fsC; rw [if_neg (by rw [h]; simp), if_pos h2]
theorem fsC_6 (h : askOk a b fm n fp = true) (h2 : s = n) (h3 : inStock s st = true) (h4 : fsS fm fp n st a b 144 = none) : fsC a b fm n fp s st = 6 := by
  unfold fsC
  rw [if_neg (by rw [h]; simp), if_neg (by rintro (h5 | h5); · exact h5 h2
                                           · rw [h3] at h5; cases h5), if_pos h4]
theorem fsC_0 {x : (Nat → Int) × (Nat → Int)} (h : askOk a b fm n fp = true) (h2 : s = n) (h3 : inStock s st = true) (h4 : fsS fm fp n st a b 144 = some x) : fsC a b fm n fp s st = 0 := by
  unfold fsC
  rw [if_neg (by rw [h]; simp), if_neg (by rintro (h5 | h5); · exact h5 h2
                                           · rw [h3] at h5; cases h5), if_neg (by rw [h4]; simp)]
theorem fsA_z {k : Int} (h : fsC a b fm n fp s st = k) (hk : k ≠ 0) : fsA a b fm n fp s st = pic 144 0 0 fun _ => 0 := if_neg (by rw [h]; exact hk)
theorem fsA_s {x : (Nat → Int) × (Nat → Int)} (h : fsC a b fm n fp s st = 0) (h4 : fsS fm fp n st a b 144 = some x) : fsA a b fm n fp s st = pic 144 a b x.1 := by unfold fsA; rw [if_pos h, h4]; rfl
end
/-- the numbers of a row that is written -/
def Own (W : World) (g n : Nat) (L : Nat → Int) : Prop := ∃ cur, obj W g = some (.cells cur 2) ∧ n ≤ cur.size ∧ ∀ j, j < n → cur[j]? = some (.int .i64 (L j))
theorem Own.new {W W' : World} {g n : Nat} {L : Nat → Int} (h : Own W g n L) (hn : New W W') : Own W' g n L := by
  obtain ⟨cur, ho, h2⟩ := h
  exact ⟨cur, (hn.objs _ (obj_lt ho)).trans ho, h2⟩
theorem Own.lt {W : World} {g n : Nat} {L : Nat → Int} (h : Own W g n L) : g < W.heap.size := by
  obtain ⟨cur, ho, h2⟩ := h
  exact obj_lt ho
theorem Own.same {W W' : World} {g n : Nat} {L : Nat → Int} (h : Own W g n L) (hs : obj W' g = obj W g) : Own W' g n L := by
  obtain ⟨cur, ho, h2⟩ := h
  exact ⟨cur, hs.trans ho, h2⟩
theorem Own.set {W : World} {g n t : Nat} {L : Nat → Int} (h : Own W g n L) (ht : t < n) (z : Int) : Own (W.setCell ⟨g, t, none⟩ (.int .i64 z)) g n (upd L t z) := by
  obtain ⟨cur, ho, hsz, hc⟩ := h
  refine ⟨cur.setIfInBounds t (.int .i64 z), ?_, by simpa using hsz, fun j hj => ?_⟩
  · rw [obj_setCell_same, ho]
    simp only [Option.map_some, reCell_cells]
  · rw [Array.getElem?_setIfInBounds]
    unfold upd
    by_cases e : t = j
    · subst e; rw [if_pos rfl, if_pos (by omega), if_pos rfl]
    · rw [if_neg e, if_neg (fun e2 => e e2.symm), hc j hj]
theorem Row.own {W : World} {base : Nat} {v : Value} {n : Nat} {f : Nat → Int} (h : Row W base v n f) (hp : 0 < n) : ∃ g cap, v = .slice (some ⟨g, 0, none⟩) n cap ∧ base ≤ g ∧ Own W g n f := by
  rcases h.shape with ⟨_, rfl⟩ | ⟨g, cap, cur, rfl, hb, _, ho, h4, _, h6, hc⟩
  · omega
  · exact ⟨g, cap, rfl, hb, cur, ho, by omega, hc⟩
/-- a whole row of numbers appended to an empty one -/
theorem news_sl {W : World} {g off : Nat} {cur : Array Value} {t : TypeId} {fr : Nat × Nat} {n : Nat} {f : Nat → Int} (ho : obj W g = some (.cells cur t fr)) (hc : ∀ j, j < n → ∃ l : off + j < cur.size, cur[off + j] = .int .i64 (f j)) : ∀ j u, (irow n .i64 f)[j]? = some u → W.cell? ((⟨g, off, none⟩ : Addr).add j) = some u := by
  intro j u hu
  have hj : j < n := by
    have := (List.getElem?_eq_some_iff.1 hu).1
    simpa using this
  rw [get_irow j hj] at hu
  obtain ⟨l, e⟩ := hc j hj
  rw [addr_add, cell_obj, ho, cellOf_cells, Array.getElem?_eq_getElem l, e]
  exact hu
end Go.Proofs.YtnaecghpahbojaaDoor
