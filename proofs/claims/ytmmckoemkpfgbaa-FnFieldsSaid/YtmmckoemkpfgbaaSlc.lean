/- Slices of numbers that a call makes: append, reading, keeping; no condition. -/
import Derived.Test.YtmmckoemkpfgbaaArr
import Derived.Test.YtmmckoemkpfgbaaNewQ
import Derived.Deep.AppendLies
import Derived.Deep.RegionLaw
import Derived.OwnWalk
set_option linter.unusedVariables false
namespace Go.Arr
open Go.RowKit
/-- the facts on a slice type that an append asks -/
def SlTy (P : Program) (t e : TypeId) (z : Value) (size bytes : Nat) : Prop :=
  P.underlying t = some (.slice e) ∧ (P.info? e).map (fun i => (i.zero, i.size, i.bytes)) = some (some z, size, bytes) ∧ z.cells.size = size ∧ 0 < size
theorem grown_new {a w w' : World} {row : Option Nat} (h : New a w) (hg : w.grownBy w' row) (hr : ∀ k, row = some k → a.heap.size ≤ k) : New a w' := Below.grown h hg h.le hr
theorem grown_obj {w w' : World} {row : Option Nat} (hg : w.grownBy w' row) : ∀ b, b < w.heap.size → some b ≠ row → obj w' b = obj w b := fun b hb hne => hg.block b hb hne
theorem grown_le {w w' : World} {row : Option Nat} (hg : w.grownBy w' row) : w.heap.size ≤ w'.heap.size := hg.size
/-- the cells of a block that has just been made -/
theorem news_new (w : World) (cs : Array Value) (t : TypeId) (fr : Nat × Nat) (n : Nat) (hn : n = w.heap.size) : ∀ j u, cs.toList[j]? = some u → (w.alloc (.cells cs t fr)).cell? ((⟨n, 0, none⟩ : Addr).add j) = some u := by
  subst hn
  exact World.news_of_block (heap_alloc_new w _)
theorem news_obj {w : World} {g : Nat} {cs : Array Value} {t : TypeId} {fr : Nat × Nat} (h : obj w g = some (.cells cs t fr)) : ∀ j u, cs.toList[j]? = some u → w.cell? ((⟨g, 0, none⟩ : Addr).add j) = some u := World.news_of_block h
section
variable {P : Program}
theorem wpList_app {w : World} {ops : Array Oper} {rest : List Oper} {o : Oper} {a : Act} {Q : Exit → Act → World → Prop} {t e : TypeId} {z : Value} {size bytes : Nat} (hs : SlTy P t e z size bytes) (hgd : o.guard = none) (s x : Operand)
    (ho : o.op = .call { callee := .builtin .append, args := #[s, x], argTypes := #[t, t] })
    (base : Nat) (v : Value) (n : Nat) (xs : List Value) (hv : a.eval s = v) (hown : w.ownsRow base e size v n xs)
    (ad : Addr) (m c : Nat) (news : List Value) (hx : a.eval x = .slice (some ad) m c) (hl : news.length = m * size) (hnews : ∀ j u, news[j]? = some u → w.cell? (ad.add j) = some u) (h1 : ∀ u ∈ news, u.oneCell' = true)
    (hm : 0 < m) (h63 : n + m ≤ maxLen) (hbytes : (n + m) * bytes ≤ 140737488355328) (hbase : base ≤ w.heap.size)
    (h : ∀ g cap w', w'.ownsRow base e size (.slice (some ⟨g, 0, none⟩) (n + m) cap) (n + m) (xs ++ news) → w.grownBy w' v.ownBlock → (v.ownBlock = some g ∨ g = w.heap.size) → g < w'.heap.size → wpList P ops Q rest (a.put o.dst (.slice (some ⟨g, 0, none⟩) (n + m) cap)) w') :
    wpList P ops Q (o :: rest) a w := by
  obtain ⟨ht, hi, hzs, hsz⟩ := hs
  obtain ⟨i, hi0, hz, h2, h3⟩ := info_parts hi
  exact wpList_append_lies w hgd s x t ho base e i z size bytes ht hi0 hz h2 h3 hzs hsz v n xs hv hown ad m c news hx hl hnews h1 hm h63 hbytes hbase w.heap.size rfl h
theorem step_app {w : World} {ops : Array Oper} {o : Oper} {a : Act} {K : Act → World → Prop} {Q : Exit → Act → World → Prop} {E : Prop} {t e : TypeId} {z : Value} {size bytes : Nat} (hs : SlTy P t e z size bytes) (hgd : o.guard = none) (s x : Operand)
    (ho : o.op = .call { callee := .builtin .append, args := #[s, x], argTypes := #[t, t] })
    (base : Nat) (v : Value) (n : Nat) (xs : List Value) (hv : a.eval s = v) (hown : w.ownsRow base e size v n xs)
    (ad : Addr) (m c : Nat) (news : List Value) (hx : a.eval x = .slice (some ad) m c) (hl : news.length = m * size) (hnews : ∀ j u, news[j]? = some u → w.cell? (ad.add j) = some u) (h1 : ∀ u ∈ news, u.oneCell' = true)
    (hm : 0 < m) (h63 : n + m ≤ maxLen) (hbytes : (n + m) * bytes ≤ 140737488355328) (hbase : base ≤ w.heap.size)
    (h : ∀ g cap w', w'.ownsRow base e size (.slice (some ⟨g, 0, none⟩) (n + m) cap) (n + m) (xs ++ news) → w.grownBy w' v.ownBlock → (v.ownBlock = some g ∨ g = w.heap.size) → g < w'.heap.size → K (a.put o.dst (.slice (some ⟨g, 0, none⟩) (n + m) cap)) w') :
    if Region.wanted o (yielded ops a.tmps) = true then Oper.wp P o a w K Q else E := by
  obtain ⟨ht, hi, hzs, hsz⟩ := hs
  obtain ⟨i, hi0, hz, h2, h3⟩ := info_parts hi
  exact step_append_lies w hgd s x t ho base e i z size bytes ht hi0 hz h2 h3 hzs hsz v n xs hv hown ad m c news hx hl hnews h1 hm h63 hbytes hbase w.heap.size rfl h
end
section
variable {w w' : World} {base : Nat} {e : TypeId} {size n : Nat} {v : Value} {xs : List Value}
theorem own_new (h : w.ownsRow base e size v n xs) (hn : New w w') : w'.ownsRow base e size v n xs :=
  h.kept (row := none) ⟨hn.os, hn.tape, hn.output, hn.size, fun i hi _ => hn.block i hi⟩ (by cases hb : v.ownBlock with | none => exact .inl rfl | some _ => exact .inr (by simp))
theorem own_lower {b : Nat} (h : w.ownsRow base e size v n xs) (hb : b ≤ base) : w.ownsRow b e size v n xs := by
  obtain ⟨hl, h | ⟨g, cap, cur, h1, h2, h3⟩⟩ := h
  · exact ⟨hl, .inl h⟩
  · exact ⟨hl, .inr ⟨g, cap, cur, h1, by omega, h3⟩⟩
/-- what an owned row's block holds -/
theorem own_obj {g cap : Nat} (h : w.ownsRow base e size (.slice (some ⟨g, 0, none⟩) n cap) n xs) : ∃ cur, obj w g = some (.cells cur e) ∧ base ≤ g ∧ g < w.heap.size ∧ n * size ≤ cur.size ∧ n ≤ cap ∧ cap ≤ maxLen ∧ ∀ j, j < n * size → cur[j]? = xs[j]? := by
  obtain ⟨hl, h | ⟨g', cap', cur, h1, h2, h3, h4, h5, h6, h7⟩⟩ := h
  · cases h.1
  · simp only [Value.slice.injEq, Option.some.injEq, Addr.mk.injEq, and_true] at h1
    obtain ⟨rfl, _, rfl⟩ := h1
    refine ⟨cur, h3, h2, ?_, ?_, h4, h5, fun j hj => ?_⟩
    · rcases Nat.lt_or_ge g w.heap.size with hlt | hge
      · exact hlt
      · rw [Array.getElem?_eq_none hge] at h3; cases h3
    · rw [h6]; exact Nat.mul_le_mul_right _ h4
    · rw [← h7, List.getElem?_take, if_pos hj, Array.getElem?_toList]
theorem own_of_obj {g cap : Nat} {cur : Array Value} (h : obj w g = some (.cells cur e)) (hb : base ≤ g) (hn : n ≤ cap) (hc : cap ≤ maxLen) (hs : cur.size = cap * size) : w.ownsRow base e size (.slice (some ⟨g, 0, none⟩) n cap) n (cur.toList.take (n * size)) :=
  ⟨by rw [List.length_take, Array.length_toList, hs]; exact Nat.min_eq_left (Nat.mul_le_mul_right _ hn), .inr ⟨g, cap, cur, rfl, hb, h, hn, hc, hs, rfl⟩⟩
end
/-- numbers as cells -/
def irow (n : Nat) (k : IntKind) (f : Nat → Int) : List Value := (List.range n).map fun i => Value.int k (f i)
section
variable {n : Nat} {k : IntKind} {f g : Nat → Int}
theorem irow_toList : (arr n k f).toList = irow n k f := by simp [arr, irow]
@[simp] theorem length_irow : (irow n k f).length = n := by simp [irow]
theorem get_irow (i : Nat) (h : i < n) : (irow n k f)[i]? = some (.int k (f i)) := by simp [irow, h]
theorem irow_snoc (v : Int) : irow n k f ++ [.int k v] = irow (n + 1) k (upd f n v) := by
  unfold irow
  rw [List.range_succ, List.map_append]
  congr 1
  · refine List.map_congr_left fun i hi => ?_
    have : i < n := by simpa using hi
    unfold upd
    rw [if_neg (by omega)]
  · simp [upd]
theorem irow_congr (h : ∀ i, i < n → f i = g i) : irow n k f = irow n k g := by
  unfold irow
  refine List.map_congr_left fun i hi => ?_
  rw [h i (by simpa using hi)]
theorem irow_one : ∀ u ∈ irow n k f, u.oneCell' = true := by
  intro u hu
  simp [irow] at hu
  obtain ⟨i, _, rfl⟩ := hu
  rfl
end
end Go.Arr
