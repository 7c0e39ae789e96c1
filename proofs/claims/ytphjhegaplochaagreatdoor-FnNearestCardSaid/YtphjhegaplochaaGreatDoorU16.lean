/- Tones sorted by brightness, by the program; no condition. -/
import Derived.Test.YtphjhegaplochaaGreatDoorU15
import Derived.Test.YtphjhegaplochaaGreatDoorU6
import Derived.Test.YtphjhegaplochaaGreatDoorU14
import Derived.Test.YtphjhegaplochaaGreatDoorU8
import Derived.Test.YtphjhegaplochaaGreatDoorU9
set_option linter.unusedVariables false
namespace Go.Proofs.YtphjhegaplochaaGreatDoor
open Go.BigFrame
open Go.RowKit Go.Arr
open Go.Sort (grow)
section
variable {v W W' : World} {g1 g2 : Nat} {A B : Option Obj}
theorem gh_begin (h1 : obj W g1 = A) (h2 : obj W g2 = B) : obj W.drew g1 = A ∧ obj W.drew g2 = B ∧ Gr W W.drew := ⟨h1, h2, (Gr.refl W).drew⟩
theorem gh_step (l1 : g1 < v.heap.size) (l2 : g2 < v.heap.size) (h : obj W g1 = A ∧ obj W g2 = B ∧ Gr v W) (hg : Gr W W') : obj W' g1 = A ∧ obj W' g2 = B ∧ Gr v W' := by
  have hv := h.2.2.new.le
  exact ⟨by rw [hg.new.objs _ (by omega), h.1], by rw [hg.new.objs _ (by omega), h.2.1], h.2.2.trans hg⟩
end
theorem gr_eq {w w' : World} (h : w = w') : Gr w w' := by subst h; exact Gr.refl _
theorem cmpF_cells (x y : Tn) (W : World) (T : TypeId) (z0 z1 z2 z3 : Int) (h0 : z0 = cmpF x y 0) (h1 : z1 = cmpF x y 1) (h2 : z2 = cmpF x y 2) (h3 : z3 = cmpF x y 3) (g : Nat) (hg : g = W.heap.size) : Sl (W.alloc (.cells #[.int .i64 z0, .int .i64 z1, .int .i64 z2, .int .i64 z3] T)) (.slice (some ⟨g, 0, none⟩) 4 4) 4 1 .i64 (cmpF x y) := by
  subst h0; subst h1; subst h2; subst h3
  refine Sl.of (obj_alloc_at _ _ _ hg) fun i hi => ?_
  have : i = 0 ∨ i = 1 ∨ i = 2 ∨ i = 3 := by omega
  rcases this with rfl | rfl | rfl | rfl <;> rfl
set_option maxHeartbeats 4000000 in
set_option maxRecDepth 100000 in
theorem byBright_gr (x y : Tn) (w : World) :
    Calls Tryz.prog 73 #[.agg #[.int .u8 (n0 x), .int .u8 (n1 x), .int .u8 (n2 x)], .agg #[.int .u8 (n0 y), .int .u8 (n1 y), .int .u8 (n2 y)]] w fun e w' => e = .returned (.int .i64 (cmpT x y)) ∧ Gr w w' := by
  have hx := n_b x
  have hy := n_b y
  have bx0 : Hid (bright (n0 x) (n1 x) (n2 x) = brT x) := rfl
  have by0 : Hid (bright (n0 y) (n1 y) (n2 y) = brT y) := rfl
  go_enter Tryz.func73, Tryz.ntmps73
  go_wp2_with (fail)
  generalize hw2 : (w.alloc (Obj.cells #[.int .u8 (n0 x), .int .u8 (n1 x), .int .u8 (n2 x)] 26)).alloc (Obj.cells #[.int .u8 (n0 y), .int .u8 (n1 y), .int .u8 (n2 y)] 26) = w2
  have b1 : obj w2 w.heap.size = some (.cells #[.int .u8 (n0 x), .int .u8 (n1 x), .int .u8 (n2 x)] 26) := by subst hw2; go_simp
  have b2 : obj w2 (w.heap.size + 1) = some (.cells #[.int .u8 (n0 y), .int .u8 (n1 y), .int .u8 (n2 y)] 26) := by subst hw2; go_simp
  have hg2 : Gr w w2 := by subst hw2; exact ((Gr.refl w).alloc _).alloc _
  clear hw2
  have r1 := obj_lt b1
  have r2 := obj_lt b2
  go_region_held3 (fun W' => obj W' w.heap.size = some (.cells #[.int .u8 (n0 x), .int .u8 (n1 x), .int .u8 (n2 x)] 26) ∧ obj W' (w.heap.size + 1) = some (.cells #[.int .u8 (n0 y), .int .u8 (n1 y), .int .u8 (n2 y)] 26) ∧ Gr w2 W') (first | exact gh_begin (by assumption) (by assumption) | exact gh_step (by assumption) (by assumption) (by assumption) (by assumption) | exact gh_step (by assumption) (by assumption) (by assumption) ((Gr.refl _).alloc _)) (first | (go_at_call 36; refine (bright_gr _ _ _ (by omega) (by omega) (by omega) _).mono ?_; rintro e1 w3 ⟨rfl, hn3⟩) | (go_at_call 95; refine (compare64_any _ _ _).mono ?_; rintro e1 w3 ⟨rfl, hn3⟩; replace hn3 := gr_eq hn3) | (go_at_call 96; refine (compare8_any _ _ _).mono ?_; rintro e1 w3 ⟨rfl, hn3⟩; replace hn3 := gr_eq hn3) | (go_at_call 94; refine (or_any _ 4 4 (cmpF x y) (by omega) _ (cmpF_cells x y _ _ _ _ _ _ rfl rfl rfl rfl _ rfl)).mono ?_; rintro e1 w3 ⟨rfl, hn3⟩; replace hn3 := gr_eq hn3))
  all_goals
    rename_i hH
    have hH := hH.2.2
    clear bx0 by0 hx hy b1 b2
    go_wp2_with (fail)
    go_ret
    exact ⟨rfl, hg2.trans hH⟩
end Go.Proofs.YtphjhegaplochaaGreatDoor
/- Palettes put in order of brightness: slices.SortFunc at a palette of the call's own; no condition. -/
set_option linter.unusedVariables false
namespace Go.Proofs.YtphjhegaplochaaGreatDoor
open Go.BigFrame
open Go.RowKit Go.Arr
open Go.Sort (grow flatK size_flatK get_flatK HoldsK PermIn SortedIn pdq)
theorem perm_map_ex {α β : Type} {g : α → β} {A B : List β} (h : A.Perm B) : ∀ M : List α, A = M.map g → ∃ L : List α, L.Perm M ∧ B = L.map g := by
  induction h with
  | nil => intro M h; exact ⟨M, List.Perm.refl _, h⟩
  | cons x _ ih =>
    intro M h
    cases M with
    | nil => simp at h
    | cons m M =>
      simp only [List.map_cons, List.cons.injEq] at h
      obtain ⟨L, h1, h2⟩ := ih M h.2
      exact ⟨m :: L, h1.cons m, by rw [List.map_cons, ← h2, ← h.1]⟩
  | swap x y l =>
    intro M h
    cases M with
    | nil => simp at h
    | cons a M =>
      cases M with
      | nil => simp at h
      | cons b M =>
        simp only [List.map_cons, List.cons.injEq] at h
        exact ⟨b :: a :: M, List.Perm.swap a b M, by rw [List.map_cons, List.map_cons, ← h.1, ← h.2.1, ← h.2.2]⟩
  | trans _ _ ih1 ih2 =>
    intro M h
    obtain ⟨L1, h1, h2⟩ := ih1 M h
    obtain ⟨L2, h3, h4⟩ := ih2 L1 h2
    exact ⟨L2, h3.trans h1, h4⟩
def tnA (n : Nat) (f : Nat → Int) : Array Tn := ((List.range n).map (tnF f)).toArray
theorem size_tnA (n : Nat) (f : Nat → Int) : (tnA n f).size = n := by simp [tnA]
theorem get_tnA {n : Nat} (f : Nat → Int) {j : Nat} (h : j < n) : (tnA n f)[j]! = tnF f j := by simp [tnA, h]
theorem get_encT {f : Nat → Int} (hf : ∀ i, 0 ≤ f i ∧ f i ≤ 255) (i r : Nat) (hr : r < 3) : (encT (tnF f i))[r]! = .int .u8 (f (i * 3 + r)) := by
  have : r = 0 ∨ r = 1 ∨ r = 2 := by omega
  unfold encT
  rw [tnF_0 hf, tnF_1 hf, tnF_2 hf]
  rcases this with rfl | rfl | rfl <;> rfl
section
variable {W : World} {base g cap n : Nat} {f : Nat → Int}
theorem PRow.held (h : PRow W base (.slice (some ⟨g, 0, none⟩) n cap) n f) (hf : ∀ i, 0 ≤ f i ∧ f i ≤ 255) : HoldsK encT 3 W g 0 (tnA n f) := by
  rcases h.shape with ⟨h1, _⟩ | ⟨g', cap', cur, h1, h2, h3, h4, h5, h6, h7, h8⟩
  · cases h1
  · simp only [Value.slice.injEq, Option.some.injEq, Addr.mk.injEq, and_true, true_and] at h1
    obtain ⟨rfl, rfl⟩ := h1
    intro j hj
    rw [size_flatK, size_tnA] at hj
    rw [get_flatK _ _ _ _ (by rw [size_tnA]; exact hj), get_tnA f (by omega), get_encT hf _ _ (by omega), show j / 3 * 3 + j % 3 = j by omega]
    have ho : W.heap[g]? = some (.cells cur 26 (0, 0)) := h4
    refine ⟨?_, by simp [World.frozen?, ho]⟩
    have := h8 j hj
    simp [World.cell?, ho, this]
theorem heap_sortedK {m : Nat} {os : Array Obj} {cur : Array Value} {e : TypeId} {fr : Nat × Nat} (d : Array Tn) (hb : W.heap[g]? = some (.cells cur e fr)) :
    (Go.Proofs.sortWorldK encT 3 W g 0 m d os).heap[g]? = some (.cells (Go.Sort.putCells id 0 (flatK encT 3 d) cur) e fr) := by
  have hg : g < W.heap.size := (Array.getElem?_eq_some_iff.1 hb).1
  unfold Go.Proofs.sortWorldK Go.Sort.putRowK
  rw [Go.Sort.heap_grow_old _ _ (by simpa using hg)]
  simp [Go.Sort.putRow, Go.Sort.mapBlock, Go.Sort.ahead, Array.getElem?_modify, hb, Go.Sort.onCells]
theorem grownBy_sortedK {m : Nat} {os : Array Obj} (d : Array Tn) : W.grownBy (Go.Proofs.sortWorldK encT 3 W g 0 m d os) (some g) := by
  unfold Go.Proofs.sortWorldK Go.Sort.putRowK
  refine ⟨rfl, rfl, rfl, by simp, fun k hk hne => ?_⟩
  rw [Go.Sort.heap_grow_old _ _ (by simpa using hk)]
  have : g ≠ k := fun e => hne (by rw [e])
  simp [Go.Sort.putRow, Go.Sort.mapBlock, Go.Sort.ahead, Array.getElem?_modify, this]
theorem PRow.sorted {m : Nat} {os : Array Obj} {d : Array Tn} {L : List Nat} (h : PRow W base (.slice (some ⟨g, 0, none⟩) n cap) n f) (hf : ∀ i, 0 ≤ f i ∧ f i ≤ 255) (hL : L.length = n) (hd : d.toList = L.map (tnF f)) : PRow (Go.Proofs.sortWorldK encT 3 W g 0 m d os) base (.slice (some ⟨g, 0, none⟩) n cap) n (subP f (lsF L)) := by
  rcases h.shape with ⟨h1, _⟩ | ⟨g', cap', cur, h1, h2, h3, h4, h5, h6, h7, h8⟩
  · cases h1
  · simp only [Value.slice.injEq, Option.some.injEq, Addr.mk.injEq, and_true, true_and] at h1
    obtain ⟨rfl, rfl⟩ := h1
    have hsz : d.size = n := by rw [← Array.length_toList, hd, List.length_map, hL]
    refine PRow.of (heap_sortedK d h4) h2 h5 h6 (by simp [Go.Sort.putCells, h7]) fun j hj => ?_
    have hc : j < cur.size := by omega
    have hv : (flatK encT 3 d)[j]! = .int .u8 (subP f (lsF L) j) := by
      rw [get_flatK _ _ _ _ (by rw [hsz]; exact hj)]
      have e1 : d[j / 3]! = tnF f (L.getD (j / 3) 0) := by
        have l1 : j / 3 < d.size := by omega
        have l2 : j / 3 < L.length := by omega
        rw [getElem!_pos d (j / 3) l1, ← Array.getElem_toList, List.getElem_of_eq hd, List.getElem_map, List.getD_eq_getElem?_getD, List.getElem?_eq_getElem l2]
        rfl
      rw [e1, get_encT hf _ _ (by omega)]
      unfold subP lsF
      rw [show (((L.getD (j / 3) 0 : Nat) : Int) + 1).toNat - 1 = L.getD (j / 3) 0 by omega]
    simp [Go.Sort.putCells, hc, hsz, hj]
    rw [getElem!_pos _ _ (by rw [size_flatK, hsz]; exact hj)] at hv
    exact hv
end
theorem cmpLays_any (W : World) (g n : Nat) : Go.Proofs.CmpLays Tryz.prog 73 #[] encT 3 cmpT g 0 n W := by
  intro m os dk _ x y
  exact byBright_gr x y _
set_option maxHeartbeats 4000000 in
set_option maxRecDepth 100000 in
theorem sortFunc_any {base g cap n : Nat} {f : Nat → Int} (hf : ∀ i, 0 ≤ f i ∧ f i ≤ 255) (hn : n ≤ 1048576) (W : World) (h : PRow W base (.slice (some ⟨g, 0, none⟩) n cap) n f) :
    Calls Tryz.prog 72 #[.slice (some ⟨g, 0, none⟩) n cap, .func (.func 73) #[] #[]] W fun e w' => e = .returned (.tuple #[]) ∧ ∃ L : List Nat, L.Perm (List.range n) ∧ (L.Pairwise fun i j => ¬ tl (tnF f j) (tnF f i)) ∧ PRow w' base (.slice (some ⟨g, 0, none⟩) n cap) n (subP f (lsF L)) ∧ W.grownBy w' (some g) := by
  have hb := h.block g rfl
  have eg : ∀ args w, (callFunc 73 args).run Tryz.prog w = .ok (.enter 73 args) w := Go.Proofs.enters_of Tryz.func73 (by decide) rfl
  have hH := h.held hf
  have hp := AnyQ.pdqsortCmpFunc_all Tryz.sortF 3 (fun w => Tryz.isAgg26 w) (fun w => Tryz.sizeOf26 w) encT cmpT 73 #[] swo_tl g 0 cap (tnA n f) W eg (cmpLays_any W g _) ⟨fun _ => rfl, fun x v hv => by simp [encT] at hv; rcases hv with rfl | rfl | rfl <;> rfl, hH, hb.2⟩ ((tnA n f).size + 1) 0 (tnA n f).size (Lib.bitLen (tnA n f).size) (tnA n f) W (by omega) rfl (Go.Proofs.SWK.start hH) (Nat.zero_le _) (Nat.le_refl _) (by rw [size_tnA]; omega) (Nat.lt_of_le_of_lt (Lib.bitLen_le _ 62 (by omega) (by rw [size_tnA]; omega)) (by omega)) (Or.inl rfl)
  rw [size_tnA] at hp
  have hl : Calls Tryz.prog 93 #[.int .u64 (n : Int)] W fun e w' => e = .returned (.int .i64 (Lib.bitLen n : Nat)) ∧ w' = W := by
    have h := Any.bits_Len (Go.Proofs.SlLaysF0.n15.bits Tryz.bitsF) (n : Int) W (by omega) (by omega)
    rwa [Int.toNat_natCast] at h
  have wr : IntKind.u64.wrap (n : Int) = n := by simp [IntKind.wrap, IntKind.bits, IntKind.signed]; omega
  have hS := Go.Sort.pdq_sorts (ltOf cmpT) swo_tl (tnA n f) 0 n (Lib.bitLen n) true true (Nat.zero_le _) (by rw [size_tnA]; exact Nat.le_refl _) (Or.inl rfl)
  generalize pdq (ltOf cmpT) (tnA n f) 0 n (Lib.bitLen n) true true = D at hp hS
  change Calls Tryz.prog 92 #[.slice (some ⟨g, 0, none⟩) n cap, .int .i64 0, .int .i64 n, .int .i64 (Lib.bitLen n : Nat), .func (.func 73) #[] #[]] W _ at hp
  have hS := hide hS
  have h := hide h
  clear hH hb
  go_enter Tryz.func72, Tryz.ntmps72
  go_wp2_with (first | (go_at_call 93; refine hl.mono ?_; rintro e w' ⟨rfl, rfl⟩) | (go_at_call 92; refine hp.mono ?_; rintro e w' ⟨rfl, m0, os, rfl⟩))
  go_end0
  obtain ⟨⟨hs1, _, hs2⟩, hs3⟩ := hS.out
  rw [size_tnA] at hs1
  have hs2 : D.toList.Perm ((List.range n).map (tnF f)) := by
    have e1 : D.extract 0 n = D := by rw [← hs1]; exact Array.extract_size
    have e2 : (tnA n f).extract 0 n = tnA n f := by
      have := Array.extract_size (xs := tnA n f)
      rwa [size_tnA] at this
    rw [e1, e2] at hs2
    exact hs2
  obtain ⟨L, hL1, hL2⟩ := perm_map_ex hs2.symm _ rfl
  have hLl : L.length = n := by rw [hL1.length_eq, List.length_range]
  refine ⟨rfl, L, hL1, pw_getD.2 fun i j hij hj => ?_, h.out.sorted hf hLl hL2, grownBy_sortedK D⟩
  have h3 := hs3 i j (Nat.zero_le _) hij (by omega)
  have e1 : ∀ i, i < n → D[i]! = tnF f (L.getD i 0) := fun i hi => by
    have l1 : i < D.size := by omega
    have l2 : i < L.length := by omega
    rw [getElem!_pos D i l1, ← Array.getElem_toList, List.getElem_of_eq hL2, List.getElem_map, List.getD_eq_getElem?_getD, List.getElem?_eq_getElem l2]
    rfl
  rw [e1 i (by omega), e1 j (by omega)] at h3
  unfold ltOf at h3
  rw [decide_eq_false_iff_not, cmpT_neg] at h3
  exact h3
end Go.Proofs.YtphjhegaplochaaGreatDoor
/- Rows behind a row: made, read, held against themselves, marked; no condition. -/
set_option linter.unusedVariables false
namespace Go.Proofs.YtphjhegaplochaaGreatDoor
open Go.BigFrame
open Go.RowKit Go.Arr
def RR (W : World) (base : Nat) (v : Value) (n : Nat) (vs : Nat → Value) (m : Nat → Nat) (F : Nat → Nat → Int) : Prop :=
  W.ownsRow base 54 1 v n ((List.range n).map vs) ∧ (∀ i, i < n → Row W base (vs i) (m i) (F i)) ∧
  (∀ i j b, i < n → j < n → (vs i).ownBlock = some b → (vs j).ownBlock = some b → i = j) ∧ (∀ i b, i < n → (vs i).ownBlock = some b → v.ownBlock ≠ some b)
section
variable {W W' : World} {base n : Nat} {v : Value} {vs : Nat → Value} {m : Nat → Nat} {F F' : Nat → Nat → Int}
theorem RR.new (h : RR W base v n vs m F) (hn : New W W') : RR W' base v n vs m F :=
  ⟨own_new h.1 hn, fun i hi => (h.2.1 i hi).new hn, h.2.2.1, h.2.2.2⟩
theorem RR.lower {b : Nat} (h : RR W base v n vs m F) (hb : b ≤ base) : RR W b v n vs m F :=
  ⟨own_lower h.1 hb, fun i hi => (h.2.1 i hi).lower hb, h.2.2.1, h.2.2.2⟩
theorem RR.row (h : RR W base v n vs m F) {i : Nat} (hi : i < n) : Row W base (vs i) (m i) (F i) := h.2.1 i hi
theorem RR.shape (h : RR W base v n vs m F) : (v = .slice none 0 0 ∧ n = 0) ∨ ∃ g cap cur, v = .slice (some ⟨g, 0, none⟩) n cap ∧ base ≤ g ∧ g < W.heap.size ∧ obj W g = some (.cells cur 54) ∧ n ≤ cap ∧ cap ≤ maxLen ∧ cur.size = cap ∧ ∀ j, j < n → cur[j]? = some (vs j) := by
  obtain ⟨hl, h | ⟨g, cap, cur, h1, h2, h3, h4, h5, h6, h7⟩⟩ := h.1
  · exact .inl h
  · have hg : g < W.heap.size := obj_lt h3
    refine .inr ⟨g, cap, cur, h1, h2, hg, h3, h4, h5, by rw [h6, Nat.mul_one], fun j hj => ?_⟩
    have e : (cur.toList.take (n * 1))[j]? = ((List.range n).map vs)[j]? := by rw [h7]
    rw [Nat.mul_one, List.getElem?_take, if_pos hj, Array.getElem?_toList] at e
    rw [e]
    simp [hj]
theorem RR.form (h : RR W base v n vs m F) : ∃ a cap, v = .slice a n cap := by
  rcases h.shape with ⟨h1, h2⟩ | ⟨g, cap, cur, h1, _⟩
  · exact ⟨_, _, by rw [h2]; exact h1⟩
  · exact ⟨_, _, h1⟩
theorem RR.block (h : RR W base v n vs m F) : ∀ b, v.ownBlock = some b → base ≤ b ∧ b < W.heap.size := by
  intro b hb
  rcases h.shape with ⟨rfl, _⟩ | ⟨g, cap, cur, rfl, h1, h2, _⟩
  · cases hb
  · simp [Value.ownBlock] at hb; subst hb; exact ⟨h1, h2⟩
theorem RR.congr (h : RR W base v n vs m F) (hf : ∀ i, i < n → ∀ j, j < m i → F i j = F' i j) : RR W base v n vs m F' :=
  ⟨h.1, fun i hi => (h.2.1 i hi).congr (hf i hi), h.2.2.1, h.2.2.2⟩
theorem RR.nil : RR W base (.slice none 0 0) 0 vs m F := ⟨⟨by simp, .inl ⟨rfl, rfl⟩⟩, fun i hi => absurd hi (by omega), fun i j b hi => absurd hi (by omega), fun i b hi => absurd hi (by omega)⟩
theorem RR.empty {g : Nat} (h : obj W g = some (.cells #[] 54)) (hb : base ≤ g) : RR W base (.slice (some ⟨g, 0, none⟩) 0 0) 0 vs m F :=
  ⟨⟨by simp, .inr ⟨g, 0, #[], rfl, hb, h, by omega, by omega, rfl, by simp⟩⟩, fun i hi => absurd hi (by omega), fun i j b hi => absurd hi (by omega), fun i b hi => absurd hi (by omega)⟩
theorem RR.same (h : RR W base v n vs m F) (h0 : ∀ b, v.ownBlock = some b → obj W' b = obj W b) (h1 : ∀ i b, i < n → (vs i).ownBlock = some b → obj W' b = obj W b) : RR W' base v n vs m F := by
  refine ⟨?_, fun i hi => (h.2.1 i hi).same (h1 i · hi), h.2.2.1, h.2.2.2⟩
  obtain ⟨hl, h' | ⟨g, cap, cur, e1, e2, e3, e4⟩⟩ := h.1
  · exact ⟨hl, .inl h'⟩
  · refine ⟨hl, .inr ⟨g, cap, cur, e1, e2, ?_, e4⟩⟩
    have := h0 g (by rw [e1]; rfl)
    exact this.trans e3
/-- a row laid behind the others -/
theorem RR.app {r : Value} {k : Nat} {f : Nat → Int} {g cap : Nat} (h : RR W base v n vs m F) (hr : Row W base r k f) (hd : ∀ i b, i < n → (vs i).ownBlock = some b → r.ownBlock ≠ some b) (hd2 : ∀ b, r.ownBlock = some b → v.ownBlock ≠ some b)
    (ho : W'.ownsRow base 54 1 (.slice (some ⟨g, 0, none⟩) (n + 1) cap) (n + 1) ((List.range n).map vs ++ [r])) (hg : W.grownBy W' v.ownBlock) (hat : v.ownBlock = some g ∨ W.heap.size ≤ g) :
    RR W' base (.slice (some ⟨g, 0, none⟩) (n + 1) cap) (n + 1) (fun i => if i = n then r else vs i) (fun i => if i = n then k else m i) (fun i => if i = n then f else F i) := by
  have hold : ∀ i b, i < n → (vs i).ownBlock = some b → obj W' b = obj W b := fun i b hi hb => grown_obj hg b ((h.2.1 i hi).block b hb).2 (fun e => h.2.2.2 i b hi hb e.symm)
  have hrow : Row W' base r k f := hr.same fun b hb => grown_obj hg b (hr.block b hb).2 (fun e => hd2 b hb e.symm)
  have hfar : ∀ b, b < W.heap.size → v.ownBlock ≠ some b → some g ≠ some b := by
    intro b hb hv e
    cases e
    rcases hat with h' | h'
    · exact hv h'
    · omega
  refine ⟨?_, ?_, ?_, ?_⟩
  · have e : (List.range (n + 1)).map (fun i => if i = n then r else vs i) = (List.range n).map vs ++ [r] := by
      rw [List.range_succ, List.map_append, List.map_singleton, if_pos rfl]
      congr 1
      refine List.map_congr_left fun i hi => ?_
      rw [List.mem_range] at hi
      exact if_neg (by omega)
    rw [e]
    exact ho
  · intro i hi
    by_cases e : i = n
    · simp only [if_pos e]; exact hrow
    · simp only [if_neg e]; exact (h.2.1 i (by omega)).same (hold i · (by omega))
  · intro i j b hi hj hb1 hb2
    by_cases ei : i = n
    · by_cases ej : j = n
      · omega
      · simp only [if_pos ei] at hb1
        simp only [if_neg ej] at hb2
        exact absurd hb1 (hd j b (by omega) hb2)
    · by_cases ej : j = n
      · simp only [if_neg ei] at hb1
        simp only [if_pos ej] at hb2
        exact absurd hb2 (hd i b (by omega) hb1)
      · simp only [if_neg ei] at hb1
        simp only [if_neg ej] at hb2
        exact h.2.2.1 i j b (by omega) (by omega) hb1 hb2
  · intro i b hi hb
    show some g ≠ some b
    by_cases e : i = n
    · simp only [if_pos e] at hb; exact hfar b (hr.block b hb).2 (hd2 b hb)
    · simp only [if_neg e] at hb
      exact hfar b ((h.2.1 i (by omega)).block b hb).2 (h.2.2.2 i b (by omega) hb)
end
/-- a row's numbers can be read -/
def NewSl (W : World) (a : Option Addr) (n : Nat) (f : Nat → Int) : Prop := Reads W a n f
theorem NewSl.at {W W' : World} {a : Option Addr} {n : Nat} {f : Nat → Int} (h : NewSl W a n f) (hn : New W W') : Reads W' a n f := fun j hj => by
  obtain ⟨g, cur, h1, h2, h3⟩ := h j hj
  exact ⟨g, cur, h1, (hn.objs _ (obj_lt h2)).trans h2, h3⟩
/-- what has been counted ahead of row i -/
def sumM (m : Nat → Nat) : Nat → Nat
  | 0 => 0
  | i + 1 => sumM m i + m i
theorem sumM_le {m : Nat → Nat} {K : Nat} (h : ∀ i, m i ≤ K) (i : Nat) : sumM m i ≤ i * K := by
  induction i with
  | zero => simp [sumM]
  | succ i ih => have := h i; unfold sumM; rw [Nat.succ_mul]; omega
theorem RR.slot {W : World} {base n cap : Nat} {a : Option Addr} {vs : Nat → Value} {m : Nat → Nat} {F : Nat → Nat → Int} (h : RR W base (.slice a n cap) n vs m F) {i : Nat} (hi : i < n) : ∃ g cur, a = some ⟨g, 0, none⟩ ∧ obj W g = some (.cells cur 54) ∧ (∃ l : i < cur.size, cur[i] = vs i) := by
  rcases h.shape with ⟨_, h0⟩ | ⟨g, c, cur, h1, h2, h3, h4, h5, h6, h7, h8⟩
  · omega
  · simp only [Value.slice.injEq] at h1
    exact ⟨g, cur, h1.1, h4, Array.getElem?_eq_some_iff.1 (h8 i hi)⟩
end Go.Proofs.YtphjhegaplochaaGreatDoor
/- Rows of cells by their nearest tone, as the program keeps them; palettes cloned; no condition. -/
set_option linter.unusedVariables false
namespace Go.Proofs.YtphjhegaplochaaGreatDoor
open Go.BigFrame
open Go.RowKit Go.Arr
def nilRows (n : Nat) : Array Value := ((List.range n).map fun _ => Value.slice none 0 0).toArray
theorem size_nilRows (n : Nat) : (nilRows n).size = n := by simp [nilRows]
theorem get_nilRows {n i : Nat} (h : i < n) : (nilRows n)[i]? = some (.slice none 0 0) := by simp [nilRows, h]
theorem RR.made {W : World} {base g n : Nat} {F : Nat → Nat → Int} (h : obj W g = some (.cells (nilRows n) 54)) (hb : base ≤ g) (hn : n ≤ maxLen) : RR W base (.slice (some ⟨g, 0, none⟩) n n) n (fun _ => .slice none 0 0) (fun _ => 0) F := by
  refine ⟨?_, fun i hi => Row.nil, fun i j b hi hj h1 => by simp [Value.ownBlock] at h1, fun i b hi h1 => by simp [Value.ownBlock] at h1⟩
  refine ⟨by simp, .inr ⟨g, n, nilRows n, rfl, hb, h, Nat.le_refl _, hn, by rw [size_nilRows, Nat.mul_one], ?_⟩⟩
  rw [Nat.mul_one]
  exact List.take_of_length_le (by simp [nilRows])
theorem RR.put {W W' : World} {base go n cap0 i k : Nat} {vs : Nat → Value} {m : Nat → Nat} {F : Nat → Nat → Int} {r : Value} {f : Nat → Int} (h : RR W base (.slice (some ⟨go, 0, none⟩) n cap0) n vs m F) (hi : i < n)
    (hr : Row W' base r k f) (hg : W.grownBy W' (vs i).ownBlock) (hat : ∀ q, r.ownBlock = some q → (vs i).ownBlock = some q ∨ W.heap.size ≤ q) :
    RR (W'.setCell ⟨go, i, none⟩ r) base (.slice (some ⟨go, 0, none⟩) n cap0) n (fun j => if j = i then r else vs j) (fun j => if j = i then k else m j) (fun j => if j = i then f else F j) := by
  have hgo := (h.block go rfl).2
  have hne : ∀ j, j < n → (vs j).ownBlock ≠ some go := fun j hj e => h.2.2.2 j go hj e rfl
  have hrgo : ∀ q, r.ownBlock = some q → q ≠ go := fun q hq e => by
    subst e
    rcases hat _ hq with h1 | h1
    · exact hne i hi h1
    · omega
  have hbj : ∀ j q, j < n → (vs j).ownBlock = some q → q < W.heap.size := fun j q hj hq => ((h.row hj).block q hq).2
  have hout : ∀ b, b ≠ go → obj (W'.setCell ⟨go, i, none⟩ r) b = obj W' b := fun b hb => obj_setCell_other _ _ _ _ _ hb
  refine ⟨?_, ?_, ?_, ?_⟩
  · obtain ⟨hl, h' | ⟨g, cap, cur, e1, e2, e3, e4, e5, e6, e7⟩⟩ := h.1
    · cases h'.1
    · simp only [Value.slice.injEq, Option.some.injEq, Addr.mk.injEq, and_true, true_and] at e1
      obtain ⟨rfl, rfl⟩ := e1
      have hW' : obj W' go = some (.cells cur 54) := (grown_obj hg go hgo fun e => hne i hi e.symm).trans e3
      refine ⟨by simp, .inr ⟨go, cap0, cur.setIfInBounds i r, rfl, e2, ?_, e4, e5, by rw [Array.size_setIfInBounds, e6], ?_⟩⟩
      · show obj _ go = _
        rw [obj_setCell_same, hW']
        rfl
      · have e7' : ∀ j, j < n → cur[j]? = some (vs j) := fun j hj => by
          have e : (cur.toList.take (n * 1))[j]? = ((List.range n).map vs)[j]? := by rw [e7]
          rw [Nat.mul_one, List.getElem?_take, if_pos hj, Array.getElem?_toList] at e
          rw [e]
          simp [hj]
        apply List.ext_getElem?
        intro j
        by_cases hj : j < n
        · rw [Nat.mul_one, List.getElem?_take, if_pos hj, Array.getElem?_toList, Array.getElem?_setIfInBounds]
          by_cases e : i = j
          · subst e
            rw [if_pos rfl, if_pos (by omega)]
            simp [hj]
          · rw [if_neg e, e7' j hj]
            simp [hj, Ne.symm e]
        · rw [List.getElem?_eq_none (by simp; omega), List.getElem?_eq_none (by simp; omega)]
  · intro j hj
    by_cases e : j = i
    · simp only [if_pos e]; exact hr.same fun q hq => hout q (hrgo q hq)
    · simp only [if_neg e]
      refine (h.row hj).same fun q hq => ?_
      rw [hout q fun e2 => hne j hj (by rw [hq, e2])]
      exact grown_obj hg q (hbj j q hj hq) fun e2 => e (h.2.2.1 j i q hj hi hq e2.symm)
  · intro j l q hj hl h1 h2
    by_cases ej : j = i
    · by_cases el : l = i
      · omega
      · simp only [if_pos ej] at h1
        simp only [if_neg el] at h2
        rcases hat q h1 with h3 | h3
        · exact absurd (h.2.2.1 l i q hl hi h2 h3) el
        · have := hbj l q hl h2; omega
    · by_cases el : l = i
      · simp only [if_neg ej] at h1
        simp only [if_pos el] at h2
        rcases hat q h2 with h3 | h3
        · exact absurd (h.2.2.1 j i q hj hi h1 h3) ej
        · have := hbj j q hj h1; omega
      · simp only [if_neg ej] at h1
        simp only [if_neg el] at h2
        exact h.2.2.1 j l q hj hl h1 h2
  · intro j q hj h1 e
    simp only [Value.ownBlock, Option.some.injEq] at e
    by_cases ej : j = i
    · simp only [if_pos ej] at h1; exact hrgo q h1 e.symm
    · simp only [if_neg ej] at h1; exact hne j hj (by rw [h1, e])
/-- the classes, cell by cell -/
def stp (near : Nat → Nat) (s : Nat → Nat × (Nat → Nat)) (i : Nat) : Nat → Nat × (Nat → Nat) := fun c => if c = near i then ((s c).1 + 1, fun j => if j = (s c).1 then i else (s c).2 j) else s c
theorem stp_e (near : Nat → Nat) (p : Nat → Bool) (k : Nat) : recS (stp near) (fun _ => (0, fun _ => 0)) p k = fun c => (selN (fun i => p i && decide (near i = c)) k, selG (fun i => p i && decide (near i = c)) k) := by
  induction k with
  | zero => rfl
  | succ k ih =>
    funext c
    cases hp : p k
    · rw [recS_f hp, ih]
      have hq : (fun i => p i && decide (near i = c)) k = false := by simp [hp]
      rw [selN_f hq, selG_f hq]
    · rw [recS_t hp, ih]
      unfold stp
      by_cases e : c = near k
      · have hq : (fun i => p i && decide (near i = c)) k = true := by simp [hp, e]
        rw [if_pos e, selN_t hq, selG_t hq]
      · have hq : (fun i => p i && decide (near i = c)) k = false := by simp [hp]; exact fun h => e h.symm
        rw [if_neg e, selN_f hq, selG_f hq]
def nearI (n : Nat) (fp fm : Nat → Int) (i : Nat) : Nat := (nearK fp (fm (i * 3)) (fm (i * 3 + 1)) (fm (i * 3 + 2)) n).1
def clsT (n : Nat) (fp fm : Nat → Int) (a b : Int) (t : Nat) : Nat → Nat × (Nat → Nat) := recT (stp (nearI n fp fm)) (fun _ => (0, fun _ => 0)) (selG (cellN a b) 144) t
theorem clsT_s (n : Nat) (fp fm : Nat → Int) (a b : Int) (t : Nat) : clsT n fp fm a b (t + 1) = stp (nearI n fp fm) (clsT n fp fm a b t) (selG (cellN a b) 144 t) := rfl
theorem clsT_end (n : Nat) (fp fm : Nat → Int) (a b : Int) : clsT n fp fm a b (selN (cellN a b) 144) = fun c => (clN n fp fm a b c, selG (clP n fp fm a b c) 144) := by
  unfold clsT
  rw [rec_eq (Nat.le_refl _), stp_e]
  rfl
theorem clsT_le (n : Nat) (fp fm : Nat → Int) (a b : Int) (t c : Nat) : (clsT n fp fm a b t c).1 ≤ t := by
  induction t with
  | zero => exact Nat.le_refl _
  | succ t ih =>
    rw [clsT_s]
    unfold stp
    split
    · dsimp only; omega
    · omega
theorem nearK_lt (f : Nat → Int) (x y z : Int) (k : Nat) : (nearK f x y z (k + 1)).1 ≤ k := by
  induction k with
  | zero => rw [nearK_one]; exact Nat.le_refl _
  | succ k ih =>
    obtain ⟨q, le, he⟩ : ∃ q le, nearK f x y z (k + 1) = (q, le) := ⟨_, _, rfl⟩
    rw [he] at ih
    by_cases h : farE f x y z (k + 1) < le
    · rw [nearK_t he h]; exact Nat.le_refl _
    · rw [nearK_f he h]; dsimp only at ih ⊢; omega
theorem nearI_lt {n : Nat} (fp fm : Nat → Int) (i : Nat) (hn : 0 < n) : nearI n fp fm i < n := by
  obtain ⟨k, rfl⟩ : ∃ k, n = k + 1 := ⟨n - 1, by omega⟩
  have := nearK_lt fp (fm (i * 3)) (fm (i * 3 + 1)) (fm (i * 3 + 2)) k
  unfold nearI
  omega
theorem stp_m (near : Nat → Nat) (s : Nat → Nat × (Nat → Nat)) (i : Nat) : (fun c => (stp near s i c).1) = fun c => if c = near i then (s (near i)).1 + 1 else (s c).1 := by
  funext c
  unfold stp
  by_cases e : c = near i
  · subst e; simp
  · simp [e]
theorem stp_F (near : Nat → Nat) (s : Nat → Nat × (Nat → Nat)) (i : Nat) : (fun c j => ((stp near s i c).2 j : Int)) = fun c => if c = near i then (fun j => upd (fun j => ((s (near i)).2 j : Int)) (s (near i)).1 i j) else fun j => ((s c).2 j : Int) := by
  funext c j
  unfold stp upd
  by_cases e : c = near i
  · subst e
    simp only [if_true]
    by_cases e2 : j = (s (near i)).1
    · rw [if_pos e2, if_pos e2]
    · rw [if_neg e2, if_neg e2]
  · simp [e]
set_option maxHeartbeats 1000000 in
set_option maxRecDepth 100000 in
theorem clonePal_any (ad : Option Addr) (n c : Nat) (f : Nat → Int) (hp : 0 < n) (hn : n ≤ 1048576) (W : World) (hs : Sl W (.slice ad n c) n 3 .u8 f) :
    Calls Tryz.prog 71 #[.slice ad n c] W fun e w' => ∃ g cap, e = .returned (.slice (some ⟨g, 0, none⟩) n cap) ∧ PRow w' W.heap.size (.slice (some ⟨g, 0, none⟩) n cap) n f ∧ New W w' := by
  obtain ⟨gs, offs, curs, ts, frs, rfl, o5, hel5⟩ := hs.at hp
  have r5 := obj_lt o5
  have hel5 := hide hel5
  have heq := fun w' : World => Lib.run_eql_slice_nil (P := Tryz.prog) w' 32 26 (some ⟨gs, offs, none⟩) n c 0 0 Tryz.underlying32
  go_enter Tryz.func71, Tryz.ntmps71
  go_wp2_with (at_builtin; refine wpList_app slTones rfl _ _ rfl W.heap.size (.slice (some ⟨W.heap.size, 0, none⟩) 0 0) 0 [] rfl (prow_empty (f := f) (obj_alloc_at _ _ _ rfl) (Nat.le_refl _)) ⟨gs, offs, none⟩ n c (irow (n * 3) .u8 f) rfl (by simp) (news_sl3 ((obj_alloc_past _ _ _ r5).trans o5) hel5.out) irow_one (by omega) (by unfold maxLen; omega) (by omega) (by simp) ?_)
  intro g1 cap1 w2 hown hg2 hat hlt2
  try simp only [Nat.zero_add, List.nil_append] at hown
  try simp only [Nat.zero_add]
  have hrow : PRow w2 W.heap.size (.slice (some ⟨g1, 0, none⟩) n cap1) n f := hown
  have hn2 : New W w2 := grown_new ((New.refl W).alloc _) hg2 fun b hb => by simp [Value.ownBlock] at hb; omega
  clear hown hg2 hat
  go_wp2_with (fail)
  go_ret
  exact ⟨_, _, rfl, hrow, hn2⟩
end Go.Proofs.YtphjhegaplochaaGreatDoor
/- Palettes put in order of brightness: what the program returns; no condition. -/
set_option linter.unusedVariables false
namespace Go.Proofs.YtphjhegaplochaaGreatDoor
open Go.BigFrame
open Go.RowKit Go.Arr
theorem PRow.els {W : World} {base g cap n : Nat} {f : Nat → Int} (h : PRow W base (.slice (some ⟨g, 0, none⟩) n cap) n f) : ∃ cur, obj W g = some (.cells cur 26) ∧ base ≤ g ∧ n ≤ cap ∧ cap ≤ maxLen ∧ ∀ j, j < n → cur.extract (j * 3) (j * 3 + 3) = #[.int .u8 (f (j * 3)), .int .u8 (f (j * 3 + 1)), .int .u8 (f (j * 3 + 2))] ∧ j * 3 + 3 ≤ cur.size := by
  rcases h.shape with ⟨h1, _⟩ | ⟨g', cap', cur, h1, h2, h3, h4, h5, h6, h7, h8⟩
  · cases h1
  · simp only [Value.slice.injEq, Option.some.injEq, Addr.mk.injEq, and_true, true_and] at h1
    obtain ⟨rfl, rfl⟩ := h1
    exact ⟨cur, h4, h2, h5, h6, fun j hj => ⟨ext3 (h8 _ (by omega)) (h8 _ (by omega)) (h8 _ (by omega)) rfl, by omega⟩⟩
theorem ord_of {n : Nat} {f : Nat → Int} (hf : ∀ i, 0 ≤ f i ∧ f i ≤ 255) (hok : okPal n f = true) {L : List Nat} (h1 : L.Perm (List.range n)) (h2 : L.Pairwise fun i j => ¬ tl (tnF f j) (tnF f i)) : ordP n f L := by
  refine ⟨h1, pw_getD.2 fun i j hij hj => ?_⟩
  have hl : L.length = n := by rw [h1.length_eq, List.length_range]
  have hnt := pw_getD.1 h2 i j hij hj
  have hnd : L.Nodup := h1.nodup_iff.2 List.nodup_range
  have hlt : ∀ i, i < n → L.getD i 0 < n := fun i hi => by
    have hm : L.getD i 0 ∈ L := by
      rw [List.getD_eq_getElem?_getD, List.getElem?_eq_getElem (by omega)]
      exact List.getElem_mem _
    exact List.mem_range.1 (h1.mem_iff.1 hm)
  have hne : L.getD i 0 ≠ L.getD j 0 := by
    have hp : L.Pairwise (· ≠ ·) := hnd
    exact pw_getD.1 hp i j hij hj
  by_cases h3 : tl (tnF f (L.getD i 0)) (tnF f (L.getD j 0))
  · exact h3
  · exfalso
    have he := tl_tri h3 hnt
    rcases Nat.lt_or_gt_of_ne hne with h | h
    · exact ok_ne hf hok (hlt j (by omega)) h he.symm
    · exact ok_ne hf hok (hlt i (by omega)) h he
theorem idx_at {n : Nat} {f : Nat → Int} (hf : ∀ i, 0 ≤ f i ∧ f i ≤ 255) (hok : okPal n f = true) {l : Nat} (hl : l < n) {r : Int} (h : idxOk n f (f (l * 3)) (f (l * 3 + 1)) (f (l * 3 + 2)) r) : r = l := by
  rcases h with ⟨_, h⟩ | ⟨i, hi, rfl, h, _⟩
  · have h1 := h l hl
    have h2 : eq3 (f (l * 3)) (f (l * 3 + 1)) (f (l * 3 + 2)) (f (l * 3)) (f (l * 3 + 1)) (f (l * 3 + 2)) = true := eq3_t.2 ⟨rfl, rfl, rfl⟩
    rw [h2] at h1
    simp at h1
  · have h1 := eq3_t.1 h
    have he : tnF f l = tnF f i := by unfold tnF; rw [h1.1, h1.2.1, h1.2.2]
    by_cases e : l = i
    · rw [e]
    · exfalso
      rcases Nat.lt_or_gt_of_ne e with h3 | h3
      · exact ok_ne hf hok hi h3 he.symm
      · exact ok_ne hf hok hl h3 he
set_option maxHeartbeats 8000000 in
set_option maxRecDepth 100000 in
theorem sort_impl (ad : Option Addr) (n cp : Nat) (f : Nat → Int) (hf : ∀ i, 0 ≤ f i ∧ f i ≤ 255) (hn : n ≤ 1048576) (hcp : n ≤ cp) (W : World) (hs : Sl W (.slice ad n cp) n 3 .u8 f) :
    Calls Tryz.prog 32 #[.slice ad n cp] W fun e w' => ∃ v u, e = .returned (.tuple #[v, u, .int .i64 (srtC n f)]) ∧ PRow w' W.heap.size v (srtN n f) (srtF n f) ∧ Row w' W.heap.size u (srtN n f) (srtO n f) ∧ New W w' ∧ ∀ b, v.ownBlock = some b → u.ownBlock ≠ some b := by
  cases hok : okPal n f
  · have hC : Hid (srtC n f = 1) := if_neg (by rw [hok]; simp)
    have hN : Hid (srtN n f = 0) := if_neg (by rw [hok]; simp)
    go_enter Tryz.func32, Tryz.ntmps32
    go_wp2_with (fail)
    refine (validPal_impl ad n cp f hn hcp _ hs).mono ?_
    rintro e w1 ⟨rfl, hn1⟩
    rw [hok]
    go_wp2_with (fail)
    go_ret3
    refine ⟨_, _, by rw [hC.out]; rfl, by rw [hN.out]; exact PRow.nil, by rw [hN.out]; exact Row.nil, hn1, fun b hb => ?_⟩
    simp [Value.ownBlock] at hb
  have hC : Hid (srtC n f = 0) := if_pos hok
  have hN : Hid (srtN n f = n) := if_pos hok
  have hpos := okPal_pos hok
  go_enter Tryz.func32, Tryz.ntmps32
  go_wp2_with (fail)
  refine (validPal_impl ad n cp f hn hcp _ hs).mono ?_
  rintro e w1 ⟨rfl, hn1⟩
  have hs1 := hs.new hn1
  rw [hok]
  go_wp2_with (fail)
  refine (clonePal_any ad n cp f hpos.1 hn _ hs1).mono ?_
  rintro e w2 ⟨g, cap, rfl, hp2, hn2⟩
  have hbk := (hp2.block g rfl)
  have hl1 := hn1.le
  have hl2 := hn2.le
  have hN2 := hn1.trans hn2
  go_wp2_with (fail)
  refine (sortFunc_any hf hn _ ((hp2.lower hl1).new ((New.refl _).alloc _))).mono ?_
  rintro e w3 ⟨rfl, L, hL1, hL2, hp3, hg3⟩
  have hord := hide (ord_of hf hok hL1 hL2)
  have hll := ordP_len hord.out
  have hN3 : New W w3 := grown_new (hN2.alloc _) hg3 fun b hb => by cases hb; omega
  have hr3 : Row w3 w2.heap.size (.slice (some ⟨w2.heap.size, 0, none⟩) 0 0) 0 (lsF L) := row_empty2 ((grown_obj hg3 _ (by simp) (fun e => by cases e; omega)).trans (obj_alloc_at _ _ _ rfl)) (Nat.le_refl _)
  have hl3 := grown_le hg3
  simp at hl3
  obtain ⟨B, hB⟩ : ∃ B, w2.heap.size = B := ⟨_, rfl⟩
  rw [hB] at hr3 hl3 hbk hl2 ⊢
  have hok' := hide hok
  have hO := hide (ordL_eq hord.out)
  have hs' := hide hs
  clear hp2 hg3 hN2 hn2 hn1 hs1 hL1 hL2 hok hs
  go_wp2_with (fail)
  go_loopw [19, 6] (fun i v wq => ∃ j : Nat, j ≤ n ∧ i = .int .i64 j ∧ Row wq B v j (lsF L) ∧ PRow wq W.heap.size (.slice (some ⟨g, 0, none⟩) n cap) n (subP f (lsF L)) ∧ New W wq ∧ B ≤ wq.heap.size) (fun i _ _ => n - (intOf i).toNat)
  case atStart => exact ⟨0, by omega, rfl, hr3, hp3, hN3, by omega⟩
  case round =>
    obtain ⟨j, hj, rfl, hrow, hprow, hnw, hlq⟩ := hrel
    by_cases hlt : j < n
    · obtain ⟨cur, oc, _, hcp, hmx, hel⟩ := hprow.els
      have lc := obj_lt oc
      obtain ⟨x1, lx1⟩ := hel j hlt
      rw [subL_0, subL_1, subL_2] at x1
      have hlj := ordP_lt hord.out hlt
      have hbk2 := hrow.block
      have hprow' := hide hprow
      have hls : Hid (lsF L j = ((L.getD j 0 : Nat) : Int) + 1) := rfl
      clear hel hprow
      generalize L.getD j 0 = l at hlj x1 hls
      go_wp2_with (fail)
      refine (indexPal_any ad n cp f _ _ _ hn _ (hs'.out.new (hnw.alloc _))).mono ?_
      rintro e w6 ⟨r, rfl, hr, hn6⟩
      obtain rfl := idx_at hf hok'.out hlj hr
      have hN6 := (hnw.alloc _).trans hn6
      have hrow6 := hrow.new (((New.refl _).alloc _).trans hn6)
      have hp6 := hide (hprow'.out.new (((New.refl _).alloc _).trans hn6))
      have lw6 := hn6.le
      simp at lw6
      clear hr hrow hnw hprow' hn6
      go_wp2_with (at_builtin; refine wpList_app slInts rfl _ _ rfl B _ _ _ rfl (hrow6.new ((New.refl _).alloc _)) ⟨w6.heap.size, 0, none⟩ 1 1 [.int .i64 ((l : Int) + 1)] rfl rfl (news_new _ _ _ _ _ rfl) (by simp [Value.oneCell']) (by omega) (by unfold maxLen; omega) (by omega) (by simp; omega) ?_)
      intro g1 cap1 w7 hown1 hg1 hat1 hlt1
      have hn7 : New W w7 := grown_new (hN6.alloc _) hg1 fun b hb => by have := (hbk2 b hb).1; omega
      have hp7 : PRow w7 W.heap.size (.slice (some ⟨g, 0, none⟩) n cap) n (subP f (lsF L)) := (hp6.out.new ((New.refl _).alloc _)).same fun b hb => by
        simp only [Value.ownBlock, Option.some.injEq] at hb
        subst hb
        exact grown_obj hg1 _ (by simp; omega) (fun e => by have := hbk2 _ e.symm; omega)
      have hr7 : Row w7 B (.slice (some ⟨g1, 0, none⟩) (j + 1) cap1) (j + 1) (lsF L) := (row_app2 hown1).congr fun q hq => by
        unfold upd
        by_cases e : q = j
        · rw [if_pos e, e, hls.out]
        · rw [if_neg e]
      have hlw1 := grown_le hg1
      simp at hlw1
      clear hown1 hg1 hat1 hrow6
      go_wp2_with (fail)
      go_roundw
      case rel => exact ⟨j + 1, by omega, by go_num, hr7, hp7, hn7, by omega⟩
      case measure => simp [intOf]; omega
    · obtain rfl : n = j := by omega
      obtain ⟨a9, c9, rfl, _⟩ := hrow.reads
      have hbk2 := hrow.block
      go_wp2_with (fail)
      go_ret3
      refine ⟨_, _, by rw [hC.out]; rfl, ?_, ?_, hnw, fun b hb => ?_⟩
      · rw [hN.out]; unfold srtF srtO; rw [hO.out]; exact hprow
      · rw [hN.out]; unfold srtO; rw [hO.out]; exact hrow.lower (by omega)
      · intro e
        have h1 := hbk2 b e
        have e2 : g = b := by simpa [Value.ownBlock] using hb
        omega
end Go.Proofs.YtphjhegaplochaaGreatDoor
