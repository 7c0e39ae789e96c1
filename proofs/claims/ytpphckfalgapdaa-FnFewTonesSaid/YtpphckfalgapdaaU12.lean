/- Palettes put in order of brightness: slices.SortFunc at a palette of the call's own; no condition. -/
import Derived.Test.YtpphckfalgapdaaU11
import Derived.Test.YtpphckfalgapdaaU10
import Derived.Test.YtpphckfalgapdaaU6
import Derived.Test.YtpphckfalgapdaaCmp3
import Derived.Test.YtpphckfalgapdaaU2
set_option linter.unusedVariables false
namespace Go.Proofs.Ytpphckfalgapdaa
open Go.BigFrame
open Go.RowKit Go.Arr
open Go.Sort (grow flatK size_flatK get_flatK HoldsK PermIn SortedIn pdq)
theorem perm_map_ex {α β : Type} {g : α → β} {A B : List β} (h : A.Perm B) : ∀ M : List α, A = M.map g → ∃ L : List α, L.Perm M ∧ B = L.map g := by
  induction h with
  | nil => intro M h; exact ⟨M, List.Perm.refl _, h⟩
  | cons x _ ih =>
    intro M h
    cases M with
    | nil => simp at h
    | cons m M =>
      simp only [List.map_cons, List.cons.injEq] at h
      obtain ⟨L, h1, h2⟩ := ih M h.2
      exact ⟨m :: L, h1.cons m, by rw [List.map_cons, ← h2, ← h.1]⟩
  | swap x y l =>
    intro M h
    cases M with
    | nil => simp at h
    | cons a M =>
      cases M with
      | nil => simp at h
      | cons b M =>
        simp only [List.map_cons, List.cons.injEq] at h
        exact ⟨b :: a :: M, List.Perm.swap a b M, by rw [List.map_cons, List.map_cons, ← h.1, ← h.2.1, ← h.2.2]⟩
  | trans _ _ ih1 ih2 =>
    intro M h
    obtain ⟨L1, h1, h2⟩ := ih1 M h
    obtain ⟨L2, h3, h4⟩ := ih2 L1 h2
    exact ⟨L2, h3.trans h1, h4⟩
def tnA (n : Nat) (f : Nat → Int) : Array Tn := ((List.range n).map (tnF f)).toArray
theorem size_tnA (n : Nat) (f : Nat → Int) : (tnA n f).size = n := by simp [tnA]
theorem get_tnA {n : Nat} (f : Nat → Int) {j : Nat} (h : j < n) : (tnA n f)[j]! = tnF f j := by simp [tnA, h]
theorem get_encT {f : Nat → Int} (hf : ∀ i, 0 ≤ f i ∧ f i ≤ 255) (i r : Nat) (hr : r < 3) : (encT (tnF f i))[r]! = .int .u8 (f (i * 3 + r)) := by
  have : r = 0 ∨ r = 1 ∨ r = 2 := by omega
  unfold encT
  rw [tnF_0 hf, tnF_1 hf, tnF_2 hf]
  rcases this with rfl | rfl | rfl <;> rfl
section
variable {W : World} {base g cap n : Nat} {f : Nat → Int}
theorem PRow.held (h : PRow W base (.slice (some ⟨g, 0, none⟩) n cap) n f) (hf : ∀ i, 0 ≤ f i ∧ f i ≤ 255) : HoldsK encT 3 W g 0 (tnA n f) := by
  rcases h.shape with ⟨h1, _⟩ | ⟨g', cap', cur, h1, h2, h3, h4, h5, h6, h7, h8⟩
  · cases h1
  · simp only [Value.slice.injEq, Option.some.injEq, Addr.mk.injEq, and_true, true_and] at h1
    obtain ⟨rfl, rfl⟩ := h1
    intro j hj
    rw [size_flatK, size_tnA] at hj
    rw [get_flatK _ _ _ _ (by rw [size_tnA]; exact hj), get_tnA f (by omega), get_encT hf _ _ (by omega), show j / 3 * 3 + j % 3 = j by omega]
    have ho : W.heap[g]? = some (.cells cur 26 (0, 0)) := h4
    refine ⟨?_, by simp [World.frozen?, ho]⟩
    have := h8 j hj
    simp [World.cell?, ho, this]
theorem heap_sortedK {m : Nat} {os : Array Obj} {cur : Array Value} {e : TypeId} {fr : Nat × Nat} (d : Array Tn) (hb : W.heap[g]? = some (.cells cur e fr)) :
    (Go.Proofs.sortWorldK encT 3 W g 0 m d os).heap[g]? = some (.cells (Go.Sort.putCells id 0 (flatK encT 3 d) cur) e fr) := by
  have hg : g < W.heap.size := (Array.getElem?_eq_some_iff.1 hb).1
  unfold Go.Proofs.sortWorldK Go.Sort.putRowK
  rw [Go.Sort.heap_grow_old _ _ (by simpa using hg)]
  simp [Go.Sort.putRow, Go.Sort.mapBlock, Go.Sort.ahead, Array.getElem?_modify, hb, Go.Sort.onCells]
theorem grownBy_sortedK {m : Nat} {os : Array Obj} (d : Array Tn) : W.grownBy (Go.Proofs.sortWorldK encT 3 W g 0 m d os) (some g) := by
  unfold Go.Proofs.sortWorldK Go.Sort.putRowK
  refine ⟨rfl, rfl, rfl, by simp, fun k hk hne => ?_⟩
  rw [Go.Sort.heap_grow_old _ _ (by simpa using hk)]
  have : g ≠ k := fun e => hne (by rw [e])
  simp [Go.Sort.putRow, Go.Sort.mapBlock, Go.Sort.ahead, Array.getElem?_modify, this]
theorem PRow.sorted {m : Nat} {os : Array Obj} {d : Array Tn} {L : List Nat} (h : PRow W base (.slice (some ⟨g, 0, none⟩) n cap) n f) (hf : ∀ i, 0 ≤ f i ∧ f i ≤ 255) (hL : L.length = n) (hd : d.toList = L.map (tnF f)) : PRow (Go.Proofs.sortWorldK encT 3 W g 0 m d os) base (.slice (some ⟨g, 0, none⟩) n cap) n (subP f (lsF L)) := by
  rcases h.shape with ⟨h1, _⟩ | ⟨g', cap', cur, h1, h2, h3, h4, h5, h6, h7, h8⟩
  · cases h1
  · simp only [Value.slice.injEq, Option.some.injEq, Addr.mk.injEq, and_true, true_and] at h1
    obtain ⟨rfl, rfl⟩ := h1
    have hsz : d.size = n := by rw [← Array.length_toList, hd, List.length_map, hL]
    refine PRow.of (heap_sortedK d h4) h2 h5 h6 (by simp [Go.Sort.putCells, h7]) fun j hj => ?_
    have hc : j < cur.size := by omega
    have hv : (flatK encT 3 d)[j]! = .int .u8 (subP f (lsF L) j) := by
      rw [get_flatK _ _ _ _ (by rw [hsz]; exact hj)]
      have e1 : d[j / 3]! = tnF f (L.getD (j / 3) 0) := by
        have l1 : j / 3 < d.size := by omega
        have l2 : j / 3 < L.length := by omega
        rw [getElem!_pos d (j / 3) l1, ← Array.getElem_toList, List.getElem_of_eq hd, List.getElem_map, List.getD_eq_getElem?_getD, List.getElem?_eq_getElem l2]
        rfl
      rw [e1, get_encT hf _ _ (by omega)]
      unfold subP lsF
      rw [show (((L.getD (j / 3) 0 : Nat) : Int) + 1).toNat - 1 = L.getD (j / 3) 0 by omega]
    simp [Go.Sort.putCells, hc, hsz, hj]
    rw [getElem!_pos _ _ (by rw [size_flatK, hsz]; exact hj)] at hv
    exact hv
end
theorem cmpLays_any (W : World) (g n : Nat) : Go.Proofs.CmpLays Try.prog 53 #[] encT 3 cmpT g 0 n W := by
  intro m os dk _ x y
  exact byBright_gr x y _
set_option maxHeartbeats 4000000 in
set_option maxRecDepth 100000 in
theorem sortFunc_any {base g cap n : Nat} {f : Nat → Int} (hf : ∀ i, 0 ≤ f i ∧ f i ≤ 255) (hn : n ≤ 1048576) (W : World) (h : PRow W base (.slice (some ⟨g, 0, none⟩) n cap) n f) :
    Calls Try.prog 52 #[.slice (some ⟨g, 0, none⟩) n cap, .func (.func 53) #[] #[]] W fun e w' => e = .returned (.tuple #[]) ∧ ∃ L : List Nat, L.Perm (List.range n) ∧ (L.Pairwise fun i j => ¬ tl (tnF f j) (tnF f i)) ∧ PRow w' base (.slice (some ⟨g, 0, none⟩) n cap) n (subP f (lsF L)) ∧ W.grownBy w' (some g) := by
  have hb := h.block g rfl
  have eg : ∀ args w, (callFunc 53 args).run Try.prog w = .ok (.enter 53 args) w := Go.Proofs.enters_of Try.func53 (by decide) rfl
  have hH := h.held hf
  have hp := AnyQ.pdqsortCmpFunc_all Try.sortF 3 (fun w => Try.isAgg26 w) (fun w => Try.sizeOf26 w) encT cmpT 53 #[] swo_tl g 0 cap (tnA n f) W eg (cmpLays_any W g _) ⟨fun _ => rfl, fun x v hv => by simp [encT] at hv; rcases hv with rfl | rfl | rfl <;> rfl, hH, hb.2⟩ ((tnA n f).size + 1) 0 (tnA n f).size (Lib.bitLen (tnA n f).size) (tnA n f) W (by omega) rfl (Go.Proofs.SWK.start hH) (Nat.zero_le _) (Nat.le_refl _) (by rw [size_tnA]; omega) (Nat.lt_of_le_of_lt (Lib.bitLen_le _ 62 (by omega) (by rw [size_tnA]; omega)) (by omega)) (Or.inl rfl)
  rw [size_tnA] at hp
  have hl : Calls Try.prog 73 #[.int .u64 (n : Int)] W fun e w' => e = .returned (.int .i64 (Lib.bitLen n : Nat)) ∧ w' = W := by
    have h := Any.bits_Len (Go.Proofs.SlLaysF0.n15.bits Try.bitsF) (n : Int) W (by omega) (by omega)
    rwa [Int.toNat_natCast] at h
  have wr : IntKind.u64.wrap (n : Int) = n := by simp [IntKind.wrap, IntKind.bits, IntKind.signed]; omega
  have hS := Go.Sort.pdq_sorts (ltOf cmpT) swo_tl (tnA n f) 0 n (Lib.bitLen n) true true (Nat.zero_le _) (by rw [size_tnA]; exact Nat.le_refl _) (Or.inl rfl)
  generalize pdq (ltOf cmpT) (tnA n f) 0 n (Lib.bitLen n) true true = D at hp hS
  change Calls Try.prog 72 #[.slice (some ⟨g, 0, none⟩) n cap, .int .i64 0, .int .i64 n, .int .i64 (Lib.bitLen n : Nat), .func (.func 53) #[] #[]] W _ at hp
  have hS := hide hS
  have h := hide h
  clear hH hb
  go_enter Try.func52, Try.ntmps52
  go_wp2_with (first | (go_at_call 73; refine hl.mono ?_; rintro e w' ⟨rfl, rfl⟩) | (go_at_call 72; refine hp.mono ?_; rintro e w' ⟨rfl, m0, os, rfl⟩))
  go_end0
  obtain ⟨⟨hs1, _, hs2⟩, hs3⟩ := hS.out
  rw [size_tnA] at hs1
  have hs2 : D.toList.Perm ((List.range n).map (tnF f)) := by
    have e1 : D.extract 0 n = D := by rw [← hs1]; exact Array.extract_size
    have e2 : (tnA n f).extract 0 n = tnA n f := by
      have := Array.extract_size (xs := tnA n f)
      rwa [size_tnA] at this
    rw [e1, e2] at hs2
    exact hs2
  obtain ⟨L, hL1, hL2⟩ := perm_map_ex hs2.symm _ rfl
  have hLl : L.length = n := by rw [hL1.length_eq, List.length_range]
  refine ⟨rfl, L, hL1, pw_getD.2 fun i j hij hj => ?_, h.out.sorted hf hLl hL2, grownBy_sortedK D⟩
  have h3 := hs3 i j (Nat.zero_le _) hij (by omega)
  have e1 : ∀ i, i < n → D[i]! = tnF f (L.getD i 0) := fun i hi => by
    have l1 : i < D.size := by omega
    have l2 : i < L.length := by omega
    rw [getElem!_pos D i l1, ← Array.getElem_toList, List.getElem_of_eq hL2, List.getElem_map, List.getD_eq_getElem?_getD, List.getElem?_eq_getElem l2]
    rfl
  rw [e1 i (by omega), e1 j (by omega)] at h3
  unfold ltOf at h3
  rw [decide_eq_false_iff_not, cmpT_neg] at h3
  exact h3
end Go.Proofs.Ytpphckfalgapdaa
/- Palettes put in order of brightness: what the program returns; no condition. -/
set_option linter.unusedVariables false
namespace Go.Proofs.Ytpphckfalgapdaa
open Go.BigFrame
open Go.RowKit Go.Arr
theorem PRow.els {W : World} {base g cap n : Nat} {f : Nat → Int} (h : PRow W base (.slice (some ⟨g, 0, none⟩) n cap) n f) : ∃ cur, obj W g = some (.cells cur 26) ∧ base ≤ g ∧ n ≤ cap ∧ cap ≤ maxLen ∧ ∀ j, j < n → cur.extract (j * 3) (j * 3 + 3) = #[.int .u8 (f (j * 3)), .int .u8 (f (j * 3 + 1)), .int .u8 (f (j * 3 + 2))] ∧ j * 3 + 3 ≤ cur.size := by
  rcases h.shape with ⟨h1, _⟩ | ⟨g', cap', cur, h1, h2, h3, h4, h5, h6, h7, h8⟩
  · cases h1
  · simp only [Value.slice.injEq, Option.some.injEq, Addr.mk.injEq, and_true, true_and] at h1
    obtain ⟨rfl, rfl⟩ := h1
    exact ⟨cur, h4, h2, h5, h6, fun j hj => ⟨ext3 (h8 _ (by omega)) (h8 _ (by omega)) (h8 _ (by omega)) rfl, by omega⟩⟩
theorem ord_of {n : Nat} {f : Nat → Int} (hf : ∀ i, 0 ≤ f i ∧ f i ≤ 255) (hok : okPal n f = true) {L : List Nat} (h1 : L.Perm (List.range n)) (h2 : L.Pairwise fun i j => ¬ tl (tnF f j) (tnF f i)) : ordP n f L := by
  refine ⟨h1, pw_getD.2 fun i j hij hj => ?_⟩
  have hl : L.length = n := by rw [h1.length_eq, List.length_range]
  have hnt := pw_getD.1 h2 i j hij hj
  have hnd : L.Nodup := h1.nodup_iff.2 List.nodup_range
  have hlt : ∀ i, i < n → L.getD i 0 < n := fun i hi => by
    have hm : L.getD i 0 ∈ L := by
      rw [List.getD_eq_getElem?_getD, List.getElem?_eq_getElem (by omega)]
      exact List.getElem_mem _
    exact List.mem_range.1 (h1.mem_iff.1 hm)
  have hne : L.getD i 0 ≠ L.getD j 0 := by
    have hp : L.Pairwise (· ≠ ·) := hnd
    exact pw_getD.1 hp i j hij hj
  by_cases h3 : tl (tnF f (L.getD i 0)) (tnF f (L.getD j 0))
  · exact h3
  · exfalso
    have he := tl_tri h3 hnt
    rcases Nat.lt_or_gt_of_ne hne with h | h
    · exact ok_ne hf hok (hlt j (by omega)) h he.symm
    · exact ok_ne hf hok (hlt i (by omega)) h he
theorem idx_at {n : Nat} {f : Nat → Int} (hf : ∀ i, 0 ≤ f i ∧ f i ≤ 255) (hok : okPal n f = true) {l : Nat} (hl : l < n) {r : Int} (h : idxOk n f (f (l * 3)) (f (l * 3 + 1)) (f (l * 3 + 2)) r) : r = l := by
  rcases h with ⟨_, h⟩ | ⟨i, hi, rfl, h, _⟩
  · have h1 := h l hl
    have h2 : eq3 (f (l * 3)) (f (l * 3 + 1)) (f (l * 3 + 2)) (f (l * 3)) (f (l * 3 + 1)) (f (l * 3 + 2)) = true := eq3_t.2 ⟨rfl, rfl, rfl⟩
    rw [h2] at h1
    simp at h1
  · have h1 := eq3_t.1 h
    have he : tnF f l = tnF f i := by unfold tnF; rw [h1.1, h1.2.1, h1.2.2]
    by_cases e : l = i
    · rw [e]
    · exfalso
      rcases Nat.lt_or_gt_of_ne e with h3 | h3
      · exact ok_ne hf hok hi h3 he.symm
      · exact ok_ne hf hok hl h3 he
end Go.Proofs.Ytpphckfalgapdaa
/- slices.Compact at a palette of the call's own: the walk; no condition. -/
set_option linter.unusedVariables false
namespace Go.Proofs.Ytpphckfalgapdaa
open Go.BigFrame
open Go.RowKit Go.Arr
theorem kpP_k (f : Nat → Int) {k : Nat} (h : 1 ≤ k) : kpP f k = !(eq3 (f (k * 3)) (f (k * 3 + 1)) (f (k * 3 + 2)) (f ((k - 1) * 3)) (f ((k - 1) * 3 + 1)) (f ((k - 1) * 3 + 2))) := by
  unfold kpP
  rw [show (k == 0) = false by simp; omega, Bool.false_or]
set_option maxHeartbeats 4000000 in
set_option maxRecDepth 100000 in
theorem compact_any {base g cap n : Nat} {f : Nat → Int} (hn : n ≤ 1048576) (W : World) (h : PRow W base (.slice (some ⟨g, 0, none⟩) n cap) n f) :
    Calls Try.prog 54 #[.slice (some ⟨g, 0, none⟩) n cap] W fun e w' => ∃ k : Nat, k = selN (kpP f) n ∧ e = .returned (.slice (some ⟨g, 0, none⟩) k cap) ∧ PRow w' base (.slice (some ⟨g, 0, none⟩) k cap) k (kpF f n) ∧ W.grownBy w' (some g) := by
  rcases h.shape with ⟨h1, _⟩ | ⟨g', cap', cur, h1, h2, h3, h4, h5, h6, h7, h8⟩
  · cases h1
  simp only [Value.slice.injEq, Option.some.injEq, Addr.mk.injEq, and_true, true_and] at h1
  obtain ⟨rfl, rfl⟩ := h1
  have fin : ∀ (w' : World) (cu : Array Value) (k : Nat), k = selN (kpP f) n → obj w' g = some (.cells cu 26) → cu.size = cap * 3 → (∀ j, j < k * 3 → cu[j]? = some (.int .u8 (cpF f n j))) → PRow w' base (.slice (some ⟨g, 0, none⟩) k cap) k (kpF f n) := fun w' cu k hk ho hs hc => by
    have hle := selN_le (p := kpP f) n
    refine PRow.of ho h2 (by omega) h6 hs fun j hj => ?_
    rw [hc j hj]
    unfold cpF
    rw [if_pos (by rw [← hk]; exact hj)]
  have h8 := hide h8
  clear h
  have els : ∀ (cu : Array Value) (F : Nat → Int), cu.size = cap * 3 → (∀ j, j < n * 3 → cu[j]? = some (.int .u8 (F j))) → ∀ i, i < n → cu.extract (i * 3) (i * 3 + 3) = #[.int .u8 (F (i * 3)), .int .u8 (F (i * 3 + 1)), .int .u8 (F (i * 3 + 2))] ∧ i * 3 + 3 ≤ cu.size := fun cu F hs hc i hi => ⟨ext3 (hc _ (by omega)) (hc _ (by omega)) (hc _ (by omega)) rfl, by omega⟩
  have fin := hide fin
  have els := hide els
  replace h7 := hide h7
  by_cases h2n : n < 2
  · have hid : ∀ j, j < n → kpP f j = true := fun j hj => by
      obtain rfl : j = 0 := by omega
      rfl
    have hk := sel_id hid
    have hP := hide (fin.out _ _ _ hk.1.symm h4 h7.out (fun j hj => by rw [cpF_id hid]; exact h8.out j hj))
    have hk1 := hide hk.1
    clear hk hid
    go_enter Try.func54, Try.ntmps54
    go_wp2_with (fail)
    go_ret
    exact ⟨n, hk1.out.symm, rfl, hP.out, grown_refl _ _⟩
  go_enter Try.func54, Try.ntmps54
  go_wp2_with (fail)
  go_loopw [3] (fun i wr => ∃ k : Nat, 1 ≤ k ∧ k ≤ n ∧ i = .int .i64 k ∧ Hid (∀ j, j < k → kpP f j = true) ∧ New W wr) (fun i _ => n - (intOf i).toNat)
  case atStart => exact ⟨1, by omega, by omega, rfl, fun j hj => by
    obtain rfl : j = 0 := by omega
    rfl, New.refl W⟩
  case round =>
    obtain ⟨k, hk1, hk, rfl, hall, hnw⟩ := hrel
    have p1 := (hnw.objs _ h3).trans h4
    have l1 := obj_lt p1
    by_cases hlt : k < n
    · obtain ⟨x1, lx1⟩ := els.out _ _ h7.out h8.out k hlt
      obtain ⟨x2, lx2⟩ := els.out _ _ h7.out h8.out (k - 1) (by omega)
      cases he : eq3 (f (k * 3)) (f (k * 3 + 1)) (f (k * 3 + 2)) (f ((k - 1) * 3)) (f ((k - 1) * 3 + 1)) (f ((k - 1) * 3 + 2))
      · have hp : kpP f k = true := by rw [kpP_k f hk1, he]; rfl
        have hall' := hide (all_succ hall.out hp)
        go_wp2_with (fail)
        go_quiet (fail)
        go_wp2_with (fail)
        go_roundw
        case rel => exact ⟨k + 1, by omega, by omega, by go_num, hall', hnw.drewN _⟩
        case measure => simp [intOf]; omega
      · have hp : kpP f k = false := by rw [kpP_k f hk1, he]; rfl
        go_wp2_with (fail)
        go_quiet (fail)
        go_wp2_with (fail)
        have hs0 := sel_id hall.out
        have hsk : selN (kpP f) (k + 1) = k := by rw [selN_f hp]; exact hs0.1
        have hcp0 := hide (fun j (_ : j < n * 3) => show cur[j]? = some (.int .u8 (cpF f (k + 1) j)) by rw [cpF_f hp, cpF_id hall.out]; exact h8.out j (by assumption))
        have p1' := hide p1
        have hG : W.grownBy wr (some g) := new_grown hnw
        clear hs0 hall x1 x2 lx1 lx2 he p1 h4 hnw
        go_loopw [3, 5] (fun s3 s5 wq => ∃ (k2 : Nat) (cu : Array Value), s3 = .int .i64 (selN (kpP f) (k + k2) : Nat) ∧ s5 = .int .i64 k2 ∧ 1 ≤ k2 ∧ k + k2 ≤ n ∧ selN (kpP f) (k + k2) < k + k2 ∧ Hid (obj wq g = some (.cells cu 26)) ∧ Hid (cu.size = cap * 3) ∧ Hid (∀ j, j < n * 3 → cu[j]? = some (.int .u8 (cpF f (k + k2) j))) ∧ W.grownBy wq (some g)) (fun _ s5 _ => n - (intOf s5).toNat)
        case atStart => exact ⟨1, cur, by rw [hsk], rfl, by omega, by omega, by rw [hsk]; omega, p1'.out, h7, hcp0.out, grown_new2 hG ((New.refl _).drewN _)⟩
        case round =>
          obtain ⟨k2, cu, rfl, rfl, hk2, hle, hlk, hob, hsz, hcu, hg2⟩ := hrel
          have p2 := hob.out
          have l2 := obj_lt p2
          by_cases hlt2 : k + k2 < n
          · obtain ⟨x1, lx1⟩ := els.out _ _ hsz.out hcu.out (k + k2) hlt2
            obtain ⟨x2, lx2⟩ := els.out _ _ hsz.out hcu.out (k + k2 - 1) (by omega)
            obtain ⟨x3, lx3⟩ := els.out _ _ hsz.out hcu.out (selN (kpP f) (k + k2)) (by omega)
            have hhi : ∀ j, (k + k2 - 1) * 3 ≤ j → cpF f (k + k2) j = f j := fun j hj => by unfold cpF; rw [if_neg (by omega)]
            rw [hhi _ (by omega), hhi _ (by omega), hhi _ (by omega), show (k + k2) * 3 = k * 3 + k2 * 3 by omega] at x1
            rw [hhi _ (by omega), hhi _ (by omega), hhi _ (by omega), show (k + k2 - 1) * 3 = k * 3 + (k2 - 1) * 3 by omega] at x2
            rw [show (k + k2) * 3 = k * 3 + k2 * 3 by omega] at lx1
            rw [show (k + k2 - 1) * 3 = k * 3 + (k2 - 1) * 3 by omega] at lx2
            cases he : eq3 (f (k * 3 + k2 * 3)) (f (k * 3 + k2 * 3 + 1)) (f (k * 3 + k2 * 3 + 2)) (f (k * 3 + (k2 - 1) * 3)) (f (k * 3 + (k2 - 1) * 3 + 1)) (f (k * 3 + (k2 - 1) * 3 + 2))
            · have hpm : kpP f (k + k2) = true := by rw [kpP_k f (by omega), show (k + k2) * 3 = k * 3 + k2 * 3 by omega, show (k + k2 - 1) * 3 = k * 3 + (k2 - 1) * 3 by omega, he]; rfl
              have hsn := hide (selN_t hpm)
              have hnew := hide (fun j => cpF_t (f := f) hpm j)
              clear hpm x3 hhi
              generalize selN (kpP f) (k + k2) = kk at hlk lx3 hsn hnew ⊢
              go_wp2_with (fail)
              go_quiet (fail)
              go_wp2_with (fail)
              go_roundw
              case rel =>
                have hsz3 : ∀ d : Array Value, d.size = 3 → (seg cu (kk * 3) d).size = cu.size := fun d hd => by
                  unfold seg
                  simp [hd]
                  omega
                refine ⟨k2 + 1, seg cu (kk * 3) #[.int .u8 (f (k * 3 + k2 * 3)), .int .u8 (f (k * 3 + k2 * 3 + 1)), .int .u8 (f (k * 3 + k2 * 3 + 2))], by rw [← Nat.add_assoc, hsn.out]; go_num, by go_num, by omega, by omega, by rw [← Nat.add_assoc, hsn.out]; omega, ?_, ?_, ?_, grown_new2 (setRow_grown hg2 _) ((New.refl _).drewN _)⟩
                · show _ = _
                  go_simp
                · show _ = _
                  rw [hsz3 _ rfl, hsz.out]
                · intro j hj
                  rw [← Nat.add_assoc, hnew.out, get_seg _ _ _ _ (by simp; omega)]
                  simp only [show (#[Value.int .u8 (f (k * 3 + k2 * 3)), .int .u8 (f (k * 3 + k2 * 3 + 1)), .int .u8 (f (k * 3 + k2 * 3 + 2))] : Array Value).size = 3 from rfl]
                  by_cases e : kk * 3 ≤ j ∧ j < kk * 3 + 3
                  · rw [if_pos e, if_pos e]
                    have : j - kk * 3 = 0 ∨ j - kk * 3 = 1 ∨ j - kk * 3 = 2 := by omega
                    rw [show (k + k2) * 3 = k * 3 + k2 * 3 by omega]
                    rcases this with h | h | h <;> rw [h] <;> rfl
                  · rw [if_neg e, if_neg e]; exact hcu.out j hj
              case measure => simp [intOf]; omega
            · have hpm : kpP f (k + k2) = false := by rw [kpP_k f (by omega), show (k + k2) * 3 = k * 3 + k2 * 3 by omega, show (k + k2 - 1) * 3 = k * 3 + (k2 - 1) * 3 by omega, he]; rfl
              have hsn := hide (selN_f hpm)
              have hcu' := hide (fun j (h : j < n * 3) => show cu[j]? = some (.int .u8 (cpF f (k + k2 + 1) j)) by rw [cpF_f hpm]; exact hcu.out j h)
              clear hpm x3 hhi
              go_wp2_with (fail)
              go_quiet (fail)
              go_wp2_with (fail)
              go_roundw
              case rel => exact ⟨k2 + 1, cu, by rw [← Nat.add_assoc, hsn.out], by go_num, by omega, by omega, by rw [← Nat.add_assoc, hsn.out]; omega, p2, hsz, hcu'.out, grown_new2 hg2 ((New.refl _).drewN _)⟩
              case measure => simp [intOf]; omega
          · obtain rfl : n = k + k2 := by omega
            have hsz2 := hsz.out
            have hcl : ∀ ty, (Builtin.clear_ #[32] ty #[.slice (some ⟨g, selN (kpP f) (k + k2) * 3, none⟩) (k + k2 - selN (kpP f) (k + k2)) (cap - selN (kpP f) (k + k2))]).run Try.prog wr = .ok (.tuple #[]) _ := fun ty => run_clear3 wr ty g _ _ _ (by omega) cu _ p2 (by omega)
            obtain ⟨cu2, ho2, hs2, hc2⟩ := setCells_keep (List.replicate ((k + k2 - selN (kpP f) (k + k2)) * 3) (.int .u8 0)) wr g (selN (kpP f) (k + k2) * 3) cu _ p2
            have hP := hide (fin.out _ cu2 _ rfl ho2 (by rw [hs2, hsz2]) (fun j hj => by rw [hc2 j hj]; exact hcu.out j (by omega)))
            have hgr := setCells_grown (List.replicate ((k + k2 - selN (kpP f) (k + k2)) * 3) (.int .u8 0)) W wr g (selN (kpP f) (k + k2) * 3) hg2
            clear hsz2
            go_wp2_with (fail)
            go_ret
            exact ⟨_, rfl, rfl, hP.out, hgr⟩
    · obtain rfl : n = k := by omega
      have hks := sel_id hall.out
      have hP := hide (fin.out _ _ _ hks.1.symm p1 h7.out (fun j hj => by rw [cpF_id hall.out]; exact h8.out j hj))
      have hk2 := hide hks.1
      clear hks
      go_wp2_with (fail)
      go_ret
      exact ⟨_, hk2.out.symm, rfl, hP.out, new_grown hnw⟩
end Go.Proofs.Ytpphckfalgapdaa
/- The tones of an image, in order of brightness, each once: the plain law; no condition. -/
set_option linter.unusedVariables false
namespace Go.Proofs.Ytpphckfalgapdaa
open Go.BigFrame
open Go.RowKit Go.Arr
theorem selG_inc2 {p : Nat → Bool} (n : Nat) : ∀ i j, i < j → j < selN p n → selG p n i < selG p n j := by
  induction n with
  | zero => intro i j _ h; simp [selN] at h
  | succ n ih =>
    intro i j hij hj
    cases hp : p n
    · rw [selN_f hp] at hj
      rw [selG_f hp]
      exact ih i j hij hj
    · rw [selN_t hp] at hj
      rw [selG_t hp]
      dsimp only
      by_cases e : j = selN p n
      · rw [if_pos e, if_neg (by omega)]
        exact (selG_lt (p := p) n i (by omega)).1
      · rw [if_neg e, if_neg (by omega)]
        exact ih i j hij (by omega)
theorem selG_onto2 {p : Nat → Bool} {n k : Nat} (hk : k < n) (hp : p k = true) : ∃ j, j < selN p n ∧ selG p n j = k := by
  refine ⟨selN p k, ?_, selG_at hk hp⟩
  have h := selN_mono (p := p) (k := k + 1) (m := n - (k + 1))
  rw [selN_t hp, show k + 1 + (n - (k + 1)) = n by omega] at h
  omega
def tn0 : Tn := (0, 0, 0)
def cmp3 (t : Tn) (r : Nat) : Int := if r = 0 then n0 t else if r = 1 then n1 t else n2 t
/-- a list of tones, as a row -/
def flF (M : List Tn) (j : Nat) : Int := cmp3 (M.getD (j / 3) tn0) (j % 3)
theorem flF_0 (M : List Tn) (i : Nat) : flF M (i * 3) = n0 (M.getD i tn0) := by unfold flF cmp3; rw [show i * 3 / 3 = i by omega, show i * 3 % 3 = 0 by omega]; rfl
theorem flF_1 (M : List Tn) (i : Nat) : flF M (i * 3 + 1) = n1 (M.getD i tn0) := by unfold flF cmp3; rw [show (i * 3 + 1) / 3 = i by omega, show (i * 3 + 1) % 3 = 1 by omega]; rfl
theorem flF_2 (M : List Tn) (i : Nat) : flF M (i * 3 + 2) = n2 (M.getD i tn0) := by unfold flF cmp3; rw [show (i * 3 + 2) / 3 = i by omega, show (i * 3 + 2) % 3 = 2 by omega]; rfl
theorem flF_b (M : List Tn) (j : Nat) : 0 ≤ flF M j ∧ flF M j ≤ 255 := by
  have := n_b (M.getD (j / 3) tn0)
  unfold flF cmp3
  split
  · exact this.1
  · split
    · exact this.2.1
    · exact this.2.2
/-- the tones that p's numbers have, in order -/
def tsP (p : Nat → Bool) (T : Nat → Tn) (k : Nat) (M : List Tn) : Prop := M.Pairwise tl ∧ ∀ t, t ∈ M ↔ ∃ i, i < k ∧ p i = true ∧ T i = t
section
variable {p : Nat → Bool} {T : Nat → Tn} {k : Nat} {M : List Tn}
theorem tsP_nodup (h : M.Pairwise tl) : M.Nodup := by
  have : M.Pairwise (· ≠ ·) := h.imp (by intro a b h e; subst e; exact tl_irr _ h)
  exact this
theorem tsP_one {M2 : List Tn} (h : tsP p T k M) (h2 : tsP p T k M2) : M = M2 := by
  refine List.Perm.eq_of_pairwise (le := tl) (fun a b _ _ h1 h2 => absurd (tl_trans h1 h2) (tl_irr _)) h.1 h2.1 ?_
  rw [List.perm_ext_iff_of_nodup (tsP_nodup h.1) (tsP_nodup h2.1)]
  intro t
  rw [h.2, h2.2]
theorem tsP_f (hp : p k = false) (h : tsP p T k M) : tsP p T (k + 1) M := by
  refine ⟨h.1, fun t => ?_⟩
  rw [h.2]
  constructor
  · rintro ⟨i, h1, h2⟩; exact ⟨i, by omega, h2⟩
  · rintro ⟨i, h1, h2, h3⟩
    by_cases e : i = k
    · subst e; rw [hp] at h2; cases h2
    · exact ⟨i, by omega, h2, h3⟩
theorem tsP_old (hp : p k = true) (hm : T k ∈ M) (h : tsP p T k M) : tsP p T (k + 1) M := by
  refine ⟨h.1, fun t => ?_⟩
  constructor
  · intro ht
    obtain ⟨i, h1, h2⟩ := (h.2 t).1 ht
    exact ⟨i, by omega, h2⟩
  · rintro ⟨i, h1, h2, h3⟩
    by_cases e : i = k
    · subst e; rw [← h3]; exact hm
    · exact (h.2 t).2 ⟨i, by omega, h2, h3⟩
def insT (M : List Tn) (x : Tn) (a : Nat) : List Tn := M.take a ++ x :: M.drop a
theorem len_insT {x : Tn} {a : Nat} (ha : a ≤ M.length) : (insT M x a).length = M.length + 1 := by
  unfold insT
  simp
  omega
theorem mem_insT {x t : Tn} {a : Nat} : t ∈ insT M x a ↔ t = x ∨ t ∈ M := by
  unfold insT
  have : M.take a ++ M.drop a = M := List.take_append_drop _ _
  constructor
  · intro h
    rw [List.mem_append, List.mem_cons] at h
    rcases h with h | h | h
    · exact Or.inr (List.mem_of_mem_take h)
    · exact Or.inl h
    · exact Or.inr (List.mem_of_mem_drop h)
  · intro h
    rw [List.mem_append, List.mem_cons]
    rcases h with h | h
    · exact Or.inr (Or.inl h)
    · rw [← this, List.mem_append] at h
      rcases h with h | h
      · exact Or.inl h
      · exact Or.inr (Or.inr h)
theorem getD_insT {x : Tn} {a : Nat} (ha : a ≤ M.length) (j : Nat) : (insT M x a).getD j tn0 = if j < a then M.getD j tn0 else if j = a then x else M.getD (j - 1) tn0 := by
  unfold insT
  simp only [List.getD_eq_getElem?_getD, List.getElem?_append, List.length_take, Nat.min_eq_left ha]
  by_cases h1 : j < a
  · rw [if_pos h1, if_pos h1, List.getElem?_take_of_lt h1]
  · rw [if_neg h1, if_neg h1]
    by_cases h2 : j = a
    · subst h2; simp
    · rw [if_neg h2]
      obtain ⟨d, rfl⟩ : ∃ d, j = a + 1 + d := ⟨j - (a + 1), by omega⟩
      rw [show a + 1 + d - a = d + 1 by omega, List.getElem?_cons_succ, List.getElem?_drop, show a + 1 + d - 1 = a + d by omega]
theorem pw_getT {R : Tn → Tn → Prop} {M : List Tn} : M.Pairwise R ↔ ∀ i j, i < j → j < M.length → R (M.getD i tn0) (M.getD j tn0) := by
  rw [List.pairwise_iff_getElem]
  constructor
  · intro h i j h1 h2
    have := h i j (by omega) h2 h1
    rwa [List.getD_eq_getElem?_getD, List.getD_eq_getElem?_getD, List.getElem?_eq_getElem h2, List.getElem?_eq_getElem (show i < M.length by omega)]
  · intro h i j h1 h2 h3
    have := h i j h3 h2
    rwa [List.getD_eq_getElem?_getD, List.getD_eq_getElem?_getD, List.getElem?_eq_getElem h2, List.getElem?_eq_getElem h1] at this
theorem getT_mem {j : Nat} (h : j < M.length) : M.getD j tn0 ∈ M := by
  rw [List.getD_eq_getElem?_getD, List.getElem?_eq_getElem h]
  exact List.getElem_mem _
theorem mem_getT {t : Tn} (h : t ∈ M) : ∃ j, j < M.length ∧ M.getD j tn0 = t := by
  obtain ⟨j, hj, e⟩ := List.mem_iff_getElem.1 h
  exact ⟨j, hj, by rw [List.getD_eq_getElem?_getD, List.getElem?_eq_getElem hj]; exact e⟩
theorem tsP_ins {a : Nat} (hp : p k = true) (ha : a ≤ M.length) (hlo : ∀ j, j < a → tl (M.getD j tn0) (T k)) (hhi : a = M.length ∨ tl (T k) (M.getD a tn0)) (h : tsP p T k M) : tsP p T (k + 1) (insT M (T k) a) := by
  have hw := pw_getT.1 h.1
  have hhi' : ∀ q, a ≤ q → q < M.length → tl (T k) (M.getD q tn0) := fun q h1 h2 => by
    rcases hhi with h0 | h0
    · omega
    · by_cases e : q = a
      · subst e; exact h0
      · exact tl_trans h0 (hw a q (by omega) h2)
  refine ⟨pw_getT.2 fun i j hij hj => ?_, fun t => ?_⟩
  · rw [len_insT ha] at hj
    rw [getD_insT ha, getD_insT ha]
    by_cases h1 : j < a
    · rw [if_pos h1, if_pos (by omega)]; exact hw i j hij (by omega)
    · rw [if_neg h1]
      by_cases h2 : j = a
      · rw [if_pos h2, if_pos (by omega)]; exact hlo i (by omega)
      · rw [if_neg h2]
        by_cases h3 : i < a
        · rw [if_pos h3]; exact hw i (j - 1) (by omega) (by omega)
        · rw [if_neg h3]
          by_cases h4 : i = a
          · rw [if_pos h4]; exact hhi' (j - 1) (by omega) (by omega)
          · rw [if_neg h4]; exact hw (i - 1) (j - 1) (by omega) (by omega)
  · rw [mem_insT, h.2]
    constructor
    · rintro (rfl | ⟨i, h1, h2⟩)
      · exact ⟨k, by omega, hp, rfl⟩
      · exact ⟨i, by omega, h2⟩
    · rintro ⟨i, h1, h2, h3⟩
      by_cases e : i = k
      · subst e; exact Or.inl h3.symm
      · exact Or.inr ⟨i, by omega, h2, h3⟩
theorem flF_ins {x : Tn} {a : Nat} (ha : a ≤ M.length) (j : Nat) : flF (insT M x a) j = if j < a * 3 then flF M j else if j < a * 3 + 3 then cmp3 x (j - a * 3) else flF M (j - 3) := by
  unfold flF
  rw [getD_insT ha]
  by_cases h1 : j < a * 3
  · rw [if_pos h1, if_pos (by omega)]
  · rw [if_neg h1, if_neg (by omega)]
    by_cases h2 : j < a * 3 + 3
    · rw [if_pos h2, if_pos (by omega), show j - a * 3 = j % 3 by omega]
    · rw [if_neg h2, if_neg (by omega), show (j - 3) / 3 = j / 3 - 1 by omega, show (j - 3) % 3 = j % 3 by omega]
theorem tsP_0 : tsP p T 0 [] := ⟨List.Pairwise.nil, fun t => ⟨fun h => (by cases h), fun ⟨i, h, _⟩ => (by omega)⟩⟩
theorem tsP_len (h : tsP p T k M) : M.length ≤ k := by
  have h1 : (M.length) ≤ ((List.range k).map T).length := by
    refine List.Nodup.length_le_of_subset (tsP_nodup h.1) fun t ht => ?_
    obtain ⟨i, hi, _, e⟩ := (h.2 t).1 ht
    exact List.mem_map.2 ⟨i, by simpa using hi, e⟩
  simpa using h1
end
/-- the codes and the results -/
noncomputable def tinL (a b : Int) (fm : Nat → Int) : List Tn := Classical.epsilon (tsP (cellN a b) (tnF fm) 144)
theorem tinL_eq {a b : Int} {fm : Nat → Int} {M : List Tn} (h : tsP (cellN a b) (tnF fm) 144 M) : tinL a b fm = M := tsP_one (Classical.epsilon_spec ⟨M, h⟩) h
noncomputable def tinC (a b : Int) (fm : Nat → Int) : Int := if okImg a b fm = false then 1 else if 15 < (tinL a b fm).length then 3 else 0
noncomputable def tinN (a b : Int) (fm : Nat → Int) : Nat := if tinC a b fm = 0 then (tinL a b fm).length else 0
noncomputable def tinF (a b : Int) (fm : Nat → Int) : Nat → Int := flF (tinL a b fm)
end Go.Proofs.Ytpphckfalgapdaa
/- The tones of an image: sorted and made single, they are the list; no condition. -/
set_option linter.unusedVariables false
namespace Go.Proofs.Ytpphckfalgapdaa
open Go.BigFrame
open Go.RowKit Go.Arr
/-- the cells' tones, one after the other -/
def ctF (a b : Int) (fm : Nat → Int) : Nat → Int := fun j => fm (selG (cellN a b) 144 (j / 3) * 3 + j % 3)
theorem tnF_ct (a b : Int) (fm : Nat → Int) (q : Nat) : tnF (ctF a b fm) q = tnF fm (selG (cellN a b) 144 q) := by
  unfold tnF ctF
  rw [show q * 3 / 3 = q by omega, show (q * 3 + 1) / 3 = q by omega, show (q * 3 + 2) / 3 = q by omega, show q * 3 % 3 = 0 by omega, show (q * 3 + 1) % 3 = 1 by omega, show (q * 3 + 2) % 3 = 2 by omega, Nat.add_zero]
theorem tnF_sub (f : Nat → Int) (L : List Nat) (i : Nat) : tnF (subP f (lsF L)) i = tnF f (L.getD i 0) := by
  unfold tnF
  rw [subL_0, subL_1, subL_2]
theorem kpP_ne {f : Nat → Int} (hf : ∀ i, 0 ≤ f i ∧ f i ≤ 255) {k : Nat} (hk : 1 ≤ k) : kpP f k = true ↔ tnF f k ≠ tnF f (k - 1) := by
  rw [kpP_k f hk, Bool.not_eq_true', ← Bool.not_eq_true, eq3_t]
  constructor
  · intro h e
    apply h
    rw [← tnF_0 hf, ← tnF_1 hf, ← tnF_2 hf, ← tnF_0 hf, ← tnF_1 hf, ← tnF_2 hf, e]
    exact ⟨rfl, rfl, rfl⟩
  · intro h e
    apply h
    unfold tnF
    rw [e.1, e.2.1, e.2.2]
theorem tin_bridge {a b : Int} {fm : Nat → Int} (hfm : ∀ i, 0 ≤ fm i ∧ fm i ≤ 255) {N : Nat} (hN : N = selN (cellN a b) 144) {L : List Nat} (h1 : L.Perm (List.range N)) (h2 : L.Pairwise fun i j => ¬ tl (tnF (ctF a b fm) j) (tnF (ctF a b fm) i)) :
    (tinL a b fm).length = selN (kpP (subP (ctF a b fm) (lsF L))) N ∧ ∀ j, j < selN (kpP (subP (ctF a b fm) (lsF L))) N * 3 → kpF (subP (ctF a b fm) (lsF L)) N j = flF (tinL a b fm) j := by
  obtain ⟨f, hf⟩ : ∃ f, f = subP (ctF a b fm) (lsF L) := ⟨_, rfl⟩
  rw [← hf]
  have hb : ∀ i, 0 ≤ f i ∧ f i ≤ 255 := fun i => by rw [hf]; exact hfm _
  have hl : L.length = N := by rw [h1.length_eq, List.length_range]
  have hD : ∀ i, tnF f i = tnF fm (selG (cellN a b) 144 (L.getD i 0)) := fun i => by rw [hf, tnF_sub, tnF_ct]
  have hle : ∀ i j, i < j → j < N → ¬ tl (tnF f j) (tnF f i) := fun i j hij hj => by
    have := pw_getD.1 h2 i j hij (by omega)
    rwa [tnF_ct, tnF_ct, ← hD, ← hD] at this
  have hlt : ∀ i j, i < j → j < N → kpP f j = true → tl (tnF f i) (tnF f j) := fun i j hij hj hk => by
    have hne := (kpP_ne hb (by omega)).1 hk
    have e1 : tl (tnF f (j - 1)) (tnF f j) := by
      by_cases h : tl (tnF f (j - 1)) (tnF f j)
      · exact h
      · exact absurd (tl_tri (hle (j - 1) j (by omega) hj) h) hne
    by_cases e : i = j - 1
    · rw [e]; exact e1
    · have h3 := hle i (j - 1) (by omega) (by omega)
      by_cases h4 : tl (tnF f i) (tnF f (j - 1))
      · exact tl_trans h4 e1
      · rw [tl_tri h4 h3]; exact e1
  have hdn : ∀ m, m < N → ∃ q, q ≤ m ∧ kpP f q = true ∧ tnF f q = tnF f m := by
    intro m
    induction m with
    | zero => intro _; exact ⟨0, Nat.le_refl _, rfl, rfl⟩
    | succ m ih =>
      intro hm
      cases hk : kpP f (m + 1)
      · have e : tnF f (m + 1) = tnF f m := by
          by_cases h : tnF f (m + 1) = tnF f m
          · exact h
          · have := (kpP_ne hb (show 1 ≤ m + 1 by omega)).2 h
            rw [hk] at this
            cases this
        obtain ⟨q, h5, h6, h7⟩ := ih (by omega)
        exact ⟨q, by omega, h6, by rw [h7, e]⟩
      · exact ⟨m + 1, Nat.le_refl _, hk, rfl⟩
  have hM : tsP (cellN a b) (tnF fm) 144 ((List.range (selN (kpP f) N)).map fun i => tnF f (selG (kpP f) N i)) := by
    refine ⟨?_, fun t => ?_⟩
    · rw [List.pairwise_map]
      refine List.Pairwise.imp_of_mem (R := fun i j : Nat => i < j) ?_ List.pairwise_lt_range
      intro i j hi hj hij
      have h5 := selG_inc2 (p := kpP f) N i j hij (by simpa using hj)
      have h6 := selG_lt (p := kpP f) N j (by simpa using hj)
      exact hlt _ _ h5 h6.1 h6.2
    · rw [List.mem_map]
      constructor
      · rintro ⟨i, hi, rfl⟩
        have h6 := selG_lt (p := kpP f) N i (by simpa using hi)
        have h7 : L.getD (selG (kpP f) N i) 0 ∈ L := by
          rw [List.getD_eq_getElem?_getD, List.getElem?_eq_getElem (by omega)]
          exact List.getElem_mem _
        have h8 := List.mem_range.1 (h1.mem_iff.1 h7)
        rw [hN] at h8
        have h9 := selG_lt (p := cellN a b) 144 _ h8
        exact ⟨_, h9.1, h9.2, by rw [hD, hN]⟩
      · rintro ⟨i, hi, hp, rfl⟩
        obtain ⟨j, hj, e⟩ := selG_onto2 hi hp
        rw [← hN] at hj
        have h7 : j ∈ L := h1.mem_iff.2 (List.mem_range.2 hj)
        obtain ⟨m, hm, e2⟩ := List.mem_iff_getElem.1 h7
        obtain ⟨q, h10, h11, h12⟩ := hdn m (by omega)
        obtain ⟨r, h13, h14⟩ := selG_onto2 (n := N) (show q < N by omega) h11
        refine ⟨r, List.mem_range.2 h13, ?_⟩
        rw [h14, h12, hD, List.getD_eq_getElem?_getD, List.getElem?_eq_getElem hm, e2, Option.getD_some, e]
  rw [tinL_eq hM]
  refine ⟨by simp, fun j hj => ?_⟩
  unfold flF kpF
  have e1 : ((List.range (selN (kpP f) N)).map fun i => tnF f (selG (kpP f) N i)).getD (j / 3) tn0 = tnF f (selG (kpP f) N (j / 3)) := by
    rw [List.getD_eq_getElem?_getD]
    simp [show j / 3 < selN (kpP f) N by omega]
  rw [e1]
  have : j % 3 = 0 ∨ j % 3 = 1 ∨ j % 3 = 2 := by omega
  unfold cmp3
  rcases this with h | h | h <;> rw [h]
  · rw [Nat.add_zero]; exact (tnF_0 hb _).symm
  · exact (tnF_1 hb _).symm
  · exact (tnF_2 hb _).symm
end Go.Proofs.Ytpphckfalgapdaa
