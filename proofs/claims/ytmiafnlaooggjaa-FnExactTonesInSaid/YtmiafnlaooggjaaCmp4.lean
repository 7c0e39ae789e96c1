/- slices.Compact at a palette of the call's own: the walk; no condition. -/
import Derived.Test.YtmiafnlaooggjaaCmp3
import Derived.Test.YtmiafnlaooggjaaGrw
import Derived.Test.YtmiafnlaooggjaaSrtF
set_option linter.unusedVariables false
namespace Go.Proofs.Ytmiafnlaooggjaa
open Go.BigFrame
open Go.RowKit Go.Arr
theorem kpP_k (f : Nat → Int) {k : Nat} (h : 1 ≤ k) : kpP f k = !(eq3 (f (k * 3)) (f (k * 3 + 1)) (f (k * 3 + 2)) (f ((k - 1) * 3)) (f ((k - 1) * 3 + 1)) (f ((k - 1) * 3 + 2))) := by
  unfold kpP
  rw [show (k == 0) = false by simp; omega, Bool.false_or]
set_option maxHeartbeats 4000000 in
set_option maxRecDepth 100000 in
theorem compact_any {base g cap n : Nat} {f : Nat → Int} (hn : n ≤ 1048576) (W : World) (h : PRow W base (.slice (some ⟨g, 0, none⟩) n cap) n f) :
    Calls Try.prog 84 #[.slice (some ⟨g, 0, none⟩) n cap] W fun e w' => ∃ k : Nat, k = selN (kpP f) n ∧ e = .returned (.slice (some ⟨g, 0, none⟩) k cap) ∧ PRow w' base (.slice (some ⟨g, 0, none⟩) k cap) k (kpF f n) ∧ W.grownBy w' (some g) := by
  rcases h.shape with ⟨h1, _⟩ | ⟨g', cap', cur, h1, h2, h3, h4, h5, h6, h7, h8⟩
  · cases h1
  simp only [Value.slice.injEq, Option.some.injEq, Addr.mk.injEq, and_true, true_and] at h1
  obtain ⟨rfl, rfl⟩ := h1
  have fin : ∀ (w' : World) (cu : Array Value) (k : Nat), k = selN (kpP f) n → obj w' g = some (.cells cu 40) → cu.size = cap * 3 → (∀ j, j < k * 3 → cu[j]? = some (.int .u8 (cpF f n j))) → PRow w' base (.slice (some ⟨g, 0, none⟩) k cap) k (kpF f n) := fun w' cu k hk ho hs hc => by
    have hle := selN_le (p := kpP f) n
    refine PRow.of ho h2 (by omega) h6 hs fun j hj => ?_
    rw [hc j hj]
    unfold cpF
    rw [if_pos (by rw [← hk]; exact hj)]
  have h8 := hide h8
  clear h
  have els : ∀ (cu : Array Value) (F : Nat → Int), cu.size = cap * 3 → (∀ j, j < n * 3 → cu[j]? = some (.int .u8 (F j))) → ∀ i, i < n → cu.extract (i * 3) (i * 3 + 3) = #[.int .u8 (F (i * 3)), .int .u8 (F (i * 3 + 1)), .int .u8 (F (i * 3 + 2))] ∧ i * 3 + 3 ≤ cu.size := fun cu F hs hc i hi => ⟨ext3 (hc _ (by omega)) (hc _ (by omega)) (hc _ (by omega)) rfl, by omega⟩
  have fin := hide fin
  have els := hide els
  replace h7 := hide h7
  by_cases h2n : n < 2
  · have hid : ∀ j, j < n → kpP f j = true := fun j hj => by
      obtain rfl : j = 0 := by omega
      rfl
    have hk := sel_id hid
    have hP := hide (fin.out _ _ _ hk.1.symm h4 h7.out (fun j hj => by rw [cpF_id hid]; exact h8.out j hj))
    have hk1 := hide hk.1
    clear hk hid
    go_enter Try.func84, Try.ntmps84
    go_wp2_with (fail)
    go_ret
    exact ⟨n, hk1.out.symm, rfl, hP.out, grown_refl _ _⟩
  go_enter Try.func84, Try.ntmps84
  go_wp2_with (fail)
  go_loopw [3] (fun i wr => ∃ k : Nat, 1 ≤ k ∧ k ≤ n ∧ i = .int .i64 k ∧ Hid (∀ j, j < k → kpP f j = true) ∧ New W wr) (fun i _ => n - (intOf i).toNat)
  case atStart => exact ⟨1, by omega, by omega, rfl, fun j hj => by
    obtain rfl : j = 0 := by omega
    rfl, New.refl W⟩
  case round =>
    obtain ⟨k, hk1, hk, rfl, hall, hnw⟩ := hrel
    have p1 := (hnw.objs _ h3).trans h4
    have l1 := obj_lt p1
    by_cases hlt : k < n
    · obtain ⟨x1, lx1⟩ := els.out _ _ h7.out h8.out k hlt
      obtain ⟨x2, lx2⟩ := els.out _ _ h7.out h8.out (k - 1) (by omega)
      cases he : eq3 (f (k * 3)) (f (k * 3 + 1)) (f (k * 3 + 2)) (f ((k - 1) * 3)) (f ((k - 1) * 3 + 1)) (f ((k - 1) * 3 + 2))
      · have hp : kpP f k = true := by rw [kpP_k f hk1, he]; rfl
        have hall' := hide (all_succ hall.out hp)
        go_wp2_with (fail)
        go_quiet (fail)
        go_wp2_with (fail)
        go_roundw
        case rel => exact ⟨k + 1, by omega, by omega, by go_num, hall', hnw.drewN _⟩
        case measure => simp [intOf]; omega
      · have hp : kpP f k = false := by rw [kpP_k f hk1, he]; rfl
        go_wp2_with (fail)
        go_quiet (fail)
        go_wp2_with (fail)
        have hs0 := sel_id hall.out
        have hsk : selN (kpP f) (k + 1) = k := by rw [selN_f hp]; exact hs0.1
        have hcp0 := hide (fun j (_ : j < n * 3) => show cur[j]? = some (.int .u8 (cpF f (k + 1) j)) by rw [cpF_f hp, cpF_id hall.out]; exact h8.out j (by assumption))
        have p1' := hide p1
        have hG : W.grownBy wr (some g) := new_grown hnw
        clear hs0 hall x1 x2 lx1 lx2 he p1 h4 hnw
        go_loopw [3, 5] (fun s3 s5 wq => ∃ (k2 : Nat) (cu : Array Value), s3 = .int .i64 (selN (kpP f) (k + k2) : Nat) ∧ s5 = .int .i64 k2 ∧ 1 ≤ k2 ∧ k + k2 ≤ n ∧ selN (kpP f) (k + k2) < k + k2 ∧ Hid (obj wq g = some (.cells cu 40)) ∧ Hid (cu.size = cap * 3) ∧ Hid (∀ j, j < n * 3 → cu[j]? = some (.int .u8 (cpF f (k + k2) j))) ∧ W.grownBy wq (some g)) (fun _ s5 _ => n - (intOf s5).toNat)
        case atStart => exact ⟨1, cur, by rw [hsk], rfl, by omega, by omega, by rw [hsk]; omega, p1'.out, h7, hcp0.out, grown_new2 hG ((New.refl _).drewN _)⟩
        case round =>
          obtain ⟨k2, cu, rfl, rfl, hk2, hle, hlk, hob, hsz, hcu, hg2⟩ := hrel
          have p2 := hob.out
          have l2 := obj_lt p2
          by_cases hlt2 : k + k2 < n
          · obtain ⟨x1, lx1⟩ := els.out _ _ hsz.out hcu.out (k + k2) hlt2
            obtain ⟨x2, lx2⟩ := els.out _ _ hsz.out hcu.out (k + k2 - 1) (by omega)
            obtain ⟨x3, lx3⟩ := els.out _ _ hsz.out hcu.out (selN (kpP f) (k + k2)) (by omega)
            have hhi : ∀ j, (k + k2 - 1) * 3 ≤ j → cpF f (k + k2) j = f j := fun j hj => by unfold cpF; rw [if_neg (by omega)]
            rw [hhi _ (by omega), hhi _ (by omega), hhi _ (by omega), show (k + k2) * 3 = k * 3 + k2 * 3 by omega] at x1
            rw [hhi _ (by omega), hhi _ (by omega), hhi _ (by omega), show (k + k2 - 1) * 3 = k * 3 + (k2 - 1) * 3 by omega] at x2
            rw [show (k + k2) * 3 = k * 3 + k2 * 3 by omega] at lx1
            rw [show (k + k2 - 1) * 3 = k * 3 + (k2 - 1) * 3 by omega] at lx2
            cases he : eq3 (f (k * 3 + k2 * 3)) (f (k * 3 + k2 * 3 + 1)) (f (k * 3 + k2 * 3 + 2)) (f (k * 3 + (k2 - 1) * 3)) (f (k * 3 + (k2 - 1) * 3 + 1)) (f (k * 3 + (k2 - 1) * 3 + 2))
            · have hpm : kpP f (k + k2) = true := by rw [kpP_k f (by omega), show (k + k2) * 3 = k * 3 + k2 * 3 by omega, show (k + k2 - 1) * 3 = k * 3 + (k2 - 1) * 3 by omega, he]; rfl
              have hsn := hide (selN_t hpm)
              have hnew := hide (fun j => cpF_t (f := f) hpm j)
              clear hpm x3 hhi
              generalize selN (kpP f) (k + k2) = kk at hlk lx3 hsn hnew ⊢
              go_wp2_with (fail)
              go_quiet (fail)
              go_wp2_with (fail)
              go_roundw
              case rel =>
                have hsz3 : ∀ d : Array Value, d.size = 3 → (seg cu (kk * 3) d).size = cu.size := fun d hd => by
                  unfold seg
                  simp [hd]
                  omega
                refine ⟨k2 + 1, seg cu (kk * 3) #[.int .u8 (f (k * 3 + k2 * 3)), .int .u8 (f (k * 3 + k2 * 3 + 1)), .int .u8 (f (k * 3 + k2 * 3 + 2))], by rw [← Nat.add_assoc, hsn.out]; go_num, by go_num, by omega, by omega, by rw [← Nat.add_assoc, hsn.out]; omega, ?_, ?_, ?_, grown_new2 (setRow_grown hg2 _) ((New.refl _).drewN _)⟩
                · show _ = _
                  go_simp
                · show _ = _
                  rw [hsz3 _ rfl, hsz.out]
                · intro j hj
                  rw [← Nat.add_assoc, hnew.out, get_seg _ _ _ _ (by simp; omega)]
                  simp only [show (#[Value.int .u8 (f (k * 3 + k2 * 3)), .int .u8 (f (k * 3 + k2 * 3 + 1)), .int .u8 (f (k * 3 + k2 * 3 + 2))] : Array Value).size = 3 from rfl]
                  by_cases e : kk * 3 ≤ j ∧ j < kk * 3 + 3
                  · rw [if_pos e, if_pos e]
                    have : j - kk * 3 = 0 ∨ j - kk * 3 = 1 ∨ j - kk * 3 = 2 := by omega
                    rw [show (k + k2) * 3 = k * 3 + k2 * 3 by omega]
                    rcases this with h | h | h <;> rw [h] <;> rfl
                  · rw [if_neg e, if_neg e]; exact hcu.out j hj
              case measure => simp [intOf]; omega
            · have hpm : kpP f (k + k2) = false := by rw [kpP_k f (by omega), show (k + k2) * 3 = k * 3 + k2 * 3 by omega, show (k + k2 - 1) * 3 = k * 3 + (k2 - 1) * 3 by omega, he]; rfl
              have hsn := hide (selN_f hpm)
              have hcu' := hide (fun j (h : j < n * 3) => show cu[j]? = some (.int .u8 (cpF f (k + k2 + 1) j)) by rw [cpF_f hpm]; exact hcu.out j h)
              clear hpm x3 hhi
              go_wp2_with (fail)
              go_quiet (fail)
              go_wp2_with (fail)
              go_roundw
              case rel => exact ⟨k2 + 1, cu, by rw [← Nat.add_assoc, hsn.out], by go_num, by omega, by omega, by rw [← Nat.add_assoc, hsn.out]; omega, p2, hsz, hcu'.out, grown_new2 hg2 ((New.refl _).drewN _)⟩
              case measure => simp [intOf]; omega
          · obtain rfl : n = k + k2 := by omega
            have hsz2 := hsz.out
            have hcl : ∀ ty, (Builtin.clear_ #[26] ty #[.slice (some ⟨g, selN (kpP f) (k + k2) * 3, none⟩) (k + k2 - selN (kpP f) (k + k2)) (cap - selN (kpP f) (k + k2))]).run Try.prog wr = .ok (.tuple #[]) _ := fun ty => run_clear3 wr ty g _ _ _ (by omega) cu _ p2 (by omega)
            obtain ⟨cu2, ho2, hs2, hc2⟩ := setCells_keep (List.replicate ((k + k2 - selN (kpP f) (k + k2)) * 3) (.int .u8 0)) wr g (selN (kpP f) (k + k2) * 3) cu _ p2
            have hP := hide (fin.out _ cu2 _ rfl ho2 (by rw [hs2, hsz2]) (fun j hj => by rw [hc2 j hj]; exact hcu.out j (by omega)))
            have hgr := setCells_grown (List.replicate ((k + k2 - selN (kpP f) (k + k2)) * 3) (.int .u8 0)) W wr g (selN (kpP f) (k + k2) * 3) hg2
            clear hsz2
            go_wp2_with (fail)
            go_ret
            exact ⟨_, rfl, rfl, hP.out, hgr⟩
    · obtain rfl : n = k := by omega
      have hks := sel_id hall.out
      have hP := hide (fin.out _ _ _ hks.1.symm p1 h7.out (fun j hj => by rw [cpF_id hall.out]; exact h8.out j hj))
      have hk2 := hide hks.1
      clear hks
      go_wp2_with (fail)
      go_ret
      exact ⟨_, hk2.out.symm, rfl, hP.out, new_grown hnw⟩
end Go.Proofs.Ytmiafnlaooggjaa
