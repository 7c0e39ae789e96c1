/- Tones that are the best: what the program returns, walked; no condition. -/
import Derived.Test.YtpofhbdnjecfjaaBesC
import Derived.Test.YtpofhbdnjecfjaaDraw
set_option linter.unusedVariables false
namespace Go.Proofs.Ytpofhbdnjecfjaa
open Go.BigFrame
open Go.RowKit Go.Arr
set_option maxHeartbeats 8000000 in
set_option maxRecDepth 100000 in
theorem best_impl (a b : Int) (fm : Nat → Int) (ha : -128 ≤ a ∧ a ≤ 127) (hb : -128 ≤ b ∧ b ≤ 127) (hfm : ∀ i, 0 ≤ fm i ∧ fm i ≤ 255) (ad : Option Addr) (n cp : Nat) (fp : Nat → Int) (hfp : ∀ i, 0 ≤ fp i ∧ fp i ≤ 255) (hn : n ≤ 1048576) (hcp : n ≤ cp) (count : Int) (W : World) (hs : Sl W (.slice ad n cp) n 3 .u8 fp) :
    Calls Try.prog 13 #[.agg (pic 432 a b fm), .slice ad n cp, .int .i64 count] W fun e w' => ∃ v, e = .returned (.tuple #[v, .int .i64 (btV a b fm n fp count), .int .i64 (btC a b fm n fp count)]) ∧ Row w' W.heap.size v (btN a b fm n fp count) (btL a b fm n fp count) ∧ New W w' := by
  go_enter Try.func13, Try.ntmps13
  go_wp2_with (fail)
  generalize hw0 : W.alloc (Obj.cells (pic 432 a b fm) 37) = w0
  have b1 : obj w0 W.heap.size = some (.cells (pic 432 a b fm) 37) := by subst hw0; go_simp
  have hn0 : New W w0 := by subst hw0; exact (New.refl W).alloc _
  have hs0 := hs.new hn0
  clear hw0 hs
  refine (validImage_impl a b fm ha hb _).mono ?_
  rintro e w1 ⟨rfl, hn1⟩
  have c1 := (hn1.objs _ (obj_lt b1)).trans b1
  have hs1 := hs0.new hn1
  have hN1 := hn0.trans hn1
  clear b1 hs0 hn0 hn1
  cases h1 : okImg a b fm
  · have hC : Hid (btC a b fm n fp count = 1) := btC_k (cntC_1 (by unfold askOk; rw [h1]; rfl)) (by omega)
    clear h1
    go_wp2_with (go_at_call 39; refine (within_any _ _ _ _).mono ?_; rintro e w' ⟨rfl, rfl⟩)
    refine (codeOf_any _ _ _).mono ?_
    rintro e w9 ⟨rfl, rfl⟩
    simp only [codeB]
    go_wp2_with (fail)
    go_ret3
    exact ⟨_, by rw [btV_z hC.out (by omega), hC.out]; rfl, by rw [btN_z hC.out (by omega)]; exact Row.nil, hN1⟩
  go_wp2_with (fail)
  refine (validPal_impl _ n _ fp hn hcp _ hs1).mono ?_
  rintro e w2 ⟨rfl, hn2⟩
  have d1 := (hn2.objs _ (obj_lt c1)).trans c1
  have hs2 := hs1.new hn2
  have hN2 := hN1.trans hn2
  clear c1 hs1 hN1 hn2
  cases h2 : okPal n fp
  · have hC : Hid (btC a b fm n fp count = 1) := btC_k (cntC_1 (by unfold askOk; rw [h2, Bool.and_false])) (by omega)
    clear h1 h2
    go_wp2_with (go_at_call 39; refine (within_any _ _ _ _).mono ?_; rintro e w' ⟨rfl, rfl⟩)
    refine (codeOf_any _ _ _).mono ?_
    rintro e w9 ⟨rfl, rfl⟩
    simp only [codeB]
    go_wp2_with (fail)
    go_ret3
    exact ⟨_, by rw [btV_z hC.out (by omega), hC.out]; rfl, by rw [btN_z hC.out (by omega)]; exact Row.nil, hN2⟩
  have hok : askOk a b fm n fp = true := by unfold askOk; rw [h1, h2]; rfl
  have hp := okPal_pos h2
  clear h1 h2
  cases hib : inB count 1 n
  · have hC : Hid (btC a b fm n fp count = 2) := btC_k (cntC_2 hok hib) (by omega)
    clear hok
    go_wp2_with (go_at_call 39; refine (within_any _ _ _ _).mono ?_; rintro e w' ⟨rfl, rfl⟩; rw [hib])
    refine (codeOf_any _ _ _).mono ?_
    rintro e w9 ⟨rfl, rfl⟩
    simp only [codeB]
    go_wp2_with (fail)
    go_ret3
    exact ⟨_, by rw [btV_z hC.out (by omega), hC.out]; rfl, by rw [btN_z hC.out (by omega)]; exact Row.nil, hN2⟩
  have hC0 := hide (cntC_0 hok hib)
  have hcc := inB_t.1 hib
  obtain ⟨K, rfl⟩ : ∃ K : Nat, count = K := ⟨count.toNat, by omega⟩
  have r1 := obj_lt d1
  have hWl := hN2.le
  clear hok
  go_wp2_with (go_at_call 39; refine (within_any _ _ _ _).mono ?_; rintro e w' ⟨rfl, hw'⟩; subst hw'; rw [hib])
  refine (codeOf_any _ _ _).mono ?_
  rintro e w9 ⟨rfl, hw'⟩
  subst hw'
  simp only [codeB]
  clear hib
  by_cases hbig : 10 < n
  · have hC := hide (btC_3 hC0.out hbig)
    go_wp2_with (fail)
    go_ret3
    exact ⟨_, by rw [btV_z hC.out (by omega), hC.out]; rfl, by rw [btN_z hC.out (by omega)]; exact Row.nil, hN2⟩
  have hC := hide (btC_0 hC0.out hbig)
  obtain ⟨C, hCe⟩ : ∃ C : (Nat → Int) → Int, Hid (C = fun L => cosS K (subP fp L) fm a b 144) := ⟨_, rfl⟩
  have hCb : ∀ L, 0 ≤ C L ∧ C L ≤ 144000000 := fun L => by rw [hCe.out]; show 0 ≤ cosS K (subP fp L) fm a b 144 ∧ cosS K (subP fp L) fm a b 144 ≤ 144000000; have := cosS_b (fs := subP fp L) (fun i => hfp _) hfm K a b 144; omega
  go_wp2_with (fail)
  refine (choices_any n (by omega) K 1 (by omega) (by omega) w2).mono ?_
  rintro e w3 ⟨v3, vs3, rfl, hX, hn3⟩
  have d3 := (hn3.objs _ r1).trans d1
  have r3 := obj_lt d3
  have hs3 := hs2.new hn3
  have hN3 := hN2.trans hn3
  have hXm := hide (chL_mem K 1 n)
  have hXa : Hid (∀ l, l ∈ chL K 1 n → asc K n (fn l)) := fun l hl => chL_asc hl
  have hX0 := chL_len K 1 n
  have hX1 := pow_le10 (x := n + 1 - 1) (by omega)
  obtain ⟨x4, y4, rfl⟩ := hX.form
  have hI0 : ∀ L, CI C K n (chL K 1 n) 0 L (-1) := fun L => CI_0
  have hIt := hide (fun (t : Nat) (L : Nat → Int) (c : Int) (ht : t < (chL K 1 n).length) (h : CI C K n (chL K 1 n) t L c) (hb : c < 0 ∨ C (fn (chL K 1 n)[t]) < c) => CI_take (fun L => (hCb L).1) ht h hb)
  have hIk := hide (fun (t : Nat) (L : Nat → Int) (c : Int) (ht : t < (chL K 1 n).length) (h : CI C K n (chL K 1 n) t L c) (h0 : ¬ c < 0) (hb : ¬ C (fn (chL K 1 n)[t]) < c) => CI_keep ht h h0 hb)
  have hIe := hide (fun (L : Nat → Int) (c : Int) (h : CI C K n (chL K 1 n) (chL K 1 n).length L c) => CI_end h (by omega))
  have hXp : 0 < (chL K 1 n).length := by
    obtain ⟨l, hl, _⟩ := chL_onto K 1 n (fun j => if j < K then (j : Int) + 1 else 0) (fun j hj => by rw [if_pos hj]; omega) (fun j hj => by rw [if_pos (by omega), if_pos hj]; omega) (fun j hj => if_neg (by omega))
    exact List.length_pos_of_mem hl
  generalize chL K 1 n = X at hX hXm hXa hX0 hI0 hIt hIk hIe hXp ⊢
  clear hn3 d1 hs2 r1
  go_wp2_with (fail)
  go_loopw [37, 10, 11] (fun x v l wr => ∃ (t : Nat) (L : Nat → Int) (c : Int), t ≤ X.length ∧ x = .int .i64 (t : Nat) ∧ l = .int .i64 c ∧ (-1 ≤ c ∧ c ≤ 144000000) ∧ Hid (CI C K n X t L c) ∧ Hid (0 < t → Row wr W.heap.size v K L) ∧ New w3 wr) (fun x _ _ _ => X.length - (intOf x).toNat)
  case atStart => exact ⟨0, fun _ => 0, -1, by omega, rfl, rfl, by omega, hI0 _, fun h => absurd h (by omega), New.refl _⟩
  case round =>
    obtain ⟨t, L, c, ht, rfl, rfl, hcb, hI, hrow, hnw⟩ := hrel
    by_cases hlt : t < X.length
    · have hl0 := hXa.out X[t] (List.getElem_mem hlt)
      have hlm := (hXm.out X[t] (List.getElem_mem hlt)).1
      have hr := hX.row hlt
      have hgd : X.getD t [] = X[t] := by rw [List.getD_eq_getElem?_getD, List.getElem?_eq_getElem hlt]; rfl
      rw [hgd, hlm] at hr
      obtain ⟨gs, cur, rfl, os, ls, es⟩ := RR.slot hX hlt
      have os2 := (hnw.objs _ (obj_lt os)).trans os
      have lgs := obj_lt os2
      have hr2 := hr.new hnw
      have d4 := (hnw.objs _ r3).trans d3
      have r4 := obj_lt d4
      have hs4 := hs3.new hnw
      have hIt1 := hide (hIt.out t L c hlt)
      have hIk1 := hide (hIk.out t L c hlt)
      have hlb := hl0.1
      generalize hl : X[t] = l at hlm hr2 hIt1 hIk1 hlb
      obtain ⟨x6, y6, hv6, hrd⟩ := hr2.reads
      rw [hv6] at es hr2
      clear hgd hr os hl hl0
      go_wp2_with (fail)
      refine (costWith_any a b fm ha hb hfm ad n cp fp hfp (by omega) x6 K y6 (fn l) (by omega) hlb _ hs4 hr2.sl).mono ?_
      rintro e w6 ⟨rfl, hn6⟩
      rw [show cosS K (subP fp (fn l)) fm a b 144 = C (fn l) by rw [hCe.out]]
      have hcl := hCb (fn l)
      have hnw6 := hnw.trans hn6
      have hr6 : Row w6 W.heap.size (.slice x6 K y6) K (fn l) := (hr2.new hn6).lower (by omega)
      have hrow6 : Hid (0 < t → Row w6 W.heap.size _ K L) := fun h => (hrow.out h).new hn6
      generalize C (fn l) = cl at hcl hIt1 hIk1 ⊢
      clear hr2 hrow
      by_cases h0 : c < 0
      · have hI2 := hide (hIt1.out hI.out (Or.inl h0))
        have m0 : decide (c < 0) = true := decide_eq_true h0
        go_wp2_with (fail)
        go_roundw
        case rel => exact ⟨t + 1, fn l, cl, by omega, by go_num, rfl, by omega, hI2, fun _ => hr6, hnw6⟩
        case measure => simp [intOf]; omega
      · have m0 : decide (c < 0) = false := decide_eq_false h0
        by_cases h1 : cl < c
        · have hI2 := hide (hIt1.out hI.out (Or.inr h1))
          go_wp2_with (fail)
          go_roundw
          case rel => exact ⟨t + 1, fn l, cl, by omega, by go_num, rfl, by omega, hI2, fun _ => hr6, hnw6⟩
          case measure => simp [intOf]; omega
        · have hI2 := hide (hIk1.out hI.out (by omega) (by omega))
          have htp : 0 < t := by
            rcases hI.out with ⟨h2, h3⟩ | ⟨h2, _⟩
            · omega
            · exact h2
          have hrow7 := hrow6.out htp
          clear hrow6
          go_wp2_with (fail)
          go_roundw
          case rel => exact ⟨t + 1, L, c, by omega, by go_num, rfl, by omega, hI2, fun _ => hrow7, hnw6⟩
          case measure => simp [intOf]; omega
    · have hte : t = X.length := by omega
      have hI2 := hI.out
      rw [hte] at hI2
      obtain ⟨e1, e2⟩ := hIe.out L c hI2
      have hV := hide (btV_s hC.out hCe.out)
      have hNn := hide (btN_s hC.out)
      have hL := hide (btL_s (n := n) hCe.out)
      have e1 := hide e1
      have e2 := hide e2
      have hrow7 := hrow.out (by omega)
      clear hI hI2 hte hrow
      go_wp2_with (fail)
      go_ret3
      exact ⟨_, by rw [hV.out, hC.out, ← e2.out]; rfl, by rw [hNn.out, hL.out, ← e1.out]; exact hrow7, hN3.trans hnw⟩
end Go.Proofs.Ytpofhbdnjecfjaa
