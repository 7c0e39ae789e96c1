/- The program's count of the colours, and the law on it; no condition. -/
import Derived.Test.YtbhajdcohhblfaaCnt
import Derived.Test.YtbhajdcohhblfaaImplA
set_option linter.unusedVariables false
namespace Go.Proofs.Ytbhajdcohhblfaa
open Go.BigFrame
open Go.RowKit Go.Arr
set_option maxHeartbeats 2000000 in
set_option maxRecDepth 100000 in
theorem count_impl (a b : Int) (f : Nat → Int) (ha : -128 ≤ a ∧ a ≤ 127) (hb : -128 ≤ b ∧ b ≤ 127) (hf : ∀ i, 0 ≤ f i ∧ f i ≤ 255) (w : World) :
    Calls Try.prog 40 #[.agg (pic 144 a b f)] w fun e w' => e = .returned (cntA a b f) ∧ New w w' := by
  cases h1 : okPic a b f
  · have hA : cntA a b f = .tuple #[.agg (arr 16 .i64 fun _ => 0), .int .i64 1] := by unfold cntA; rw [if_neg (by rw [h1]; simp)]
    rw [hA]
    clear hA
    go_enter Try.func40, Try.ntmps40
    go_wp2_with (fail)
    refine (valid_v a b f ha hb hf _ h1 _).mono ?_
    rintro e1 w1 ⟨rfl, hn1⟩
    have ho1 := hn1.objs
    have hz1 := hn1.le
    try simp at hz1
    have k1_0 : w.heap.size < w1.heap.size := by omega
    have k1_1 : w.heap.size + 1 < w1.heap.size := by omega
    have k1_2 : w.heap.size + 1 + 1 < w1.heap.size := by omega
    go_wp2_with (fail)
    refine ret_cell_tmp agg47 rfl rfl (c := arr 16 .i64 fun _ => 0) (t := 47) (fr := (0, 0)) (by go_simp) size_arr rfl ⟨rfl, ?_⟩
    repeat' (first | exact New.refl _ | refine New.alloc ?_ _ | refine New.drew ?_ | refine New.drewN ?_ _ | refine New.setRow ?_ (by omega) _ | refine New.setCell ?_ (by first | omega | (simp; done) | (simp; omega)) _ | refine New.trans ?_ hn1)
  have hA : cntA a b f = .tuple #[.agg (arr 16 .i64 (cntF a b f 144)), .int .i64 0] := by unfold cntA; rw [if_pos h1]
  rw [hA]
  clear hA
  have gd := okPic_dims h1
  have hok := hide h1
  go_enter Try.func40, Try.ntmps40
  go_wp2_with (fail)
  refine (valid_v a b f ha hb hf _ h1 _).mono ?_
  rintro e2 w2 ⟨rfl, hn2⟩
  have ho2 := hn2.objs
  have hz2 := hn2.le
  try simp at hz2
  have k2_0 : w.heap.size < w2.heap.size := by omega
  have k2_1 : w.heap.size + 1 < w2.heap.size := by omega
  have k2_2 : w.heap.size + 1 + 1 < w2.heap.size := by omega
  clear h1
  go_wp2_with (fail)
  have hs1 : obj w2 w.heap.size = some (.cells (pic 144 a b f) 27) := by rw [ho2 _ (by simp; omega)]; go_simp
  have hs2 : obj w2 (w.heap.size + 1) = some (.cells (arr 16 .i64 fun _ => 0) 47) := by rw [ho2 _ (by simp)]; go_simp
  have hs3 : obj w2 (w.heap.size + 1 + 1) = some (.cells (arr 16 .i64 fun _ => 0) 47) := by rw [ho2 _ (by simp)]; go_simp
  have hw2 : New w w2 := by
    repeat' (first | exact New.refl _ | refine New.alloc ?_ _ | refine New.drew ?_ | refine New.drewN ?_ _ | refine New.setRow ?_ (by omega) _ | refine New.setCell ?_ (by first | omega | (simp; done) | (simp; omega)) _ | refine New.trans ?_ hn2 | refine New.trans ?_ hn1)
  clear hn2 ho2
  go_loopw [15] (fun i wr => ∃ y : Nat, (y : Int) ≤ b ∧ i = .int .i64 y ∧ Hid (obj wr w.heap.size = some (.cells (pic 144 a b f) 27)) ∧ Hid (obj wr (w.heap.size + 1) = some (.cells (arr 16 .i64 fun _ => 0) 47)) ∧ Hid (obj wr (w.heap.size + 1 + 1) = some (.cells (arr 16 .i64 (cntF a b f (0 + 12 * y))) 47)) ∧ New w wr ∧ w.heap.size + 3 ≤ wr.heap.size) (fun i _ => b.toNat - (intOf i).toNat)
  case atStart => exact ⟨0, by omega, rfl, hs1, hs2, hs3, hw2, by omega⟩
  case round =>
    obtain ⟨y, hy, rfl, hp, hz, ho, hn, hlw⟩ := hrel
    obtain ⟨wo, rfl⟩ : ∃ wo : World, wo = wr := ⟨_, rfl⟩
    have p1 := hp.out
    have k0 : w.heap.size < wo.heap.size := by omega
    by_cases hlt : (y : Int) < b
    · go_wp2_with (fail)
      go_loopw [6, 21] (fun _ i wr => ∃ x : Nat, (x : Int) ≤ a ∧ i = .int .i64 x ∧ Hid (obj wr w.heap.size = some (.cells (pic 144 a b f) 27)) ∧ Hid (obj wr (w.heap.size + 1) = some (.cells (arr 16 .i64 fun _ => 0) 47)) ∧ Hid (obj wr (w.heap.size + 1 + 1) = some (.cells (arr 16 .i64 (cntF a b f (x + 12 * y))) 47)) ∧ New w wr ∧ w.heap.size + 3 ≤ wr.heap.size) (fun _ i _ => a.toNat - (intOf i).toNat)
      case atStart => exact ⟨0, by omega, rfl, hp, hz, ho, hn, hlw⟩
      case round =>
        clear p1 hp hz ho hn hlw
        obtain ⟨x, hx, rfl, hp, hz, ho, hn, hlw⟩ := hrel
        have p1 := hp.out
        by_cases hlx : (x : Int) < a
        · have k0 : w.heap.size < wr.heap.size := by omega
          have k1 : w.heap.size + 1 < wr.heap.size := by omega
          have k2 : w.heap.size + 1 + 1 < wr.heap.size := by omega
          have o1 := ho.out
          go_wp2_with (fail)
          refine (at_any a b f x y (by omega) (by omega) (by omega) _).mono ?_
          rintro e w1 ⟨rfl, hn1⟩
          have o2 : obj w1 (w.heap.size + 1 + 1) = some (.cells (arr 16 .i64 (cntF a b f (x + 12 * y))) 47) := (hn1.objs _ k2).trans o1
          clear o1
          have hz1 := hn1.le
          have k3 : w.heap.size + 1 + 1 < w1.heap.size := by omega
          have e9 : ((x : Int) + 12 * (y : Int)).toNat = x + 12 * y := by omega
          have hv := (okPic_cell hok.out (x + 12 * y) (by omega)).1
          have hv0 := hf (x + 12 * y)
          have hlec : 0 ≤ cntF a b f (x + 12 * y) (f (x + 12 * y)).toNat ∧ cntF a b f (x + 12 * y) (f (x + 12 * y)).toNat ≤ (x + 12 * y : Nat) := cntU_le _ _ _ _
          have q1 : (f (x + 12 * y)).toNat < 16 := by omega
          have q2 : -9223372036854775808 ≤ cntF a b f (x + 12 * y) (f (x + 12 * y)).toNat + 1 := by omega
          have q3 : cntF a b f (x + 12 * y) (f (x + 12 * y)).toNat + 1 ≤ 9223372036854775807 := by omega
          go_wp2_with (fail)
          go_roundw
          case rel =>
            refine ⟨x + 1, by omega, by go_num, ?_, ?_, ?_, ?_, ?_⟩
            · show _ = _
              rw [obj_setCell_other _ _ _ _ _ (by omega), hn1.objs _ k0, p1]
            · show _ = _
              rw [obj_setCell_other _ _ _ _ _ (by omega), hn1.objs _ k1, hz.out]
            · show _ = _
              rw [obj_set_arr o2 _ (f (x + 12 * y)).toNat _ (by first | rfl | omega), cntF_step (by omega) (by omega) hlx hlt]
            · exact (hn.trans hn1).setCell (by show w.heap.size ≤ w.heap.size + 1 + 1; omega) _
            · rw [World.size_setCell]; omega
          case measure => simp [intOf]; omega
        · have hxa : (x : Int) = a := by omega
          go_wp2_with (fail)
          go_roundw
          case rel =>
            refine ⟨y + 1, by omega, by go_num, hp, hz, ?_, hn, hlw⟩
            show _ = _
            rw [ho.out, cntF_row (by omega) (by omega) hxa hlt]
          case measure => simp [intOf]; omega
    · have hyb : (y : Int) = b := by omega
      have o1 := ho.out
      have z1 := hz.out
      have k1 : w.heap.size + 1 < wo.heap.size := by omega
      have k2 : w.heap.size + 1 + 1 < wo.heap.size := by omega
      go_wp2_with (fail)
      refine ret_cell_tmp agg47 rfl rfl (c := arr 16 .i64 (cntF a b f (0 + 12 * y))) (t := 47) (fr := (0, 0)) (by go_simp) size_arr rfl ⟨?_, ?_⟩
      · rw [cntF_all (by omega) (by omega) hyb]
        rfl
      · exact hn.setRow (by omega) _
set_option maxHeartbeats 1000000 in
set_option maxRecDepth 100000 in
theorem eqInts16_refl (f : Nat → Int) (w : World) :
    Calls Try.prog 41 #[.agg (arr 16 .i64 f), .agg (arr 16 .i64 f)] w fun e w' => e = .returned (.bool true) ∧ New w w' := by
  go_enter Try.func41, Try.ntmps41
  go_wp2_with (fail)
  go_loopw [5] (fun i wr => ∃ k : Nat, k ≤ 16 ∧ i = .int .i64 k ∧ Hid (obj wr w.heap.size = some (.cells (arr 16 .i64 f) 47)) ∧ Hid (obj wr (w.heap.size + 1) = some (.cells (arr 16 .i64 f) 47)) ∧ New w wr) (fun i _ => 16 - (intOf i).toNat)
  case atStart =>
    refine ⟨0, by omega, rfl, ?_, ?_, ?_⟩
    · show _ = _
      go_simp
    · show _ = _
      go_simp
    · repeat' (first | exact New.refl _ | refine New.alloc ?_ _ | refine New.drew ?_ | refine New.drewN ?_ _ | refine New.setRow ?_ (by omega) _ | refine New.setCell ?_ (by first | omega | (simp; done) | (simp; omega)) _)
  case round =>
    obtain ⟨k, hk, rfl, hp1, hq1, hn⟩ := hrel
    have hp := hp1.out
    have hq := hq1.out
    by_cases hlt : k < 16
    · have hne : (f k != f k) = false := by simp
      go_wp2_with (fail)
      go_quiet (fail)
      go_wp2_with (fail)
      go_roundw
      case rel => exact ⟨k + 1, by omega, by go_num, hp1, hq1, hn.drewN _⟩
      case measure => simp [intOf]; omega
    · obtain rfl : k = 16 := by omega
      go_wp2_with (fail)
      go_ret
      exact ⟨rfl, hn⟩
set_option maxHeartbeats 1000000 in
set_option maxRecDepth 100000 in
theorem count_law (a b : Int) (f : Nat → Int) (ha : -128 ≤ a ∧ a ≤ 127) (hb : -128 ≤ b ∧ b ≤ 127) (hf : ∀ i, 0 ≤ f i ∧ f i ≤ 255) (w : World) :
    Calls Try.prog 14 #[.agg (pic 144 a b f)] w fun e w' => e = .returned (.bool true) ∧ New w w' := by
  obtain ⟨h, c, hA⟩ : ∃ h c, cntA a b f = .tuple #[.agg (arr 16 .i64 h), .int .i64 c] := by
    unfold cntA
    by_cases hk : okPic a b f = true
    · exact ⟨_, _, if_pos hk⟩
    · exact ⟨_, _, if_neg hk⟩
  have hs := count_spec a b f ha hb hf
  have hi := count_impl a b f ha hb hf
  rw [hA] at hs hi
  clear hA
  have Hs := hide hs
  have Hi := hide hi
  clear hs hi
  go_enter Try.func14, Try.ntmps14
  go_wp2_with (fail)
  refine (toPicture_any a b f _).mono ?_
  rintro e1 w1 ⟨rfl, hn1⟩
  have ho1 := hn1.objs
  have hz1 := hn1.le
  try simp at hz1
  have k1_0 : w.heap.size < w1.heap.size := by omega
  go_wp2_with (fail)
  refine (Hs.out _).mono ?_
  rintro e2 w2 ⟨rfl, hn2⟩
  have ho2 := hn2.objs
  have hz2 := hn2.le
  try simp at hz2
  have k2_0 : w.heap.size < w2.heap.size := by omega
  go_wp2_with (fail)
  refine (toPicture_any a b f _).mono ?_
  rintro e3 w3 ⟨rfl, hn3⟩
  have ho3 := hn3.objs
  have hz3 := hn3.le
  try simp at hz3
  have k3_0 : w.heap.size < w3.heap.size := by omega
  have k3_1 : w2.heap.size < w3.heap.size := by omega
  go_wp2_with (fail)
  refine (Hi.out _).mono ?_
  rintro e4 w4 ⟨rfl, hn4⟩
  have ho4 := hn4.objs
  have hz4 := hn4.le
  try simp at hz4
  have k4_0 : w.heap.size < w4.heap.size := by omega
  have k4_1 : w2.heap.size < w4.heap.size := by omega
  go_wp2_with (fail)
  refine (eqInts16_refl _ _).mono ?_
  rintro e5 w5 ⟨rfl, hn5⟩
  have ho5 := hn5.objs
  have hz5 := hn5.le
  try simp at hz5
  have k5_0 : w.heap.size < w5.heap.size := by omega
  go_wp2_with (fail)
  go_ret
  refine ⟨rfl, ?_⟩
  repeat' (first | exact New.refl _ | refine New.alloc ?_ _ | refine New.drew ?_ | refine New.drewN ?_ _ | refine New.setRow ?_ (by omega) _ | refine New.setCell ?_ (by first | omega | (simp; done) | (simp; omega)) _ | refine New.trans ?_ hn5 | refine New.trans ?_ hn4 | refine New.trans ?_ hn3 | refine New.trans ?_ hn2 | refine New.trans ?_ hn1)
end Go.Proofs.Ytbhajdcohhblfaa
