/- The reference's recoloured, pasted and bordered pictures; no condition. -/
import Derived.Test.YtomfjicjejoakaaDoorU5
import Derived.Test.YtomfjicjejoakaaDoorU2
import Derived.Test.YtomfjicjejoakaaDoorU4
set_option linter.unusedVariables false
namespace Go.Proofs.YtomfjicjejoakaaDoor
open Go.BigFrame
open Go.RowKit Go.Arr
theorem fold_fresh (init : Nat → Int) (test : Nat → Bool) (val : Nat → Int) (k j : Nat) (h : k ≤ j) : fold init test (fun i => i) val k j = init j := by
  induction k with
  | zero => rfl
  | succ k ih =>
    have ih := ih (by omega)
    unfold fold
    by_cases ht : test k = true
    · rw [if_pos ht]; unfold upd; rw [if_neg (by omega), ih]
    · rw [if_neg ht, ih]
def recQ (p q : Int) : Bool := inB p 0 15 && inB q 0 15
def recH (f : Nat → Int) (p q : Int) (x y : Int) : Int := if f (x + 12 * y).toNat = p then q else f (x + 12 * y).toNat
def rclT (a b : Int) (f : Nat → Int) (p : Int) (i : Nat) : Bool := cellB i a b && decide (f i = p)
def recA (a b : Int) (f : Nat → Int) (p q : Int) : PicAns := if codeB (okPic a b f) (recQ p q) = 0 then ⟨0, a, b, paint a b (recH f p q)⟩ else noPic (codeB (okPic a b f) (recQ p q))
theorem rec_end (a b : Int) (f : Nat → Int) (p q : Int) (hok : okPic a b f = true) (j : Nat) (hj : j < 144) : fold f (rclT a b f p) (fun i => i) (fun _ => q) 144 j = paint a b (recH f p q) j := by
  rw [fold_at _ _ (fun i => i) (fun i => i) _ 144 (fun _ _ _ => rfl)]
  unfold paint rclT recH
  have e : ((j : Int) % 12 + 12 * ((j : Int) / 12)).toNat = j := by omega
  rw [e]
  have hv := okPic_cell hok j hj
  by_cases hin : inside a b j
  · rw [if_pos hin]
    by_cases hp : f j = p
    · rw [if_pos ⟨hj, by rw [(cellB_t hj).2 hin]; simp [hp], rfl⟩, if_pos hp]
    · rw [if_neg (by simp [hp]), if_neg hp]
  · rw [if_neg hin, if_neg]
    · rcases hv.2 with h | h
      · exact absurd h hin
      · exact h
    · rintro ⟨_, h, _⟩
      rw [Bool.and_eq_true] at h
      exact hin ((cellB_t hj).1 h.1)
theorem rec_cases (a b : Int) (f : Nat → Int) (p q : Int) :
    (okPic a b f = true ∧ inB p 0 15 = true ∧ inB q 0 15 = true ∧ recA a b f p q = ⟨0, a, b, paint a b (recH f p q)⟩) ∨
    (okPic a b f = true ∧ inB p 0 15 = true ∧ inB q 0 15 = false ∧ recA a b f p q = noPic 2) ∨
    (okPic a b f = true ∧ inB p 0 15 = false ∧ recA a b f p q = noPic 2) ∨
    (okPic a b f = false ∧ recA a b f p q = noPic 1) := by
  unfold recA recQ
  cases okPic a b f <;> cases inB p 0 15 <;> cases inB q 0 15 <;> simp [codeB]
set_option maxHeartbeats 2000000 in
set_option maxRecDepth 100000 in
theorem rec_spec (a b : Int) (f : Nat → Int) (p q : Int) (ha : -128 ≤ a ∧ a ≤ 127) (hb : -128 ≤ b ∧ b ≤ 127) (hf : ∀ i, 0 ≤ f i ∧ f i ≤ 255) (w : World) :
    Calls Tryd.prog 23 #[.agg (pic 144 a b f), .int .i64 p, .int .i64 q] w fun e w' => e = .returned (.tuple #[.agg (pic 144 (recA a b f p q).w (recA a b f p q).h (recA a b f p q).f), .int .i64 (recA a b f p q).c]) ∧ New w w' := by
  rcases rec_cases a b f p q with ⟨h1, h2, h3, hA⟩ | ⟨h1, h2, h3, hA⟩ | ⟨h1, h2, hA⟩ | ⟨h1, hA⟩
  rotate_left
  all_goals rw [hA]
  all_goals clear hA
  iterate 3
    · go_enter Tryd.func23, Tryd.ntmps23
      go_wp2_with (fail)
      refine (l01Ok_any _ 27 a b f ha hb hf _ (by go_simp)).mono ?_
      rintro e w1 ⟨rfl, rfl⟩
      go_wp2_with (go_at_call 55; refine (l01Colour_any _ _).mono ?_; rintro e w' ⟨rfl, rfl⟩)
      refine ret_cell_tmp agg27 rfl rfl (c := pic 144 0 0 fun _ => 0) (t := 27) (fr := (0, 0)) (by go_simp) size_pic rfl ⟨?_, ?_⟩
      · rfl
      · repeat' (first | exact New.refl _ | refine New.alloc ?_ _ | refine New.drew ?_ | refine New.drewN ?_ _ | refine New.setRow ?_ (by omega) _ | refine New.setCell ?_ (by first | omega | (simp; done) | (simp; omega)) _)
  have gd := okPic_dims h1
  have g2 := inB_t.1 h2
  have g3 := inB_t.1 h3
  have hok := hide h1
  go_enter Tryd.func23, Tryd.ntmps23
  go_wp2_with (fail)
  refine (l01Ok_any _ 27 a b f ha hb hf _ (by go_simp)).mono ?_
  rintro e w1 ⟨rfl, rfl⟩
  go_wp2_with (go_at_call 55; refine (l01Colour_any _ _).mono ?_; rintro e w' ⟨rfl, rfl⟩)
  clear h1 h2 h3
  go_loopw [8] (fun i wr => ∃ k : Nat, k ≤ 144 ∧ i = .int .i64 k ∧ Hid (obj wr (w.heap.size + 1) = some (.cells (pic 144 0 0 fun _ => 0) 27)) ∧ Hid (obj wr (w.heap.size) = some (.cells (pic 144 a b (fold (f) (rclT a b f p) (fun i => i) (fun _ => q) k)) 27)) ∧ New w wr ∧ w.heap.size + 2 ≤ wr.heap.size) (fun i _ => 144 - (intOf i).toNat)
  case atStart =>
    refine ⟨0, by omega, rfl, ?_, ?_, ?_, by simp⟩
    · show _ = _
      go_simp
    · show _ = _
      go_simp
      try rfl
    · repeat' (first | exact New.refl _ | refine New.alloc ?_ _ | refine New.drew ?_ | refine New.drewN ?_ _ | refine New.setRow ?_ (by omega) _ | refine New.setCell ?_ (by first | omega | (simp; done) | (simp; omega)) _)
  case round =>
    obtain ⟨k, hk, rfl, hz1, hq1, hn, hlw⟩ := hrel
    have hz := hz1.out
    have hq := hq1.out
    have k0 : w.heap.size < wr.heap.size := by omega
    have k1 : w.heap.size + 1 < wr.heap.size := by omega
    by_cases hlt : k < 144
    · cases hc : cellB k a b
      · have ht : rclT a b f p k = false := by simp [rclT, hc]
        go_wp2_with (fail)
        refine (l01Is_any _ 27 a b _ _ (by omega) (by omega) _ hq).mono ?_
        rintro e w1 ⟨rfl, rfl⟩
        go_wp2_with (fail)
        go_roundw
        case rel => exact ⟨k + 1, by omega, by go_num, hz1, by show _ = _; rw [hq]; simp [fold, ht], hn, hlw⟩
        case measure => simp [intOf]; omega
      · have hfr : fold f (rclT a b f p) (fun i => i) (fun _ => q) k k = f k := fold_fresh _ _ _ k k (Nat.le_refl _)
        have hfk := hf k
        by_cases he : f k = p
        · have ht : Hid (rclT a b f p k = true) := by show _ = _; simp [rclT, hc, he]
          have he1 : (f k == p) = true := by simp [he]
          clear he
          go_wp2_with (fail)
          refine (l01Is_any _ 27 a b _ _ (by omega) (by omega) _ hq).mono ?_
          rintro e w1 ⟨rfl, rfl⟩
          go_wp2_with (fail)
          go_roundw
          case rel =>
            refine ⟨k + 1, by omega, by go_num, ?_, ?_, ?_, ?_⟩
            · show _ = _
              rw [obj_setCell_other _ _ _ _ _ (by omega), hz]
            · show _ = _
              rw [obj_set_pic hq _ (k) _ (by omega)]
              simp only [fold, ht.out, if_true]
            · exact (hn.setCell (by show w.heap.size ≤ w.heap.size; omega) _)
            · simp only [World.size_setCell]; omega
          case measure => simp [intOf]; omega
        · have ht : Hid (rclT a b f p k = false) := by show _ = _; simp [rclT, hc, he]
          have he1 : (f k == p) = false := by simp [he]
          clear he
          go_wp2_with (fail)
          refine (l01Is_any _ 27 a b _ _ (by omega) (by omega) _ hq).mono ?_
          rintro e w1 ⟨rfl, rfl⟩
          go_wp2_with (fail)
          go_roundw
          case rel => exact ⟨k + 1, by omega, by go_num, hz1, by show _ = _; rw [hq]; simp [fold, ht.out], hn, hlw⟩
          case measure => simp [intOf]; omega
    · obtain rfl : k = 144 := by omega
      go_wp2_with (fail)
      refine ret_cell_tmp agg27 rfl rfl (c := pic 144 a b (fold f (rclT a b f p) (fun i => i) (fun _ => q) 144)) (t := 27) (fr := (0, 0)) (by go_simp) size_pic rfl ⟨?_, ?_⟩
      · rw [pic_congr (fun j hj => rec_end a b f p q hok.out j hj)]
        rfl
      · exact hn.setRow (by omega) _
def pasQ (x y : Int) : Bool := inB x (-12) 12 && inB y (-12) 12
def pasT (a b : Int) (g : Nat → Int) (x y : Int) (i : Nat) : Bool := decide (g i ≠ 0) && (inB ((i : Int) % 12 + x) 0 (a - 1) && inB ((i : Int) / 12 + y) 0 (b - 1))
def pasD (x y : Int) (i : Nat) : Nat := ((i : Int) % 12 + x + 12 * ((i : Int) / 12 + y)).toNat
def pasS (x y : Int) (j : Nat) : Nat := ((j : Int) % 12 - x + 12 * ((j : Int) / 12 - y)).toNat
def pasH (f : Nat → Int) (c d : Int) (g : Nat → Int) (x y : Int) (u v : Int) : Int := if isCellB (u - x) (v - y) c d = true ∧ g (u - x + 12 * (v - y)).toNat ≠ 0 then g (u - x + 12 * (v - y)).toNat else f (u + 12 * v).toNat
def pasA (a b : Int) (f : Nat → Int) (c d : Int) (g : Nat → Int) (x y : Int) : PicAns := if codeB (okPic a b f && okPic c d g) (pasQ x y) = 0 then ⟨0, a, b, paint a b (pasH f c d g x y)⟩ else noPic (codeB (okPic a b f && okPic c d g) (pasQ x y))
theorem pas_end (a b : Int) (f : Nat → Int) (c d : Int) (g : Nat → Int) (x y : Int) (h1 : okPic a b f = true) (h2 : okPic c d g = true) (hx : -12 ≤ x ∧ x ≤ 12) (hy : -12 ≤ y ∧ y ≤ 12) (j : Nat) (hj : j < 144) : fold f (pasT a b g x y) (pasD x y) g 144 j = paint a b (pasH f c d g x y) j := by
  have ga := okPic_dims h1
  have gc := okPic_dims h2
  rw [fold_at _ _ (pasD x y) (pasS x y) _ 144 (fun i hi ht => by
    unfold pasT at ht
    simp only [Bool.and_eq_true, decide_eq_true_iff] at ht
    have e1 := inB_t.1 ht.2.1
    have e2 := inB_t.1 ht.2.2
    unfold pasS pasD
    omega)]
  have hv := okPic_cell h1 j hj
  have e : ((j : Int) % 12 + 12 * ((j : Int) / 12)).toNat = j := by omega
  by_cases hc : pasS x y j < 144 ∧ pasT a b g x y (pasS x y j) = true ∧ pasD x y (pasS x y j) = j
  · rw [if_pos hc]
    obtain ⟨c1, c2, c3⟩ := hc
    have hgv := okPic_cell h2 (pasS x y j) c1
    unfold pasT at c2
    simp only [Bool.and_eq_true, decide_eq_true_iff] at c2
    have e1 := inB_t.1 c2.2.1
    have e2 := inB_t.1 c2.2.2
    have hin : inside c d (pasS x y j) := by
      rcases hgv.2 with h | h
      · exact h
      · exact absurd h c2.1
    unfold inside at hin
    have c4 := c3
    unfold pasD at c4
    have eu : (j : Int) % 12 = (pasS x y j : Int) % 12 + x := by omega
    have ev : (j : Int) / 12 = (pasS x y j : Int) / 12 + y := by omega
    have es : ((j : Int) % 12 - x + 12 * ((j : Int) / 12 - y)).toNat = pasS x y j := rfl
    have hin2 : inside a b j := by unfold inside; omega
    unfold paint pasH
    rw [if_pos hin2, es, if_pos]
    refine ⟨?_, c2.1⟩
    unfold isCellB
    rw [Bool.and_eq_true]
    exact ⟨inB_t.2 (by omega), inB_t.2 (by omega)⟩
  · rw [if_neg hc]
    unfold paint pasH
    by_cases hin : inside a b j
    · rw [if_pos hin, e, if_neg]
      rintro ⟨k1, k2⟩
      have k3 := isCellB_t k1
      unfold inside at hin
      refine hc ⟨by unfold pasS; omega, ?_, by unfold pasD pasS; omega⟩
      unfold pasT
      simp only [Bool.and_eq_true, decide_eq_true_iff]
      have e1 : ((pasS x y j : Nat) : Int) % 12 = (j : Int) % 12 - x := by unfold pasS; omega
      have e2 : ((pasS x y j : Nat) : Int) / 12 = (j : Int) / 12 - y := by unfold pasS; omega
      refine ⟨k2, inB_t.2 (by omega), inB_t.2 (by omega)⟩
    · rw [if_neg hin]
      rcases hv.2 with h | h
      · exact absurd h hin
      · exact h
theorem pas_cases (a b : Int) (f : Nat → Int) (c d : Int) (g : Nat → Int) (x y : Int) :
    (okPic a b f = true ∧ okPic c d g = true ∧ inB x (-12) 12 = true ∧ inB y (-12) 12 = true ∧ pasA a b f c d g x y = ⟨0, a, b, paint a b (pasH f c d g x y)⟩) ∨
    (okPic a b f = true ∧ okPic c d g = true ∧ inB x (-12) 12 = true ∧ inB y (-12) 12 = false ∧ pasA a b f c d g x y = noPic 2) ∨
    (okPic a b f = true ∧ okPic c d g = true ∧ inB x (-12) 12 = false ∧ pasA a b f c d g x y = noPic 2) ∨
    (okPic a b f = true ∧ okPic c d g = false ∧ pasA a b f c d g x y = noPic 1) ∨
    (okPic a b f = false ∧ pasA a b f c d g x y = noPic 1) := by
  unfold pasA pasQ
  cases okPic a b f <;> cases okPic c d g <;> cases inB x (-12) 12 <;> cases inB y (-12) 12 <;> simp [codeB]
set_option maxHeartbeats 2000000 in
set_option maxRecDepth 100000 in
theorem pas_spec (a b : Int) (f : Nat → Int) (c d : Int) (g : Nat → Int) (x y : Int) (ha : -128 ≤ a ∧ a ≤ 127) (hb : -128 ≤ b ∧ b ≤ 127) (hf : ∀ i, 0 ≤ f i ∧ f i ≤ 255) (hc : -128 ≤ c ∧ c ≤ 127) (hd : -128 ≤ d ∧ d ≤ 127) (hg : ∀ i, 0 ≤ g i ∧ g i ≤ 255) (w : World) :
    Calls Tryd.prog 24 #[.agg (pic 144 a b f), .agg (pic 144 c d g), .int .i64 x, .int .i64 y] w fun e w' => e = .returned (.tuple #[.agg (pic 144 (pasA a b f c d g x y).w (pasA a b f c d g x y).h (pasA a b f c d g x y).f), .int .i64 (pasA a b f c d g x y).c]) ∧ New w w' := by
  rcases pas_cases a b f c d g x y with ⟨h1, h2, h3, h4, hA⟩ | ⟨h1, h2, h3, h4, hA⟩ | ⟨h1, h2, h3, hA⟩ | ⟨h1, h2, hA⟩ | ⟨h1, hA⟩
  rotate_left
  all_goals rw [hA]
  all_goals clear hA
  iterate 4
    · go_enter Tryd.func24, Tryd.ntmps24
      go_wp2_with (fail)
      refine (l01Ok_any _ 27 a b f ha hb hf _ (by go_simp)).mono ?_
      rintro e w1 ⟨rfl, rfl⟩
      go_wp2_with (first | (go_at_call 37; refine (l01Ok_any _ 27 c d g hc hd hg _ (by go_simp)).mono ?_; rintro e w' ⟨rfl, rfl⟩) | (go_at_call 50; refine (l00In_any _ _ _ _).mono ?_; rintro e w' ⟨rfl, rfl⟩))
      refine ret_cell_tmp agg27 rfl rfl (c := pic 144 0 0 fun _ => 0) (t := 27) (fr := (0, 0)) (by go_simp) size_pic rfl ⟨?_, ?_⟩
      · rfl
      · repeat' (first | exact New.refl _ | refine New.alloc ?_ _ | refine New.drew ?_ | refine New.drewN ?_ _ | refine New.setRow ?_ (by omega) _ | refine New.setCell ?_ (by first | omega | (simp; done) | (simp; omega)) _)
  have gd := okPic_dims h1
  have ge := okPic_dims h2
  have g3 := inB_t.1 h3
  have g4 := inB_t.1 h4
  have hok := hide h1
  have hok2 := hide h2
  go_enter Tryd.func24, Tryd.ntmps24
  go_wp2_with (fail)
  refine (l01Ok_any _ 27 a b f ha hb hf _ (by go_simp)).mono ?_
  rintro e w1 ⟨rfl, rfl⟩
  go_wp2_with (first | (go_at_call 37; refine (l01Ok_any _ 27 c d g hc hd hg _ (by go_simp)).mono ?_; rintro e w' ⟨rfl, rfl⟩) | (go_at_call 50; refine (l00In_any _ _ _ _).mono ?_; rintro e w' ⟨rfl, rfl⟩))
  clear h1 h2 h3 h4
  go_loopw [10, 11, 12] (fun i _ _ wr => ∃ k : Nat, k ≤ 144 ∧ i = .int .i64 k ∧ Hid (obj wr (w.heap.size + 1) = some (.cells (pic 144 c d g) 27)) ∧ Hid (obj wr (w.heap.size + 1 + 1) = some (.cells (pic 144 0 0 fun _ => 0) 27)) ∧ Hid (obj wr (w.heap.size) = some (.cells (pic 144 a b (fold (f) (pasT a b g x y) (pasD x y) (g) k)) 27)) ∧ New w wr ∧ w.heap.size + 3 ≤ wr.heap.size) (fun i _ _ _ => 144 - (intOf i).toNat)
  case atStart =>
    refine ⟨0, by omega, rfl, ?_, ?_, ?_, ?_, by simp⟩
    · show _ = _
      go_simp
    · show _ = _
      go_simp
    · show _ = _
      go_simp
      try rfl
    · repeat' (first | exact New.refl _ | refine New.alloc ?_ _ | refine New.drew ?_ | refine New.drewN ?_ _ | refine New.setRow ?_ (by omega) _ | refine New.setCell ?_ (by first | omega | (simp; done) | (simp; omega)) _)
  case round =>
    obtain ⟨k, hk, rfl, hp1, hz1, hq1, hn, hlw⟩ := hrel
    have hp := hp1.out
    have hz := hz1.out
    have hq := hq1.out
    have k0 : w.heap.size < wr.heap.size := by omega
    have k1 : w.heap.size + 1 < wr.heap.size := by omega
    have k2 : w.heap.size + 2 < wr.heap.size := by omega
    by_cases hlt : k < 144
    · have hgk := hg k
      by_cases he : g k = 0
      · have ht : pasT a b g x y k = false := by simp [pasT, he]
        have he1 : (g k != 0) = false := by simp [he]
        clear he
        go_wp2_with (go_at_call 50; refine (l00In_any _ _ _ _).mono ?_; rintro e w' ⟨rfl, rfl⟩)
        go_roundw
        case rel => exact ⟨k + 1, by omega, by go_num, hp1, hz1, by show _ = _; rw [hq]; simp [fold, ht], hn, hlw⟩
        case measure => simp [intOf]; omega
      have he1 : (g k != 0) = true := by simp [he]
      cases c1 : inB ((k : Int) % 12 + x) 0 (a - 1)
      · have ht : pasT a b g x y k = false := by simp [pasT, c1]
        clear he
        go_wp2_with (go_at_call 50; refine (l00In_any _ _ _ _).mono ?_; rintro e w' ⟨rfl, rfl⟩)
        go_roundw
        case rel => exact ⟨k + 1, by omega, by go_num, hp1, hz1, by show _ = _; rw [hq]; simp [fold, ht], hn, hlw⟩
        case measure => simp [intOf]; omega
      cases c2 : inB ((k : Int) / 12 + y) 0 (b - 1)
      · have ht : pasT a b g x y k = false := by simp [pasT, c2]
        clear he
        go_wp2_with (go_at_call 50; refine (l00In_any _ _ _ _).mono ?_; rintro e w' ⟨rfl, rfl⟩)
        go_roundw
        case rel => exact ⟨k + 1, by omega, by go_num, hp1, hz1, by show _ = _; rw [hq]; simp [fold, ht], hn, hlw⟩
        case measure => simp [intOf]; omega
      have ht : Hid (pasT a b g x y k = true) := by show _ = _; simp [pasT, he, c1, c2]
      have b1 := inB_t.1 c1
      have b2 := inB_t.1 c2
      have q1 : 0 ≤ (k : Int) % 12 + x + 12 * ((k : Int) / 12 + y) := by omega
      have q2 : (k : Int) % 12 + x + 12 * ((k : Int) / 12 + y) < 144 := by omega
      have q3 : ((k : Int) % 12 + x + 12 * ((k : Int) / 12 + y)).toNat < 144 := by omega
      clear he
      go_wp2_with (go_at_call 50; refine (l00In_any _ _ _ _).mono ?_; rintro e w' ⟨rfl, rfl⟩)
      go_roundw
      case rel =>
        refine ⟨k + 1, by omega, by go_num, ?_, ?_, ?_, ?_, ?_⟩
        · show _ = _
          rw [obj_setCell_other _ _ _ _ _ (by omega), hp]
        · show _ = _
          rw [obj_setCell_other _ _ _ _ _ (by omega), hz]
        · show _ = _
          rw [obj_set_pic hq _ (pasD x y k) _ (by unfold pasD; omega)]
          simp only [fold, ht.out, if_true]
        · exact (hn.setCell (by show w.heap.size ≤ w.heap.size; omega) _)
        · simp only [World.size_setCell]; omega
      case measure => simp [intOf]; omega
    · obtain rfl : k = 144 := by omega
      go_wp2_with (fail)
      refine ret_cell_tmp agg27 rfl rfl (c := pic 144 a b (fold f (pasT a b g x y) (pasD x y) g 144)) (t := 27) (fr := (0, 0)) (by go_simp) size_pic rfl ⟨?_, ?_⟩
      · rw [pic_congr (fun j hj => pas_end a b f c d g x y hok.out hok2.out g3 g4 j hj)]
        rfl
      · exact hn.setRow (by omega) _
end Go.Proofs.YtomfjicjejoakaaDoor
/- The reference's bordered pictures; no condition. -/
set_option linter.unusedVariables false
namespace Go.Proofs.YtomfjicjejoakaaDoor
open Go.BigFrame
open Go.RowKit Go.Arr
def borH (a b : Int) (f : Nat → Int) (c : Int) (x y : Int) : Int := if isCellB (x - 1) (y - 1) a b = true then f (x - 1 + 12 * (y - 1)).toNat else c
def borV (a b : Int) (f : Nat → Int) (c : Int) (i : Nat) : Int := borH a b f c ((i : Int) % 12) ((i : Int) / 12)
def borA (a b : Int) (f : Nat → Int) (c : Int) : PicAns := if codeB (okPic a b f) (inB c 0 15) = 0 then (if isSizeB (a + 2) (b + 2) = true then ⟨0, a + 2, b + 2, paint (a + 2) (b + 2) (borH a b f c)⟩ else noPic 3) else noPic (codeB (okPic a b f) (inB c 0 15))
theorem bor_cases (a b : Int) (f : Nat → Int) (c : Int) :
    (okPic a b f = true ∧ inB c 0 15 = true ∧ isSizeB (a + 2) (b + 2) = true ∧ borA a b f c = ⟨0, a + 2, b + 2, paint (a + 2) (b + 2) (borH a b f c)⟩) ∨
    (okPic a b f = true ∧ inB c 0 15 = true ∧ isSizeB (a + 2) (b + 2) = false ∧ borA a b f c = noPic 3) ∨
    (okPic a b f = true ∧ inB c 0 15 = false ∧ borA a b f c = noPic 2) ∨
    (okPic a b f = false ∧ borA a b f c = noPic 1) := by
  unfold borA
  cases okPic a b f <;> cases inB c 0 15 <;> cases isSizeB (a + 2) (b + 2) <;> simp [codeB]
theorem upd_upd (f : Nat → Int) (i : Nat) (u v : Int) : upd (upd f i u) i v = upd f i v := by
  funext j
  unfold upd
  by_cases h : j = i
  · rw [if_pos h, if_pos h]
  · rw [if_neg h, if_neg h, if_neg h]
theorem isSizeB_t {a b : Int} (h : isSizeB a b = true) : (1 ≤ a ∧ a ≤ 12) ∧ (1 ≤ b ∧ b ≤ 12) := by
  unfold isSizeB at h
  rw [Bool.and_eq_true] at h
  exact ⟨inB_t.1 h.1, inB_t.1 h.2⟩
theorem isSizeB_f {a b : Int} (ha : 1 ≤ a) (hb : 1 ≤ b) (h : isSizeB a b = false) : 12 < a ∨ 12 < b := by
  unfold isSizeB at h
  rw [Bool.and_eq_false_iff] at h
  rcases h with h | h
  · have := inB_f.1 h; omega
  · have := inB_f.1 h; omega
set_option maxHeartbeats 2000000 in
set_option maxRecDepth 100000 in
theorem bor_spec (a b : Int) (f : Nat → Int) (c : Int) (ha : -128 ≤ a ∧ a ≤ 127) (hb : -128 ≤ b ∧ b ≤ 127) (hf : ∀ i, 0 ≤ f i ∧ f i ≤ 255) (w : World) :
    Calls Tryd.prog 26 #[.agg (pic 144 a b f), .int .i64 c] w fun e w' => e = .returned (.tuple #[.agg (pic 144 (borA a b f c).w (borA a b f c).h (borA a b f c).f), .int .i64 (borA a b f c).c]) ∧ New w w' := by
  rcases bor_cases a b f c with ⟨h1, h2, h3, hA⟩ | ⟨h1, h2, h3, hA⟩ | ⟨h1, h2, hA⟩ | ⟨h1, hA⟩
  rotate_left
  all_goals rw [hA]
  all_goals clear hA
  · have gd := okPic_dims h1
    have g3 := isSizeB_f (by omega) (by omega) h3
    by_cases g4 : 10 < a
    · go_enter Tryd.func26, Tryd.ntmps26
      go_wp2_with (fail)
      refine (l01Ok_any _ 27 a b f ha hb hf _ (by go_simp)).mono ?_
      rintro e w1 ⟨rfl, rfl⟩
      go_wp2_with (go_at_call 55; refine (l01Colour_any _ _).mono ?_; rintro e w' ⟨rfl, rfl⟩)
      refine ret_cell_tmp agg27 rfl rfl (c := pic 144 0 0 fun _ => 0) (t := 27) (fr := (0, 0)) (by go_simp) size_pic rfl ⟨?_, ?_⟩
      · rfl
      · repeat' (first | exact New.refl _ | refine New.alloc ?_ _ | refine New.drew ?_ | refine New.drewN ?_ _ | refine New.setRow ?_ (by omega) _ | refine New.setCell ?_ (by first | omega | (simp; done) | (simp; omega)) _)
    · have g5 : 10 < b := by omega
      go_enter Tryd.func26, Tryd.ntmps26
      go_wp2_with (fail)
      refine (l01Ok_any _ 27 a b f ha hb hf _ (by go_simp)).mono ?_
      rintro e w1 ⟨rfl, rfl⟩
      go_wp2_with (go_at_call 55; refine (l01Colour_any _ _).mono ?_; rintro e w' ⟨rfl, rfl⟩)
      refine ret_cell_tmp agg27 rfl rfl (c := pic 144 0 0 fun _ => 0) (t := 27) (fr := (0, 0)) (by go_simp) size_pic rfl ⟨?_, ?_⟩
      · rfl
      · repeat' (first | exact New.refl _ | refine New.alloc ?_ _ | refine New.drew ?_ | refine New.drewN ?_ _ | refine New.setRow ?_ (by omega) _ | refine New.setCell ?_ (by first | omega | (simp; done) | (simp; omega)) _)
  iterate 2
    · go_enter Tryd.func26, Tryd.ntmps26
      go_wp2_with (fail)
      refine (l01Ok_any _ 27 a b f ha hb hf _ (by go_simp)).mono ?_
      rintro e w1 ⟨rfl, rfl⟩
      go_wp2_with (go_at_call 55; refine (l01Colour_any _ _).mono ?_; rintro e w' ⟨rfl, rfl⟩)
      refine ret_cell_tmp agg27 rfl rfl (c := pic 144 0 0 fun _ => 0) (t := 27) (fr := (0, 0)) (by go_simp) size_pic rfl ⟨?_, ?_⟩
      · rfl
      · repeat' (first | exact New.refl _ | refine New.alloc ?_ _ | refine New.drew ?_ | refine New.drewN ?_ _ | refine New.setRow ?_ (by omega) _ | refine New.setCell ?_ (by first | omega | (simp; done) | (simp; omega)) _)
  have gd := okPic_dims h1
  have g2 := inB_t.1 h2
  have g3 := isSizeB_t h3
  go_enter Tryd.func26, Tryd.ntmps26
  go_wp2_with (fail)
  refine (l01Ok_any _ 27 a b f ha hb hf _ (by go_simp)).mono ?_
  rintro e w1 ⟨rfl, rfl⟩
  go_wp2_with (go_at_call 55; refine (l01Colour_any _ _).mono ?_; rintro e w' ⟨rfl, rfl⟩)
  clear h1 h2 h3
  go_loopw [7, 8, 9] (fun i _ _ wr => ∃ k : Nat, k ≤ 144 ∧ i = .int .i64 k ∧ Hid (obj wr w.heap.size = some (.cells (pic 144 a b f) 27)) ∧ Hid (obj wr (w.heap.size + 1) = some (.cells (pic 144 0 0 fun _ => 0) 27)) ∧ Hid (obj wr (w.heap.size + 1 + 1) = some (.cells (pic 144 (a + 2) (b + 2) (fold (fun _ => 0) (fun i => cellB i (a + 2) (b + 2)) (fun i => i) (borV a b f c) k)) 27)) ∧ New w wr ∧ w.heap.size + 3 ≤ wr.heap.size) (fun i _ _ _ => 144 - (intOf i).toNat)
  case atStart =>
    refine ⟨0, by omega, rfl, ?_, ?_, ?_, ?_, by simp⟩
    · show _ = _
      go_simp
    · show _ = _
      go_simp
    · show _ = _
      go_simp
      try rfl
    · repeat' (first | exact New.refl _ | refine New.alloc ?_ _ | refine New.drew ?_ | refine New.drewN ?_ _ | refine New.setRow ?_ (by omega) _ | refine New.setCell ?_ (by first | omega | (simp; done) | (simp; omega)) _)
  case round =>
    obtain ⟨k, hk, rfl, hp1, hz1, hq1, hn, hlw⟩ := hrel
    have hp := hp1.out
    have hz := hz1.out
    have hq := hq1.out
    have k0 : w.heap.size < wr.heap.size := by omega
    have k1 : w.heap.size + 1 < wr.heap.size := by omega
    have k2 : w.heap.size + 2 < wr.heap.size := by omega
    by_cases hlt : k < 144
    · cases hc : cellB k (a + 2) (b + 2)
      · go_wp2_with (fail)
        refine (l01Is_any _ 27 (a + 2) (b + 2) _ _ (by omega) (by omega) _ hq).mono ?_
        rintro e w1 ⟨rfl, rfl⟩
        go_wp2_with (fail)
        go_roundw
        case rel => exact ⟨k + 1, by omega, by go_num, hp1, hz1, by show _ = _; rw [hq]; simp [fold, hc], hn, hlw⟩
        case measure => simp [intOf]; omega
      have hin : Hid (inside (a + 2) (b + 2) k) := (cellB_t hlt).1 hc
      have z1 : w.heap.size ≠ w.heap.size + 1 + 1 := by omega
      have z2 : (w.heap.size = w.heap.size + 1 + 1) = False := by simp; omega
      cases c1 : inB ((k : Int) % 12 - 1) 0 (a - 1)
      · have hv : Hid (borV a b f c k = c) := by show _ = _; unfold borV borH isCellB; rw [c1]; rfl
        go_wp2_with (fail)
        refine (l01Is_any _ 27 (a + 2) (b + 2) _ _ (by omega) (by omega) _ hq).mono ?_
        rintro e w1 ⟨rfl, rfl⟩
        go_wp2_with (go_at_call 50; refine (l00In_any _ _ _ _).mono ?_; rintro e w' ⟨rfl, rfl⟩)
        go_roundw
        case rel =>
          refine ⟨k + 1, by omega, by go_num, ?_, ?_, ?_, ?_, ?_⟩
          · show _ = _
            rw [obj_setCell_other _ _ _ _ _ (by omega), hp]
          · show _ = _
            rw [obj_setCell_other _ _ _ _ _ (by omega), hz]
          · show _ = _
            rw [obj_set_pic hq _ (k) _ (by omega)]
            simp only [fold, hc, if_true, hv.out]
          · exact (hn.setCell (by show w.heap.size ≤ w.heap.size + 1 + 1; omega) _)
          · simp only [World.size_setCell]; omega
        case measure => simp [intOf]; omega
      cases c2 : inB ((k : Int) / 12 - 1) 0 (b - 1)
      · have hv : Hid (borV a b f c k = c) := by show _ = _; unfold borV borH isCellB; rw [c1, c2]; rfl
        go_wp2_with (fail)
        refine (l01Is_any _ 27 (a + 2) (b + 2) _ _ (by omega) (by omega) _ hq).mono ?_
        rintro e w1 ⟨rfl, rfl⟩
        go_wp2_with (go_at_call 50; refine (l00In_any _ _ _ _).mono ?_; rintro e w' ⟨rfl, rfl⟩)
        go_roundw
        case rel =>
          refine ⟨k + 1, by omega, by go_num, ?_, ?_, ?_, ?_, ?_⟩
          · show _ = _
            rw [obj_setCell_other _ _ _ _ _ (by omega), hp]
          · show _ = _
            rw [obj_setCell_other _ _ _ _ _ (by omega), hz]
          · show _ = _
            rw [obj_set_pic hq _ (k) _ (by omega)]
            simp only [fold, hc, if_true, hv.out]
          · exact (hn.setCell (by show w.heap.size ≤ w.heap.size + 1 + 1; omega) _)
          · simp only [World.size_setCell]; omega
        case measure => simp [intOf]; omega
      have b1 := inB_t.1 c1
      have b2 := inB_t.1 c2
      have hv : Hid (borV a b f c k = f ((k : Int) % 12 - 1 + 12 * ((k : Int) / 12 - 1)).toNat) := by show _ = _; unfold borV borH isCellB; rw [c1, c2]; rfl
      have q1 : 0 ≤ (k : Int) % 12 - 1 + 12 * ((k : Int) / 12 - 1) := by omega
      have q2 : (k : Int) % 12 - 1 + 12 * ((k : Int) / 12 - 1) < 144 := by omega
      have q3 : ((k : Int) % 12 - 1 + 12 * ((k : Int) / 12 - 1)).toNat < 144 := by omega
      go_wp2_with (fail)
      refine (l01Is_any _ 27 (a + 2) (b + 2) _ _ (by omega) (by omega) _ hq).mono ?_
      rintro e w1 ⟨rfl, rfl⟩
      go_wp2_with (go_at_call 50; refine (l00In_any _ _ _ _).mono ?_; rintro e w' ⟨rfl, rfl⟩)
      go_roundw
      case rel =>
        refine ⟨k + 1, by omega, by go_num, ?_, ?_, ?_, ?_, ?_⟩
        · show _ = _
          rw [obj_setCell_other _ _ _ _ _ (by omega), obj_setCell_other _ _ _ _ _ (by omega), hp]
        · show _ = _
          rw [obj_setCell_other _ _ _ _ _ (by omega), obj_setCell_other _ _ _ _ _ (by omega), hz]
        · show _ = _
          rw [obj_set_pic (obj_set_pic hq _ (k) _ (by omega)) _ (k) _ (by omega)]
          have e9 : (k % 12 - 1 + 12 * (k / 12 - 1)) = ((k : Int) % 12 - 1 + 12 * ((k : Int) / 12 - 1)).toNat := by omega
          simp only [upd_upd, fold, hc, if_true, hv.out, e9]
        · exact ((hn.setCell (by show w.heap.size ≤ w.heap.size + 1 + 1; omega) _).setCell (by show w.heap.size ≤ w.heap.size + 1 + 1; omega) _)
        · simp only [World.size_setCell]; omega
      case measure => simp [intOf]; omega
    · obtain rfl : k = 144 := by omega
      go_wp2_with (fail)
      refine ret_cell_tmp agg27 rfl rfl (c := pic 144 (a + 2) (b + 2) (fold (fun _ => 0) (fun i => cellB i (a + 2) (b + 2)) (fun i => i) (borV a b f c) 144)) (t := 27) (fr := (0, 0)) (by go_simp) size_pic rfl ⟨?_, ?_⟩
      · rw [pic_congr (fun j hj => id_end (a + 2) (b + 2) (by omega) (by omega) (borH a b f c) (borV a b f c) (fun i hi hin => rfl) j hj)]
        rfl
      · exact hn.setRow (by omega) _
end Go.Proofs.YtomfjicjejoakaaDoor
/- A picture is equal to itself; no condition. -/
set_option linter.unusedVariables false
namespace Go.Proofs.YtomfjicjejoakaaDoor
open Go.BigFrame
open Go.RowKit Go.Arr
end Go.Proofs.YtomfjicjejoakaaDoor
/- How many cells have each colour; no condition. -/
set_option linter.unusedVariables false
namespace Go.Proofs.YtomfjicjejoakaaDoor
open Go.BigFrame
open Go.RowKit Go.Arr
def cntU (T : Nat → Bool) (v : Nat → Nat) : Nat → Nat → Int
  | 0 => fun _ => 0
  | k + 1 => if T k = true then upd (cntU T v k) (v k) (cntU T v k (v k) + 1) else cntU T v k
theorem cntU_le (T : Nat → Bool) (v : Nat → Nat) (k j : Nat) : 0 ≤ cntU T v k j ∧ cntU T v k j ≤ k := by
  induction k generalizing j with
  | zero => unfold cntU; omega
  | succ k ih =>
    unfold cntU
    by_cases h : T k = true
    · rw [if_pos h]
      unfold upd
      have h1 := ih j
      have h2 := ih (v k)
      by_cases e : j = v k
      · rw [if_pos e]; omega
      · rw [if_neg e]; omega
    · rw [if_neg h]
      have h1 := ih j
      omega
theorem cntU_skip (T : Nat → Bool) (v : Nat → Nat) (k m : Nat) (h : ∀ i, k ≤ i → i < k + m → T i = false) : cntU T v (k + m) = cntU T v k := by
  induction m with
  | zero => rfl
  | succ m ih =>
    show cntU T v (k + m + 1) = _
    rw [cntU, if_neg (by rw [h (k + m) (by omega) (by omega)]; simp), ih (fun i h1 h2 => h i h1 (by omega))]
def cntF (a b : Int) (f : Nat → Int) : Nat → Nat → Int := cntU (fun i => cellB i a b) (fun i => (f i).toNat)
theorem cellB_iff {a b : Int} {x y : Nat} (hx : x < 12) (hxy : x + 12 * y < 144) : cellB (x + 12 * y : Nat) a b = true ↔ (x : Int) < a ∧ (y : Int) < b := by
  rw [cellB_t hxy]
  unfold inside
  omega
theorem cntF_step {a b : Int} {f : Nat → Int} {x y : Nat} (ha : a ≤ 12) (hb : b ≤ 12) (hx : (x : Int) < a) (hy : (y : Int) < b) : cntF a b f (x + 1 + 12 * y) = upd (cntF a b f (x + 12 * y)) (f (x + 12 * y)).toNat (cntF a b f (x + 12 * y) (f (x + 12 * y)).toNat + 1) := by
  have e : x + 1 + 12 * y = (x + 12 * y) + 1 := by omega
  rw [e]
  show cntU _ _ (x + 12 * y + 1) = _
  rw [cntU, if_pos ((cellB_iff (by omega) (by omega)).2 ⟨hx, hy⟩)]
  rfl
theorem cntF_row {a b : Int} {f : Nat → Int} {x y : Nat} (ha : 0 ≤ a ∧ a ≤ 12) (hb : b ≤ 12) (hx : (x : Int) = a) (hy : (y : Int) < b) : cntF a b f (0 + 12 * (y + 1)) = cntF a b f (x + 12 * y) := by
  have e : 0 + 12 * (y + 1) = (x + 12 * y) + (12 - x) := by omega
  rw [e]
  refine cntU_skip _ _ _ _ fun i h1 h2 => ?_
  have e2 : i = (i - 12 * y) + 12 * y := by omega
  cases hc : cellB (i : Nat) a b with
  | false => rfl
  | true =>
    have hc2 : cellB ((i - 12 * y) + 12 * y : Nat) a b = true := by rw [← e2]; exact hc
    have := (cellB_iff (x := i - 12 * y) (y := y) (a := a) (b := b) (by omega) (by omega)).1 hc2
    omega
theorem cntF_all {a b : Int} {f : Nat → Int} {y : Nat} (ha : a ≤ 12) (hb : 0 ≤ b ∧ b ≤ 12) (hy : (y : Int) = b) : cntF a b f 144 = cntF a b f (0 + 12 * y) := by
  have e : 144 = (0 + 12 * y) + (144 - 12 * y) := by omega
  conv => lhs; rw [e]
  refine cntU_skip _ _ _ _ fun i h1 h2 => ?_
  cases hc : cellB (i : Nat) a b with
  | false => rfl
  | true =>
    have hi := (cellB_t (by omega)).1 hc
    unfold inside at hi
    omega
def cntA (a b : Int) (f : Nat → Int) : Value := if okPic a b f = true then .tuple #[.agg (arr 16 .i64 (cntF a b f 144)), .int .i64 0] else .tuple #[.agg (arr 16 .i64 fun _ => 0), .int .i64 1]
end Go.Proofs.YtomfjicjejoakaaDoor
