/- The places in which two pictures differ: what the reference and the program return; no condition. -/
import Derived.Test.YtmmckoemkpfgbaaSlI
import Derived.Test.YtmmckoemkpfgbaaWithCol
set_option linter.unusedVariables false
namespace Go.Proofs.Ytmmckoemkpfgbaa
open Go.BigFrame
open Go.RowKit Go.Arr
def difN (f g : Nat → Int) : Nat → Nat
  | 0 => 0
  | k + 1 => if f k = g k then difN f g k else difN f g k + 1
def difF (f g : Nat → Int) : Nat → Nat → Int
  | 0 => fun _ => 0
  | k + 1 => if f k = g k then difF f g k else upd (difF f g k) (difN f g k) k
theorem difN_le (f g : Nat → Int) (k : Nat) : difN f g k ≤ k := by
  induction k with
  | zero => simp [difN]
  | succ k ih => unfold difN; split <;> omega
def difC (a b : Int) (f : Nat → Int) (c d : Int) (g : Nat → Int) : Int := if okPic a b f = true ∧ okPic c d g = true then (if a = c ∧ b = d then 0 else 4) else 1
def difM (a b : Int) (f : Nat → Int) (c d : Int) (g : Nat → Int) : Nat := if difC a b f c d g = 0 then difN f g 144 else 0
theorem difM_le (a b : Int) (f : Nat → Int) (c d : Int) (g : Nat → Int) : difM a b f c d g ≤ 144 := by
  have := difN_le f g 144
  unfold difM
  split <;> omega
theorem row_app {w' : World} {base n g cap : Nat} {f : Nat → Int} {x : Int} (h : w'.ownsRow base 2 1 (.slice (some ⟨g, 0, none⟩) (n + 1) cap) (n + 1) (irow n .i64 f ++ [.int .i64 x])) : Row w' base (.slice (some ⟨g, 0, none⟩) (n + 1) cap) (n + 1) (upd f n x) := by
  unfold Row
  rw [← irow_snoc]
  exact h
theorem row_empty {W : World} {base g : Nat} {f : Nat → Int} (h : obj W g = some (.cells #[] 2)) (hb : base ≤ g) : Row W base (.slice (some ⟨g, 0, none⟩) 0 0) 0 f :=
  Row.of h hb (Nat.le_refl _) (by unfold maxLen; omega) rfl fun j hj => absurd hj (by omega)
theorem bne_f {x y : Int} (h : x = y) : (x != y) = false := by subst h; simp
theorem bne_t {x y : Int} (h : ¬ x = y) : (x != y) = true := by simp [h]
set_option maxHeartbeats 2000000 in
set_option maxRecDepth 100000 in
theorem dif_spec (a b : Int) (f : Nat → Int) (c d : Int) (g : Nat → Int) (ha : -128 ≤ a ∧ a ≤ 127) (hb : -128 ≤ b ∧ b ≤ 127) (hf : ∀ i, 0 ≤ f i ∧ f i ≤ 255) (hc : -128 ≤ c ∧ c ≤ 127) (hd : -128 ≤ d ∧ d ≤ 127) (hg : ∀ i, 0 ≤ g i ∧ g i ≤ 255) (w : World) :
    Calls Try.prog 18 #[.agg (pic 144 a b f), .agg (pic 144 c d g)] w fun e w' => ∃ v, e = .returned (.tuple #[v, .int .i64 (difC a b f c d g)]) ∧ Row w' w.heap.size v (difM a b f c d g) (difF f g 144) ∧ New w w' := by
  cases h1 : okPic a b f
  · have hC : difC a b f c d g = 1 := by unfold difC; rw [if_neg (by simp [h1])]
    have hM : difM a b f c d g = 0 := by unfold difM; rw [hC, if_neg (by omega)]
    rw [hC, hM]
    clear hC hM
    go_enter Try.func18, Try.ntmps18
    go_wp2_with (go_at_call 27; refine (l01Ok_any _ 27 a b f ha hb hf _ (by go_simp)).mono ?_; rintro e w1 ⟨rfl, rfl⟩)
    go_ret2
    refine ⟨_, rfl, row_empty (by go_simp) (by omega), ?_⟩
    repeat' (first | exact New.refl _ | refine New.alloc ?_ _ | refine New.drew ?_ | refine New.drewN ?_ _ | refine New.setRow ?_ (by omega) _ | refine New.setCell ?_ (by first | omega | (simp; done) | (simp; omega)) _)
  cases h2 : okPic c d g
  · have hC : difC a b f c d g = 1 := by unfold difC; rw [if_neg (by simp [h2])]
    have hM : difM a b f c d g = 0 := by unfold difM; rw [hC, if_neg (by omega)]
    rw [hC, hM]
    clear hC hM
    go_enter Try.func18, Try.ntmps18
    go_wp2_with (fail)
    refine (l01Ok_any _ 27 a b f ha hb hf _ (by go_simp)).mono ?_
    rintro e w1 ⟨rfl, rfl⟩
    go_wp2_with (fail)
    refine (l01Ok_any _ 27 c d g hc hd hg _ (by go_simp)).mono ?_
    rintro e w1 ⟨rfl, rfl⟩
    go_wp2_with (fail)
    go_ret2
    refine ⟨_, rfl, row_empty (by go_simp) (by omega), ?_⟩
    repeat' (first | exact New.refl _ | refine New.alloc ?_ _ | refine New.drew ?_ | refine New.drewN ?_ _ | refine New.setRow ?_ (by omega) _ | refine New.setCell ?_ (by first | omega | (simp; done) | (simp; omega)) _)
  by_cases h3 : a = c ∧ b = d
  · obtain ⟨rfl, rfl⟩ := h3
    have hC : difC a b f a b g = 0 := by unfold difC; rw [if_pos ⟨h1, h2⟩, if_pos ⟨rfl, rfl⟩]
    have hM : difM a b f a b g = difN f g 144 := by unfold difM; rw [hC, if_pos rfl]
    rw [hC, hM]
    clear hC hM
    go_enter Try.func18, Try.ntmps18
    go_wp2_with (fail)
    refine (l01Ok_any _ 27 a b f ha hb hf _ (by go_simp)).mono ?_
    rintro e w1 ⟨rfl, rfl⟩
    go_wp2_with (fail)
    refine (l01Ok_any _ 27 a b g hc hd hg _ (by go_simp)).mono ?_
    rintro e w1 ⟨rfl, rfl⟩
    go_wp2_with (fail)
    clear h1 h2
    go_loopw [6, 7] (fun v i wr => ∃ k : Nat, k ≤ 144 ∧ i = .int .i64 k ∧ Row wr (w.heap.size + 2) v (difN f g k) (difF f g k) ∧ Hid (obj wr w.heap.size = some (.cells (pic 144 a b f) 27)) ∧ Hid (obj wr (w.heap.size + 1) = some (.cells (pic 144 a b g) 27)) ∧ New w wr ∧ w.heap.size + 2 ≤ wr.heap.size) (fun _ i _ => 144 - (intOf i).toNat)
    case atStart =>
      refine ⟨0, by omega, rfl, row_empty (by go_simp) (by omega), ?_, ?_, ?_, by simp⟩
      · show _ = _
        go_simp
      · show _ = _
        go_simp
      · repeat' (first | exact New.refl _ | refine New.alloc ?_ _ | refine New.drew ?_ | refine New.drewN ?_ _ | refine New.setRow ?_ (by omega) _ | refine New.setCell ?_ (by first | omega | (simp; done) | (simp; omega)) _)
    case round =>
      obtain ⟨k, hk, rfl, hrow, hp1, hq1, hn, hlw⟩ := hrel
      have hp := hp1.out
      have hq := hq1.out
      by_cases hlt : k < 144
      · by_cases he : f k = g k
        · have hne := bne_f he
          have e1 : Hid (difN f g (k + 1) = difN f g k) := by show _ = _; rw [difN, if_pos he]
          have e2 : Hid (difF f g (k + 1) = difF f g k) := by show _ = _; rw [difF, if_pos he]
          clear he
          go_wp2_with (fail)
          go_quiet (fail)
          go_wp2_with (fail)
          go_roundw
          case rel => exact ⟨k + 1, by omega, by go_num, by rw [e1.out, e2.out]; exact hrow.new ((New.refl _).drewN _), hp1, hq1, hn.drewN _, hlw⟩
          case measure => simp [intOf]; omega
        · have hne := bne_t he
          have e1 : Hid (difN f g (k + 1) = difN f g k + 1) := by show _ = _; rw [difN, if_neg he]
          have e2 : Hid (difF f g (k + 1) = upd (difF f g k) (difN f g k) k) := by show _ = _; rw [difF, if_neg he]
          have hle := difN_le f g k
          clear he
          go_wp2_with (fail)
          go_quiet (fail)
          go_wp2_with (at_builtin; refine wpList_app slInts rfl _ _ rfl (w.heap.size + 2) _ _ _ rfl ((hrow.new ((New.refl _).drewN _)).alloc _) ⟨wr.heap.size, 0, none⟩ 1 1 [.int .i64 k] rfl rfl (news_new _ _ _ _ _ rfl) (by simp [Value.oneCell']) (by omega) (by unfold maxLen; omega) (by omega) (by simp; omega) ?_)
          intro g1 cap1 w1 hown1 hg1 hat1 hlt1
          have hbk := hrow.block
          have hne1 : ∀ b, b < w.heap.size + 2 → some b ≠ u6.ownBlock := fun b hb e => by have := hbk b e.symm; omega
          have hn1 : New w w1 := grown_new ((hn.drewN _).alloc _) hg1 fun b hb => by have := hbk b hb; omega
          have hp' := hide ((grown_obj hg1 _ (by simp; omega) (hne1 _ (by omega))).trans ((obj_alloc_past _ _ _ (by simp; omega)).trans ((obj_drewN _ _ _).trans hp)))
          have hq' := hide ((grown_obj hg1 _ (by simp; omega) (hne1 _ (by omega))).trans ((obj_alloc_past _ _ _ (by simp; omega)).trans ((obj_drewN _ _ _).trans hq)))
          have hr1 := row_app hown1
          have hlw1 := grown_le hg1
          simp at hlw1
          clear hown1 hg1 hat1 hrow hp hq hn hp1 hq1
          go_wp2_with (fail)
          go_roundw
          case rel => exact ⟨k + 1, by omega, by go_num, by rw [e1.out, e2.out]; exact hr1, hp', hq', hn1, by omega⟩
          case measure => simp [intOf]; omega
      · obtain rfl : k = 144 := by omega
        go_wp2_with (fail)
        go_ret2
        exact ⟨_, rfl, hrow.lower (by omega), hn⟩
  · have hC : difC a b f c d g = 4 := by unfold difC; rw [if_pos ⟨h1, h2⟩, if_neg h3]
    have hM : difM a b f c d g = 0 := by unfold difM; rw [hC, if_neg (by omega)]
    rw [hC, hM]
    clear hC hM
    by_cases h4 : a = c
    · have h5 := bne_f h4
      have h6 : (b != d) = true := bne_t fun e => h3 ⟨h4, e⟩
      clear h3
      subst h4
      go_enter Try.func18, Try.ntmps18
      go_wp2_with (fail)
      refine (l01Ok_any _ 27 a b f ha hb hf _ (by go_simp)).mono ?_
      rintro e w1 ⟨rfl, rfl⟩
      go_wp2_with (fail)
      refine (l01Ok_any _ 27 a d g hc hd hg _ (by go_simp)).mono ?_
      rintro e w1 ⟨rfl, rfl⟩
      go_wp2_with (fail)
      go_ret2
      refine ⟨_, rfl, row_empty (by go_simp) (by omega), ?_⟩
      repeat' (first | exact New.refl _ | refine New.alloc ?_ _ | refine New.drew ?_ | refine New.drewN ?_ _ | refine New.setRow ?_ (by omega) _ | refine New.setCell ?_ (by first | omega | (simp; done) | (simp; omega)) _)
    · have h5 := bne_t h4
      clear h3 h4
      go_enter Try.func18, Try.ntmps18
      go_wp2_with (fail)
      refine (l01Ok_any _ 27 a b f ha hb hf _ (by go_simp)).mono ?_
      rintro e w1 ⟨rfl, rfl⟩
      go_wp2_with (fail)
      refine (l01Ok_any _ 27 c d g hc hd hg _ (by go_simp)).mono ?_
      rintro e w1 ⟨rfl, rfl⟩
      go_wp2_with (fail)
      go_ret2
      refine ⟨_, rfl, row_empty (by go_simp) (by omega), ?_⟩
      repeat' (first | exact New.refl _ | refine New.alloc ?_ _ | refine New.drew ?_ | refine New.drewN ?_ _ | refine New.setRow ?_ (by omega) _ | refine New.setCell ?_ (by first | omega | (simp; done) | (simp; omega)) _)
set_option maxHeartbeats 2000000 in
set_option maxRecDepth 100000 in
theorem dif_impl (a b : Int) (f : Nat → Int) (c d : Int) (g : Nat → Int) (ha : -128 ≤ a ∧ a ≤ 127) (hb : -128 ≤ b ∧ b ≤ 127) (hf : ∀ i, 0 ≤ f i ∧ f i ≤ 255) (hc : -128 ≤ c ∧ c ≤ 127) (hd : -128 ≤ d ∧ d ≤ 127) (hg : ∀ i, 0 ≤ g i ∧ g i ≤ 255) (w : World) :
    Calls Try.prog 17 #[.agg (pic 144 a b f), .agg (pic 144 c d g)] w fun e w' => ∃ v, e = .returned (.tuple #[v, .int .i64 (difC a b f c d g)]) ∧ Row w' w.heap.size v (difM a b f c d g) (difF f g 144) ∧ New w w' := by
  cases h1 : okPic a b f
  · have hC : difC a b f c d g = 1 := by unfold difC; rw [if_neg (by simp [h1])]
    have hM : difM a b f c d g = 0 := by unfold difM; rw [hC, if_neg (by omega)]
    rw [hC, hM]
    clear hC hM
    go_enter Try.func17, Try.ntmps17
    go_wp2_with (fail)
    refine (valid_v a b f ha hb hf _ h1 _).mono ?_
    rintro e1 w1 ⟨rfl, hn1⟩
    have ho1 := hn1.objs
    have hz1 := hn1.le
    try simp at hz1
    have k1_0 : w.heap.size < w1.heap.size := by omega
    have k1_1 : w.heap.size + 1 < w1.heap.size := by omega
    go_wp2_with (fail)
    go_ret2
    refine ⟨_, rfl, Row.nil, ?_⟩
    repeat' (first | exact New.refl _ | refine New.alloc ?_ _ | refine New.drew ?_ | refine New.drewN ?_ _ | refine New.setRow ?_ (by omega) _ | refine New.setCell ?_ (by first | omega | (simp; done) | (simp; omega)) _ | refine New.trans ?_ hn1)
  cases h2 : okPic c d g
  · have hC : difC a b f c d g = 1 := by unfold difC; rw [if_neg (by simp [h2])]
    have hM : difM a b f c d g = 0 := by unfold difM; rw [hC, if_neg (by omega)]
    rw [hC, hM]
    clear hC hM
    go_enter Try.func17, Try.ntmps17
    go_wp2_with (fail)
    refine (valid_v a b f ha hb hf _ h1 _).mono ?_
    rintro e2 w2 ⟨rfl, hn2⟩
    have ho2 := hn2.objs
    have hz2 := hn2.le
    try simp at hz2
    have k2_0 : w.heap.size < w2.heap.size := by omega
    have k2_1 : w.heap.size + 1 < w2.heap.size := by omega
    go_wp2_with (fail)
    refine (valid_v c d g hc hd hg _ h2 _).mono ?_
    rintro e3 w3 ⟨rfl, hn3⟩
    have ho3 := hn3.objs
    have hz3 := hn3.le
    try simp at hz3
    have k3_0 : w.heap.size < w3.heap.size := by omega
    have k3_1 : w.heap.size + 1 < w3.heap.size := by omega
    go_wp2_with (fail)
    go_ret2
    refine ⟨_, rfl, Row.nil, ?_⟩
    repeat' (first | exact New.refl _ | refine New.alloc ?_ _ | refine New.drew ?_ | refine New.drewN ?_ _ | refine New.setRow ?_ (by omega) _ | refine New.setCell ?_ (by first | omega | (simp; done) | (simp; omega)) _ | refine New.trans ?_ hn3 | refine New.trans ?_ hn2 | refine New.trans ?_ hn1)
  by_cases h3 : a = c ∧ b = d
  rotate_left
  · have hC : difC a b f c d g = 4 := by unfold difC; rw [if_pos ⟨h1, h2⟩, if_neg h3]
    have hM : difM a b f c d g = 0 := by unfold difM; rw [hC, if_neg (by omega)]
    rw [hC, hM]
    clear hC hM
    by_cases h4 : a = c
    · have h5 := bne_f h4
      have h6 : (b != d) = true := bne_t fun e => h3 ⟨h4, e⟩
      clear h3
      subst h4
      go_enter Try.func17, Try.ntmps17
      go_wp2_with (fail)
      refine (valid_v a b f ha hb hf _ h1 _).mono ?_
      rintro e4 w4 ⟨rfl, hn4⟩
      have ho4 := hn4.objs
      have hz4 := hn4.le
      try simp at hz4
      have k4_0 : w.heap.size < w4.heap.size := by omega
      have k4_1 : w.heap.size + 1 < w4.heap.size := by omega
      go_wp2_with (fail)
      refine (valid_v a d g hc hd hg _ h2 _).mono ?_
      rintro e5 w5 ⟨rfl, hn5⟩
      have ho5 := hn5.objs
      have hz5 := hn5.le
      try simp at hz5
      have k5_0 : w.heap.size < w5.heap.size := by omega
      have k5_1 : w.heap.size + 1 < w5.heap.size := by omega
      go_wp2_with (fail)
      go_ret2
      refine ⟨_, rfl, Row.nil, ?_⟩
      repeat' (first | exact New.refl _ | refine New.alloc ?_ _ | refine New.drew ?_ | refine New.drewN ?_ _ | refine New.setRow ?_ (by omega) _ | refine New.setCell ?_ (by first | omega | (simp; done) | (simp; omega)) _ | refine New.trans ?_ hn5 | refine New.trans ?_ hn4 | refine New.trans ?_ hn3 | refine New.trans ?_ hn2 | refine New.trans ?_ hn1)
    · have h5 := bne_t h4
      clear h3 h4
      go_enter Try.func17, Try.ntmps17
      go_wp2_with (fail)
      refine (valid_v a b f ha hb hf _ h1 _).mono ?_
      rintro e6 w6 ⟨rfl, hn6⟩
      have ho6 := hn6.objs
      have hz6 := hn6.le
      try simp at hz6
      have k6_0 : w.heap.size < w6.heap.size := by omega
      have k6_1 : w.heap.size + 1 < w6.heap.size := by omega
      go_wp2_with (fail)
      refine (valid_v c d g hc hd hg _ h2 _).mono ?_
      rintro e7 w7 ⟨rfl, hn7⟩
      have ho7 := hn7.objs
      have hz7 := hn7.le
      try simp at hz7
      have k7_0 : w.heap.size < w7.heap.size := by omega
      have k7_1 : w.heap.size + 1 < w7.heap.size := by omega
      go_wp2_with (fail)
      go_ret2
      refine ⟨_, rfl, Row.nil, ?_⟩
      repeat' (first | exact New.refl _ | refine New.alloc ?_ _ | refine New.drew ?_ | refine New.drewN ?_ _ | refine New.setRow ?_ (by omega) _ | refine New.setCell ?_ (by first | omega | (simp; done) | (simp; omega)) _ | refine New.trans ?_ hn7 | refine New.trans ?_ hn6 | refine New.trans ?_ hn5 | refine New.trans ?_ hn4 | refine New.trans ?_ hn3 | refine New.trans ?_ hn2 | refine New.trans ?_ hn1)
  obtain ⟨rfl, rfl⟩ := h3
  have hC : difC a b f a b g = 0 := by unfold difC; rw [if_pos ⟨h1, h2⟩, if_pos ⟨rfl, rfl⟩]
  have hM : difM a b f a b g = difN f g 144 := by unfold difM; rw [hC, if_pos rfl]
  rw [hC, hM]
  clear hC hM
  go_enter Try.func17, Try.ntmps17
  go_wp2_with (fail)
  refine (valid_v a b f ha hb hf _ h1 _).mono ?_
  rintro e8 w8 ⟨rfl, hn8⟩
  have ho8 := hn8.objs
  have hz8 := hn8.le
  try simp at hz8
  have k8_0 : w.heap.size < w8.heap.size := by omega
  have k8_1 : w.heap.size + 1 < w8.heap.size := by omega
  go_wp2_with (fail)
  refine (valid_v a b g hc hd hg _ h2 _).mono ?_
  rintro e9 w9 ⟨rfl, hn9⟩
  have ho9 := hn9.objs
  have hz9 := hn9.le
  try simp at hz9
  have k9_0 : w.heap.size < w9.heap.size := by omega
  have k9_1 : w.heap.size + 1 < w9.heap.size := by omega
  go_wp2_with (fail)
  clear h1 h2
  have hs1 : obj (w9.alloc (.cells #[] 2)) w.heap.size = some (.cells (pic 144 a b f) 27) := by go_simp
  have hs2 : obj (w9.alloc (.cells #[] 2)) (w.heap.size + 1) = some (.cells (pic 144 a b g) 27) := by go_simp
  have hs3 : New w (w9.alloc (.cells #[] 2)) := by
    repeat' (first | exact New.refl _ | refine New.alloc ?_ _ | refine New.drew ?_ | refine New.drewN ?_ _ | refine New.setRow ?_ (by omega) _ | refine New.setCell ?_ (by first | omega | (simp; done) | (simp; omega)) _ | refine New.trans ?_ hn9 | refine New.trans ?_ hn8 | refine New.trans ?_ hn7 | refine New.trans ?_ hn6 | refine New.trans ?_ hn5 | refine New.trans ?_ hn4 | refine New.trans ?_ hn3 | refine New.trans ?_ hn2 | refine New.trans ?_ hn1)
  have hs4 : Row (w9.alloc (.cells #[] 2)) (w.heap.size + 2) (.slice (some ⟨w9.heap.size, 0, none⟩) 0 0) 0 (difF f g 0) := row_empty (by go_simp) (by omega)
  have hs5 : w.heap.size + 2 ≤ (w9.alloc (.cells #[] 2)).heap.size := by simp; omega
  generalize w9.alloc (.cells #[] 2) = w8 at hs1 hs2 hs3 hs4 hs5 ⊢
  generalize w9.heap.size = g0 at hs4 ⊢
  go_loopw [6, 34] (fun v i wr => ∃ k : Nat, k ≤ 144 ∧ i = .int .i64 k ∧ Row wr (w.heap.size + 2) v (difN f g k) (difF f g k) ∧ Hid (obj wr w.heap.size = some (.cells (pic 144 a b f) 27)) ∧ Hid (obj wr (w.heap.size + 1) = some (.cells (pic 144 a b g) 27)) ∧ New w wr ∧ w.heap.size + 2 ≤ wr.heap.size) (fun _ i _ => 144 - (intOf i).toNat)
  case atStart => exact ⟨0, by omega, rfl, hs4, hs1, hs2, hs3, hs5⟩
  case round =>
    clear hs1 hs2 hs3 hs4 hs5
    obtain ⟨k, hk, rfl, hrow, hp1, hq1, hn, hlw⟩ := hrel
    have hp := hp1.out
    have hq := hq1.out
    by_cases hlt : k < 144
    · by_cases he : f k = g k
      · have hne := bne_f he.symm
        have e1 : Hid (difN f g (k + 1) = difN f g k) := by show _ = _; rw [difN, if_pos he]
        have e2 : Hid (difF f g (k + 1) = difF f g k) := by show _ = _; rw [difF, if_pos he]
        clear he
        go_wp2_with (fail)
        go_roundw
        case rel => exact ⟨k + 1, by omega, by go_num, by rw [e1.out, e2.out]; exact hrow, hp1, hq1, hn, hlw⟩
        case measure => simp [intOf]; omega
      · have hne := bne_t fun e => he (Eq.symm e)
        have e1 : Hid (difN f g (k + 1) = difN f g k + 1) := by show _ = _; rw [difN, if_neg he]
        have e2 : Hid (difF f g (k + 1) = upd (difF f g k) (difN f g k) k) := by show _ = _; rw [difF, if_neg he]
        have hle := difN_le f g k
        clear he
        go_wp2_with (at_builtin; refine wpList_app slInts rfl _ _ rfl (w.heap.size + 2) _ _ _ rfl (hrow.alloc _) ⟨wr.heap.size, 0, none⟩ 1 1 [.int .i64 k] rfl rfl (news_new _ _ _ _ _ rfl) (by simp [Value.oneCell']) (by omega) (by unfold maxLen; omega) (by omega) (by simp; omega) ?_)
        intro g1 cap1 w1 hown1 hg1 hat1 hlt1
        have hbk := hrow.block
        have hne1 : ∀ b, b < w.heap.size + 2 → some b ≠ u6.ownBlock := fun b hb e => by have := hbk b e.symm; omega
        have hn1 : New w w1 := grown_new (hn.alloc _) hg1 fun b hb => by have := hbk b hb; omega
        have hp' := hide ((grown_obj hg1 _ (by simp; omega) (hne1 _ (by omega))).trans ((obj_alloc_past _ _ _ (by omega)).trans hp))
        have hq' := hide ((grown_obj hg1 _ (by simp; omega) (hne1 _ (by omega))).trans ((obj_alloc_past _ _ _ (by omega)).trans hq))
        have hr1 := row_app hown1
        have hlw1 := grown_le hg1
        simp at hlw1
        clear hown1 hg1 hat1 hrow hp hq hn hp1 hq1
        go_wp2_with (fail)
        go_roundw
        case rel => exact ⟨k + 1, by omega, by go_num, by rw [e1.out, e2.out]; exact hr1, hp', hq', hn1, by omega⟩
        case measure => simp [intOf]; omega
    · obtain rfl : k = 144 := by omega
      go_wp2_with (fail)
      go_ret2
      exact ⟨_, rfl, hrow.lower (by omega), hn⟩
end Go.Proofs.Ytmmckoemkpfgbaa
