/- Tones held by brightness, as the program holds them; no condition. -/
import Derived.Test.YtphjhegaplochaaGreatDoorShf
import Derived.Test.YtphjhegaplochaaGreatDoorU14
import Derived.Test.YtphjhegaplochaaGreatDoorU3
import Derived.Test.YtphjhegaplochaaGreatDoorU9
import Derived.Sort.OwnSortedInts
import Derived.Test.YtphjhegaplochaaGreatDoorU10
import Derived.Test.YtphjhegaplochaaGreatDoorU4
import Derived.Test.YtphjhegaplochaaGreatDoorU12
set_option linter.unusedVariables false
namespace Go.Proofs.YtphjhegaplochaaGreatDoor
open Go.BigFrame
open Go.RowKit Go.Arr
open Go.Sort (grow)
/-- a world with draws and blocks more -/
def Gr (W w : World) : Prop := ∃ q os, w = grow (W.drewN q) os
theorem Gr.refl (W : World) : Gr W W := ⟨0, #[], by simp [grow, World.drewN]⟩
theorem Gr.alloc {W w : World} (h : Gr W w) (o : Obj) : Gr W (w.alloc o) := by
  obtain ⟨q, os, rfl⟩ := h
  exact ⟨q, os ++ #[o], by simp [grow, World.alloc, World.drewN]⟩
theorem Gr.drewN {W w : World} (h : Gr W w) (n : Nat) : Gr W (w.drewN n) := by
  obtain ⟨q, os, rfl⟩ := h
  exact ⟨q + n, os, by simp [grow, World.drewN, Nat.add_assoc]⟩
theorem Gr.drew {W w : World} (h : Gr W w) : Gr W w.drew := h.drewN 1
theorem Gr.trans {W w w' : World} (h : Gr W w) (h2 : Gr w w') : Gr W w' := by
  obtain ⟨q, os, rfl⟩ := h
  obtain ⟨q', os', rfl⟩ := h2
  exact ⟨q + q', os ++ os', by simp [grow, World.drewN, Nat.add_assoc]⟩
theorem Gr.new {W w : World} (h : Gr W w) : New W w := by
  obtain ⟨q, os, rfl⟩ := h
  refine ⟨rfl, rfl, rfl, by simp [grow, World.drewN], fun k hk => ?_⟩
  simp [grow, World.drewN, Array.getElem?_append, hk]
/-- a tone -/
abbrev Tn := Fin 256 × Fin 256 × Fin 256
def n0 (t : Tn) : Int := ((t.1.val : Nat) : Int)
def n1 (t : Tn) : Int := ((t.2.1.val : Nat) : Int)
def n2 (t : Tn) : Int := ((t.2.2.val : Nat) : Int)
theorem n_b (t : Tn) : (0 ≤ n0 t ∧ n0 t ≤ 255) ∧ (0 ≤ n1 t ∧ n1 t ≤ 255) ∧ (0 ≤ n2 t ∧ n2 t ≤ 255) := by
  have h0 := t.1.isLt
  have h1 := t.2.1.isLt
  have h2 := t.2.2.isLt
  unfold n0 n1 n2
  omega
theorem tn_ext {s t : Tn} (h0 : n0 s = n0 t) (h1 : n1 s = n1 t) (h2 : n2 s = n2 t) : s = t := by
  obtain ⟨⟨a, ha⟩, ⟨b, hb⟩, ⟨c, hc⟩⟩ := s
  obtain ⟨⟨d, hd⟩, ⟨e, he⟩, ⟨f, hf⟩⟩ := t
  simp only [n0, n1, n2, Int.natCast_inj] at h0 h1 h2
  subst h0; subst h1; subst h2
  rfl
def encT (t : Tn) : List Value := [.int .u8 (n0 t), .int .u8 (n1 t), .int .u8 (n2 t)]
def brT (t : Tn) : Int := bright (n0 t) (n1 t) (n2 t)
def cmpI (x y : Int) : Int := if x < y then -1 else if y < x then 1 else 0
def orV (f : Nat → Int) (n : Nat) : Int := (((List.range n).map f).find? fun x => decide (x ≠ 0)).getD 0
theorem orV_at {f : Nat → Int} {n k : Nat} (hk : k < n) (h0 : ∀ j, j < k → f j = 0) (h : f k ≠ 0) : orV f n = f k := by
  unfold orV
  have e : List.range n = List.range k ++ k :: (List.range (n - k - 1)).map (k + 1 + ·) := by
    apply List.ext_getElem?
    intro i
    by_cases h1 : i < k
    · rw [List.getElem?_append_left (by simpa using h1)]
      simp [h1, show i < n by omega]
    · rw [List.getElem?_append_right (by simp; omega), List.length_range]
      by_cases h2 : i = k
      · subst h2; simp [hk]
      · obtain ⟨d, rfl⟩ : ∃ d, i = k + 1 + d := ⟨i - (k + 1), by omega⟩
        rw [show k + 1 + d - k = d + 1 by omega, List.getElem?_cons_succ]
        by_cases h3 : k + 1 + d < n
        · simp [h3, show d < n - k - 1 by omega]
        · rw [List.getElem?_eq_none (by simp; omega), List.getElem?_eq_none (by simp; omega)]
  rw [e, List.map_append, List.find?_append, List.find?_eq_none.2 (by
    intro x hx
    rw [List.mem_map] at hx
    obtain ⟨j, hj, rfl⟩ := hx
    simp [h0 j (by simpa using hj)])]
  simp [h]
theorem orV_0 {f : Nat → Int} {n : Nat} (h0 : ∀ j, j < n → f j = 0) : orV f n = 0 := by
  unfold orV
  rw [List.find?_eq_none.2 (by
    intro x hx
    rw [List.mem_map] at hx
    obtain ⟨j, hj, rfl⟩ := hx
    simp [h0 j (by simpa using hj)])]
  rfl
def cmpF (x y : Tn) : Nat → Int
  | 0 => cmpI (brT x) (brT y)
  | 1 => cmpI (n0 x) (n0 y)
  | 2 => cmpI (n1 x) (n1 y)
  | _ => cmpI (n2 x) (n2 y)
def cmpT (x y : Tn) : Int := orV (cmpF x y) 4
/-- before, strictly -/
def tl (x y : Tn) : Prop := brT x < brT y ∨ (brT x = brT y ∧ (n0 x < n0 y ∨ (n0 x = n0 y ∧ (n1 x < n1 y ∨ (n1 x = n1 y ∧ n2 x < n2 y)))))
instance (x y : Tn) : Decidable (tl x y) := by unfold tl; infer_instance
theorem cmpT_neg (x y : Tn) : cmpT x y < 0 ↔ tl x y := by
  have hv : cmpT x y = if cmpI (brT x) (brT y) ≠ 0 then cmpI (brT x) (brT y) else if cmpI (n0 x) (n0 y) ≠ 0 then cmpI (n0 x) (n0 y) else if cmpI (n1 x) (n1 y) ≠ 0 then cmpI (n1 x) (n1 y) else cmpI (n2 x) (n2 y) := by
    unfold cmpT
    by_cases h0 : cmpI (brT x) (brT y) ≠ 0
    · rw [if_pos h0]; exact orV_at (k := 0) (by omega) (fun j hj => absurd hj (by omega)) h0
    · rw [if_neg h0]
      have h0 : cmpF x y 0 = 0 := Decidable.byContradiction h0
      by_cases h1 : cmpI (n0 x) (n0 y) ≠ 0
      · rw [if_pos h1]; exact orV_at (k := 1) (by omega) (fun j hj => by
          have e : j = 0 := by omega
          rw [e]; exact h0) h1
      · rw [if_neg h1]
        have h1 : cmpF x y 1 = 0 := Decidable.byContradiction h1
        by_cases h2 : cmpI (n1 x) (n1 y) ≠ 0
        · rw [if_pos h2]
          exact orV_at (k := 2) (by omega) (fun j hj => by
            have : j = 0 ∨ j = 1 := by omega
            rcases this with rfl | rfl <;> assumption) h2
        · rw [if_neg h2]
          have h2 : cmpF x y 2 = 0 := Decidable.byContradiction h2
          by_cases h3 : cmpF x y 3 ≠ 0
          · exact orV_at (k := 3) (by omega) (fun j hj => by
              have : j = 0 ∨ j = 1 ∨ j = 2 := by omega
              rcases this with rfl | rfl | rfl <;> assumption) h3
          · have h3 : cmpF x y 3 = 0 := Decidable.byContradiction h3
            rw [orV_0 (fun j hj => by
              have : j = 0 ∨ j = 1 ∨ j = 2 ∨ j = 3 := by omega
              rcases this with rfl | rfl | rfl | rfl <;> assumption)]
            exact h3.symm
  rw [hv]
  unfold tl cmpI
  repeat' split
  all_goals omega
theorem swo_tl : Go.Sort.SWO (ltOf cmpT) := by
  have e : ∀ x y, ltOf cmpT x y = decide (tl x y) := fun x y => by unfold ltOf; rw [decide_eq_decide]; exact cmpT_neg x y
  refine ⟨fun x => ?_, fun x y z h1 h2 => ?_, fun x y z h1 h2 => ?_⟩
  · rw [e, decide_eq_false_iff_not]; unfold tl; omega
  · rw [e, decide_eq_true_eq] at *; unfold tl at *; omega
  · rw [e, decide_eq_false_iff_not] at *; unfold tl at *; omega
theorem tl_tri {x y : Tn} (h1 : ¬ tl x y) (h2 : ¬ tl y x) : x = y := by
  unfold tl at *
  exact tn_ext (by omega) (by omega) (by omega)
theorem tl_trans {x y z : Tn} (h1 : tl x y) (h2 : tl y z) : tl x z := by unfold tl at *; omega
theorem tl_irr (x : Tn) : ¬ tl x x := by unfold tl; omega
set_option maxHeartbeats 1000000 in
set_option maxRecDepth 100000 in
theorem compare64_any (x y : Int) (w : World) : Calls Tryz.prog 95 #[.int .i64 x, .int .i64 y] w fun e w' => e = .returned (.int .i64 (cmpI x y)) ∧ w = w' := by
  have hx : (x != x) = false := by simp
  have hy : (y != y) = false := by simp
  have nan : ∀ (z : Int) (w : World), Calls Tryz.prog 118 #[.int .i64 z] w fun e w' => e = .returned (.bool false) ∧ w = w' := by
    intro z w
    have hz : (z != z) = false := by simp
    go_enter Tryz.func118, Tryz.ntmps118
    go_wp2_with (fail)
    go_ret
    exact ⟨rfl, rfl⟩
  have nan := hide nan
  by_cases h1 : x < y
  · have e : Hid (cmpI x y = -1) := if_pos h1
    go_enter Tryz.func95, Tryz.ntmps95
    go_wp2_with (go_at_call 118; refine (nan.out _ _).mono ?_; rintro e w' ⟨rfl, rfl⟩)
    go_ret
    exact ⟨by rw [e.out]; rfl, rfl⟩
  · by_cases h2 : y < x
    · have e : Hid (cmpI x y = 1) := by show _ = _; unfold cmpI; rw [if_neg h1, if_pos h2]
      go_enter Tryz.func95, Tryz.ntmps95
      go_wp2_with (go_at_call 118; refine (nan.out _ _).mono ?_; rintro e w' ⟨rfl, rfl⟩)
      go_ret
      exact ⟨by rw [e.out]; rfl, rfl⟩
    · have e : Hid (cmpI x y = 0) := by show _ = _; unfold cmpI; rw [if_neg h1, if_neg h2]
      go_enter Tryz.func95, Tryz.ntmps95
      go_wp2_with (go_at_call 118; refine (nan.out _ _).mono ?_; rintro e w' ⟨rfl, rfl⟩)
      go_ret
      exact ⟨by rw [e.out]; rfl, rfl⟩
set_option maxHeartbeats 1000000 in
set_option maxRecDepth 100000 in
theorem compare8_any (x y : Int) (w : World) : Calls Tryz.prog 96 #[.int .u8 x, .int .u8 y] w fun e w' => e = .returned (.int .i64 (cmpI x y)) ∧ w = w' := by
  have hx : (x != x) = false := by simp
  have hy : (y != y) = false := by simp
  have nan : ∀ (z : Int) (w : World), Calls Tryz.prog 119 #[.int .u8 z] w fun e w' => e = .returned (.bool false) ∧ w = w' := by
    intro z w
    have hz : (z != z) = false := by simp
    go_enter Tryz.func119, Tryz.ntmps119
    go_wp2_with (fail)
    go_ret
    exact ⟨rfl, rfl⟩
  have nan := hide nan
  by_cases h1 : x < y
  · have e : Hid (cmpI x y = -1) := if_pos h1
    go_enter Tryz.func96, Tryz.ntmps96
    go_wp2_with (go_at_call 119; refine (nan.out _ _).mono ?_; rintro e w' ⟨rfl, rfl⟩)
    go_ret
    exact ⟨by rw [e.out]; rfl, rfl⟩
  · by_cases h2 : y < x
    · have e : Hid (cmpI x y = 1) := by show _ = _; unfold cmpI; rw [if_neg h1, if_pos h2]
      go_enter Tryz.func96, Tryz.ntmps96
      go_wp2_with (go_at_call 119; refine (nan.out _ _).mono ?_; rintro e w' ⟨rfl, rfl⟩)
      go_ret
      exact ⟨by rw [e.out]; rfl, rfl⟩
    · have e : Hid (cmpI x y = 0) := by show _ = _; unfold cmpI; rw [if_neg h1, if_neg h2]
      go_enter Tryz.func96, Tryz.ntmps96
      go_wp2_with (go_at_call 119; refine (nan.out _ _).mono ?_; rintro e w' ⟨rfl, rfl⟩)
      go_ret
      exact ⟨by rw [e.out]; rfl, rfl⟩
theorem elI64 {W : World} {a : Option Addr} {n c : Nat} {f : Nat → Int} (h : Sl W (.slice a n c) n 1 .i64 f) (hn : 0 < n) : ∃ g off cur t fr, a = some ⟨g, off, none⟩ ∧ obj W g = some (.cells cur t fr) ∧ ∀ j, j < n → ∃ l : off + j < cur.size, cur[off + j] = .int .i64 (f j) := by
  obtain ⟨g, off, cur, t, fr, rfl, ho, hc⟩ := h.at hn
  exact ⟨g, off, cur, t, fr, rfl, ho, fun j hj => Array.getElem?_eq_some_iff.1 (hc j (by omega))⟩
set_option maxHeartbeats 1000000 in
set_option maxRecDepth 100000 in
theorem or_any (a : Option Addr) (n c : Nat) (f : Nat → Int) (hn : n ≤ 1000) (W : World) (hs : Sl W (.slice a n c) n 1 .i64 f) :
    Calls Tryz.prog 94 #[.slice a n c] W fun e w' => e = .returned (.int .i64 (orV f n)) ∧ W = w' := by
  go_enter Tryz.func94, Tryz.ntmps94
  go_wp2_with (fail)
  go_loop [8] (fun i => ∃ k : Nat, k ≤ n ∧ i = .int .i64 k ∧ Hid (∀ j, j < k → f j = 0)) (fun i => n - (intOf i).toNat)
  case atStart => exact ⟨0, by omega, rfl, fun j hj => absurd hj (by omega)⟩
  case round =>
    obtain ⟨k, hk, rfl, h0⟩ := hrel
    by_cases hlt : k < n
    · obtain ⟨g, off, cur, t, fr, rfl, o1, hel⟩ := elI64 hs (by omega)
      obtain ⟨l1, e1⟩ := hel k hlt
      have q1 := obj_lt o1
      clear hel hs
      by_cases hz : f k = 0
      · have h0' : Hid (∀ j, j < k + 1 → f j = 0) := fun j hj => by
          by_cases e : j = k
          · subst e; exact hz
          · exact h0.out j (by omega)
        have hb : (f k != 0) = false := by simp [hz]
        clear hz
        go_wp2_with (fail)
        go_round
        case rel => exact ⟨k + 1, by omega, by go_num, h0'⟩
        case measure => simp [intOf]; omega
      · have hv := hide (orV_at hlt h0.out hz)
        have hb : (f k != 0) = true := by simp [hz]
        clear hz
        go_wp2_with (fail)
        go_ret
        exact ⟨by rw [hv.out]; rfl, rfl⟩
    · obtain rfl : n = k := by omega
      have hv := hide (orV_0 h0.out)
      go_wp2_with (fail)
      go_ret
      exact ⟨by rw [hv.out]; rfl, rfl⟩
set_option maxHeartbeats 1000000 in
set_option maxRecDepth 100000 in
theorem bright_gr (a b c : Int) (ha : 0 ≤ a ∧ a ≤ 255) (hb : 0 ≤ b ∧ b ≤ 255) (hc : 0 ≤ c ∧ c ≤ 255) (w : World) :
    Calls Tryz.prog 36 #[.agg #[.int .u8 a, .int .u8 b, .int .u8 c]] w fun e w' => e = .returned (.int .i64 (bright a b c)) ∧ Gr w w' := by
  have hd : Hid (bright a b c = 3 * a + 6 * b + c) := rfl
  go_enter Tryz.func36, Tryz.ntmps36
  go_wp2_with (fail)
  go_ret
  exact ⟨by rw [hd.out]; rfl, (Gr.refl _).alloc _⟩
end Go.Proofs.YtphjhegaplochaaGreatDoor
/- Palettes put in order of brightness: the plain order, the comparison; no condition. -/
set_option linter.unusedVariables false
namespace Go.Proofs.YtphjhegaplochaaGreatDoor
open Go.BigFrame
open Go.RowKit Go.Arr
def mkB (z : Int) : Fin 256 := ⟨z.toNat % 256, Nat.mod_lt _ (by omega)⟩
theorem mkB_v {z : Int} (h : 0 ≤ z ∧ z ≤ 255) : (((mkB z).val : Nat) : Int) = z := by unfold mkB; dsimp only; omega
/-- the tone of colour i -/
def tnF (f : Nat → Int) (i : Nat) : Tn := (mkB (f (i * 3)), mkB (f (i * 3 + 1)), mkB (f (i * 3 + 2)))
section
variable {f : Nat → Int} (hf : ∀ i, 0 ≤ f i ∧ f i ≤ 255) (i : Nat)
include hf
theorem tnF_0 : n0 (tnF f i) = f (i * 3) := mkB_v (hf _)
theorem tnF_1 : n1 (tnF f i) = f (i * 3 + 1) := mkB_v (hf _)
theorem tnF_2 : n2 (tnF f i) = f (i * 3 + 2) := mkB_v (hf _)
end
def ordP (n : Nat) (f : Nat → Int) (L : List Nat) : Prop := L.Perm (List.range n) ∧ L.Pairwise fun i j => tl (tnF f i) (tnF f j)
theorem ordP_one {n : Nat} {f : Nat → Int} {L M : List Nat} (h : ordP n f L) (h2 : ordP n f M) : L = M := by
  refine List.Perm.eq_of_pairwise (le := fun i j => tl (tnF f i) (tnF f j)) (fun a b _ _ h1 h2 => ?_) h.2 h2.2 (h.1.trans h2.1.symm)
  exact absurd (tl_trans h1 h2) (tl_irr _)
noncomputable def ordL (n : Nat) (f : Nat → Int) : List Nat := Classical.epsilon (ordP n f)
theorem ordL_eq {n : Nat} {f : Nat → Int} {L : List Nat} (h : ordP n f L) : ordL n f = L := ordP_one (Classical.epsilon_spec ⟨L, h⟩) h
/-- the colours of a list of places -/
def lsF (L : List Nat) (i : Nat) : Int := ((L.getD i 0 : Nat) : Int) + 1
def insP (L : List Nat) (x p : Nat) : List Nat := L.take p ++ x :: L.drop p
theorem getD_ins {L : List Nat} {x p : Nat} (hp : p ≤ L.length) (j : Nat) : (insP L x p).getD j 0 = if j < p then L.getD j 0 else if j = p then x else L.getD (j - 1) 0 := by
  unfold insP
  simp only [List.getD_eq_getElem?_getD, List.getElem?_append, List.length_take, Nat.min_eq_left hp]
  by_cases h1 : j < p
  · rw [if_pos h1, if_pos h1, List.getElem?_take_of_lt h1]
  · rw [if_neg h1, if_neg h1]
    by_cases h2 : j = p
    · subst h2; simp
    · rw [if_neg h2]
      obtain ⟨d, rfl⟩ : ∃ d, j = p + 1 + d := ⟨j - (p + 1), by omega⟩
      rw [show p + 1 + d - p = d + 1 by omega, List.getElem?_cons_succ, List.getElem?_drop, show p + 1 + d - 1 = p + d by omega]
theorem len_ins {L : List Nat} {x p : Nat} (hp : p ≤ L.length) : (insP L x p).length = L.length + 1 := by
  unfold insP
  simp
  omega
theorem ins_end {L : List Nat} {x : Nat} : insP L x L.length = L ++ [x] := by simp [insP]
theorem perm_ins {L : List Nat} {x p : Nat} : (insP L x p).Perm (x :: L) := by
  unfold insP
  refine List.perm_middle.trans ?_
  rw [List.take_append_drop]
theorem perm_range {L : List Nat} {i p : Nat} (h : L.Perm (List.range i)) : (insP L i p).Perm (List.range (i + 1)) := by
  rw [List.range_succ]
  refine perm_ins.trans ((h.cons i).trans ?_)
  exact (List.perm_append_singleton i (List.range i)).symm
theorem pw_getD {R : Nat → Nat → Prop} {L : List Nat} : L.Pairwise R ↔ ∀ i j, i < j → j < L.length → R (L.getD i 0) (L.getD j 0) := by
  rw [List.pairwise_iff_getElem]
  constructor
  · intro h i j h1 h2
    have := h i j (by omega) h2 h1
    rwa [List.getD_eq_getElem?_getD, List.getD_eq_getElem?_getD, List.getElem?_eq_getElem h2, List.getElem?_eq_getElem (show i < L.length by omega)]
  · intro h i j h1 h2 h3
    have := h i j h3 h2
    rwa [List.getD_eq_getElem?_getD, List.getD_eq_getElem?_getD, List.getElem?_eq_getElem h2, List.getElem?_eq_getElem h1] at this
theorem ordP_ins {f : Nat → Int} {L : List Nat} {i p : Nat} (h : ordP i f L) (hp : p ≤ i) (hup : ∀ j, p ≤ j → j < i → tl (tnF f i) (tnF f (L.getD j 0))) (hdn : p = 0 ∨ tl (tnF f (L.getD (p - 1) 0)) (tnF f i)) : ordP (i + 1) f (insP L i p) := by
  have hl : L.length = i := by rw [h.1.length_eq, List.length_range]
  refine ⟨perm_range h.1, pw_getD.2 fun a b hab hb => ?_⟩
  rw [len_ins (by omega), hl] at hb
  have hw := pw_getD.1 h.2
  rw [hl] at hw
  have hdn' : ∀ q, q < p → tl (tnF f (L.getD q 0)) (tnF f i) := fun q hq => by
    rcases hdn with h0 | h0
    · omega
    · by_cases e : q = p - 1
      · subst e; exact h0
      · exact tl_trans (hw q (p - 1) (by omega) (by omega)) h0
  rw [getD_ins (by omega), getD_ins (by omega)]
  by_cases h1 : b < p
  · rw [if_pos h1, if_pos (by omega)]; exact hw a b hab (by omega)
  · rw [if_neg h1]
    by_cases h2 : b = p
    · rw [if_pos h2, if_pos (by omega)]; exact hdn' a (by omega)
    · rw [if_neg h2]
      by_cases h3 : a < p
      · rw [if_pos h3]; exact hw a (b - 1) (by omega) (by omega)
      · rw [if_neg h3]
        by_cases h4 : a = p
        · rw [if_pos h4]; exact hup (b - 1) (by omega) (by omega)
        · rw [if_neg h4]; exact hw (a - 1) (b - 1) (by omega) (by omega)
theorem ordP_lt {n : Nat} {f : Nat → Int} {L : List Nat} (h : ordP n f L) {j : Nat} (hj : j < n) : L.getD j 0 < n := by
  have hl : L.length = n := by rw [h.1.length_eq, List.length_range]
  have hm : L.getD j 0 ∈ L := by
    rw [List.getD_eq_getElem?_getD, List.getElem?_eq_getElem (by omega)]
    exact List.getElem_mem _
  exact List.mem_range.1 (h.1.mem_iff.1 hm)
theorem ordP_len {n : Nat} {f : Nat → Int} {L : List Nat} (h : ordP n f L) : L.length = n := by rw [h.1.length_eq, List.length_range]
/-- the comparison, as the reference makes it -/
def befI (a b c d e f : Int) : Bool := if bright a b c ≠ bright d e f then decide (bright a b c < bright d e f) else if a ≠ d then decide (a < d) else decide (b < e)
theorem befI_tl (x y : Tn) : befI (n0 x) (n1 x) (n2 x) (n0 y) (n1 y) (n2 y) = decide (tl x y) := by
  unfold befI
  have e1 : bright (n0 x) (n1 x) (n2 x) = brT x := rfl
  have e2 : bright (n0 y) (n1 y) (n2 y) = brT y := rfl
  have b1 : brT x = 3 * n0 x + 6 * n1 x + n2 x := rfl
  have b2 : brT y = 3 * n0 y + 6 * n1 y + n2 y := rfl
  rw [e1, e2]
  split
  · exact decide_eq_decide.2 (by unfold tl; omega)
  · split
    · exact decide_eq_decide.2 (by unfold tl; omega)
    · exact decide_eq_decide.2 (by unfold tl; omega)
theorem befI_f {f : Nat → Int} (hf : ∀ i, 0 ≤ f i ∧ f i ≤ 255) (i j : Nat) : befI (f (i * 3)) (f (i * 3 + 1)) (f (i * 3 + 2)) (f (j * 3)) (f (j * 3 + 1)) (f (j * 3 + 2)) = decide (tl (tnF f i) (tnF f j)) := by
  rw [← befI_tl, tnF_0 hf, tnF_1 hf, tnF_2 hf, tnF_0 hf, tnF_1 hf, tnF_2 hf]
set_option maxHeartbeats 2000000 in
set_option maxRecDepth 100000 in
theorem before_any (a b c d e f : Int) (ha : 0 ≤ a ∧ a ≤ 255) (hb : 0 ≤ b ∧ b ≤ 255) (hc : 0 ≤ c ∧ c ≤ 255) (hd : 0 ≤ d ∧ d ≤ 255) (he : 0 ≤ e ∧ e ≤ 255) (hf : 0 ≤ f ∧ f ≤ 255) (w : World) :
    Calls Tryz.prog 76 #[.agg #[.int .u8 a, .int .u8 b, .int .u8 c], .agg #[.int .u8 d, .int .u8 e, .int .u8 f]] w fun x w' => x = .returned (.bool (befI a b c d e f)) ∧ New w w' := by
  have hv : Hid (befI a b c d e f = if bright a b c ≠ bright d e f then decide (bright a b c < bright d e f) else if a ≠ d then decide (a < d) else decide (b < e)) := rfl
  go_enter Tryz.func76, Tryz.ntmps76
  go_wp2_with (fail)
  generalize hw0 : (w.alloc (Obj.cells #[.int .u8 a, .int .u8 b, .int .u8 c] 26)).alloc (Obj.cells #[.int .u8 d, .int .u8 e, .int .u8 f] 26) = w0
  have b1 : obj w0 w.heap.size = some (.cells #[.int .u8 a, .int .u8 b, .int .u8 c] 26) := by subst hw0; go_simp
  have b2 : obj w0 (w.heap.size + 1) = some (.cells #[.int .u8 d, .int .u8 e, .int .u8 f] 26) := by subst hw0; go_simp
  have hN0 : New w w0 := by subst hw0; exact ((New.refl w).alloc _).alloc _
  clear hw0
  refine (bright_spec0 a b c ha hb hc _).mono ?_
  rintro x w1 ⟨rfl, hn1⟩
  have c1 := (hn1.objs _ (obj_lt b1)).trans b1
  have c2 := (hn1.objs _ (obj_lt b2)).trans b2
  have hN1 := hN0.trans hn1
  clear b1 b2 hN0 hn1
  go_wp2_with (fail)
  refine (bright_spec0 d e f hd he hf _).mono ?_
  rintro x w2 ⟨rfl, hn2⟩
  have d1 := (hn2.objs _ (obj_lt c1)).trans c1
  have d2 := (hn2.objs _ (obj_lt c2)).trans c2
  have hN2 := hN1.trans hn2
  clear c1 c2 hN1 hn2
  generalize bright a b c = X at hv ⊢
  generalize bright d e f = Y at hv ⊢
  by_cases h1 : X = Y
  · subst h1
    by_cases h2 : a = d
    · subst h2
      have hv := hide (hv.out.trans ((if_neg (by simp)).trans (if_neg (by simp))))
      go_wp2_with (fail)
      go_ret
      exact ⟨by rw [hv.out]; rfl, hN2⟩
    · have h3 : (a != d) = true := by simp [h2]
      have hv := hide (hv.out.trans ((if_neg (by simp)).trans (if_pos h2)))
      go_wp2_with (fail)
      go_ret
      exact ⟨by rw [hv.out]; rfl, hN2⟩
  · have h3 : (X != Y) = true := by simp [h1]
    have hv := hide (hv.out.trans (if_pos h1))
    go_wp2_with (fail)
    go_ret
    exact ⟨by rw [hv.out]; rfl, hN2⟩
end Go.Proofs.YtphjhegaplochaaGreatDoor
/- Palettes put in order of brightness: what the reference returns; no condition. -/
set_option linter.unusedVariables false
namespace Go.Proofs.YtphjhegaplochaaGreatDoor
open Go.BigFrame
open Go.RowKit Go.Arr
/-- the codes and the results -/
def srtC (n : Nat) (f : Nat → Int) : Int := if okPal n f = true then 0 else 1
def srtN (n : Nat) (f : Nat → Int) : Nat := if okPal n f = true then n else 0
noncomputable def srtO (n : Nat) (f : Nat → Int) : Nat → Int := lsF (ordL n f)
noncomputable def srtF (n : Nat) (f : Nat → Int) : Nat → Int := subP f (srtO n f)
theorem Row.put {W : World} {base n g cap k : Nat} {f : Nat → Int} (h : Row W base (.slice (some ⟨g, 0, none⟩) n cap) n f) (hk : k < n) (z : Int) : Row (W.setCell ⟨g, k, none⟩ (.int .i64 z)) base (.slice (some ⟨g, 0, none⟩) n cap) n (upd f k z) := by
  rcases h.shape with ⟨h1, _⟩ | ⟨g', cap', cur', h1, h2, h3, h4, h5, h6, h7, h8⟩
  · cases h1
  · simp only [Value.slice.injEq, Option.some.injEq, Addr.mk.injEq, and_true, true_and] at h1
    obtain ⟨rfl, rfl⟩ := h1
    refine Row.of (cur := cur'.setIfInBounds k (.int .i64 z)) (by rw [obj_setCell_same, h4]; simp only [Option.map_some, reCell_cells]) h2 h5 h6 (by simpa using h7) fun j hj => ?_
    rw [Array.getElem?_setIfInBounds]
    unfold upd
    by_cases e : k = j
    · subst e; rw [if_pos rfl, if_pos (by omega), if_pos rfl]
    · rw [if_neg e, if_neg (fun e2 => e e2.symm), h8 j hj]
theorem Row.at {W : World} {base n g cap : Nat} {f : Nat → Int} (h : Row W base (.slice (some ⟨g, 0, none⟩) n cap) n f) : ∃ cur, obj W g = some (.cells cur 2) ∧ base ≤ g ∧ n ≤ cap ∧ cap ≤ maxLen ∧ ∀ j, j < n → ∃ l : j < cur.size, cur[j] = .int .i64 (f j) := by
  rcases h.shape with ⟨h1, _⟩ | ⟨g', cap', cur', h1, h2, h3, h4, h5, h6, h7, h8⟩
  · cases h1
  · simp only [Value.slice.injEq, Option.some.injEq, Addr.mk.injEq, and_true, true_and] at h1
    obtain ⟨rfl, rfl⟩ := h1
    exact ⟨cur', h4, h2, h5, h6, fun j hj => Array.getElem?_eq_some_iff.1 (h8 j hj)⟩
theorem ok_ne {n : Nat} {f : Nat → Int} (hf : ∀ i, 0 ≤ f i ∧ f i ≤ 255) (h : okPal n f = true) {k j : Nat} (hk : k < n) (hj : j < k) : tnF f k ≠ tnF f j := by
  intro e
  unfold okPal at h
  simp only [Bool.and_eq_true, List.all_eq_true, List.mem_range] at h
  have h3 := h.1 k hk
  unfold firstAt at h3
  simp only [List.all_eq_true, List.mem_range] at h3
  have h4 := h3 j hj
  have h5 : alikePal f f k j = true := by
    unfold alikePal
    rw [eq3_t, ← tnF_0 hf, ← tnF_1 hf, ← tnF_2 hf, ← tnF_0 hf, ← tnF_1 hf, ← tnF_2 hf, e]
    exact ⟨rfl, rfl, rfl⟩
  rw [h5] at h4
  simp at h4
theorem lsF_ins {L : List Nat} {k p : Nat} (hp : p ≤ L.length) (j : Nat) : lsF (insP L k p) j = if j < p then lsF L j else if j = p then (k : Int) + 1 else lsF L (j - 1) := by
  unfold lsF
  rw [getD_ins hp]
  split
  · rfl
  · split <;> rfl
theorem lsF_swap {L : List Nat} {k q : Nat} (hq : q + 1 ≤ L.length) (j : Nat) : upd (upd (lsF (insP L k (q + 1))) (q + 1) (lsF L q)) q ((k : Int) + 1) j = lsF (insP L k q) j := by
  rw [lsF_ins (show q ≤ L.length by omega) j]
  unfold upd
  rw [lsF_ins hq]
  by_cases h1 : j = q
  · rw [if_pos h1, if_neg (by omega), if_pos h1]
  · rw [if_neg h1]
    by_cases h2 : j = q + 1
    · subst h2; simp; omega
    · rw [if_neg h2]
      by_cases h3 : j < q
      · rw [if_pos h3, if_pos (by omega)]
      · rw [if_neg h3, if_neg (by omega), if_neg h2, if_neg h1]
theorem lsF_end {L : List Nat} {k : Nat} (hl : L.length = k) (j : Nat) (hj : j < k + 1) : upd (lsF L) k ((k : Int) + 1) j = lsF (insP L k k) j := by
  unfold upd
  rw [lsF_ins (by omega)]
  by_cases h1 : j = k
  · rw [if_pos h1, if_neg (by omega), if_pos h1]
  · rw [if_neg h1, if_pos (by omega)]
theorem subL_0 (f : Nat → Int) (L : List Nat) (i : Nat) : subP f (lsF L) (i * 3) = f (L.getD i 0 * 3) := by
  rw [subP_0]; unfold lsF; rw [show (((L.getD i 0 : Nat) : Int) + 1).toNat - 1 = L.getD i 0 by omega]
theorem subL_1 (f : Nat → Int) (L : List Nat) (i : Nat) : subP f (lsF L) (i * 3 + 1) = f (L.getD i 0 * 3 + 1) := by
  rw [subP_1]; unfold lsF; rw [show (((L.getD i 0 : Nat) : Int) + 1).toNat - 1 = L.getD i 0 by omega]
theorem subL_2 (f : Nat → Int) (L : List Nat) (i : Nat) : subP f (lsF L) (i * 3 + 2) = f (L.getD i 0 * 3 + 2) := by
  rw [subP_2]; unfold lsF; rw [show (((L.getD i 0 : Nat) : Int) + 1).toNat - 1 = L.getD i 0 by omega]
set_option maxHeartbeats 8000000 in
set_option maxRecDepth 100000 in
theorem sort_spec (ad : Option Addr) (n cp : Nat) (f : Nat → Int) (hf : ∀ i, 0 ≤ f i ∧ f i ≤ 255) (hn : n ≤ 1048576) (W : World) (hs : Sl W (.slice ad n cp) n 3 .u8 f) :
    Calls Tryz.prog 33 #[.slice ad n cp] W fun e w' => ∃ v u, e = .returned (.tuple #[v, u, .int .i64 (srtC n f)]) ∧ PRow w' W.heap.size v (srtN n f) (srtF n f) ∧ Row w' W.heap.size u (srtN n f) (srtO n f) ∧ New W w' ∧ ∀ b, v.ownBlock = some b → u.ownBlock ≠ some b := by
  cases hok : okPal n f
  · have hC : Hid (srtC n f = 1) := if_neg (by rw [hok]; simp)
    have hN : Hid (srtN n f = 0) := if_neg (by rw [hok]; simp)
    go_enter Tryz.func33, Tryz.ntmps33
    go_wp2_with (fail)
    refine (validPal_spec ad n cp f hn _ hs).mono ?_
    rintro e w1 ⟨rfl, hn1⟩
    rw [hok]
    have hl1 := hn1.le
    go_wp2_with (fail)
    go_ret3
    refine ⟨_, _, by rw [hC.out]; rfl, by rw [hN.out]; exact prow_empty (by go_simp) hl1, by rw [hN.out]; exact row_empty2 (by go_simp) (by omega), (hn1.alloc _).alloc _, fun b hb => ?_⟩
    simp [Value.ownBlock] at hb ⊢
    omega
  have hC : Hid (srtC n f = 0) := if_pos hok
  have hN : Hid (srtN n f = n) := if_pos hok
  have hpos := okPal_pos hok
  have hne := hide (fun (k j : Nat) (hk : k < n) (hj : j < k) => ok_ne hf hok hk hj)
  obtain ⟨gt, off, ct, tt, frt, rfl, ot, hx⟩ := elsPal hs (by omega)
  have hx := hide hx
  go_enter Tryz.func33, Tryz.ntmps33
  go_wp2_with (fail)
  refine (validPal_spec _ n cp f hn _ hs).mono ?_
  rintro e w1 ⟨rfl, hn1⟩
  have pt := (hn1.objs _ (obj_lt ot)).trans ot
  have rt := obj_lt ot
  have hl1 := hn1.le
  rw [hok]
  clear hs ot
  go_wp2_with (fail)
  go_loopw [6, 5] (fun i v wr => ∃ (k : Nat) (L : List Nat), k ≤ n ∧ i = .int .i64 k ∧ Hid (ordP k f L) ∧ Row wr W.heap.size v k (lsF L) ∧ Hid (obj wr gt = some (.cells ct tt frt)) ∧ New W wr ∧ W.heap.size ≤ wr.heap.size) (fun i _ _ => n - (intOf i).toNat)
  case atStart => exact ⟨0, [], by omega, rfl, ⟨List.Perm.refl _, List.Pairwise.nil⟩, row_empty2 (obj_alloc_at _ _ _ rfl) hl1, by show _ = _; exact (obj_alloc_past _ _ _ (by omega)).trans pt, hn1.alloc _, by simp; omega⟩
  case round =>
    obtain ⟨k, L, hk, rfl, hord, hrow, hot, hnw, hlw⟩ := hrel
    have ot := hot.out
    have hll := ordP_len hord.out
    have hbk := hrow.block
    by_cases hlt : k < n
    · go_wp2_with (at_builtin; refine wpList_app slInts rfl _ _ rfl W.heap.size _ _ _ rfl (hrow.new ((New.refl _).alloc _)) ⟨wr.heap.size, 0, none⟩ 1 1 [.int .i64 ((k : Int) + 1)] rfl rfl (news_new _ _ _ _ _ rfl) (by simp [Value.oneCell']) (by omega) (by unfold maxLen; omega) (by omega) (by simp; omega) ?_)
      intro g1 cap1 w3 hown1 hg1 hat1 hlt1
      have hn3 : New W w3 := grown_new (hnw.alloc _) hg1 fun b hb => (hbk b hb).1
      have ot3 := hide ((grown_obj hg1 _ (by simp; omega) (fun e => by have := hbk _ e.symm; omega)).trans ((obj_alloc_past _ _ _ (by omega)).trans ot))
      have hr1 := (row_app2 hown1).congr (lsF_end hll)
      have hlw1 := grown_le hg1
      simp at hlw1
      have hg0 : W.heap.size ≤ g1 := by
        obtain ⟨_, _, h, _⟩ := hr1.at
        exact h
      clear hown1 hg1 hat1 hrow hnw ot hot hbk
      go_wp2_with (fail)
      go_loopw [7] (fun i wq => ∃ p : Nat, p ≤ k ∧ i = .int .i64 p ∧ Hid (∀ j, p ≤ j → j < k → tl (tnF f k) (tnF f (L.getD j 0))) ∧ Row wq W.heap.size (.slice (some ⟨g1, 0, none⟩) (k + 1) cap1) (k + 1) (lsF (insP L k p)) ∧ Hid (obj wq gt = some (.cells ct tt frt)) ∧ New W wq ∧ W.heap.size ≤ wq.heap.size) (fun i _ => (intOf i).toNat)
      case atStart => exact ⟨k, by omega, rfl, fun j h1 h2 => absurd h1 (by omega), hr1, ot3, hn3, by omega⟩
      case round =>
        obtain ⟨p, hp, rfl, hup, hrow, hot, hnw, hlq⟩ := hrel
        have ot := hot.out
        cases p with
        | zero =>
          have hord' := hide (ordP_ins hord.out (Nat.zero_le k) (fun j h1 h2 => hup.out j h1 h2) (Or.inl rfl))
          obtain ⟨cur, oc, _, hcp, hmx, hel⟩ := hrow.at
          have lc := obj_lt oc
          clear hel
          go_wp2_with (fail)
          go_quiet (fail)
          go_wp2_with (fail)
          go_roundw
          case rel => exact ⟨k + 1, insP L k 0, by omega, by go_num, hord', hrow.new ((New.refl _).drewN _), hot, hnw.drewN _, by simp; omega⟩
          case measure => simp [intOf]; omega
        | succ q =>
          obtain ⟨cur, oc, _, hcp, hmx, hel⟩ := hrow.at
          have lc := obj_lt oc
          obtain ⟨l1, e1⟩ := hel (q + 1) (by omega)
          obtain ⟨l2, e2⟩ := hel q (by omega)
          rw [lsF_ins (by omega), if_neg (by omega), if_pos rfl] at e1
          rw [lsF_ins (by omega), if_pos (by omega)] at e2
          have hly := ordP_lt hord.out (show q < k by omega)
          have hsw := hide (fun j (_ : j < k + 1) => lsF_swap (L := L) (k := k) (q := q) (by omega) j)
          have hB := befI_f hf k (L.getD q 0)
          have hnq := hne.out k (L.getD q 0) (by omega) hly
          have hupq := hup.out
          have hcase : tl (tnF f k) (tnF f (L.getD q 0)) ∨ tl (tnF f (L.getD q 0)) (tnF f k) := by
            by_cases h1 : tl (tnF f k) (tnF f (L.getD q 0))
            · exact Or.inl h1
            · by_cases h2 : tl (tnF f (L.getD q 0)) (tnF f k)
              · exact Or.inr h2
              · exact absurd (tl_tri h1 h2) hnq
          have e2' : cur[q] = .int .i64 (((L.getD q 0 : Nat) : Int) + 1) := e2
          have lot := obj_lt ot
          obtain ⟨x1, lx1⟩ := hx.out k hlt
          obtain ⟨x2, lx2⟩ := hx.out (L.getD q 0) (by omega)
          clear hel e2 hup
          have hupn : tl (tnF f k) (tnF f (L.getD q 0)) → Hid (∀ j, q ≤ j → j < k → tl (tnF f k) (tnF f (L.getD j 0))) := fun h j h1 h2 => by
            by_cases e : j = q
            · subst e; exact h
            · exact hupq j (by omega) h2
          have hdnn : tl (tnF f (L.getD q 0)) (tnF f k) → Hid (ordP (k + 1) f (insP L k (q + 1))) := fun h => ordP_ins hord.out hp hupq (Or.inr h)
          have hdec : (tl (tnF f k) (tnF f (L.getD q 0)) ∧ decide (tl (tnF f k) (tnF f (L.getD q 0))) = true) ∨ (tl (tnF f (L.getD q 0)) (tnF f k) ∧ decide (tl (tnF f k) (tnF f (L.getD q 0))) = false) := by
            rcases hcase with h | h
            · exact Or.inl ⟨h, decide_eq_true h⟩
            · exact Or.inr ⟨h, decide_eq_false fun h2 => tl_irr _ (tl_trans h h2)⟩
          have hlsq : lsF L q = ((L.getD q 0 : Nat) : Int) + 1 := rfl
          clear hnq hcase hupq
          rw [hlsq] at hsw
          generalize L.getD q 0 = l at hly hB e2' x2 lx2 hupn hdnn hdec hsw hlsq
          rcases hdec with ⟨hd1, hd2⟩ | ⟨hd1, hd2⟩
          · have hup' := hupn hd1
            rw [hd2] at hB
            clear hupn hdnn hd1 hd2 hlsq
            go_wp2_with (fail)
            go_wp2_with (fail)
            refine wp_region_new (by kernel_rfl) (by kernel_rfl) ?_
            repeat (go_big_quiet_step (first | fail | (go_at_call 76; with_reducible exact calls_new (before_any _ _ _ _ _ _ (hf _) (hf _) (hf _) (hf _) (hf _) (hf _) _))))
            refine wpQuiet_nil ?_
            intro w1 hc1
            have hn1 := NewW.of hc1
            clear hc1
            have ho1 := hn1.objs
            have hz1 := hn1.le
            try simp at hz1
            have k1_0 : gt < w1.heap.size := by omega
            have k1_1 : g1 < w1.heap.size := by omega
            simp only [hB]
            go_wp2_with (fail)
            go_roundw
            case rel => exact ⟨q, by omega, rfl, hup', (((hrow.new hn1).put (by omega) _).put (by omega) _).congr (fun j hj => hsw.out j hj), by show _ = _; rw [obj_setCell_other _ _ _ _ _ (by omega), obj_setCell_other _ _ _ _ _ (by omega), ho1 _ lot]; exact ot, ((hnw.trans hn1).setCell hg0 _).setCell hg0 _, by simp only [World.size_setCell]; omega⟩
            case measure => simp [intOf] <;> omega
          · have hord' := hdnn hd1
            rw [hd2] at hB
            clear hupn hdnn hd1 hd2 hlsq
            go_wp2_with (fail)
            go_wp2_with (fail)
            refine wp_region_new (by kernel_rfl) (by kernel_rfl) ?_
            repeat (go_big_quiet_step (first | fail | (go_at_call 76; with_reducible exact calls_new (before_any _ _ _ _ _ _ (hf _) (hf _) (hf _) (hf _) (hf _) (hf _) _))))
            refine wpQuiet_nil ?_
            intro w2 hc2
            have hn2 := NewW.of hc2
            clear hc2
            have ho2 := hn2.objs
            have hz2 := hn2.le
            try simp at hz2
            have k2_0 : gt < w2.heap.size := by omega
            have k2_1 : g1 < w2.heap.size := by omega
            simp only [hB]
            go_wp2_with (fail)
            go_roundw
            case rel => exact ⟨k + 1, insP L k (q + 1), by omega, by go_num, hord', hrow.new hn2, by show _ = _; rw [ho2 _ lot]; exact ot, hnw.trans hn2, by omega⟩
            case measure => simp [intOf]; omega
    · obtain rfl : n = k := by omega
      obtain ⟨gr, cpr, rfl, hgr, _⟩ := hrow.own (by omega)
      have hO := hide (ordL_eq hord.out)
      have rgr := (hbk gr rfl).2
      have hcpr : cpr ≤ maxLen ∧ n ≤ cpr := by
        obtain ⟨_, _, _, h1, h2, _⟩ := hrow.at
        exact ⟨h2, h1⟩
      obtain ⟨B, hB⟩ : ∃ B, wr.heap.size = B := ⟨_, rfl⟩
      rw [hB] at rgr hlw
      have lotB : gt < B := by rw [← hB]; exact obj_lt ot
      clear hbk
      go_wp2_with (fail)
      go_loopw [10, 9] (fun i v wq => ∃ j : Nat, j ≤ n ∧ i = .int .i64 j ∧ PRow wq B v j (subP f (lsF L)) ∧ Row wq W.heap.size (.slice (some ⟨gr, 0, none⟩) n cpr) n (lsF L) ∧ Hid (obj wq gt = some (.cells ct tt frt)) ∧ New W wq ∧ B ≤ wq.heap.size) (fun i _ _ => n - (intOf i).toNat)
      case atStart => exact ⟨0, by omega, rfl, prow_empty (obj_alloc_at _ _ _ hB.symm) (by omega), hrow.new ((New.refl _).alloc _), by show _ = _; exact (obj_alloc_past _ _ _ (by omega)).trans ot, hnw.alloc _, by simp; omega⟩
      case round =>
        obtain ⟨j, hj, rfl, hprow, hrow, hot, hnw, hlq⟩ := hrel
        have ot := hot.out
        have lot := obj_lt ot
        obtain ⟨cur, oc, _, hcp, hmx, hel⟩ := hrow.at
        have lc := obj_lt oc
        by_cases hlt : j < n
        · obtain ⟨l2, e2⟩ := hel j hlt
          replace e2 : cur[j] = .int .i64 (((L.getD j 0 : Nat) : Int) + 1) := e2
          have hlj := ordP_lt hord.out hlt
          have s0 := subL_0 f L j
          have s1 := subL_1 f L j
          have s2 := subL_2 f L j
          obtain ⟨x2, lx2⟩ := hx.out (L.getD j 0) (by omega)
          generalize L.getD j 0 = l at e2 hlj s0 s1 s2 x2 lx2
          have hbk := hprow.block
          have hrow' := hide hrow
          clear hel hrow
          go_wp2_with (at_builtin; refine wpList_app slTones rfl _ _ rfl B _ _ _ rfl (hprow.new ((New.refl _).alloc _)) ⟨wr.heap.size, 0, none⟩ 1 1 [.int .u8 (f (l * 3)), .int .u8 (f (l * 3 + 1)), .int .u8 (f (l * 3 + 2))] rfl rfl (news_new _ _ _ _ _ rfl) (by simp [Value.oneCell']) (by omega) (by unfold maxLen; omega) (by omega) (by simp; omega) ?_)
          intro g1 cap1 w3 hown1 hg1 hat1 hlt1
          have hn3 : New W w3 := grown_new (hnw.alloc _) hg1 fun b hb => by have := (hbk b hb).1; omega
          have ot3 := hide ((grown_obj hg1 _ (by simp; omega) (fun e => by have := hbk _ e.symm; omega)).trans ((obj_alloc_past _ _ _ (by omega)).trans ot))
          have hrow3 : Row w3 W.heap.size (.slice (some ⟨gr, 0, none⟩) n cpr) n (lsF L) := (hrow'.out.new ((New.refl _).alloc _)).same fun b hb => by
            simp only [Value.ownBlock, Option.some.injEq] at hb
            subst hb
            exact grown_obj hg1 _ (by simp; omega) (fun e => by have := hbk _ e.symm; omega)
          have hr1 := prow_app hown1 s0 s1 s2
          have hlw1 := grown_le hg1
          simp at hlw1
          clear hown1 hg1 hat1 hprow hnw ot hot hbk oc hrow'
          go_wp2_with (fail)
          go_roundw
          case rel => exact ⟨j + 1, by omega, by go_num, hr1, hrow3, ot3, hn3, by omega⟩
          case measure => simp [intOf]; omega
        · obtain rfl : n = j := by omega
          obtain ⟨a9, c9, rfl⟩ := hprow.form
          have hbk := hprow.block
          clear hel
          go_wp2_with (fail)
          go_ret3
          refine ⟨_, _, by rw [hC.out]; rfl, ?_, ?_, hnw, fun b hb => ?_⟩
          · rw [hN.out]; unfold srtF srtO; rw [hO.out]; exact hprow.lower (by omega)
          · rw [hN.out]; unfold srtO; rw [hO.out]; exact hrow
          · have := hbk b hb
            intro e
            have e2 : gr = b := by simpa [Value.ownBlock] using e
            omega
end Go.Proofs.YtphjhegaplochaaGreatDoor
