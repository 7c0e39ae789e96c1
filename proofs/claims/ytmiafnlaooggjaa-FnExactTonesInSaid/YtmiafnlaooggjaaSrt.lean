/- Tones held by brightness, as the program holds them; no condition. -/
import Derived.Test.YtmiafnlaooggjaaShf
import Derived.Test.YtmiafnlaooggjaaMov
import Derived.Test.YtmiafnlaooggjaaTone
import Derived.Test.YtmiafnlaooggjaaDraw
import Derived.Sort.OwnSortedInts
set_option linter.unusedVariables false
namespace Go.Proofs.Ytmiafnlaooggjaa
open Go.BigFrame
open Go.RowKit Go.Arr
open Go.Sort (grow)
/-- a world with draws and blocks more -/
def Gr (W w : World) : Prop := ∃ q os, w = grow (W.drewN q) os
theorem Gr.refl (W : World) : Gr W W := ⟨0, #[], by simp [grow, World.drewN]⟩
theorem Gr.alloc {W w : World} (h : Gr W w) (o : Obj) : Gr W (w.alloc o) := by
  obtain ⟨q, os, rfl⟩ := h
  exact ⟨q, os ++ #[o], by simp [grow, World.alloc, World.drewN]⟩
theorem Gr.drewN {W w : World} (h : Gr W w) (n : Nat) : Gr W (w.drewN n) := by
  obtain ⟨q, os, rfl⟩ := h
  exact ⟨q + n, os, by simp [grow, World.drewN, Nat.add_assoc]⟩
theorem Gr.drew {W w : World} (h : Gr W w) : Gr W w.drew := h.drewN 1
theorem Gr.trans {W w w' : World} (h : Gr W w) (h2 : Gr w w') : Gr W w' := by
  obtain ⟨q, os, rfl⟩ := h
  obtain ⟨q', os', rfl⟩ := h2
  exact ⟨q + q', os ++ os', by simp [grow, World.drewN, Nat.add_assoc]⟩
theorem Gr.new {W w : World} (h : Gr W w) : New W w := by
  obtain ⟨q, os, rfl⟩ := h
  refine ⟨rfl, rfl, rfl, by simp [grow, World.drewN], fun k hk => ?_⟩
  simp [grow, World.drewN, Array.getElem?_append, hk]
/-- a tone -/
abbrev Tn := Fin 256 × Fin 256 × Fin 256
def n0 (t : Tn) : Int := ((t.1.val : Nat) : Int)
def n1 (t : Tn) : Int := ((t.2.1.val : Nat) : Int)
def n2 (t : Tn) : Int := ((t.2.2.val : Nat) : Int)
theorem n_b (t : Tn) : (0 ≤ n0 t ∧ n0 t ≤ 255) ∧ (0 ≤ n1 t ∧ n1 t ≤ 255) ∧ (0 ≤ n2 t ∧ n2 t ≤ 255) := by
  have h0 := t.1.isLt
  have h1 := t.2.1.isLt
  have h2 := t.2.2.isLt
  unfold n0 n1 n2
  omega
theorem tn_ext {s t : Tn} (h0 : n0 s = n0 t) (h1 : n1 s = n1 t) (h2 : n2 s = n2 t) : s = t := by
  obtain ⟨⟨a, ha⟩, ⟨b, hb⟩, ⟨c, hc⟩⟩ := s
  obtain ⟨⟨d, hd⟩, ⟨e, he⟩, ⟨f, hf⟩⟩ := t
  simp only [n0, n1, n2, Int.natCast_inj] at h0 h1 h2
  subst h0; subst h1; subst h2
  rfl
def encT (t : Tn) : List Value := [.int .u8 (n0 t), .int .u8 (n1 t), .int .u8 (n2 t)]
def brT (t : Tn) : Int := bright (n0 t) (n1 t) (n2 t)
def cmpI (x y : Int) : Int := if x < y then -1 else if y < x then 1 else 0
def orV (f : Nat → Int) (n : Nat) : Int := (((List.range n).map f).find? fun x => decide (x ≠ 0)).getD 0
theorem orV_at {f : Nat → Int} {n k : Nat} (hk : k < n) (h0 : ∀ j, j < k → f j = 0) (h : f k ≠ 0) : orV f n = f k := by
  unfold orV
  have e : List.range n = List.range k ++ k :: (List.range (n - k - 1)).map (k + 1 + ·) := by
    apply List.ext_getElem?
    intro i
    by_cases h1 : i < k
    · rw [List.getElem?_append_left (by simpa using h1)]
      simp [h1, show i < n by omega]
    · rw [List.getElem?_append_right (by simp; omega), List.length_range]
      by_cases h2 : i = k
      · subst h2; simp [hk]
      · obtain ⟨d, rfl⟩ : ∃ d, i = k + 1 + d := ⟨i - (k + 1), by omega⟩
        rw [show k + 1 + d - k = d + 1 by omega, List.getElem?_cons_succ]
        by_cases h3 : k + 1 + d < n
        · simp [h3, show d < n - k - 1 by omega]
        · rw [List.getElem?_eq_none (by simp; omega), List.getElem?_eq_none (by simp; omega)]
  rw [e, List.map_append, List.find?_append, List.find?_eq_none.2 (by
    intro x hx
    rw [List.mem_map] at hx
    obtain ⟨j, hj, rfl⟩ := hx
    simp [h0 j (by simpa using hj)])]
  simp [h]
theorem orV_0 {f : Nat → Int} {n : Nat} (h0 : ∀ j, j < n → f j = 0) : orV f n = 0 := by
  unfold orV
  rw [List.find?_eq_none.2 (by
    intro x hx
    rw [List.mem_map] at hx
    obtain ⟨j, hj, rfl⟩ := hx
    simp [h0 j (by simpa using hj)])]
  rfl
def cmpF (x y : Tn) : Nat → Int
  | 0 => cmpI (brT x) (brT y)
  | 1 => cmpI (n0 x) (n0 y)
  | 2 => cmpI (n1 x) (n1 y)
  | _ => cmpI (n2 x) (n2 y)
def cmpT (x y : Tn) : Int := orV (cmpF x y) 4
/-- before, strictly -/
def tl (x y : Tn) : Prop := brT x < brT y ∨ (brT x = brT y ∧ (n0 x < n0 y ∨ (n0 x = n0 y ∧ (n1 x < n1 y ∨ (n1 x = n1 y ∧ n2 x < n2 y)))))
instance (x y : Tn) : Decidable (tl x y) := by unfold tl; infer_instance
theorem cmpT_neg (x y : Tn) : cmpT x y < 0 ↔ tl x y := by
  have hv : cmpT x y = if cmpI (brT x) (brT y) ≠ 0 then cmpI (brT x) (brT y) else if cmpI (n0 x) (n0 y) ≠ 0 then cmpI (n0 x) (n0 y) else if cmpI (n1 x) (n1 y) ≠ 0 then cmpI (n1 x) (n1 y) else cmpI (n2 x) (n2 y) := by
    unfold cmpT
    by_cases h0 : cmpI (brT x) (brT y) ≠ 0
    · rw [if_pos h0]; exact orV_at (k := 0) (by omega) (fun j hj => absurd hj (by omega)) h0
    · rw [if_neg h0]
      have h0 : cmpF x y 0 = 0 := Decidable.byContradiction h0
      by_cases h1 : cmpI (n0 x) (n0 y) ≠ 0
      · rw [if_pos h1]; exact orV_at (k := 1) (by omega) (fun j hj => by
          have e : j = 0 := by omega
          rw [e]; exact h0) h1
      · rw [if_neg h1]
        have h1 : cmpF x y 1 = 0 := Decidable.byContradiction h1
        by_cases h2 : cmpI (n1 x) (n1 y) ≠ 0
        · rw [if_pos h2]
          exact orV_at (k := 2) (by omega) (fun j hj => by
            have : j = 0 ∨ j = 1 := by omega
            rcases this with rfl | rfl <;> assumption) h2
        · rw [if_neg h2]
          have h2 : cmpF x y 2 = 0 := Decidable.byContradiction h2
          by_cases h3 : cmpF x y 3 ≠ 0
          · exact orV_at (k := 3) (by omega) (fun j hj => by
              have : j = 0 ∨ j = 1 ∨ j = 2 := by omega
              rcases this with rfl | rfl | rfl <;> assumption) h3
          · have h3 : cmpF x y 3 = 0 := Decidable.byContradiction h3
            rw [orV_0 (fun j hj => by
              have : j = 0 ∨ j = 1 ∨ j = 2 ∨ j = 3 := by omega
              rcases this with rfl | rfl | rfl | rfl <;> assumption)]
            exact h3.symm
  rw [hv]
  unfold tl cmpI
  repeat' split
  all_goals omega
theorem swo_tl : Go.Sort.SWO (ltOf cmpT) := by
  have e : ∀ x y, ltOf cmpT x y = decide (tl x y) := fun x y => by unfold ltOf; rw [decide_eq_decide]; exact cmpT_neg x y
  refine ⟨fun x => ?_, fun x y z h1 h2 => ?_, fun x y z h1 h2 => ?_⟩
  · rw [e, decide_eq_false_iff_not]; unfold tl; omega
  · rw [e, decide_eq_true_eq] at *; unfold tl at *; omega
  · rw [e, decide_eq_false_iff_not] at *; unfold tl at *; omega
theorem tl_tri {x y : Tn} (h1 : ¬ tl x y) (h2 : ¬ tl y x) : x = y := by
  unfold tl at *
  exact tn_ext (by omega) (by omega) (by omega)
theorem tl_trans {x y z : Tn} (h1 : tl x y) (h2 : tl y z) : tl x z := by unfold tl at *; omega
theorem tl_irr (x : Tn) : ¬ tl x x := by unfold tl; omega
set_option maxHeartbeats 1000000 in
set_option maxRecDepth 100000 in
theorem compare64_any (x y : Int) (w : World) : Calls Try.prog 109 #[.int .i64 x, .int .i64 y] w fun e w' => e = .returned (.int .i64 (cmpI x y)) ∧ w = w' := by
  have hx : (x != x) = false := by simp
  have hy : (y != y) = false := by simp
  have nan : ∀ (z : Int) (w : World), Calls Try.prog 132 #[.int .i64 z] w fun e w' => e = .returned (.bool false) ∧ w = w' := by
    intro z w
    have hz : (z != z) = false := by simp
    go_enter Try.func132, Try.ntmps132
    go_wp2_with (fail)
    go_ret
    exact ⟨rfl, rfl⟩
  have nan := hide nan
  by_cases h1 : x < y
  · have e : Hid (cmpI x y = -1) := if_pos h1
    go_enter Try.func109, Try.ntmps109
    go_wp2_with (go_at_call 132; refine (nan.out _ _).mono ?_; rintro e w' ⟨rfl, rfl⟩)
    go_ret
    exact ⟨by rw [e.out]; rfl, rfl⟩
  · by_cases h2 : y < x
    · have e : Hid (cmpI x y = 1) := by show _ = _; unfold cmpI; rw [if_neg h1, if_pos h2]
      go_enter Try.func109, Try.ntmps109
      go_wp2_with (go_at_call 132; refine (nan.out _ _).mono ?_; rintro e w' ⟨rfl, rfl⟩)
      go_ret
      exact ⟨by rw [e.out]; rfl, rfl⟩
    · have e : Hid (cmpI x y = 0) := by show _ = _; unfold cmpI; rw [if_neg h1, if_neg h2]
      go_enter Try.func109, Try.ntmps109
      go_wp2_with (go_at_call 132; refine (nan.out _ _).mono ?_; rintro e w' ⟨rfl, rfl⟩)
      go_ret
      exact ⟨by rw [e.out]; rfl, rfl⟩
set_option maxHeartbeats 1000000 in
set_option maxRecDepth 100000 in
theorem compare8_any (x y : Int) (w : World) : Calls Try.prog 111 #[.int .u8 x, .int .u8 y] w fun e w' => e = .returned (.int .i64 (cmpI x y)) ∧ w = w' := by
  have hx : (x != x) = false := by simp
  have hy : (y != y) = false := by simp
  have nan : ∀ (z : Int) (w : World), Calls Try.prog 133 #[.int .u8 z] w fun e w' => e = .returned (.bool false) ∧ w = w' := by
    intro z w
    have hz : (z != z) = false := by simp
    go_enter Try.func133, Try.ntmps133
    go_wp2_with (fail)
    go_ret
    exact ⟨rfl, rfl⟩
  have nan := hide nan
  by_cases h1 : x < y
  · have e : Hid (cmpI x y = -1) := if_pos h1
    go_enter Try.func111, Try.ntmps111
    go_wp2_with (go_at_call 133; refine (nan.out _ _).mono ?_; rintro e w' ⟨rfl, rfl⟩)
    go_ret
    exact ⟨by rw [e.out]; rfl, rfl⟩
  · by_cases h2 : y < x
    · have e : Hid (cmpI x y = 1) := by show _ = _; unfold cmpI; rw [if_neg h1, if_pos h2]
      go_enter Try.func111, Try.ntmps111
      go_wp2_with (go_at_call 133; refine (nan.out _ _).mono ?_; rintro e w' ⟨rfl, rfl⟩)
      go_ret
      exact ⟨by rw [e.out]; rfl, rfl⟩
    · have e : Hid (cmpI x y = 0) := by show _ = _; unfold cmpI; rw [if_neg h1, if_neg h2]
      go_enter Try.func111, Try.ntmps111
      go_wp2_with (go_at_call 133; refine (nan.out _ _).mono ?_; rintro e w' ⟨rfl, rfl⟩)
      go_ret
      exact ⟨by rw [e.out]; rfl, rfl⟩
theorem elI64 {W : World} {a : Option Addr} {n c : Nat} {f : Nat → Int} (h : Sl W (.slice a n c) n 1 .i64 f) (hn : 0 < n) : ∃ g off cur t fr, a = some ⟨g, off, none⟩ ∧ obj W g = some (.cells cur t fr) ∧ ∀ j, j < n → ∃ l : off + j < cur.size, cur[off + j] = .int .i64 (f j) := by
  obtain ⟨g, off, cur, t, fr, rfl, ho, hc⟩ := h.at hn
  exact ⟨g, off, cur, t, fr, rfl, ho, fun j hj => Array.getElem?_eq_some_iff.1 (hc j (by omega))⟩
set_option maxHeartbeats 1000000 in
set_option maxRecDepth 100000 in
theorem or_any (a : Option Addr) (n c : Nat) (f : Nat → Int) (hn : n ≤ 1000) (W : World) (hs : Sl W (.slice a n c) n 1 .i64 f) :
    Calls Try.prog 108 #[.slice a n c] W fun e w' => e = .returned (.int .i64 (orV f n)) ∧ W = w' := by
  go_enter Try.func108, Try.ntmps108
  go_wp2_with (fail)
  go_loop [8] (fun i => ∃ k : Nat, k ≤ n ∧ i = .int .i64 k ∧ Hid (∀ j, j < k → f j = 0)) (fun i => n - (intOf i).toNat)
  case atStart => exact ⟨0, by omega, rfl, fun j hj => absurd hj (by omega)⟩
  case round =>
    obtain ⟨k, hk, rfl, h0⟩ := hrel
    by_cases hlt : k < n
    · obtain ⟨g, off, cur, t, fr, rfl, o1, hel⟩ := elI64 hs (by omega)
      obtain ⟨l1, e1⟩ := hel k hlt
      have q1 := obj_lt o1
      clear hel hs
      by_cases hz : f k = 0
      · have h0' : Hid (∀ j, j < k + 1 → f j = 0) := fun j hj => by
          by_cases e : j = k
          · subst e; exact hz
          · exact h0.out j (by omega)
        have hb : (f k != 0) = false := by simp [hz]
        clear hz
        go_wp2_with (fail)
        go_round
        case rel => exact ⟨k + 1, by omega, by go_num, h0'⟩
        case measure => simp [intOf]; omega
      · have hv := hide (orV_at hlt h0.out hz)
        have hb : (f k != 0) = true := by simp [hz]
        clear hz
        go_wp2_with (fail)
        go_ret
        exact ⟨by rw [hv.out]; rfl, rfl⟩
    · obtain rfl : n = k := by omega
      have hv := hide (orV_0 h0.out)
      go_wp2_with (fail)
      go_ret
      exact ⟨by rw [hv.out]; rfl, rfl⟩
set_option maxHeartbeats 1000000 in
set_option maxRecDepth 100000 in
theorem bright_gr (a b c : Int) (ha : 0 ≤ a ∧ a ≤ 255) (hb : 0 ≤ b ∧ b ≤ 255) (hc : 0 ≤ c ∧ c ≤ 255) (w : World) :
    Calls Try.prog 110 #[.agg #[.int .u8 a, .int .u8 b, .int .u8 c]] w fun e w' => e = .returned (.int .i64 (bright a b c)) ∧ Gr w w' := by
  have hd : Hid (bright a b c = 3 * a + 6 * b + c) := rfl
  go_enter Try.func110, Try.ntmps110
  go_wp2_with (fail)
  go_ret
  exact ⟨by rw [hd.out]; rfl, (Gr.refl _).alloc _⟩
end Go.Proofs.Ytmiafnlaooggjaa
