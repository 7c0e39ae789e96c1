/- Whether a palette has the colours of a picture: the reference and the program answer alike; no condition. -/
import Derived.Test.YtmiafnlaooggjaaVpal
import Derived.Test.YtmiafnlaooggjaaValid
set_option linter.unusedVariables false
namespace Go.Proofs.Ytmiafnlaooggjaa
open Go.BigFrame
open Go.RowKit Go.Arr
def hasC (n : Nat) (f : Nat → Int) : Bool := (List.range 144).all fun i => decide (f i ≤ n)
theorem hasC_t {n : Nat} {f : Nat → Int} (h : ∀ j, j < 144 → decide (f j ≤ n) = true) : hasC n f = true := List.all_eq_true.2 fun i hi => h i (by simpa using hi)
theorem hasC_f {n i : Nat} {f : Nat → Int} (hi : i < 144) (h : ¬ f i ≤ n) : hasC n f = false := List.all_eq_false.2 ⟨i, by simpa using hi, by simp [h]⟩
theorem hasC_e {n : Nat} {f : Nat → Int} (h : hasC n f = true) (i : Nat) (hi : i < 144) : f i ≤ n := of_decide_eq_true (List.all_eq_true.1 h i (by simpa using hi))
def hasV (a b : Int) (f : Nat → Int) (n : Nat) (fp : Nat → Int) : Int := if (okPic a b f && okPal n fp) = false then 1 else if hasC n f = false then 2 else 0
set_option maxHeartbeats 400000 in
theorem hasLit_any (x : Int) (hx : 0 ≤ x ∧ x ≤ 255) (ad : Option Addr) (n c bP : Nat) (w : World) (o1 : obj w bP = some (.cells #[.slice ad n c] 26)) :
    Calls Try.prog 118 #[.int .u8 x, .pointer (some ⟨bP, 0, none⟩)] w fun e w' => e = .returned (.bool (!decide (x ≤ n))) ∧ w = w' := by
  by_cases h : x ≤ n
  · go_enter Try.func118, Try.ntmps118
    go_wp2_with (fail)
    go_ret
    exact ⟨ret_b (by simp [h]), rfl⟩
  · go_enter Try.func118, Try.ntmps118
    go_wp2_with (fail)
    go_ret
    exact ⟨ret_b (by simp [h]), rfl⟩
set_option maxHeartbeats 1000000 in
set_option maxRecDepth 100000 in
theorem idxHas_any (a b : Int) (f : Nat → Int) (hf : ∀ i, 0 ≤ f i ∧ f i ≤ 255) (ad : Option Addr) (n c bP bQ : Nat) (t0 : TypeId) (W : World) (oq : obj W bQ = some (.cells (pic 144 a b f) t0)) (o1 : obj W bP = some (.cells #[.slice ad n c] 26)) :
    Calls Try.prog 136 #[.slice (some ⟨bQ, 2, none⟩) 144 144, .func (.func 118) #[] #[.pointer (some ⟨bP, 0, none⟩)]] W fun e w' => ∃ r : Int, e = .returned (.int .i64 r) ∧ -1 ≤ r ∧ (0 ≤ r ↔ hasC n f = false) ∧ W = w' := by
  go_enter Try.func136, Try.ntmps136
  go_wp2_with (fail)
  go_loop [8] (fun i => ∃ k : Nat, k ≤ 144 ∧ i = .int .i64 k ∧ Hid (∀ j, j < k → decide (f j ≤ n) = true)) (fun i => 144 - (intOf i).toNat)
  case atStart => exact ⟨0, by omega, rfl, fun j hj => absurd hj (by omega)⟩
  case round =>
    obtain ⟨k, hk, rfl, hal⟩ := hrel
    by_cases hlt : k < 144
    · by_cases hc : f k ≤ n
      · have hd := hide (decide_eq_true hc)
        go_wp2_with (go_at_call 118; refine (hasLit_any _ (hf _) ad n c bP _ o1).mono ?_; rintro e w1 ⟨rfl, rfl⟩; rw [hd.out])
        go_round
        case rel => exact ⟨k + 1, by omega, by go_num, all_succ (p := fun j => decide (f j ≤ n)) hal.out hd.out⟩
        case measure => simp [intOf]; omega
      · have hd := hide (decide_eq_false hc)
        have hh := hide (hasC_f hlt hc)
        go_wp2_with (go_at_call 118; refine (hasLit_any _ (hf _) ad n c bP _ o1).mono ?_; rintro e w1 ⟨rfl, rfl⟩; rw [hd.out])
        go_ret
        exact ⟨_, rfl, by omega, Iff.intro (fun _ => hh.out) (fun _ => by omega), rfl⟩
    · obtain rfl : k = 144 := by omega
      have hh := hide (hasC_t hal.out)
      clear hal
      go_wp2_with (fail)
      go_ret
      exact ⟨_, rfl, by omega, Iff.intro (fun h => absurd h (by omega)) (fun h => by rw [hh.out] at h; cases h), rfl⟩
set_option maxHeartbeats 400000 in
theorem anyHas_any (a b : Int) (f : Nat → Int) (hf : ∀ i, 0 ≤ f i ∧ f i ≤ 255) (ad : Option Addr) (n c bP bQ : Nat) (t0 : TypeId) (W : World) (oq : obj W bQ = some (.cells (pic 144 a b f) t0)) (o1 : obj W bP = some (.cells #[.slice ad n c] 26)) :
    Calls Try.prog 117 #[.slice (some ⟨bQ, 2, none⟩) 144 144, .func (.func 118) #[] #[.pointer (some ⟨bP, 0, none⟩)]] W fun e w' => e = .returned (.bool (!hasC n f)) ∧ W = w' := by
  go_enter Try.func117, Try.ntmps117
  go_wp2_with (fail)
  refine (idxHas_any a b f hf ad n c bP bQ t0 _ oq o1).mono ?_
  rintro e w1 ⟨r, rfl, hr, hiff, rfl⟩
  go_wp2_with (fail)
  go_ret
  exact ⟨rfl, rfl⟩
set_option maxHeartbeats 400000 in
theorem hasColours_any (a b : Int) (f : Nat → Int) (hf : ∀ i, 0 ≤ f i ∧ f i ≤ 255) (ad : Option Addr) (n c : Nat) (W : World) :
    Calls Try.prog 93 #[.agg (pic 144 a b f), .slice ad n c] W fun e w' => e = .returned (.bool (hasC n f)) ∧ New W w' := by
  go_enter Try.func93, Try.ntmps93
  go_wp2_with (fail)
  refine (anyHas_any a b f hf ad n c _ _ 37 _ (by go_simp) (by go_simp)).mono ?_
  rintro e w1 ⟨rfl, rfl⟩
  go_wp2_with (fail)
  go_ret
  exact ⟨ret_b (by simp), ((New.refl W).alloc _).alloc _⟩
end Go.Proofs.Ytmiafnlaooggjaa
