/- The great law on fields: a number that is in a row is found; no condition. -/
import Derived.Test.YtmmckoemkpfgbaaFfA
set_option linter.unusedVariables false
namespace Go.Proofs.Ytmmckoemkpfgbaa
open Go.BigFrame
open Go.RowKit Go.Arr
set_option maxHeartbeats 1000000 in
set_option maxRecDepth 100000 in
theorem l00Has_in (a : Option Addr) (m c : Nat) (L : Nat → Int) (z : Int) (hm : m ≤ 100000) (W : World) (h1 : Reads W a m L) (hz : Hid (∃ t, t < m ∧ L t = z)) :
    Calls Try.prog 41 #[.slice a m c, .int .i64 z] W fun e w' => e = .returned (.bool true) ∧ W = w' := by
  go_enter Try.func41, Try.ntmps41
  go_wp2_with (fail)
  go_loop [5] (fun x => ∃ i : Nat, i ≤ m ∧ x = .int .i64 i ∧ Hid (∀ j, j < i → L j ≠ z)) (fun x => m - (intOf x).toNat)
  case atStart => exact ⟨0, by omega, rfl, fun j hj => absurd hj (by omega)⟩
  case round =>
    obtain ⟨i, hi, rfl, hal⟩ := hrel
    by_cases hlt : i < m
    · obtain ⟨g1, cur1, rfl, o1, e1⟩ := h1 i hlt
      obtain ⟨l1, e1⟩ := Array.getElem?_eq_some_iff.1 e1
      by_cases he : L i = z
      · have hd : (L i == z) = true := by simp [he]
        clear he hz
        go_wp2_with (fail)
        go_ret
        exact ⟨rfl, rfl⟩
      · have hal' : Hid (∀ j, j < i + 1 → L j ≠ z) := fun j hj => by
          by_cases e : j = i
          · subst e; exact he
          · exact hal.out j (by omega)
        have hd : (L i == z) = false := by simp [he]
        clear he
        go_wp2_with (fail)
        go_round
        case rel => exact ⟨i + 1, by omega, by go_num, hal'⟩
        case measure => simp [intOf]; omega
    · exfalso
      obtain ⟨t, ht, hz'⟩ := hz.out
      exact hal.out t (by omega) hz'
set_option maxHeartbeats 400000 in
theorem a2Has_in (a : Option Addr) (m c : Nat) (L : Nat → Int) (z : Int) (hm : m ≤ 100000) (W : World) (h1 : Reads W a m L) (hz : Hid (∃ t, t < m ∧ L t = z)) :
    Calls Try.prog 21 #[.slice a m c, .int .i64 z] W fun e w' => e = .returned (.bool true) ∧ W = w' := by
  go_enter Try.func21, Try.ntmps21
  go_wp2_with (fail)
  refine (l00Has_in a m c L z hm _ h1 hz).mono ?_
  rintro e w1 ⟨rfl, rfl⟩
  go_wp2_with (fail)
  go_ret
  exact ⟨rfl, rfl⟩
end Go.Proofs.Ytmmckoemkpfgbaa
