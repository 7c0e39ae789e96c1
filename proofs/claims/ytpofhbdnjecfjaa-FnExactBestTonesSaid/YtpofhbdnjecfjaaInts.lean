/- Rows of numbers: copied, held against each other; no condition. -/
import Derived.Test.YtpofhbdnjecfjaaTy
import Derived.Test.YtpofhbdnjecfjaaSli
import Derived.Test.YtpofhbdnjecfjaaSmall
set_option linter.unusedVariables false
namespace Go.Proofs.Ytpofhbdnjecfjaa
open Go.BigFrame
open Go.RowKit Go.Arr
theorem elInts {W : World} {a : Option Addr} {n c : Nat} {f : Nat → Int} (h : Sl W (.slice a n c) n 1 .i64 f) (hn : 0 < n) : ∃ g off cur t fr, a = some ⟨g, off, none⟩ ∧ obj W g = some (.cells cur t fr) ∧ ∀ j, j < n → ∃ l : off + j < cur.size, cur[off + j] = .int .i64 (f j) := by
  obtain ⟨g, off, cur, t, fr, rfl, ho, hc⟩ := h.at hn
  exact ⟨g, off, cur, t, fr, rfl, ho, fun j hj => Array.getElem?_eq_some_iff.1 (hc j (by omega))⟩
def Ints (W : World) (g n : Nat) (f : Nat → Int) : Prop := obj W g = some (.cells (arr n .i64 f) 2)
theorem Ints.new {W W' : World} {g n : Nat} {f : Nat → Int} (h : Ints W g n f) (hn : New W W') : Ints W' g n f := (hn.objs _ (obj_lt h)).trans h
theorem Ints.sl {W : World} {g n c : Nat} {f : Nat → Int} (h : Ints W g n f) : Sl W (.slice (some ⟨g, 0, none⟩) n c) n 1 .i64 f := Sl.arr h (by omega)
set_option maxHeartbeats 1000000 in
set_option maxRecDepth 100000 in
theorem eqInts_refl (a1 a2 : Option Addr) (n c1 c2 : Nat) (f : Nat → Int) (hn : n ≤ 1048576) (W : World) (h1 : Sl W (.slice a1 n c1) n 1 .i64 f) (h2 : Sl W (.slice a2 n c2) n 1 .i64 f) :
    Calls Try.prog 14 #[.slice a1 n c1, .slice a2 n c2] W fun e w' => e = .returned (.bool true) ∧ New W w' := by
  go_enter Try.func14, Try.ntmps14
  go_wp2_with (fail)
  go_loopw [5] (fun i wr => ∃ k : Nat, k ≤ n ∧ i = .int .i64 k ∧ New W wr) (fun i _ => n - (intOf i).toNat)
  case atStart => exact ⟨0, by omega, rfl, New.refl W⟩
  case round =>
    obtain ⟨k, hk, rfl, hnw⟩ := hrel
    by_cases hlt : k < n
    · obtain ⟨g1, off1, cur1, t1, fr1, rfl, o1, hel1⟩ := elInts h1 (by omega)
      obtain ⟨g2, off2, cur2, t2, fr2, rfl, o2, hel2⟩ := elInts h2 (by omega)
      obtain ⟨l1, e1⟩ := hel1 k hlt
      obtain ⟨l2, e2⟩ := hel2 k hlt
      have p1 := (hnw.objs _ (obj_lt o1)).trans o1
      have p2 := (hnw.objs _ (obj_lt o2)).trans o2
      have hne : (f k != f k) = false := by simp
      clear o1 o2 h1 h2 hel1 hel2
      go_wp2_with (fail)
      go_quiet (fail)
      go_wp2_with (fail)
      go_roundw
      case rel => exact ⟨k + 1, by omega, by go_num, hnw.drewN _⟩
      case measure => simp [intOf]; omega
    · obtain rfl : k = n := by omega
      go_wp2_with (fail)
      go_ret
      exact ⟨rfl, hnw⟩
end Go.Proofs.Ytpofhbdnjecfjaa
