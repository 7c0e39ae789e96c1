/- The stock that a picture asks: the reference and the program answer alike; palettes marked; no condition. -/
import Derived.Test.YtpofhbdnjecfjaaImOf
import Derived.Test.YtpofhbdnjecfjaaCost
import Derived.Test.YtpofhbdnjecfjaaCnt
import Derived.Test.YtpofhbdnjecfjaaDif
set_option linter.unusedVariables false
namespace Go.Proofs.Ytpofhbdnjecfjaa
open Go.BigFrame
open Go.RowKit Go.Arr
def impC (f : Nat → Int) : Nat → Nat → Int := cntU (fun i => decide (0 < f i)) (fun i => (f i).toNat - 1)
theorem impC_eq {a b : Int} {f : Nat → Int} (hf : ∀ i, 0 ≤ f i ∧ f i ≤ 255) (h : okPic a b f = true) (j k : Nat) (hk : k ≤ 144) : impC f k j = cntF a b f k (j + 1) := by
  induction k generalizing j with
  | zero => rfl
  | succ k ih =>
    have hb := okPic_bare h k (by omega)
    have hfk := hf k
    unfold impC cntF at *
    rw [cntU, cntU]
    by_cases hp : 0 < f k
    · have hc : cellB k a b = true := by
        cases hc : cellB k a b
        · have := hb hc; omega
        · rfl
      rw [if_pos (decide_eq_true hp), if_pos hc]
      unfold upd
      try dsimp only
      by_cases e : j = (f k).toNat - 1
      · rw [if_pos e, if_pos (by omega), ih _ (by omega)]
        rw [show (f k).toNat - 1 + 1 = (f k).toNat by omega]
      · rw [if_neg e, if_neg (by omega), ih _ (by omega)]
    · rw [if_neg (by simp; omega)]
      split
      · unfold upd
        rw [if_neg (by omega), ih _ (by omega)]
      · exact ih _ (by omega)
def stockN (a b : Int) (f : Nat → Int) (n : Nat) (fp : Nat → Int) : Nat := if hasV a b f n fp = 0 then n else 0
def stockF (a b : Int) (f : Nat → Int) : Nat → Int := fun j => cntF a b f 144 (j + 1)
theorem stockN_0 {a b : Int} {f : Nat → Int} {n : Nat} {fp : Nat → Int} {k : Int} (h : hasV a b f n fp = k) (hk : k ≠ 0) : stockN a b f n fp = 0 := if_neg (by rw [h]; exact hk)
theorem stockN_1 {a b : Int} {f : Nat → Int} {n : Nat} {fp : Nat → Int} (h : hasV a b f n fp = 0) : stockN a b f n fp = n := if_pos h
theorem stockN_le (a b : Int) (f : Nat → Int) (n : Nat) (fp : Nat → Int) : stockN a b f n fp ≤ 15 := by
  unfold stockN
  split
  · rename_i h
    rcases hasV_cases2 a b f n fp with ⟨h1, _⟩ | ⟨h1, _⟩ | ⟨_, h2, _⟩
    · omega
    · omega
    · exact (okPal_pos h2.2).2
  · omega
set_option maxHeartbeats 2000000 in
set_option maxRecDepth 100000 in
theorem markPal_any (g n c : Nat) (f : Nat → Int) (hn : n ≤ 1048576) (s : Int) (hs : 0 ≤ s ∧ s ≤ 1000000) (W : World) (h : Pal W g n f) :
    Calls Try.prog 15 #[.slice (some ⟨g, 0, none⟩) n c, .int .i64 s] W fun e w' => e = .returned (.int .i64 (s + 3 * n)) ∧ (∃ f', Pal w' g n f') ∧ (∀ b, b ≠ g → obj w' b = obj W b) ∧ w'.heap.size = W.heap.size ∧ ∀ a0, New a0 W → a0.heap.size ≤ g → New a0 w' := by
  unfold Pal at *
  go_enter Try.func15, Try.ntmps15
  go_wp2_with (fail)
  go_loopw [1, 5] (fun x i wr => ∃ k : Nat, k ≤ n ∧ i = .int .i64 k ∧ x = .int .i64 (s + 3 * k) ∧ Hid (∃ f', obj wr g = some (.cells (arr (n * 3) .u8 f') 34)) ∧ Hid (∀ b, b ≠ g → obj wr b = obj W b) ∧ wr.heap.size = W.heap.size ∧ Hid (∀ a0, New a0 W → a0.heap.size ≤ g → New a0 wr)) (fun _ i _ => n - (intOf i).toNat)
  case atStart => exact ⟨0, by omega, rfl, by simp, ⟨f, h⟩, fun _ _ => rfl, rfl, fun _ h _ => h⟩
  case round =>
    obtain ⟨k, hk, rfl, rfl, ho1, hot, hws, hnw⟩ := hrel
    by_cases hlt : k < n
    · go_wp2_with (fail)
      go_loopw [1, 6] (fun x j wq => ∃ q : Nat, q ≤ 3 ∧ j = .int .i64 q ∧ x = .int .i64 (s + 3 * k + q) ∧ Hid (∃ f', obj wq g = some (.cells (arr (n * 3) .u8 f') 34)) ∧ Hid (∀ b, b ≠ g → obj wq b = obj W b) ∧ wq.heap.size = W.heap.size ∧ Hid (∀ a0, New a0 W → a0.heap.size ≤ g → New a0 wq)) (fun _ j _ => 3 - (intOf j).toNat)
      case atStart => exact ⟨0, by omega, rfl, by simp, ho1, hot, hws, hnw⟩
      case round =>
        obtain ⟨q, hq, rfl, rfl, ho2, hot2, hws2, hnw2⟩ := hrel
        by_cases hq3 : q < 3
        · obtain ⟨f', ho⟩ := ho2.out
          have l1 : k * 3 + q < n * 3 := by omega
          clear ho1 hot hws hnw ho2
          go_wp2_with (fail)
          go_roundw
          case rel =>
            refine ⟨q + 1, by omega, by go_num, by go_num, ⟨_, obj_set_arr ho _ (k * 3 + q) _ rfl⟩, ?_, by rw [World.size_setCell]; exact hws2, ?_⟩
            · intro b hb
              rw [obj_setCell_other _ _ _ _ _ hb, hot2.out b hb]
            · intro a0 h0 hg
              exact (hnw2.out a0 h0 hg).setCell hg _
          case measure => simp [intOf]; omega
        · obtain rfl : q = 3 := by omega
          clear ho1 hot hws hnw
          go_wp2_with (fail)
          go_roundw
          case rel => exact ⟨k + 1, by omega, by go_num, by go_num, ho2, hot2, hws2, hnw2⟩
          case measure => simp [intOf]; omega
    · obtain rfl : k = n := by omega
      go_wp2_with (fail)
      go_ret
      exact ⟨rfl, ho1.out, hot.out, hws, hnw.out⟩
end Go.Proofs.Ytpofhbdnjecfjaa
