/- Rows behind a row are marked, and found marked; no condition. -/
import Derived.Test.YtfopllkienogfaaRRow
set_option linter.unusedVariables false
namespace Go.Proofs.Ytfopllkienogfaa
open Go.BigFrame
open Go.RowKit Go.Arr
theorem RR.turn {W W' : World} {base n : Nat} {v : Value} {vs : Nat → Value} {m : Nat → Nat} {F : Nat → Nat → Int} {i : Nat} {f : Nat → Int} (h : RR W base v n vs m F) (hi : i < n) (hr : Row W' base (vs i) (m i) f) (ho : ∀ b, (vs i).ownBlock ≠ some b → obj W' b = obj W b) :
    RR W' base v n vs m (fun r => if r = i then f else F r) := by
  refine ⟨?_, fun r hr2 => ?_, h.2.2.1, h.2.2.2⟩
  · have h1 := h.2.2.2
    obtain ⟨hl, h' | ⟨g, cap, cur, e1, e2, e3, e4⟩⟩ := h.1
    · exact ⟨hl, .inl h'⟩
    · refine ⟨hl, .inr ⟨g, cap, cur, e1, e2, ?_, e4⟩⟩
      have := ho g fun e => h1 i g hi e (by rw [e1]; rfl)
      exact this.trans e3
  · by_cases e : r = i
    · subst e; simp only [if_true]; exact hr
    · simp only [if_neg e]
      exact (h.2.1 r hr2).same fun b hb => ho b fun e2 => e (h.2.2.1 r i b hr2 hi hb e2)
theorem sumM_mono {m : Nat → Nat} (i d : Nat) : sumM m i ≤ sumM m (i + d) := by
  induction d with
  | zero => exact Nat.le_refl _
  | succ d ih => rw [← Nat.add_assoc, sumM]; omega
set_option maxHeartbeats 2000000 in
set_option maxRecDepth 100000 in
theorem markRR (v : Value) (base n : Nat) (vs : Nat → Value) (m : Nat → Nat) (F : Nat → Nat → Int) (s : Int) (hs : 0 ≤ s ∧ s ≤ 10) (hn : n ≤ 144) (hm : ∀ i, m i ≤ 144) (W : World) (h : RR W base v n vs m F) :
    Calls Try.prog 12 #[v, .int .i64 s] W fun e w' => e = .returned (.int .i64 (s + (sumM m n : Nat))) ∧ RR w' base v n vs m (fun i j => s + (sumM m i : Nat) + j) ∧ (∀ b, (∀ i, i < n → (vs i).ownBlock ≠ some b) → obj w' b = obj W b) ∧ ∀ a0, New a0 W → a0.heap.size ≤ base → New a0 w' := by
  obtain ⟨a, cap, rfl⟩ := h.form
  have hsm := hide (sumM_le hm)
  have hm := hide hm
  go_enter Try.func12, Try.ntmps12
  go_wp2_with (fail)
  go_loopw [1, 5] (fun x i wr => ∃ k : Nat, k ≤ n ∧ i = .int .i64 k ∧ x = .int .i64 (s + (sumM m k : Nat)) ∧ RR wr base (.slice a n cap) n vs m (fun r j => if r < k then s + (sumM m r : Nat) + j else F r j) ∧ Hid (∀ b, (∀ i, i < n → (vs i).ownBlock ≠ some b) → obj wr b = obj W b) ∧ Hid (∀ a0, New a0 W → a0.heap.size ≤ base → New a0 wr)) (fun _ i _ => n - (intOf i).toNat)
  case atStart => exact ⟨0, by omega, rfl, by simp [sumM], by simpa using h, fun _ _ => rfl, fun _ h _ => h⟩
  case round =>
    obtain ⟨k, hk, rfl, rfl, hrr, hot, hnw⟩ := hrel
    by_cases hlt : k < n
    · obtain ⟨g, cur, rfl, o1, l1, e1⟩ := hrr.slot hlt
      have hrow : Row wr base (vs k) (m k) (F k) := (hrr.row hlt).congr fun j hj => by simp
      have hb1 := hsm.out k
      have hb2 := hm.out k
      have hst : Hid ((sumM m (k + 1) : Nat) = sumM m k + m k) := rfl
      have q1 := obj_lt o1
      go_wp2_with (fail)
      refine (mark_row (vs k) base (m k) (F k) _ (by omega) (by omega) _ hrow).mono ?_
      rintro e w1 ⟨rfl, hr1, ho1, hz1, hn1⟩
      have hrr1 := hrr.turn hlt hr1 ho1
      have hot1 : Hid (∀ b, (∀ i, i < n → (vs i).ownBlock ≠ some b) → obj w1 b = obj W b) := fun b hb => (ho1 b (hb k hlt)).trans (hot.out b hb)
      have hnw1 : Hid (∀ a0, New a0 W → a0.heap.size ≤ base → New a0 w1) := fun a0 h0 hb => hn1 a0 (hnw.out a0 h0 hb) fun b hb2 => by have := (hrow.block b hb2).1; omega
      clear ho1 hn1 hr1 hrow hrr hot hnw o1 e1
      go_wp2_with (fail)
      go_roundw
      case rel =>
        refine ⟨k + 1, by omega, by go_num, by rw [hst.out]; go_num, ?_, hot1, hnw1⟩
        refine hrr1.congr fun r hr j hj => ?_
        by_cases e : r = k
        · subst e; simp
        · simp only [if_neg e]
          by_cases e2 : r < k
          · rw [if_pos e2, if_pos (by omega)]
          · rw [if_neg e2, if_neg (by omega)]
      case measure => simp [intOf]; omega
    · obtain rfl : k = n := by omega
      go_wp2_with (fail)
      go_ret
      exact ⟨rfl, hrr.congr fun r hr j hj => if_pos hr, hot.out, hnw.out⟩
set_option maxHeartbeats 2000000 in
set_option maxRecDepth 100000 in
theorem heldRR (a : Option Addr) (cap base n : Nat) (vs : Nat → Value) (m : Nat → Nat) (s : Int) (hs : 0 ≤ s ∧ s ≤ 10) (hn : n ≤ 144) (hm : ∀ i, m i ≤ 144) (W : World) (h : RR W base (.slice a n cap) n vs m (fun i j => s + (sumM m i : Nat) + j)) :
    Calls Try.prog 13 #[.slice a n cap, .int .i64 s] W fun e w' => e = .returned (.int .i64 (s + (sumM m n : Nat))) ∧ New W w' := by
  have hsm := hide (sumM_le hm)
  have hm := hide hm
  go_enter Try.func13, Try.ntmps13
  go_wp2_with (fail)
  go_loopw [1, 5] (fun x i wr => ∃ k : Nat, k ≤ n ∧ i = .int .i64 k ∧ x = .int .i64 (s + (sumM m k : Nat)) ∧ New W wr) (fun _ i _ => n - (intOf i).toNat)
  case atStart => exact ⟨0, by omega, rfl, by simp [sumM], New.refl W⟩
  case round =>
    obtain ⟨k, hk, rfl, rfl, hnw⟩ := hrel
    by_cases hlt : k < n
    · obtain ⟨g, cur, rfl, o1, l1, e1⟩ := h.slot hlt
      have r1 := (h.row hlt).new hnw
      obtain ⟨x1, y1, z1, s1⟩ := r1.reads
      rw [z1] at e1
      have p1 := (hnw.objs _ (obj_lt o1)).trans o1
      have q1 := obj_lt p1
      have hb1 := hsm.out k
      have hb2 := hm.out k
      have hst : Hid ((sumM m (k + 1) : Nat) = sumM m k + m k) := rfl
      have hs1 : NewSl wr x1 (m k) (fun j => s + (sumM m k : Nat) + j) := s1
      clear h r1 z1 s1 o1
      go_wp2_with (fail)
      refine (held_row_ x1 (m k) y1 _ (by omega) (by omega) _ (hs1.at (New.refl _))).mono ?_
      rintro e w1 ⟨rfl, hn1⟩
      go_wp2_with (fail)
      go_roundw
      case rel => exact ⟨k + 1, by omega, by go_num, by rw [hst.out]; go_num, hnw.trans hn1⟩
      case measure => simp [intOf]; omega
    · obtain rfl : k = n := by omega
      go_wp2_with (fail)
      go_ret
      exact ⟨rfl, hnw⟩
end Go.Proofs.Ytfopllkienogfaa
