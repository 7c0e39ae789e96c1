/- Tones that are the best: what the reference returns, walked; no condition. -/
import Derived.Test.YtpofhbdnjecfjaaBesP
import Derived.Test.YtpofhbdnjecfjaaDraw
set_option linter.unusedVariables false
namespace Go.Proofs.Ytpofhbdnjecfjaa
open Go.BigFrame
open Go.RowKit Go.Arr
theorem lex_at {m i : Nat} {A B : Nat → Int} (hi : i < m) (h : ∀ j, j < i → A j = B j) (hne : A i ≠ B i) : lexP m A B ↔ A i < B i := by
  constructor
  · rintro ⟨q, h1, h2, h3⟩
    by_cases e : q < i
    · have := h q e; omega
    · by_cases e2 : i < q
      · exact absurd (h2 i e2) hne
      · have : q = i := by omega
        subst this; exact h3
  · exact fun h3 => ⟨i, hi, h, h3⟩
theorem lex_no {m : Nat} {A B : Nat → Int} (h : ∀ j, j < m → A j = B j) : ¬ lexP m A B := by
  rintro ⟨q, h1, h2, h3⟩
  have := h q h1
  omega
theorem eq_succ {A B : Nat → Int} {i : Nat} (h : ∀ j, j < i → A j = B j) (h2 : A i = B i) : ∀ j, j < i + 1 → A j = B j := fun j hj => by
  by_cases e : j = i
  · subst e; exact h2
  · exact h j (by omega)
theorem bit_e (s i : Nat) : (((s : Int) / 2 ^ i).tmod 2 == 1) = decide (s / 2 ^ i % 2 = 1) := by
  have e : ((s : Int) / 2 ^ i) = ((s / 2 ^ i : Nat) : Int) := by rw [Int.natCast_ediv, Int.natCast_pow]; rfl
  rw [e]
  generalize s / 2 ^ i = q
  rw [Int.tmod_eq_emod_of_nonneg (by omega)]
  by_cases h : q % 2 = 1
  · rw [decide_eq_true h]; simp; omega
  · rw [decide_eq_false h]; simp; omega
set_option maxHeartbeats 2000000 in
set_option maxRecDepth 100000 in
theorem less_any (la lb : Option Addr) (m ca cb : Nat) (A B : Nat → Int) (hm : m ≤ 1000) (W : World) (hs : Sl W (.slice la m ca) m 1 .i64 A) (ht : Sl W (.slice lb m cb) m 1 .i64 B) :
    Calls Try.prog 37 #[.slice la m ca, .slice lb m cb] W fun e w' => ∃ r, e = .returned (.bool r) ∧ (r = true ↔ lexP m A B) ∧ New W w' := by
  go_enter Try.func37, Try.ntmps37
  go_wp2_with (fail)
  go_loopw [5] (fun x wr => ∃ i : Nat, i ≤ m ∧ x = .int .i64 (i : Nat) ∧ Hid (∀ j, j < i → A j = B j) ∧ New W wr) (fun x _ => m - (intOf x).toNat)
  case atStart => exact ⟨0, by omega, rfl, fun j hj => absurd hj (by omega), New.refl _⟩
  case round =>
    obtain ⟨i, hi, rfl, hal, hnw⟩ := hrel
    by_cases hlt : i < m
    · obtain ⟨g1, o1, cur1, t1, f1, rfl, og1, hel1⟩ := elInts (hs.new hnw) (by omega)
      obtain ⟨g2, o2, cur2, t2, f2, rfl, og2, hel2⟩ := elInts (ht.new hnw) (by omega)
      obtain ⟨l1, e1⟩ := hel1 i hlt
      obtain ⟨l2, e2⟩ := hel2 i hlt
      have hz1 := obj_lt og1
      have hz2 := obj_lt og2
      clear hel1 hel2 hs ht
      by_cases he : A i = B i
      · have hal' := hide (eq_succ hal.out he)
        have hd : (A i != B i) = false := by simp [he]
        have hd2 : (B i != B i) = false := by simp
        replace he := hide he
        go_wp2_with (fail)
        go_quiet (fail)
        go_wp2_with (fail)
        go_roundw
        case rel => exact ⟨i + 1, by omega, by go_num, hal', hnw.drewN _⟩
        case measure => simp [intOf]; omega
      · have hx := hide (lex_at hlt hal.out he)
        have hd : (A i != B i) = true := by simp [he]
        replace he := hide he
        go_wp2_with (fail)
        go_quiet (fail)
        go_wp2_with (fail)
        go_quiet (fail)
        go_wp2_with (fail)
        go_ret
        exact ⟨_, rfl, by rw [hx.out, decide_eq_true_iff], (hnw.drewN _).drewN _⟩
    · have hie : i = m := by omega
      have hx := hide (lex_no (m := m) (A := A) (B := B) (by rw [← hie]; exact hal.out))
      clear hie hal
      go_wp2_with (fail)
      go_ret
      exact ⟨_, rfl, ⟨fun h => absurd h (by simp), fun h => absurd h hx.out⟩, hnw⟩
set_option maxHeartbeats 8000000 in
set_option maxRecDepth 100000 in
theorem best_spec (a b : Int) (fm : Nat → Int) (ha : -128 ≤ a ∧ a ≤ 127) (hb : -128 ≤ b ∧ b ≤ 127) (hfm : ∀ i, 0 ≤ fm i ∧ fm i ≤ 255) (ad : Option Addr) (n cp : Nat) (fp : Nat → Int) (hfp : ∀ i, 0 ≤ fp i ∧ fp i ≤ 255) (hn : n ≤ 1048576) (count : Int) (W : World) (hs : Sl W (.slice ad n cp) n 3 .u8 fp) :
    Calls Try.prog 12 #[.agg (pic 432 a b fm), .slice ad n cp, .int .i64 count] W fun e w' => ∃ v, e = .returned (.tuple #[v, .int .i64 (btV a b fm n fp count), .int .i64 (btC a b fm n fp count)]) ∧ Row w' W.heap.size v (btN a b fm n fp count) (btL a b fm n fp count) ∧ New W w' := by
  go_enter Try.func12, Try.ntmps12
  go_wp2_with (fail)
  generalize hw0 : W.alloc (Obj.cells (pic 432 a b fm) 37) = w0
  have b1 : obj w0 W.heap.size = some (.cells (pic 432 a b fm) 37) := by subst hw0; go_simp
  have hn0 : New W w0 := by subst hw0; exact (New.refl W).alloc _
  have hs0 := hs.new hn0
  clear hw0 hs
  refine (l02Counted_any _ 37 a b fm ha hb ad n cp fp hn count _ b1 hs0).mono ?_
  rintro e w1 ⟨rfl, hn1⟩
  have c1 := (hn1.objs _ (obj_lt b1)).trans b1
  have hN1 := hn0.trans hn1
  have hs1 := hs0.new hn1
  clear b1 hn0 hn1 hs0
  by_cases hcc : cntC a b fm n fp count = 0
  rotate_left
  · have hC := hide hcc
    generalize hk : cntC a b fm n fp count = C at *
    have hk2 := hide hk
    have mC : (C != 0) = true := by simp [hcc]
    have mC2 : (C == 0) = false := by simp [hcc]
    have hB := hide (btC_k hk hcc)
    have hWl := hN1.le
    clear hk hcc
    go_wp2_with (fail)
    go_ret3
    exact ⟨_, by rw [btV_z hB.out hC.out, hB.out]; rfl, by rw [btN_z hB.out hC.out]; exact row_empty2 (obj_alloc_at _ _ _ rfl) (by omega), hN1.alloc _⟩
  have hC0 := hide hcc
  obtain ⟨hok, hc1, hc2⟩ := cntC_le hcc
  have hp := okPal_pos (askOk_e hok).2
  obtain ⟨K, rfl⟩ : ∃ K : Nat, count = K := ⟨count.toNat, by omega⟩
  have hWl := hN1.le
  rw [hcc]
  clear hcc hok
  by_cases hbig : 10 < n
  · have hC := hide (btC_3 hC0.out hbig)
    go_wp2_with (fail)
    go_ret3
    exact ⟨_, by rw [btV_z hC.out (by omega), hC.out]; rfl, by rw [btN_z hC.out (by omega)]; exact row_empty2 (obj_alloc_at _ _ _ rfl) (by omega), hN1.alloc _⟩
  have hC := hide (btC_0 hC0.out hbig)
  obtain ⟨C, hCe⟩ : ∃ C : (Nat → Int) → Int, Hid (C = fun L => cosS K (subP fp L) fm a b 144) := ⟨_, rfl⟩
  have hCb : ∀ L, 0 ≤ C L ∧ C L ≤ 144000000 := fun L => by rw [hCe.out]; show 0 ≤ cosS K (subP fp L) fm a b 144 ∧ cosS K (subP fp L) fm a b 144 ≤ 144000000; have := cosS_b (fs := subP fp L) (fun i => hfp _) hfm K a b 144; omega
  have hn10 : n ≤ 10 := by omega
  clear hbig
  have r1 := obj_lt c1
  obtain ⟨N, hN⟩ : ∃ N : Nat, Hid (2 ^ n = N) := ⟨_, rfl⟩
  have hNb : 1 ≤ N ∧ N ≤ 1024 := by rw [← hN.out]; exact ⟨Nat.one_le_two_pow, Nat.pow_le_pow_right (by omega) (show n ≤ 10 by omega)⟩
  have hsh : wrap64 ((2 : Int) ^ n) = (N : Int) := by
    have e : ((2 : Int) ^ n) = (N : Int) := by rw [← hN.out, Int.natCast_pow]; rfl
    rw [e]
    exact IntWalk.wrap64_in _ (by omega)
  go_wp2_with (fail)
  go_loopw [12, 10, 11] (fun x v l wr => ∃ (s k : Nat) (L : Nat → Int) (c : Int), s ≤ N ∧ x = .int .i64 (s : Nat) ∧ l = .int .i64 c ∧ (0 ≤ c ∧ c ≤ 144000000) ∧ Hid (BI C K n s k L c) ∧ (k = 0 ∨ k = K) ∧ Row wr w1.heap.size v k L ∧ New w1 wr ∧ w1.heap.size ≤ wr.heap.size) (fun x _ _ _ => N - (intOf x).toNat)
  case atStart => exact ⟨0, 0, fun _ => 0, 0, by omega, rfl, rfl, by omega, BI_0, Or.inl rfl, row_empty2 (obj_alloc_at _ _ _ rfl) (Nat.le_refl _), (New.refl _).alloc _, by simp⟩
  case round =>
    obtain ⟨s, k, L, c, hs', rfl, rfl, hcb, hI, hk, hrow, hnw, hlw⟩ := hrel
    by_cases hlt : s < N
    · obtain ⟨wR, hwR⟩ : ∃ x, x = wr := ⟨_, rfl⟩
      subst hwR
      go_wp2_with (fail)
      try simp only [hsh]
      try simp only [show decide ((s : Int) < (N : Int)) = true from decide_eq_true (by omega)]
      go_loopw [14, 13] (fun x v wq => ∃ i : Nat, i ≤ n ∧ x = .int .i64 (i : Nat) ∧ Row wq wR.heap.size v (lsT s i).1 (lsT s i).2 ∧ New wR wq ∧ wR.heap.size ≤ wq.heap.size) (fun x _ _ => n - (intOf x).toNat)
      case atStart => exact ⟨0, by omega, rfl, row_empty2 (obj_alloc_at _ _ _ rfl) (Nat.le_refl _), (New.refl _).alloc _, by simp⟩
      case round =>
        obtain ⟨i, hi, rfl, hr, hnq, hlq⟩ := hrel
        by_cases hli : i < n
        · obtain ⟨x5, y5, rfl, _⟩ := hr.reads
          have hlb := lsT_le s i
          by_cases hbit : s / 2 ^ i % 2 = 1
          · have hd : (((s : Int) / 2 ^ i).tmod 2 == 1) = true := by rw [bit_e, decide_eq_true hbit]
            have hq := hide (lsT_t hbit)
            have hbk := hide hr.block
            generalize lsT s i = P at hr hlb hq hbk ⊢
            obtain ⟨k1, L1⟩ := P
            dsimp only at hr hlb hq hbk ⊢
            go_wp2_with (at_builtin; refine wpList_app slInts rfl _ _ rfl wR.heap.size _ _ _ rfl (hr.new ((New.refl _).alloc _)) ⟨wr.heap.size, 0, none⟩ 1 1 [.int .i64 ((i : Int) + 1)] rfl rfl (news_new _ _ _ _ _ rfl) (by simp [Value.oneCell']) (by omega) (by unfold maxLen; omega) (by omega) (by simp; omega) ?_)
            intro g1 cap1 w3 hown1 hg1 hat1 hlt1
            have hr1 := row_app2 hown1
            have hn1 : New wR w3 := grown_new (hnq.alloc _) hg1 fun b hb => (hbk.out b hb).1
            have hz1 := hn1.le
            clear hown1 hg1 hat1 hbk hr
            go_wp2_with (fail)
            go_roundw
            case rel => exact ⟨i + 1, by omega, by go_num, by rw [hq.out]; exact hr1, hn1, hz1⟩
            case measure => simp [intOf]; omega
          · have hd : (((s : Int) / 2 ^ i).tmod 2 == 1) = false := by rw [bit_e, decide_eq_false hbit]
            have hq := hide (lsT_f hbit)
            go_wp2_with (fail)
            go_roundw
            case rel => exact ⟨i + 1, by omega, by go_num, by rw [hq.out]; exact hr, hnq, hlq⟩
            case measure => simp [intOf]; omega
        · have hie : i = n := by omega
          rw [hie] at hr
          have hla := lsT_asc s n
          have hlb := lsT_le s n
          obtain ⟨x5, y5, rfl, _⟩ := hr.reads
          have hSk := hide (fun (h : (lsT s n).1 ≠ K) => BI_skip hI.out h)
          have hTk := hide (fun (h : (lsT s n).1 = K) (hb : k = 0 ∨ C (lsT s n).2 < c ∨ (C (lsT s n).2 = c ∧ lexP K (lsT s n).2 L)) => BI_take hI.out h hb (by omega))
          have hKk := hide (fun (h : (lsT s n).1 = K) (h0 : k ≠ 0) (hb : ¬ C (lsT s n).2 < c) (hb2 : C (lsT s n).2 = c → ¬ lexP K (lsT s n).2 L) => BI_keep hI.out h h0 hb hb2)
          generalize lsT s n = P at hr hla hlb hSk hTk hKk ⊢
          obtain ⟨k1, L1⟩ := P
          dsimp only at hr hla hlb hSk hTk hKk ⊢
          have hrow2 := hrow.new hnq
          have hnw2 := hnw.trans hnq
          clear hie hrow hnw hI
          by_cases hkK : k1 = K
          rotate_left
          · have hI2 := hide (hSk.out hkK)
            have hd : ((k1 : Int) != (K : Int)) = true := by simp; omega
            clear hSk hTk hKk
            go_wp2_with (fail)
            go_roundw
            case rel => exact ⟨s + 1, k, L, c, by omega, by go_num, rfl, hcb, hI2, hk, hrow2, hnw2, by omega⟩
            case measure => simp [intOf]; omega
          · have hd : ((k1 : Int) != (K : Int)) = false := by simp; omega
            have hr2 : Row wr wR.heap.size (.slice x5 K y5) K L1 := by rw [← hkK]; exact hr
            have hkK' := hide hkK
            have d3 := (hnw2.objs _ r1).trans c1
            have hs3 := hs1.new hnw2
            have hlL : ∀ j, j < K → 1 ≤ L1 j ∧ L1 j ≤ n := fun j hj => hla.1 j (by omega)
            clear hSk hr hla
            rw [hkK]
            replace hd : ((K : Int) != (K : Int)) = false := by simp
            clear hkK
            go_wp2_with (fail)
            refine (l02Cost_any _ 37 a b fm ha hb hfm ad n cp fp hfp (by omega) x5 K y5 L1 (by omega) hlL _ d3 hs3 hr2.sl).mono ?_
            rintro e w6 ⟨rfl, hn6⟩
            rw [show cosS K (subP fp L1) fm a b 144 = C L1 by rw [hCe.out]]
            have hcl := hCb L1
            have hnw6 := hnw2.trans hn6
            have hz6 := hn6.le
            have hr6 := hr2.new hn6
            have hr7 : Row w6 w1.heap.size (.slice x5 K y5) K L1 := hr6.lower (by omega)
            have hrow6 := hrow2.new hn6
            obtain ⟨x8, y8, rfl, _⟩ := hrow6.reads
            generalize C L1 = cl at hcl hTk hKk ⊢
            clear hr2 hrow2 d3 hs3
            by_cases hk0 : k = 0
            · have hI2 := hide (hTk.out hkK'.out (Or.inl hk0))
              have m0 : ((k : Int) == 0) = true := by simp [hk0]
              replace hk0 := hide hk0
              clear hTk hKk
              go_wp2_with (fail)
              go_roundw
              case rel => exact ⟨s + 1, K, L1, cl, by omega, by go_num, rfl, hcl, hI2, Or.inr rfl, hr7, hnw6, by omega⟩
              case measure => simp [intOf]; omega
            · have m0 : ((k : Int) == 0) = false := by simp [hk0]
              have hkk : k = K := by omega
              by_cases h1 : cl < c
              · have hI2 := hide (hTk.out hkK'.out (Or.inr (Or.inl h1)))
                clear hTk hKk
                go_wp2_with (fail)
                go_roundw
                case rel => exact ⟨s + 1, K, L1, cl, by omega, by go_num, rfl, hcl, hI2, Or.inr rfl, hr7, hnw6, by omega⟩
                case measure => simp [intOf]; omega
              · by_cases h2 : cl = c
                · have m1 : (cl == c) = true := by simp [h2]
                  subst hkk
                  have h2' := hide h2
                  have hb8 := hrow6.sl
                  clear h2
                  go_wp2_with (fail)
                  refine (less_any x5 x8 k y5 y8 L1 L (by omega) _ hr6.sl hb8).mono ?_
                  rintro e w8 ⟨r, rfl, hrl, hn8⟩
                  have hnw8 := hnw6.trans hn8
                  have hz8 := hn8.le
                  cases r
                  · have hI2 := hide (hKk.out hkK'.out hk0 (by omega) (fun _ h => absurd (hrl.2 h) (by simp)))
                    have hrow8 := hrow6.new hn8
                    clear hTk hKk hrl
                    go_wp2_with (fail)
                    go_roundw
                    case rel => exact ⟨s + 1, k, L, c, by omega, by go_num, rfl, hcb, hI2, Or.inr rfl, hrow8, hnw8, by omega⟩
                    case measure => simp [intOf]; omega
                  · have hI2 := hide (hTk.out hkK'.out (Or.inr (Or.inr ⟨h2'.out, hrl.1 rfl⟩)))
                    have hr8 := hr7.new hn8
                    clear hTk hKk hrl
                    go_wp2_with (fail)
                    go_roundw
                    case rel => exact ⟨s + 1, k, L1, cl, by omega, by go_num, rfl, hcl, hI2, Or.inr rfl, hr8, hnw8, by omega⟩
                    case measure => simp [intOf]; omega
                · have hI2 := hide (hKk.out hkK'.out hk0 (by omega) (fun h => absurd h h2))
                  have m1 : (cl == c) = false := by simp [h2]
                  clear hTk hKk hkk
                  go_wp2_with (fail)
                  go_roundw
                  case rel => exact ⟨s + 1, k, L, c, by omega, by go_num, rfl, hcb, hI2, hk, hrow6, hnw6, by omega⟩
                  case measure => simp [intOf]; omega
    · have hse : s = N := by omega
      have hI2 := hI.out
      rw [hse, ← hN.out] at hI2
      obtain ⟨e0, e1, e2⟩ := BI_end hI2 (by omega)
      have hV := hide (btV_s hC.out hCe.out)
      have hNn := hide (btN_s hC.out)
      have hL := hide (btL_s (n := n) hCe.out)
      have e1 := hide e1
      have e2 := hide e2
      have hrow7 := hrow.lower (b := W.heap.size) (by omega)
      rw [e0] at hrow7
      clear hI hI2 hse hrow e0 hk
      go_wp2_with (fail)
      go_ret3
      exact ⟨_, by rw [hV.out, hC.out, ← e2.out]; rfl, by rw [hNn.out, hL.out, ← e1.out]; exact hrow7, hN1.trans hnw⟩
end Go.Proofs.Ytpofhbdnjecfjaa
