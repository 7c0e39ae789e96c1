/- The great law on nearest tones: sorted palettes, in plain words; no condition. -/
import Derived.Test.YtphjhegaplochaaGreatDoorU12
import Derived.Test.YtphjhegaplochaaGreatDoorU15
import Derived.Test.YtphjhegaplochaaGreatDoorU16
import Derived.Test.YtphjhegaplochaaGreatDoorU3
import Derived.Test.YtphjhegaplochaaGreatDoorU6
import Derived.Test.YtphjhegaplochaaGreatDoorU11
import Derived.Test.YtphjhegaplochaaGreatDoorU13
import Derived.Test.YtphjhegaplochaaGreatDoorNnM
import Derived.Test.YtphjhegaplochaaGreatDoorU4
import Derived.Test.YtphjhegaplochaaGreatDoorU5
import Derived.Test.YtphjhegaplochaaGreatDoorU1
set_option linter.unusedVariables false
namespace Go.Proofs.YtphjhegaplochaaGreatDoor
open Go.BigFrame
open Go.RowKit Go.Arr
theorem ord_is {n : Nat} {f : Nat → Int} (hf : ∀ i, 0 ≤ f i ∧ f i ≤ 255) (hp : okPal n f = true) : ordP n f (ordL n f) := by
  have hd := (okPal_e hp).2
  have hne : ∀ i j, i < n → j < n → i ≠ j → tnF f i ≠ tnF f j := fun i j hi hj hij e => by
    have e0 : f (i * 3) = f (j * 3) := by rw [← tnF_0 hf, ← tnF_0 hf, e]
    have e1 : f (i * 3 + 1) = f (j * 3 + 1) := by rw [← tnF_1 hf, ← tnF_1 hf, e]
    have e2 : f (i * 3 + 2) = f (j * 3 + 2) := by rw [← tnF_2 hf, ← tnF_2 hf, e]
    rcases Nat.lt_or_gt_of_ne hij with h | h
    · have := hd j i h hj
      unfold alikePal at this
      rw [Bool.eq_false_iff] at this
      exact this (eq3_t.2 ⟨e0.symm, e1.symm, e2.symm⟩)
    · have := hd i j h hi
      unfold alikePal at this
      rw [Bool.eq_false_iff] at this
      exact this (eq3_t.2 ⟨e0, e1, e2⟩)
  have hs : ∀ m, m ≤ n → ∃ L : List Nat, L.Perm (List.range m) ∧ L.Pairwise fun i j => tl (tnF f i) (tnF f j) := by
    intro m
    induction m with
    | zero => exact fun _ => ⟨[], by simp, List.Pairwise.nil⟩
    | succ m ih =>
      intro hm
      obtain ⟨L, h1, h2⟩ := ih (by omega)
      have hmem : ∀ i, i ∈ L → i < m := fun i hi => by simpa using (h1.mem_iff.1 hi)
      refine ⟨(L.filter fun i => decide (tl (tnF f i) (tnF f m))) ++ m :: L.filter (fun i => !decide (tl (tnF f i) (tnF f m))), ?_, ?_⟩
      · rw [List.range_succ]
        refine List.Perm.trans List.perm_middle ?_
        refine List.Perm.trans (List.Perm.cons m ((List.filter_append_perm _ L).trans h1)) ?_
        exact (List.perm_append_singleton m _).symm
      · rw [List.pairwise_append]
        refine ⟨h2.filter _, ?_, fun i hi j hj => ?_⟩
        · rw [List.pairwise_cons]
          refine ⟨fun j hj => ?_, h2.filter _⟩
          have hj2 := List.mem_filter.1 hj
          have hjm := hmem j hj2.1
          have hnt : ¬ tl (tnF f j) (tnF f m) := by simpa using hj2.2
          by_cases h3 : tl (tnF f m) (tnF f j)
          · exact h3
          · exact absurd (tl_tri h3 hnt).symm (hne j m (by omega) (by omega) (by omega))
        · have hi2 := List.mem_filter.1 hi
          have hit : tl (tnF f i) (tnF f m) := by simpa using hi2.2
          rcases List.mem_cons.1 hj with rfl | hj
          · exact hit
          · have hj2 := List.mem_filter.1 hj
            have hjm := hmem j hj2.1
            have hnt : ¬ tl (tnF f j) (tnF f m) := by simpa using hj2.2
            have h3 : tl (tnF f m) (tnF f j) := by
              by_cases h3 : tl (tnF f m) (tnF f j)
              · exact h3
              · exact absurd (tl_tri h3 hnt).symm (hne j m (by omega) (by omega) (by omega))
            exact tl_trans hit h3
  exact Classical.epsilon_spec (hs n (Nat.le_refl n))
structure NnSrt (n : Nat) (f : Nat → Int) (O S : Nat → Int) : Prop where
  code : srtC n f = 0
  many : srtN n f = n
  ord : srtO n f = O
  is : srtF n f = S
  inn : ∀ i, i < n → 1 ≤ O i ∧ O i ≤ n
  at_ : ∀ i, S (i * 3) = f (((O i).toNat - 1) * 3) ∧ S (i * 3 + 1) = f (((O i).toNat - 1) * 3 + 1) ∧ S (i * 3 + 2) = f (((O i).toNat - 1) * 3 + 2)
  byte : ∀ i, 0 ≤ S i ∧ S i ≤ 255
  rise : ∀ i, i + 1 < n → bright (S (i * 3)) (S (i * 3 + 1)) (S (i * 3 + 2)) ≤ bright (S ((i + 1) * 3)) (S ((i + 1) * 3 + 1)) (S ((i + 1) * 3 + 2))
theorem nn_srt {n : Nat} {f : Nat → Int} (hf : ∀ i, 0 ≤ f i ∧ f i ≤ 255) (hp : okPal n f = true) : NnSrt n f (srtO n f) (srtF n f) := by
  have ho := ord_is hf hp
  have hl : (ordL n f).length = n := by have := ho.1.length_eq; simpa using this
  have hget : ∀ i, i < n → (ordL n f).getD i 0 < n := fun i hi => by
    have h1 : (ordL n f).getD i 0 ∈ ordL n f := by
      rw [List.getD_eq_getElem?_getD, List.getElem?_eq_getElem (by omega)]
      exact List.getElem_mem _
    simpa using ho.1.mem_iff.1 h1
  have hO : ∀ i, srtO n f i = ((ordL n f).getD i 0 : Nat) + 1 := fun i => rfl
  have hat : ∀ i, srtF n f (i * 3) = f ((ordL n f).getD i 0 * 3) ∧ srtF n f (i * 3 + 1) = f ((ordL n f).getD i 0 * 3 + 1) ∧ srtF n f (i * 3 + 2) = f ((ordL n f).getD i 0 * 3 + 2) := fun i => by
    unfold srtF
    rw [subP_0, subP_1, subP_2, hO, show ((((ordL n f).getD i 0 : Nat) : Int) + 1).toNat - 1 = (ordL n f).getD i 0 by omega]
    exact ⟨rfl, rfl, rfl⟩
  refine ⟨if_pos hp, if_pos hp, rfl, rfl, fun i hi => ?_, fun i => ⟨subP_0 _ _ i, subP_1 _ _ i, subP_2 _ _ i⟩, fun i => hf _, fun i hi => ?_⟩
  · have := hget i hi; rw [hO]; omega
  · obtain ⟨a0, a1, a2⟩ := hat i
    obtain ⟨b0, b1, b2⟩ := hat (i + 1)
    rw [a0, a1, a2, b0, b1, b2]
    have h1 : i < (ordL n f).length := by omega
    have h2 : i + 1 < (ordL n f).length := by omega
    have h3 := List.pairwise_iff_getElem.1 ho.2 i (i + 1) h1 h2 (by omega)
    have e1 : (ordL n f).getD i 0 = (ordL n f)[i] := by rw [List.getD_eq_getElem?_getD, List.getElem?_eq_getElem h1]; rfl
    have e2 : (ordL n f).getD (i + 1) 0 = (ordL n f)[i + 1] := by rw [List.getD_eq_getElem?_getD, List.getElem?_eq_getElem h2]; rfl
    rw [← e1, ← e2] at h3
    have h4 : brT (tnF f ((ordL n f).getD i 0)) ≤ brT (tnF f ((ordL n f).getD (i + 1) 0)) := by unfold tl at h3; omega
    unfold brT at h4
    rw [tnF_0 hf, tnF_1 hf, tnF_2 hf, tnF_0 hf, tnF_1 hf, tnF_2 hf] at h4
    exact h4
end Go.Proofs.YtphjhegaplochaaGreatDoor
/- The laws on brightness and distance, walked; no condition. -/
set_option linter.unusedVariables false
namespace Go.Proofs.YtphjhegaplochaaGreatDoor
open Go.BigFrame
open Go.RowKit Go.Arr
set_option maxHeartbeats 400000 in
theorem far_spec (a b c : Int) (ha : 0 ≤ a ∧ a ≤ 255) (hb : 0 ≤ b ∧ b ≤ 255) (hc : 0 ≤ c ∧ c ≤ 255) (d e f : Int) (hd : 0 ≤ d ∧ d ≤ 255) (he : 0 ≤ e ∧ e ≤ 255) (hf : 0 ≤ f ∧ f ≤ 255) (w : World) :
    Calls Tryz.prog 23 #[.agg #[.int .u8 a, .int .u8 b, .int .u8 c], .agg #[.int .u8 d, .int .u8 e, .int .u8 f]] w fun e' w' => e' = .returned (.int .i64 (far a b c d e f)) ∧ New w w' := by
  go_enter Tryz.func23, Tryz.ntmps23
  go_wp2_with (fail)
  refine (far_spec0 _ _ _ ha hb hc _ _ _ hd he hf _).mono ?_
  rintro e1 w1 ⟨rfl, hn1⟩
  have ho1 := hn1.objs
  have hz1 := hn1.le
  try simp at hz1
  go_wp2_with (fail)
  go_ret
  refine ⟨rfl, ?_⟩
  repeat' (first | exact New.refl _ | refine New.alloc ?_ _ | refine New.drew ?_ | refine New.drewN ?_ _ | refine New.setRow ?_ (by omega) _ | refine New.setCell ?_ (by first | omega | (simp; done) | (simp; omega)) _ | refine New.trans ?_ hn1)
end Go.Proofs.YtphjhegaplochaaGreatDoor
/- The great law on fields: the small functions of the laws; no condition. -/
set_option linter.unusedVariables false
namespace Go.Proofs.YtphjhegaplochaaGreatDoor
open Go.BigFrame
open Go.RowKit Go.Arr
set_option maxHeartbeats 400000 in
theorem a2Long_any (x y : Option Addr) (n c m d : Nat) (w : World) : Calls Tryz.prog 4 #[.slice x n c, .slice y m d] w fun e w' => e = .returned (.bool (decide (3000 < n) || decide (3000 < m))) ∧ w = w' := by
  by_cases h : (3000 : Int) < n
  · have hd : Hid ((decide (3000 < n) || decide (3000 < m)) = true) := by show _ = _; rw [decide_eq_true (show 3000 < n by omega)]; rfl
    go_enter Tryz.func4, Tryz.ntmps4
    go_wp2_with (fail)
    go_ret
    exact ⟨by rw [hd.out]; rfl, rfl⟩
  · have hd : Hid ((decide (3000 < n) || decide (3000 < m)) = decide ((3000 : Int) < m)) := by
      show _ = _
      rw [decide_eq_false (show ¬ 3000 < n by omega), Bool.false_or, decide_eq_decide]
      omega
    go_enter Tryz.func4, Tryz.ntmps4
    go_wp2_with (fail)
    go_ret
    exact ⟨by rw [hd.out]; rfl, rfl⟩
/-- a number from some bytes -/
def atV (f : Nat → Int) (n i : Nat) (m : Int) : Int := if n ≤ i ∨ m < 1 then 0 else f i % m
theorem atV_b {f : Nat → Int} {n i : Nat} {m : Int} (hm : 1 ≤ m) : 0 ≤ atV f n i m ∧ atV f n i m < m := by
  unfold atV
  split
  · omega
  · exact ⟨Int.emod_nonneg _ (by omega), Int.emod_lt_of_pos _ (by omega)⟩
set_option maxHeartbeats 400000 in
theorem a2At_any (ad : Option Addr) (n c : Nat) (f : Nat → Int) (hf : ∀ i, 0 ≤ f i ∧ f i ≤ 255) (i : Nat) (m : Int) (hi : i ≤ 1000) (hm : 1 ≤ m ∧ m ≤ 1000) (hn : n ≤ 3000) (w : World) (hs : Sl w (.slice ad n c) n 1 .u8 f) :
    Calls Tryz.prog 30 #[.slice ad n c, .int .i64 (i : Nat), .int .i64 m] w fun e w' => e = .returned (.int .i64 (atV f n i m)) ∧ w = w' := by
  by_cases h : n ≤ i
  · have hv : Hid (atV f n i m = 0) := if_pos (Or.inl h)
    have h2 : (n : Int) ≤ i := by omega
    go_enter Tryz.func30, Tryz.ntmps30
    go_wp2_with (fail)
    go_ret
    exact ⟨by rw [hv.out]; rfl, rfl⟩
  · have hfi := hf i
    have hv : Hid (atV f n i m = f i % m) := if_neg (by omega)
    obtain ⟨g, off, cur, t, fr, rfl, o1, hel⟩ := elBytes hs (by omega)
    obtain ⟨l1, e1⟩ := hel i (by omega)
    have h2 : ¬ (n : Int) ≤ i := by omega
    have hwr : IntKind.i64.wrap (f i) = f i := by simp [IntKind.wrap, IntKind.bits, IntKind.signed]; omega
    have hmm : Int.tmod (f i) m = f i % m := Int.tmod_eq_emod_of_nonneg hfi.1
    have hb1 : 0 ≤ f i % m := Int.emod_nonneg _ (by omega)
    have hb2 : f i % m < m := Int.emod_lt_of_pos _ (by omega)
    clear hel hs
    go_enter Tryz.func30, Tryz.ntmps30
    go_wp2_with (fail)
    go_ret
    exact ⟨by rw [hv.out]; rfl, rfl⟩
set_option maxHeartbeats 400000 in
theorem a2Is_any (a b : Int) (f : Nat → Int) (i : Int) (ha : -128 ≤ a ∧ a ≤ 127) (hb : -128 ≤ b ∧ b ≤ 127) (w : World) :
    Calls Tryz.prog 20 #[.agg (pic 144 a b f), .int .i64 i] w fun e w' => e = .returned (.bool (cellB i a b)) ∧ New w w' := by
  go_enter Tryz.func20, Tryz.ntmps20
  go_wp2_with (fail)
  refine (l01Is_any _ 39 a b f i ha hb _ (obj_alloc_at _ _ _ rfl)).mono ?_
  rintro e w1 ⟨rfl, rfl⟩
  go_wp2_with (fail)
  go_ret
  exact ⟨rfl, (New.refl _).alloc _⟩
set_option maxHeartbeats 1000000 in
set_option maxRecDepth 100000 in
theorem l00Same_refl (a1 a2 : Option Addr) (n c1 c2 : Nat) (f : Nat → Int) (hn : n ≤ 1000) (W : World) (h1 : Reads W a1 n f) (h2 : Reads W a2 n f) :
    Calls Tryz.prog 70 #[.slice a1 n c1, .slice a2 n c2] W fun e w' => e = .returned (.bool true) ∧ New W w' := by
  go_enter Tryz.func70, Tryz.ntmps70
  go_wp2_with (fail)
  go_loopw [5] (fun i wr => ∃ k : Nat, k ≤ n ∧ i = .int .i64 k ∧ New W wr) (fun i _ => n - (intOf i).toNat)
  case atStart => exact ⟨0, by omega, rfl, New.refl W⟩
  case round =>
    obtain ⟨k, hk, rfl, hnw⟩ := hrel
    by_cases hlt : k < n
    · obtain ⟨g1, cur1, rfl, o1, e1⟩ := h1 k hlt
      obtain ⟨g2, cur2, rfl, o2, e2⟩ := h2 k hlt
      have p1 := (hnw.objs _ (obj_lt o1)).trans o1
      have p2 := (hnw.objs _ (obj_lt o2)).trans o2
      obtain ⟨l1, e1⟩ := Array.getElem?_eq_some_iff.1 e1
      obtain ⟨l2, e2⟩ := Array.getElem?_eq_some_iff.1 e2
      clear o1 o2
      have hne : (f k != f k) = false := by simp
      go_wp2_with (fail)
      go_quiet (fail)
      go_wp2_with (fail)
      go_roundw
      case rel => exact ⟨k + 1, by omega, by go_num, hnw.drewN _⟩
      case measure => simp [intOf]; omega
    · obtain rfl : k = n := by omega
      go_wp2_with (fail)
      go_ret
      exact ⟨rfl, hnw⟩
set_option maxHeartbeats 400000 in
theorem a2Same_refl (a1 a2 : Option Addr) (n c1 c2 : Nat) (f : Nat → Int) (hn : n ≤ 1000) (W : World) (h1 : Reads W a1 n f) (h2 : Reads W a2 n f) :
    Calls Tryz.prog 29 #[.slice a1 n c1, .slice a2 n c2] W fun e w' => e = .returned (.bool true) ∧ New W w' := by
  go_enter Tryz.func29, Tryz.ntmps29
  go_wp2_with (fail)
  refine (l00Same_refl a1 a2 n c1 c2 f hn _ h1 h2).mono ?_
  rintro e w1 ⟨rfl, hn1⟩
  go_wp2_with (fail)
  go_ret
  exact ⟨rfl, hn1⟩
end Go.Proofs.YtphjhegaplochaaGreatDoor
/- The great law on nearest tones: contracts with their values fixed; no condition. -/
set_option linter.unusedVariables false
namespace Go.Proofs.YtphjhegaplochaaGreatDoor
open Go.BigFrame
open Go.RowKit Go.Arr
theorem a2Is_kk {k : Bool} (a b : Int) (f : Nat → Int) (i : Int) (ha : -128 ≤ a ∧ a ≤ 127) (hb : -128 ≤ b ∧ b ≤ 127) (h : cellB i a b = k) (w : World) : Calls Tryz.prog 20 #[.agg (pic 144 a b f), .int .i64 i] w fun e w' => e = .returned (.bool k) ∧ New w w' := by
  rw [← h]; exact a2Is_any a b f i ha hb w
theorem near_k {n t : Nat} {f : Nat → Int} {x y z D Z : Int} (hp : okPal n f = true) (h1 : (nearK f x y z n).1 = t) (h2 : (nearK f x y z n).2 = D) (hZ : Z = (t : Int) + 1) (hx : 0 ≤ x ∧ x ≤ 255) (hy : 0 ≤ y ∧ y ≤ 255) (hz : 0 ≤ z ∧ z ≤ 255) (hf : ∀ i, 0 ≤ f i ∧ f i ≤ 255) (ad : Option Addr) (c : Nat) (hn : n ≤ 1048576) (hc : n ≤ c) (W : World) (hs : Sl W (.slice ad n c) n 3 .u8 f) :
    Calls Tryz.prog 21 #[.slice ad n c, .agg #[.int .u8 x, .int .u8 y, .int .u8 z]] W fun e w' => e = .returned (.tuple #[.int .i64 Z, .int .i64 D, .int .i64 0]) ∧ New W w' := by
  have := near_impl ad n c f x y z hx hy hz hf hn hc W hs
  unfold nearV at this
  rw [if_pos hp] at this
  dsimp only at this
  rw [h1, h2, ← hZ] at this
  exact this
theorem far_ki {a b c d e f D : Int} (ha : 0 ≤ a ∧ a ≤ 255) (hb : 0 ≤ b ∧ b ≤ 255) (hc : 0 ≤ c ∧ c ≤ 255) (hd : 0 ≤ d ∧ d ≤ 255) (he : 0 ≤ e ∧ e ≤ 255) (hf : 0 ≤ f ∧ f ≤ 255) (h : far a b c d e f = D) (w : World) :
    Calls Tryz.prog 22 #[.agg #[.int .u8 a, .int .u8 b, .int .u8 c], .agg #[.int .u8 d, .int .u8 e, .int .u8 f]] w fun e' w' => e' = .returned (.int .i64 D) ∧ New w w' := by
  rw [← h]; exact far_impl a b c ha hb hc d e f hd he hf w
theorem far_ks {a b c d e f D : Int} (ha : 0 ≤ a ∧ a ≤ 255) (hb : 0 ≤ b ∧ b ≤ 255) (hc : 0 ≤ c ∧ c ≤ 255) (hd : 0 ≤ d ∧ d ≤ 255) (he : 0 ≤ e ∧ e ≤ 255) (hf : 0 ≤ f ∧ f ≤ 255) (h : far a b c d e f = D) (w : World) :
    Calls Tryz.prog 23 #[.agg #[.int .u8 a, .int .u8 b, .int .u8 c], .agg #[.int .u8 d, .int .u8 e, .int .u8 f]] w fun e' w' => e' = .returned (.int .i64 D) ∧ New w w' := by
  rw [← h]; exact far_spec a b c ha hb hc d e f hd he hf w
theorem ttext_ik {x y z : Int} {s : ByteArray} (h : NnTone x y z s) (hx : 0 ≤ x ∧ x ≤ 255) (hy : 0 ≤ y ∧ y ≤ 255) (hz : 0 ≤ z ∧ z ≤ 255) (w : World) :
    Calls Tryz.prog 35 #[.agg #[.int .u8 x, .int .u8 y, .int .u8 z]] w fun e w' => e = .returned (.string s) ∧ New w w' := by
  have := toneText_impl x y z hx hy hz w
  rw [h.txt] at this
  exact this
theorem rtone_ik {x y z : Int} {s : ByteArray} (h : NnTone x y z s) (w : World) :
    Calls Tryz.prog 34 #[.string s] w fun e w' => e = .returned (.tuple #[.agg #[.int .u8 x, .int .u8 y, .int .u8 z], .int .i64 0]) ∧ New w w' := by
  have := readTone_impl s h.size w
  rw [h.r0, h.r1, h.r2, h.code] at this
  exact this
end Go.Proofs.YtphjhegaplochaaGreatDoor
/- A loop of laws.FnNearest, cut out: a theorem of its own over a frame of letters; no condition. -/
set_option linter.unusedVariables false
namespace Go.Proofs.YtphjhegaplochaaGreatDoor
open Go.BigFrame
open Go.RowKit Go.Arr
noncomputable def nnL1Body : Code := loopIn (Tryz.f3.body.getD .skip) 0
set_option maxHeartbeats 4000000 in
set_option maxRecDepth 1000000 in
theorem nnL1 (a b : Int) (fm : Nat → Int) (n : Nat) (p Q R : Nat → Int) (gM gp cp gD gR : Nat) (wB w9 : World) (ha : 1 ≤ a ∧ a ≤ 12) (hb : 1 ≤ b ∧ b ≤ 12) (hfm : Hid (∀ i, 0 ≤ fm i ∧ fm i ≤ 255)) (hpb : Hid (∀ i, 0 ≤ p i ∧ p i ≤ 255)) (hop : Hid (okPal n p = true)) (hcp : n ≤ cp) (hn15 : n ≤ 15) (hn0 : 0 < n)
    (hQ : Hid (∀ i, cellN a b i = true → Q i = nearC n p fm i)) (hR : Hid (∀ i, cellN a b i = true → 1 ≤ R i ∧ R i ≤ n)) (oM : Hid (obj wB gM = some (.cells (pic 432 a b fm) 29))) (oD : Hid (obj wB gD = some (.cells (pic 144 a b Q) 39))) (oR : Hid (obj wB gR = some (.cells (pic 144 a b R) 39)))
    (hsp : Hid (Sl wB (.slice (some ⟨gp, 0, none⟩) n cp) n 3 .u8 p)) (hN9 : New wB w9)
    (Q0 : Exit → Act → World → Prop) (s0 s1 s2 s3 s4 s7 s8 s9 s10 s12 s13 s14 s15 s16 s17 s18 s20 s21 s22 s24 s25 s26 s27 s28 s29 s30 s31 s32 s33 s34 s35 s36 s37 s38 s39 s40 s41 s42 s43 s44 s45 s46 s47 s48 s49 s50 s51 s52 s53 s54 s55 s56 s57 s58 s59 s60 s61 s62 s63 s64 s65 s66 s67 s68 s69 s70 s71 s72 s73 s74 s75 s76 s77 s78 s79 s80 s81 s82 s83 s84 s85 s86 s87 s88 s89 s90 s91 s92 s93 s94 s95 s96 s97 s98 s99 s100 s101 s102 s103 s104 s105 s106 s107 s108 s109 s110 s111 s112 s113 s114 s115 s116 s117 s118 s119 s120 s121 s122 s123 s124 s125 s126 s127 s128 s129 s130 s131 s132 s133 s134 s135 s136 s137 s138 s139 s140 s141 s142 s143 s144 s145 s146 s147 s148 s149 s150 s151 s152 s153 s154 s155 s156 s157 s158 s159 s160 s161 s162 s163 s164 s165 s166 s167 s168 s169 s170 s171 s172 s173 s174 s175 s176 s177 s178 s179 s180 s181 s182 s183 s184 s185 s186 s187 s188 s189 s190 s191 s192 s193 s194 s195 s196 s197 s198 s199 s200 s201 s202 s203 s204 s205 s206 s207 s208 s209 s210 s211 s212 s213 s214 s215 s216 s217 s218 s219 s220 s221 s222 s223 s224 s225 s226 s227 s228 s229 s230 s231 s232 s233 s234 s235 s236 s237 s238 s239 s240 s241 s242 s243 s244 s245 s246 s247 s248 s249 s250 s251 s252 s253 s254 s255 s256 s257 s258 s259 s260 s261 s262 s263 s264 s265 s266 s267 s268 s269 s270 s271 s272 s273 s274 s275 s276 s277 s278 s279 s280 s281 s282 s283 s284 s285 s286 s287 s288 s289 s290 s291 s292 s293 s294 s295 s296 s297 s298 s299 s300 s301 s302 s303 s304 s305 s306 s307 s308 s309 s310 s311 s312 s313 s314 s315 s316 s317 s318 s319 s320 s321 s322 s323 s324 s325 s326 s327 s328 s329 s330 s331 s332 s333 s334 s335 s336 s337 s338 s339 s340 s341 s342 s343 s344 s345 s346 s347 s348 s349 s350 s351 s352 s353 s354 s355 s356 s357 s358 s359 s360 s361 s362 s363 s364 s365 s366 s367 s368 s369 s370 s371 s372 s373 s374 s375 s376 s377 s378 s379 s380 s381 s382 s383 s384 s385 s386 s387 s388 s389 s390 s391 s392 s393 s394 s395 s396 s397 s398 s399 s400 s401 s402 s403 s404 s405 s406 s407 s408 s409 s410 s411 s412 s413 s414 s415 s416 s417 s418 s419 s420 s421 s422 s423 s424 s425 s426 s427 s428 s429 s430 s431 s432 s433 s434 s435 s436 s437 s438 s439 s440 s441 s442 s443 s444 s445 s446 s447 s448 s449 s450 s451 s452 s453 s454 s455 s456 s457 s458 s459 s460 s461 s462 s463 s464 s465 s466 s467 s468 s469 s470 s471 s472 s473 s474 s475 s476 s477 s478 s479 s480 s481 s482 s483 s484 s485 s486 s487 s488 s489 s490 s491 s492 s493 s494 s495 s496 s497 s498 s499 s500 s501 s502 s503 s504 s505 s506 s507 s508 s509 s510 s511 s512 s513 s514 s515 s516 s517 s518 s519 s520 s521 s522 s523 s524 s525 s526 s527 s528 s529 s530 s531 s532 s533 s534 s535 s536 s537 s538 s539 s540 s541 s542 s543 s544 s545 s546 s547 s548 s549 s550 s551 s552 s553 s554 s555 s556 s557 s558 s559 s560 s561 : Value)
    (hexit : ∀ (u4 u23 u24 u25 u26 u27 u28 u199 u200 u201 u202 u203 u204 u205 u206 u207 u208 u209 u210 u211 u212 u213 u214 u215 u216 u217 u218 u219 u220 u221 u222 u223 u224 u225 u226 u227 u228 u229 u230 u231 u232 u233 u234 u235 u236 u237 u238 u239 u240 u241 u242 u243 u244 u245 u246 u247 u248 u249 u250 u251 u252 u253 u254 u255 u256 u257 u258 u259 u260 u261 u262 u263 u264 u265 u266 u267 u268 u269 u270 u271 u272 u273 u274 u275 u276 u277 u278 u279 u280 u281 u282 u283 u284 u285 u286 u287 u288 u289 u290 u291 u292 u293 u294 u295 u296 u297 u298 u299 u300 : Value) (w' : World), New wB w' →
      Q0 (.exit 0) ⟨List.toArray (s0 :: s1 :: s2 :: s3 :: u4 :: (.pointer (some ⟨gM, 0, none⟩)) :: (.slice (some ⟨gp, 0, none⟩) n cp) :: s7 :: s8 :: s9 :: s10 :: (.pointer (some ⟨gD, 0, none⟩)) :: s12 :: s13 :: s14 :: s15 :: s16 :: s17 :: s18 :: (.pointer (some ⟨gR, 0, none⟩)) :: s20 :: s21 :: s22 :: u23 :: u24 :: u25 :: u26 :: u27 :: u28 :: s29 :: s30 :: s31 :: s32 :: s33 :: s34 :: s35 :: s36 :: s37 :: s38 :: s39 :: s40 :: s41 :: s42 :: s43 :: s44 :: s45 :: s46 :: s47 :: s48 :: s49 :: s50 :: s51 :: s52 :: s53 :: s54 :: s55 :: s56 :: s57 :: s58 :: s59 :: s60 :: s61 :: s62 :: s63 :: s64 :: s65 :: s66 :: s67 :: s68 :: s69 :: s70 :: s71 :: s72 :: s73 :: s74 :: s75 :: s76 :: s77 :: s78 :: s79 :: s80 :: s81 :: s82 :: s83 :: s84 :: s85 :: s86 :: s87 :: s88 :: s89 :: s90 :: s91 :: s92 :: s93 :: s94 :: s95 :: s96 :: s97 :: s98 :: s99 :: s100 :: s101 :: s102 :: s103 :: s104 :: s105 :: s106 :: s107 :: s108 :: s109 :: s110 :: s111 :: s112 :: s113 :: s114 :: s115 :: s116 :: s117 :: s118 :: s119 :: s120 :: s121 :: s122 :: s123 :: s124 :: s125 :: s126 :: s127 :: s128 :: s129 :: s130 :: s131 :: s132 :: s133 :: s134 :: s135 :: s136 :: s137 :: s138 :: s139 :: s140 :: s141 :: s142 :: s143 :: s144 :: s145 :: s146 :: s147 :: s148 :: s149 :: s150 :: s151 :: s152 :: s153 :: s154 :: s155 :: s156 :: s157 :: s158 :: s159 :: s160 :: s161 :: s162 :: s163 :: s164 :: s165 :: s166 :: s167 :: s168 :: s169 :: s170 :: s171 :: s172 :: s173 :: s174 :: s175 :: s176 :: s177 :: s178 :: s179 :: s180 :: s181 :: s182 :: s183 :: s184 :: s185 :: s186 :: s187 :: s188 :: s189 :: s190 :: s191 :: s192 :: s193 :: s194 :: s195 :: s196 :: s197 :: s198 :: u199 :: u200 :: u201 :: u202 :: u203 :: u204 :: u205 :: u206 :: u207 :: u208 :: u209 :: u210 :: u211 :: u212 :: u213 :: u214 :: u215 :: u216 :: u217 :: u218 :: u219 :: u220 :: u221 :: u222 :: u223 :: u224 :: u225 :: u226 :: u227 :: u228 :: u229 :: u230 :: u231 :: u232 :: u233 :: u234 :: u235 :: u236 :: u237 :: u238 :: u239 :: u240 :: u241 :: u242 :: u243 :: u244 :: u245 :: u246 :: u247 :: u248 :: u249 :: u250 :: u251 :: u252 :: u253 :: u254 :: u255 :: u256 :: u257 :: u258 :: u259 :: u260 :: u261 :: u262 :: u263 :: u264 :: u265 :: u266 :: u267 :: u268 :: u269 :: u270 :: u271 :: u272 :: u273 :: u274 :: u275 :: u276 :: u277 :: u278 :: u279 :: u280 :: u281 :: u282 :: u283 :: u284 :: u285 :: u286 :: u287 :: u288 :: u289 :: u290 :: u291 :: u292 :: u293 :: u294 :: u295 :: u296 :: u297 :: u298 :: u299 :: u300 :: s301 :: s302 :: s303 :: s304 :: s305 :: s306 :: s307 :: s308 :: s309 :: s310 :: s311 :: s312 :: s313 :: s314 :: s315 :: s316 :: s317 :: s318 :: s319 :: s320 :: s321 :: s322 :: s323 :: s324 :: s325 :: s326 :: s327 :: s328 :: s329 :: s330 :: s331 :: s332 :: s333 :: s334 :: s335 :: s336 :: s337 :: s338 :: s339 :: s340 :: s341 :: s342 :: s343 :: s344 :: s345 :: s346 :: s347 :: s348 :: s349 :: s350 :: s351 :: s352 :: s353 :: s354 :: s355 :: s356 :: s357 :: s358 :: s359 :: s360 :: s361 :: s362 :: s363 :: s364 :: s365 :: s366 :: s367 :: s368 :: s369 :: s370 :: s371 :: s372 :: s373 :: s374 :: s375 :: s376 :: s377 :: s378 :: s379 :: s380 :: s381 :: s382 :: s383 :: s384 :: s385 :: s386 :: s387 :: s388 :: s389 :: s390 :: s391 :: s392 :: s393 :: s394 :: s395 :: s396 :: s397 :: s398 :: s399 :: s400 :: s401 :: s402 :: s403 :: s404 :: s405 :: s406 :: s407 :: s408 :: s409 :: s410 :: s411 :: s412 :: s413 :: s414 :: s415 :: s416 :: s417 :: s418 :: s419 :: s420 :: s421 :: s422 :: s423 :: s424 :: s425 :: s426 :: s427 :: s428 :: s429 :: s430 :: s431 :: s432 :: s433 :: s434 :: s435 :: s436 :: s437 :: s438 :: s439 :: s440 :: s441 :: s442 :: s443 :: s444 :: s445 :: s446 :: s447 :: s448 :: s449 :: s450 :: s451 :: s452 :: s453 :: s454 :: s455 :: s456 :: s457 :: s458 :: s459 :: s460 :: s461 :: s462 :: s463 :: s464 :: s465 :: s466 :: s467 :: s468 :: s469 :: s470 :: s471 :: s472 :: s473 :: s474 :: s475 :: s476 :: s477 :: s478 :: s479 :: s480 :: s481 :: s482 :: s483 :: s484 :: s485 :: s486 :: s487 :: s488 :: s489 :: s490 :: s491 :: s492 :: s493 :: s494 :: s495 :: s496 :: s497 :: s498 :: s499 :: s500 :: s501 :: s502 :: s503 :: s504 :: s505 :: s506 :: s507 :: s508 :: s509 :: s510 :: s511 :: s512 :: s513 :: s514 :: s515 :: s516 :: s517 :: s518 :: s519 :: s520 :: s521 :: s522 :: s523 :: s524 :: s525 :: s526 :: s527 :: s528 :: s529 :: s530 :: s531 :: s532 :: s533 :: s534 :: s535 :: s536 :: s537 :: s538 :: s539 :: s540 :: s541 :: s542 :: s543 :: s544 :: s545 :: s546 :: s547 :: s548 :: s549 :: s550 :: s551 :: s552 :: s553 :: s554 :: s555 :: s556 :: s557 :: s558 :: s559 :: s560 :: s561 :: []), []⟩ w') :
    Code.wp Tryz.prog (Code.loop nnL1Body) Q0 ⟨List.toArray (s0 :: s1 :: s2 :: s3 :: s4 :: (.pointer (some ⟨gM, 0, none⟩)) :: (.slice (some ⟨gp, 0, none⟩) n cp) :: s7 :: s8 :: s9 :: s10 :: (.pointer (some ⟨gD, 0, none⟩)) :: s12 :: s13 :: s14 :: s15 :: s16 :: s17 :: s18 :: (.pointer (some ⟨gR, 0, none⟩)) :: s20 :: s21 :: s22 :: (.int .i64 0) :: s24 :: s25 :: s26 :: s27 :: s28 :: s29 :: s30 :: s31 :: s32 :: s33 :: s34 :: s35 :: s36 :: s37 :: s38 :: s39 :: s40 :: s41 :: s42 :: s43 :: s44 :: s45 :: s46 :: s47 :: s48 :: s49 :: s50 :: s51 :: s52 :: s53 :: s54 :: s55 :: s56 :: s57 :: s58 :: s59 :: s60 :: s61 :: s62 :: s63 :: s64 :: s65 :: s66 :: s67 :: s68 :: s69 :: s70 :: s71 :: s72 :: s73 :: s74 :: s75 :: s76 :: s77 :: s78 :: s79 :: s80 :: s81 :: s82 :: s83 :: s84 :: s85 :: s86 :: s87 :: s88 :: s89 :: s90 :: s91 :: s92 :: s93 :: s94 :: s95 :: s96 :: s97 :: s98 :: s99 :: s100 :: s101 :: s102 :: s103 :: s104 :: s105 :: s106 :: s107 :: s108 :: s109 :: s110 :: s111 :: s112 :: s113 :: s114 :: s115 :: s116 :: s117 :: s118 :: s119 :: s120 :: s121 :: s122 :: s123 :: s124 :: s125 :: s126 :: s127 :: s128 :: s129 :: s130 :: s131 :: s132 :: s133 :: s134 :: s135 :: s136 :: s137 :: s138 :: s139 :: s140 :: s141 :: s142 :: s143 :: s144 :: s145 :: s146 :: s147 :: s148 :: s149 :: s150 :: s151 :: s152 :: s153 :: s154 :: s155 :: s156 :: s157 :: s158 :: s159 :: s160 :: s161 :: s162 :: s163 :: s164 :: s165 :: s166 :: s167 :: s168 :: s169 :: s170 :: s171 :: s172 :: s173 :: s174 :: s175 :: s176 :: s177 :: s178 :: s179 :: s180 :: s181 :: s182 :: s183 :: s184 :: s185 :: s186 :: s187 :: s188 :: s189 :: s190 :: s191 :: s192 :: s193 :: s194 :: s195 :: s196 :: s197 :: s198 :: s199 :: s200 :: s201 :: s202 :: s203 :: s204 :: s205 :: s206 :: s207 :: s208 :: s209 :: s210 :: s211 :: s212 :: s213 :: s214 :: s215 :: s216 :: s217 :: s218 :: s219 :: s220 :: s221 :: s222 :: s223 :: s224 :: s225 :: s226 :: s227 :: s228 :: s229 :: s230 :: s231 :: s232 :: s233 :: s234 :: s235 :: s236 :: s237 :: s238 :: s239 :: s240 :: s241 :: s242 :: s243 :: s244 :: s245 :: s246 :: s247 :: s248 :: s249 :: s250 :: s251 :: s252 :: s253 :: s254 :: s255 :: s256 :: s257 :: s258 :: s259 :: s260 :: s261 :: s262 :: s263 :: s264 :: s265 :: s266 :: s267 :: s268 :: s269 :: s270 :: s271 :: s272 :: s273 :: s274 :: s275 :: s276 :: s277 :: s278 :: s279 :: s280 :: s281 :: s282 :: s283 :: s284 :: s285 :: s286 :: s287 :: s288 :: s289 :: s290 :: s291 :: s292 :: s293 :: s294 :: s295 :: s296 :: s297 :: s298 :: s299 :: s300 :: s301 :: s302 :: s303 :: s304 :: s305 :: s306 :: s307 :: s308 :: s309 :: s310 :: s311 :: s312 :: s313 :: s314 :: s315 :: s316 :: s317 :: s318 :: s319 :: s320 :: s321 :: s322 :: s323 :: s324 :: s325 :: s326 :: s327 :: s328 :: s329 :: s330 :: s331 :: s332 :: s333 :: s334 :: s335 :: s336 :: s337 :: s338 :: s339 :: s340 :: s341 :: s342 :: s343 :: s344 :: s345 :: s346 :: s347 :: s348 :: s349 :: s350 :: s351 :: s352 :: s353 :: s354 :: s355 :: s356 :: s357 :: s358 :: s359 :: s360 :: s361 :: s362 :: s363 :: s364 :: s365 :: s366 :: s367 :: s368 :: s369 :: s370 :: s371 :: s372 :: s373 :: s374 :: s375 :: s376 :: s377 :: s378 :: s379 :: s380 :: s381 :: s382 :: s383 :: s384 :: s385 :: s386 :: s387 :: s388 :: s389 :: s390 :: s391 :: s392 :: s393 :: s394 :: s395 :: s396 :: s397 :: s398 :: s399 :: s400 :: s401 :: s402 :: s403 :: s404 :: s405 :: s406 :: s407 :: s408 :: s409 :: s410 :: s411 :: s412 :: s413 :: s414 :: s415 :: s416 :: s417 :: s418 :: s419 :: s420 :: s421 :: s422 :: s423 :: s424 :: s425 :: s426 :: s427 :: s428 :: s429 :: s430 :: s431 :: s432 :: s433 :: s434 :: s435 :: s436 :: s437 :: s438 :: s439 :: s440 :: s441 :: s442 :: s443 :: s444 :: s445 :: s446 :: s447 :: s448 :: s449 :: s450 :: s451 :: s452 :: s453 :: s454 :: s455 :: s456 :: s457 :: s458 :: s459 :: s460 :: s461 :: s462 :: s463 :: s464 :: s465 :: s466 :: s467 :: s468 :: s469 :: s470 :: s471 :: s472 :: s473 :: s474 :: s475 :: s476 :: s477 :: s478 :: s479 :: s480 :: s481 :: s482 :: s483 :: s484 :: s485 :: s486 :: s487 :: s488 :: s489 :: s490 :: s491 :: s492 :: s493 :: s494 :: s495 :: s496 :: s497 :: s498 :: s499 :: s500 :: s501 :: s502 :: s503 :: s504 :: s505 :: s506 :: s507 :: s508 :: s509 :: s510 :: s511 :: s512 :: s513 :: s514 :: s515 :: s516 :: s517 :: s518 :: s519 :: s520 :: s521 :: s522 :: s523 :: s524 :: s525 :: s526 :: s527 :: s528 :: s529 :: s530 :: s531 :: s532 :: s533 :: s534 :: s535 :: s536 :: s537 :: s538 :: s539 :: s540 :: s541 :: s542 :: s543 :: s544 :: s545 :: s546 :: s547 :: s548 :: s549 :: s550 :: s551 :: s552 :: s553 :: s554 :: s555 :: s556 :: s557 :: s558 :: s559 :: s560 :: s561 :: []), []⟩ w9 := by
  conv => arg 2; arg 1; whnf
  obtain ⟨gq, offq, cuq, tq, frq, he, oq, hel⟩ := elsPal hsp.out hn0
  have he2 := Option.some.inj he
  simp only [Addr.mk.injEq, and_true] at he2
  obtain ⟨rfl, rfl⟩ := he2
  replace hel := hide hel
  replace oq := hide oq
  clear he
  go_loopw [23] (fun x wq => ∃ c : Nat, c ≤ 144 ∧ x = .int .i64 c ∧ New wB wq) (fun x _ => 144 - (intOf x).toNat)
  case atStart => exact ⟨0, by omega, rfl, hN9⟩
  case round =>
    obtain ⟨c, hc, rfl, hnw⟩ := hrel
    by_cases hlt : c < 144
    · have pD := (hnw.objs _ (obj_lt oD.out)).trans oD.out
      have qD := obj_lt pD
      cases hcc : cellN a b c
      · have hcc' : Hid (cellB (c : Int) a b = false) := hcc
        clear hcc
        go_wp2_with (fail)
        refine (a2Is_kk a b Q _ ⟨by omega, by omega⟩ ⟨by omega, by omega⟩ hcc'.out _).mono ?_
        rintro e wa ⟨rfl, hna⟩
        go_wp2_with (fail)
        go_roundw
        case rel => exact ⟨c + 1, by omega, by go_num, hnw.trans hna⟩
        case measure => simp [intOf]; omega
      · have hcc' : Hid (cellB (c : Int) a b = true) := hcc
        obtain ⟨t, ht⟩ : ∃ t : Nat, Hid ((nearK p (fm (c * 3)) (fm (c * 3 + 1)) (fm (c * 3 + 2)) n).1 = t) := ⟨_, rfl⟩
        obtain ⟨D, hD⟩ : ∃ D : Int, Hid ((nearK p (fm (c * 3)) (fm (c * 3 + 1)) (fm (c * 3 + 2)) n).2 = D) := ⟨_, rfl⟩
        have htn : t < n := by rw [← ht.out]; exact nearK_in hn0
        obtain ⟨Z, hZ⟩ : ∃ Z : Int, Hid (Z = (t : Int) + 1) := ⟨_, rfl⟩
        have hZo := hZ.out
        have hQc : Q c = Z := by rw [hQ.out c hcc, hZ.out]; unfold nearC; rw [ht.out]
        have hRc := hR.out c hcc
        have hfar : Hid (∀ i, i < n → D ≤ far (p (i * 3)) (p (i * 3 + 1)) (p (i * 3 + 2)) (fm (c * 3)) (fm (c * 3 + 1)) (fm (c * 3 + 2)) ∧ (far (p (i * 3)) (p (i * 3 + 1)) (p (i * 3 + 2)) (fm (c * 3)) (fm (c * 3 + 1)) (fm (c * 3 + 2)) = D → t ≤ i)) := fun i hi => by
          have h1 := nearK_min (f := p) (x := fm (c * 3)) (y := fm (c * 3 + 1)) (z := fm (c * 3 + 2)) hi
          rw [hD.out] at h1
          refine ⟨h1, fun h2 => ?_⟩
          by_cases h3 : t ≤ i
          · exact h3
          · have h4 := nearK_first (f := p) (x := fm (c * 3)) (y := fm (c * 3 + 1)) (z := fm (c * 3 + 2)) (k := n) (i := i) (by rw [ht.out]; omega)
            rw [hD.out] at h4
            unfold farE at h4
            omega
        have hZw : wrap64 Z = Z := IntWalk.wrap64_in _ ⟨by omega, by omega⟩
        have hz1 : decide (Z < 1) = false := decide_eq_false (by omega)
        have hz2 : decide ((n : Int) < Z) = false := decide_eq_false (by omega)
        have hr1 : decide (R c < 1) = false := decide_eq_false (by omega)
        have hc145 : (c : Int) < 144 := by omega
        have l4 : 2 + c * 3 + 3 ≤ 434 := by omega
        have hx3 := pic3 (n := 432) (o := c * 3) (a := a) (b := b) (f := fm) (by omega) rfl
        have pM := (hnw.objs _ (obj_lt oM.out)).trans oM.out
        have pR := (hnw.objs _ (obj_lt oR.out)).trans oR.out
        have qM := obj_lt pM
        have qR := obj_lt pR
        clear hcc hZo htn hRc
        go_wp2_with (fail)
        refine (a2Is_kk a b Q _ ⟨by omega, by omega⟩ ⟨by omega, by omega⟩ hcc'.out _).mono ?_
        rintro e wa ⟨rfl, hna⟩
        have sM := (hna.objs _ qM).trans pM
        have sD := (hna.objs _ qD).trans pD
        have sR := (hna.objs _ qR).trans pR
        have hnA := hnw.trans hna
        clear pM pD pR qM qD qR hna
        have qM := obj_lt sM
        go_wp2_with (fail)
        refine (near_k hop.out ht.out hD.out hZ.out (hfm.out _) (hfm.out _) (hfm.out _) hpb.out (some ⟨gp, 0, none⟩) cp (by omega) hcp _ (hsp.out.new hnA)).mono ?_
        rintro e wb ⟨rfl, hnb⟩
        have sD2 := (hnb.objs _ (obj_lt sD)).trans sD
        have sR2 := (hnb.objs _ (obj_lt sR)).trans sR
        have qD := obj_lt sD2
        have qR := obj_lt sR2
        have hnB := hnA.trans hnb
        clear sM sD sR qM hnA hnb
        go_wp2_with (fail)
        clear sD2 sR2 qD qR hz1 hz2 hr1 hQc hZw
        go_loopw [27] (fun x wq => ∃ i : Nat, i ≤ n ∧ x = .int .i64 i ∧ New wB wq) (fun x _ => n - (intOf x).toNat)
        case atStart => exact ⟨0, by omega, rfl, hnB⟩
        case round =>
          obtain ⟨i, hi, rfl, hnq⟩ := hrel
          by_cases hli : i < n
          · obtain ⟨y2, m2⟩ := hel.out i hli
            try simp only [Nat.zero_add] at y2 m2
            have pM := (hnq.objs _ (obj_lt oM.out)).trans oM.out
            have pP := (hnq.objs _ (obj_lt oq.out)).trans oq.out
            have qM := obj_lt pM
            have qP := obj_lt pP
            have hli2 : (i : Int) < n := by omega
            obtain ⟨h1, h2⟩ := hfar.out i hli
            obtain ⟨d, hd⟩ : ∃ d : Int, Hid (far (p (i * 3)) (p (i * 3 + 1)) (p (i * 3 + 2)) (fm (c * 3)) (fm (c * 3 + 1)) (fm (c * 3 + 2)) = d) := ⟨_, rfl⟩
            have hd2 : Hid (far (fm (c * 3)) (fm (c * 3 + 1)) (fm (c * 3 + 2)) (p (i * 3)) (p (i * 3 + 1)) (p (i * 3 + 2)) = d) := (far_sym _ _ _ _ _ _).trans hd.out
            rw [hd.out] at h1 h2
            have hdl : decide (d < D) = false := decide_eq_false (by omega)
            obtain ⟨bb, hbb⟩ : ∃ bb : Bool, eq3 (p (i * 3)) (p (i * 3 + 1)) (p (i * 3 + 2)) (fm (c * 3)) (fm (c * 3 + 1)) (fm (c * 3 + 2)) = bb := ⟨_, rfl⟩
            have hb0 : (d == 0) = bb := by
              rw [← hbb, Bool.eq_iff_iff, eq3_t, beq_iff_eq, ← hd.out]
              exact far_zero
            have hZo := hZ.out
            by_cases hdD : d = D
            · have he1 : (d == D) = true := by rw [hdD]; simp
              have h3 := h2 hdD
              have he2 : decide ((i : Int) + 1 < Z) = false := decide_eq_false (by omega)
              clear hdD h1 h2 h3 hZo
              go_wp2_with (fail)
              go_wp2_with (fail)
              refine wp_region_new (by kernel_rfl) (by kernel_rfl) ?_
              repeat (go_big_quiet_step (first | fail | (go_at_call 22; with_reducible exact calls_new (far_ki (hpb.out _) (hpb.out _) (hpb.out _) (hfm.out _) (hfm.out _) (hfm.out _) hd.out _))))
              refine wpQuiet_nil ?_
              intro w1 hc1
              have hn1 := NewW.of hc1
              clear hc1
              have ho1 := hn1.objs
              have hz1 := hn1.le
              try simp at hz1
              have k1_0 : gM < w1.heap.size := by omega
              have k1_1 : gp < w1.heap.size := by omega
              have sM := (ho1 _ qM).trans pM
              have sP := (ho1 _ qP).trans pP
              have hnx := hnq.trans hn1
              clear pM pP qM qP ho1
              have qM := obj_lt sM
              have qP := obj_lt sP
              go_wp2_with (fail)
              go_wp2_with (fail)
              refine wp_region_new (by kernel_rfl) (by kernel_rfl) ?_
              repeat (go_big_quiet_step (first | fail | (go_at_call 23; with_reducible exact calls_new (far_ks (hfm.out _) (hfm.out _) (hfm.out _) (hpb.out _) (hpb.out _) (hpb.out _) hd2.out _))))
              refine wpQuiet_nil ?_
              intro w2 hc2
              have hn2 := NewW.of hc2
              clear hc2
              have ho2 := hn2.objs
              have hz2 := hn2.le
              try simp at hz2
              have k2_0 : gM < w2.heap.size := by omega
              have k2_1 : gp < w2.heap.size := by omega
              have hny := hnx.trans hn2
              clear sM sP qM qP ho2
              go_wp2_with (fail)
              go_roundw
              case rel => exact ⟨i + 1, by omega, by go_num, hny⟩
              case measure => simp [intOf]; omega
            · have he1 : (d == D) = false := by simpa using hdD
              clear hdD h1 h2 hZo
              go_wp2_with (fail)
              go_wp2_with (fail)
              refine wp_region_new (by kernel_rfl) (by kernel_rfl) ?_
              repeat (go_big_quiet_step (first | fail | (go_at_call 22; with_reducible exact calls_new (far_ki (hpb.out _) (hpb.out _) (hpb.out _) (hfm.out _) (hfm.out _) (hfm.out _) hd.out _))))
              refine wpQuiet_nil ?_
              intro w3 hc3
              have hn3 := NewW.of hc3
              clear hc3
              have ho3 := hn3.objs
              have hz3 := hn3.le
              try simp at hz3
              have k3_0 : gM < w3.heap.size := by omega
              have k3_1 : gp < w3.heap.size := by omega
              have sM := (ho3 _ qM).trans pM
              have sP := (ho3 _ qP).trans pP
              have hnx := hnq.trans hn3
              clear pM pP qM qP ho3
              have qM := obj_lt sM
              have qP := obj_lt sP
              go_wp2_with (fail)
              go_wp2_with (fail)
              refine wp_region_new (by kernel_rfl) (by kernel_rfl) ?_
              repeat (go_big_quiet_step (first | fail | (go_at_call 23; with_reducible exact calls_new (far_ks (hfm.out _) (hfm.out _) (hfm.out _) (hpb.out _) (hpb.out _) (hpb.out _) hd2.out _))))
              refine wpQuiet_nil ?_
              intro w4 hc4
              have hn4 := NewW.of hc4
              clear hc4
              have ho4 := hn4.objs
              have hz4 := hn4.le
              try simp at hz4
              have k4_0 : gM < w4.heap.size := by omega
              have k4_1 : gp < w4.heap.size := by omega
              have hny := hnx.trans hn4
              clear sM sP qM qP ho4
              go_wp2_with (fail)
              go_roundw
              case rel => exact ⟨i + 1, by omega, by go_num, hny⟩
              case measure => simp [intOf]; omega
          · have hin : i = n := by omega
            go_wp2_with (fail)
            go_roundw
            case rel => exact ⟨c + 1, by omega, by go_num, hnq⟩
            case measure => simp [intOf]; omega
    · have hc4 : c = 144 := by omega
      go_wp2_with (fail)
      exact hnw
end Go.Proofs.YtphjhegaplochaaGreatDoor
