/- The source of what is drawn: its steps; no condition. -/
import Derived.Test.YtmmckoemkpfgbaaTy
import Derived.Test.YtmmckoemkpfgbaaSli
import Derived.Test.YtmmckoemkpfgbaaSmall
import Derived.Test.YtmmckoemkpfgbaaGrw
import Derived.Laws.Bits64
import Derived.Conc.WgArith
import Derived.IntWalk
set_option linter.unusedVariables false
namespace Go.Proofs.Ytmmckoemkpfgbaa
open Go.BigFrame
open Go.RowKit Go.Arr
/-- a source that has been asked so often at most -/
def Src (W : World) (g : Nat) (ad : Option Addr) (n c : Nat) (f : Nat → Int) (A : Nat) : Prop :=
  (∃ (at_ : Nat) (sd : Int), obj W g = some (.cells #[.slice ad n c, .int .i64 at_, .int .u64 sd] 72) ∧ at_ ≤ A ∧ 0 ≤ sd ∧ sd ≤ 18446744073709551615) ∧
  Sl W (.slice ad n c) n 1 .u8 f ∧ ∀ a, ad = some a → a.block ≠ g
theorem Src.more {W : World} {g : Nat} {ad : Option Addr} {n c A B : Nat} {f : Nat → Int} (h : Src W g ad n c f A) (hB : A ≤ B) : Src W g ad n c f B := by
  obtain ⟨⟨t, s, h1, h2, h3⟩, h4⟩ := h
  exact ⟨⟨t, s, h1, by omega, h3⟩, h4⟩
theorem Src.lt {W : World} {g : Nat} {ad : Option Addr} {n c A : Nat} {f : Nat → Int} (h : Src W g ad n c f A) : g < W.heap.size := by
  obtain ⟨⟨t, s, h1, _⟩, _⟩ := h
  exact obj_lt h1
theorem Src.new {W w : World} {g : Nat} {ad : Option Addr} {n c A : Nat} {f : Nat → Int} (h : Src W g ad n c f A) (hn : New W w) : Src w g ad n c f A := by
  obtain ⟨⟨t, s, h1, h2, h3⟩, h4, h5⟩ := h
  exact ⟨⟨t, s, (hn.objs _ (obj_lt h1)).trans h1, h2, h3⟩, h4.new hn, h5⟩
theorem elBytes {W : World} {a : Option Addr} {n c : Nat} {f : Nat → Int} (h : Sl W (.slice a n c) n 1 .u8 f) (hn : 0 < n) : ∃ g off cur t fr, a = some ⟨g, off, none⟩ ∧ obj W g = some (.cells cur t fr) ∧ ∀ j, j < n → ∃ l : off + j < cur.size, cur[off + j] = .int .u8 (f j) := by
  obtain ⟨g, off, cur, t, fr, rfl, ho, hc⟩ := h.at hn
  exact ⟨g, off, cur, t, fr, rfl, ho, fun j hj => Array.getElem?_eq_some_iff.1 (hc j (by omega))⟩
theorem drewN_grown {W w : World} {r : Option Nat} (h : W.grownBy w r) (n : Nat) : W.grownBy (w.drewN n) r := grown_new2 h ((New.refl _).drewN n)
/-- a number as the source's own kind -/
def U64 (x : Int) : Prop := 0 ≤ x ∧ x ≤ 18446744073709551615
theorem and255 (x : Int) (h0 : 0 ≤ x) (h1 : x < 9223372036854775808) : bits .and .u64 x 255 = x % 256 := by
  have h := bits_mask .u64 63 (by decide) Go.ConcN.wraps_u64_63 8 (by decide) x (by omega) (by omega)
  have e : ((2 : Int) ^ 8 - 1) = 255 := by decide
  have e2 : ((2 : Int) ^ 8) = 256 := by decide
  rw [e, e2] at h
  exact h
theorem low8 (s : Int) (h : U64 s) : 0 ≤ wrap64 (bits .and .u64 (s / 1099511627776) 255) ∧ wrap64 (bits .and .u64 (s / 1099511627776) 255) ≤ 255 := by
  obtain ⟨h0, h1⟩ := h
  rw [and255 _ (by omega) (by omega)]
  rw [IntWalk.wrap64_in _ ⟨by omega, by omega⟩]
  omega
theorem u64_wrap (x : Int) : U64 (IntKind.u64.wrap x) := by
  rw [IntKind.wrap_u64]
  unfold U64
  omega
theorem src_step {W : World} {g : Nat} {ad : Option Addr} {n c A t : Nat} {f : Nat → Int} {s sd : Int} (a b : Nat) (ho : obj W g = some (.cells #[.slice ad n c, .int .i64 t, .int .u64 sd] 72)) (ht : t ≤ A) (hs : U64 s) (hsl : Sl W (.slice ad n c) n 1 .u8 f) (hne : ∀ a, ad = some a → a.block ≠ g) :
    Src ((((W.drewN a).setCell ⟨g, 1, none⟩ (.int .i64 ((t : Int) + 1))).setCell ⟨g, 2, none⟩ (.int .u64 s)).drewN b) g ad n c f (A + 1) ∧ W.grownBy ((((W.drewN a).setCell ⟨g, 1, none⟩ (.int .i64 ((t : Int) + 1))).setCell ⟨g, 2, none⟩ (.int .u64 s)).drewN b) (some g) := by
  have hg : W.grownBy ((((W.drewN a).setCell ⟨g, 1, none⟩ (.int .i64 ((t : Int) + 1))).setCell ⟨g, 2, none⟩ (.int .u64 s)).drewN b) (some g) := drewN_grown (setCell_grown (setCell_grown (drewN_grown (grown_refl _ _) _) _ _) _ _) _
  refine ⟨⟨⟨t + 1, s, ?_, by omega, hs.1, hs.2⟩, hsl.grown hg fun a' c' e => ?_, hne⟩, hg⟩
  · have e0 : obj (W.drewN a) g = _ := ho
    show obj (((W.drewN a).setCell ⟨g, 1, none⟩ (.int .i64 ((t : Int) + 1))).setCell ⟨g, 2, none⟩ (.int .u64 s)) g = _
    rw [obj_setCell_same, obj_setCell_same, e0]
    rfl
  · simp only [Value.slice.injEq] at e
    exact fun e2 => hne a' e.1 (Option.some.inj e2)
set_option maxHeartbeats 4000000 in
set_option maxRecDepth 100000 in
theorem next_any (g : Nat) (ad : Option Addr) (n c A : Nat) (f : Nat → Int) (hA : A ≤ 1000000) (hn : n ≤ 1000000) (hf : ∀ i, 0 ≤ f i ∧ f i ≤ 255) (W : World) (hs : Src W g ad n c f A) :
    Calls Try.prog 53 #[.pointer (some ⟨g, 0, none⟩)] W fun e w' => ∃ x : Int, e = .returned (.int .i64 x) ∧ (0 ≤ x ∧ x ≤ 255) ∧ Src w' g ad n c f (A + 1) ∧ W.grownBy w' (some g) := by
  obtain ⟨⟨t, sd, ho, ht, hsd⟩, hsl, hne⟩ := hs
  have hg := obj_lt ho
  have hneh := hide hne
  have hsl' := hide hsl
  clear hne
  by_cases hlt : t < n
  · obtain ⟨gq, offq, curq, tq, frq, rfl, oq, helq⟩ := elBytes hsl (by omega)
    obtain ⟨lq, eq⟩ := helq t hlt
    have hne' := hneh.out _ rfl
    dsimp only at hne'
    have hft := hf t
    have hqg := obj_lt oq
    clear hsl helq
    go_enter Try.func53, Try.ntmps53
    go_wp2_with (fail)
    go_quiet (fail)
    go_wp2_with (fail)
    go_quiet (fail)
    go_wp2_with (fail)
    go_quiet (fail)
    go_wp2_with (fail)
    go_ret
    exact ⟨_, rfl, hft, src_step _ _ ho ht (u64_wrap _) hsl'.out hneh.out⟩
  · clear hsl
    go_enter Try.func53, Try.ntmps53
    go_wp2_with (fail)
    go_quiet (fail)
    go_wp2_with (fail)
    go_quiet (fail)
    go_wp2_with (fail)
    go_ret
    exact ⟨_, rfl, low8 _ (u64_wrap _), src_step _ _ ho ht (u64_wrap _) hsl'.out hneh.out⟩
set_option maxHeartbeats 2000000 in
set_option maxRecDepth 100000 in
theorem pick_any (g : Nat) (ad : Option Addr) (n c A : Nat) (f : Nat → Int) (m : Int) (hm : m ≤ 100000) (hA : A ≤ 900000) (hn : n ≤ 1000000) (hf : ∀ i, 0 ≤ f i ∧ f i ≤ 255) (W : World) (hs : Src W g ad n c f A) :
    Calls Try.prog 45 #[.pointer (some ⟨g, 0, none⟩), .int .i64 m] W fun e w' => ∃ x : Int, e = .returned (.int .i64 x) ∧ (0 ≤ x ∧ (x < m ∨ x = 0)) ∧ Src w' g ad n c f (A + 2) ∧ W.grownBy w' (some g) := by
  by_cases h1 : m ≤ 1
  · go_enter Try.func45, Try.ntmps45
    go_wp2_with (fail)
    go_ret
    exact ⟨_, rfl, ⟨by omega, Or.inr rfl⟩, hs.more (by omega), grown_refl _ _⟩
  by_cases h2 : 200 < m
  · go_enter Try.func45, Try.ntmps45
    go_wp2_with (fail)
    refine (next_any g ad n c A f (by omega) hn hf _ hs).mono ?_
    rintro e w1 ⟨x, rfl, hx, hs1, hg1⟩
    go_wp2_with (fail)
    refine (next_any g ad n c (A + 1) f (by omega) hn hf _ hs1).mono ?_
    rintro e w2 ⟨y, rfl, hy, hs2, hg2⟩
    go_wp2_with (fail)
    go_ret
    refine ⟨_, rfl, ?_, hs2, hg1.trans hg2⟩
    have h3 := Int.emod_nonneg (x * 256 + y) (by omega : m ≠ 0)
    have h4 := Int.emod_lt_of_pos (x * 256 + y) (by omega : 0 < m)
    exact ⟨h3, Or.inl h4⟩
  · go_enter Try.func45, Try.ntmps45
    go_wp2_with (fail)
    refine (next_any g ad n c A f (by omega) hn hf _ hs).mono ?_
    rintro e w1 ⟨x, rfl, hx, hs1, hg1⟩
    go_wp2_with (fail)
    go_ret
    refine ⟨_, rfl, ?_, hs1.more (by omega), hg1⟩
    have h3 := Int.emod_nonneg x (by omega : m ≠ 0)
    have h4 := Int.emod_lt_of_pos x (by omega : 0 < m)
    exact ⟨h3, Or.inl h4⟩
end Go.Proofs.Ytmmckoemkpfgbaa
