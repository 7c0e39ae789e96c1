/- The great law on few tones: the contracts with their values fixed; no condition. -/
import Derived.Test.YtpphckfalgapdaaU14
import Derived.Test.YtpphckfalgapdaaU15
import Derived.Test.YtpphckfalgapdaaU16
import Derived.Test.YtpphckfalgapdaaU5
import Derived.Test.YtpphckfalgapdaaU17
import Derived.Test.YtpphckfalgapdaaU18
import Derived.Test.YtpphckfalgapdaaU7
import Derived.Test.YtpphckfalgapdaaU3
import Derived.Test.YtpphckfalgapdaaU13
set_option linter.unusedVariables false
namespace Go.Proofs.Ytpphckfalgapdaa
open Go.BigFrame
open Go.RowKit Go.Arr
structure BtE (a b : Int) (fm : Nat → Int) (n : Nat) (fp : Nat → Int) (K : Nat) (L : Nat → Int) (V : Int) : Prop where
  hc : btC a b fm n fp K = 0
  hn : btN a b fm n fp K = K
  hl : btL a b fm n fp K = L
  hv : btV a b fm n fp K = V
structure GrE (a b : Int) (fm : Nat → Int) (n : Nat) (fp : Nat → Int) (K : Nat) (G : Nat → Int) (U : Int) : Prop where
  hc : cntC a b fm n fp K = 0
  hn : grN a b fm n fp K = K
  hl : (gr fp fm a b n K).1 = G
  hv : grV a b fm n fp K = U
theorem ft_end {a b : Int} {fm : Nat → Int} {n : Nat} {fp : Nat → Int} {K : Nat} (hfp : ∀ i, 0 ≤ fp i ∧ fp i ≤ 255) (hfm : ∀ i, 0 ≤ fm i ∧ fm i ≤ 255) (hi : okImg a b fm = true) (hp : okPal n fp = true) (hn : n ≤ 10) (h0 : 1 ≤ K) (hK : K ≤ n) :
    ∃ L V G U, BtE a b fm n fp K L V ∧ GrE a b fm n fp K G U ∧ V ≤ U ∧ asc K n L ∧ okPal K (subP fp L) = true ∧ cosS K (subP fp L) fm a b 144 = V := by
  have hask : askOk a b fm n fp = true := by unfold askOk; rw [hi, hp]; rfl
  have hcnt : cntC a b fm n fp K = 0 := cntC_0 hask (inB_t.2 ⟨by omega, by omega⟩)
  have hbt := btC_0 hcnt (show ¬ 10 < n by omega)
  have hb := best_is (fun L => cosS K (subP fp L) fm a b 144) (show 0 < K by omega) hK
  exact ⟨bestL (fun L => cosS K (subP fp L) fm a b 144) K n, cosS K (subP fp (bestL (fun L => cosS K (subP fp L) fm a b 144) K n)) fm a b 144, (gr fp fm a b n K).1, (gr fp fm a b n K).2,
    ⟨hbt, btN_s hbt, btL_s rfl, btV_s hbt rfl⟩, ⟨hcnt, grN_s hcnt, rfl, grV_s hcnt⟩, greedy_no_less hfp hfm (by omega) hK, hb.1, okPal_sub hp hb.1 (by omega), rfl⟩
section
variable {a b : Int} {fm : Nat → Int} {n : Nat} {fp : Nat → Int} {K : Nat} {L : Nat → Int} {V : Int}
theorem best_ik (h : BtE a b fm n fp K L V) (ha : -128 ≤ a ∧ a ≤ 127) (hb : -128 ≤ b ∧ b ≤ 127) (hfm : ∀ i, 0 ≤ fm i ∧ fm i ≤ 255) (ad : Option Addr) (cp : Nat) (hfp : ∀ i, 0 ≤ fp i ∧ fp i ≤ 255) (hn : n ≤ 1048576) (hcp : n ≤ cp) (W : World) (hs : Sl W (.slice ad n cp) n 3 .u8 fp) :
    Calls Try.prog 8 #[.agg (pic 432 a b fm), .slice ad n cp, .int .i64 K] W fun e w' => ∃ v, e = .returned (.tuple #[v, .int .i64 V, .int .i64 0]) ∧ Row w' W.heap.size v K L ∧ New W w' := by
  have := best_impl a b fm ha hb hfm ad n cp fp hfp hn hcp K W hs
  rw [h.hv, h.hl, h.hn, h.hc] at this
  exact this
theorem best_sk (h : BtE a b fm n fp K L V) (ha : -128 ≤ a ∧ a ≤ 127) (hb : -128 ≤ b ∧ b ≤ 127) (hfm : ∀ i, 0 ≤ fm i ∧ fm i ≤ 255) (ad : Option Addr) (cp : Nat) (hfp : ∀ i, 0 ≤ fp i ∧ fp i ≤ 255) (hn : n ≤ 1048576) (W : World) (hs : Sl W (.slice ad n cp) n 3 .u8 fp) :
    Calls Try.prog 9 #[.agg (pic 432 a b fm), .slice ad n cp, .int .i64 K] W fun e w' => ∃ v, e = .returned (.tuple #[v, .int .i64 V, .int .i64 0]) ∧ Row w' W.heap.size v K L ∧ New W w' := by
  have := best_spec a b fm ha hb hfm ad n cp fp hfp hn K W hs
  rw [h.hv, h.hl, h.hn, h.hc] at this
  exact this
theorem greedy_ik (h : GrE a b fm n fp K L V) (ha : -128 ≤ a ∧ a ≤ 127) (hb : -128 ≤ b ∧ b ≤ 127) (hfm : ∀ i, 0 ≤ fm i ∧ fm i ≤ 255) (ad : Option Addr) (cp : Nat) (hfp : ∀ i, 0 ≤ fp i ∧ fp i ≤ 255) (hn : n ≤ 1048576) (hcp : n ≤ cp) (W : World) (hs : Sl W (.slice ad n cp) n 3 .u8 fp) :
    Calls Try.prog 10 #[.agg (pic 432 a b fm), .slice ad n cp, .int .i64 K] W fun e w' => ∃ v, e = .returned (.tuple #[v, .int .i64 V, .int .i64 0]) ∧ Row w' W.heap.size v K L ∧ New W w' := by
  have := greedy_impl a b fm ha hb hfm ad n cp fp hfp hn hcp K W hs
  rw [h.hv, h.hn, h.hc, h.hl] at this
  exact this
theorem greedy_sk (h : GrE a b fm n fp K L V) (ha : -128 ≤ a ∧ a ≤ 127) (hb : -128 ≤ b ∧ b ≤ 127) (hfm : ∀ i, 0 ≤ fm i ∧ fm i ≤ 255) (ad : Option Addr) (cp : Nat) (hfp : ∀ i, 0 ≤ fp i ∧ fp i ≤ 255) (hn : n ≤ 1048576) (W : World) (hs : Sl W (.slice ad n cp) n 3 .u8 fp) :
    Calls Try.prog 11 #[.agg (pic 432 a b fm), .slice ad n cp, .int .i64 K] W fun e w' => ∃ v, e = .returned (.tuple #[v, .int .i64 V, .int .i64 0]) ∧ Row w' W.heap.size v K L ∧ New W w' := by
  have := greedy_spec a b fm ha hb hfm ad n cp fp hfp hn K W hs
  rw [h.hv, h.hn, h.hc, h.hl] at this
  exact this
theorem pof_ik {Q : Nat → Int} (h : PofE a b fm n fp Q) (ha : -128 ≤ a ∧ a ≤ 127) (hb : -128 ≤ b ∧ b ≤ 127) (hfm : ∀ i, 0 ≤ fm i ∧ fm i ≤ 255) (ad : Option Addr) (cp : Nat) (hfp : ∀ i, 0 ≤ fp i ∧ fp i ≤ 255) (hn : n ≤ 1048576) (hcp : n ≤ cp) (W : World) (hs : Sl W (.slice ad n cp) n 3 .u8 fp) :
    Calls Try.prog 13 #[.agg (pic 432 a b fm), .slice ad n cp] W fun e w' => e = .returned (.tuple #[.agg (pic 144 a b Q), .int .i64 0]) ∧ New W w' := by
  have := pictureOf_impl a b fm ha hb hfm ad n cp fp hfp hn hcp W hs
  rw [h.at_, h.code] at this
  exact this
theorem cost_ik {Q : Nat → Int} (h : PofE a b fm n fp Q) (hV : cosS n fp fm a b 144 = V) (ha : -128 ≤ a ∧ a ≤ 127) (hb : -128 ≤ b ∧ b ≤ 127) (hfm : ∀ i, 0 ≤ fm i ∧ fm i ≤ 255) (ad : Option Addr) (cp : Nat) (hfp : ∀ i, 0 ≤ fp i ∧ fp i ≤ 255) (hn : n ≤ 1048576) (hcp : n ≤ cp) (W : World) (hs : Sl W (.slice ad n cp) n 3 .u8 fp) :
    Calls Try.prog 14 #[.agg (pic 432 a b fm), .agg (pic 144 a b Q), .slice ad n cp] W fun e w' => e = .returned (.tuple #[.int .i64 V, .int .i64 0]) ∧ New W w' := by
  have := costOf_impl a b fm ha hb hfm a b Q ha hb (fun i => by have := h.good i; omega) ad n cp fp hfp hn hcp W hs
  rw [h.cv, h.cc, hV] at this
  exact this
structure MvK (a b : Int) (fm : Nat → Int) (n : Nat) (fp : Nat → Int) (r : Int) (C M : Int) (N : Nat) (P : Nat → Int) : Prop where
  hc : mvC a b fm n fp r = C
  hm : mvM a b fm n fp r = M
  hn : mvN a b fm n fp r = N
  hf : mvF a b fm n fp r = P
theorem move_ik {r C M : Int} {N : Nat} {P : Nat → Int} (h : MvK a b fm n fp r C M N P) (ha : -128 ≤ a ∧ a ≤ 127) (hb : -128 ≤ b ∧ b ≤ 127) (hfm : ∀ i, 0 ≤ fm i ∧ fm i ≤ 255) (ad : Option Addr) (cp : Nat) (hfp : ∀ i, 0 ≤ fp i ∧ fp i ≤ 255) (hn : n ≤ 1048576) (hcp : n ≤ cp) (W : World) (hs : Sl W (.slice ad n cp) n 3 .u8 fp) :
    Calls Try.prog 15 #[.agg (pic 432 a b fm), .slice ad n cp, .int .i64 r] W fun e w' => ∃ v, e = .returned (.tuple #[v, .int .i64 M, .int .i64 C]) ∧ PRow w' W.heap.size v N P ∧ New W w' := by
  have := move_impl a b fm ha hb hfm ad n cp fp hfp hn hcp r W hs
  rw [h.hm, h.hn, h.hf, h.hc] at this
  exact this
theorem move_sk {r C M : Int} {N : Nat} {P : Nat → Int} (h : MvK a b fm n fp r C M N P) (ha : -128 ≤ a ∧ a ≤ 127) (hb : -128 ≤ b ∧ b ≤ 127) (hfm : ∀ i, 0 ≤ fm i ∧ fm i ≤ 255) (ad : Option Addr) (cp : Nat) (hfp : ∀ i, 0 ≤ fp i ∧ fp i ≤ 255) (hn : n ≤ 1048576) (W : World) (hs : Sl W (.slice ad n cp) n 3 .u8 fp) :
    Calls Try.prog 16 #[.agg (pic 432 a b fm), .slice ad n cp, .int .i64 r] W fun e w' => ∃ v, e = .returned (.tuple #[v, .int .i64 M, .int .i64 C]) ∧ PRow w' W.heap.size v N P ∧ New W w' := by
  have := move_spec a b fm ha hb hfm ad n cp fp hfp hn r W hs
  rw [h.hm, h.hn, h.hf, h.hc] at this
  exact this
/-- what MoveTones can answer -/
theorem mv_three {r : Int} (hm : ∀ i, 0 ≤ fm i ∧ fm i ≤ 255) (hp : ∀ i, 0 ≤ fp i ∧ fp i ≤ 255) (hask : askOk a b fm n fp = true) (hr : 0 ≤ r ∧ r ≤ 50) :
    (∃ P, MvK a b fm n fp r 4 0 0 P) ∨ ∃ (M : Nat) (P : Nat → Int), (M : Int) ≤ r ∧ MvK a b fm n fp r 0 M n P ∧ (∀ i, 0 ≤ P i ∧ P i ≤ 255) ∧ ((M : Int) < r → MvK a b fm n P 1 0 1 n P) := by
  rcases mvC_two hask hr with h | h
  · obtain ⟨M, P, E⟩ := mv_end hm hp hask hr h
    exact Or.inr ⟨M, P, E.most, ⟨h, E.made, E.many, E.is⟩, E.byte, fun hl => ⟨E.c2 hl, E.m2 hl, E.n2 hl, E.f2 hl⟩⟩
  · refine Or.inl ⟨_, h, ?_, ?_, rfl⟩
    · unfold mvM; rw [h]; exact if_neg (by decide)
    · unfold mvN; rw [h]; exact if_neg (by decide)
structure TnK (a b : Int) (fm : Nat → Int) (C : Int) (N : Nat) (P : Nat → Int) : Prop where
  hc : tinC a b fm = C
  hn : tinN a b fm = N
  hf : tinF a b fm = P
theorem tin_ik {C : Int} {N : Nat} {P : Nat → Int} (h : TnK a b fm C N P) (ha : -128 ≤ a ∧ a ≤ 127) (hb : -128 ≤ b ∧ b ≤ 127) (hfm : ∀ i, 0 ≤ fm i ∧ fm i ≤ 255) (W : World) :
    Calls Try.prog 18 #[.agg (pic 432 a b fm)] W fun e w' => ∃ v, e = .returned (.tuple #[v, .int .i64 C]) ∧ PRow w' W.heap.size v N P ∧ New W w' := by
  have := tin_impl a b fm ha hb hfm W
  rw [h.hn, h.hf, h.hc] at this
  exact this
theorem tin_sk {C : Int} {N : Nat} {P : Nat → Int} (h : TnK a b fm C N P) (ha : -128 ≤ a ∧ a ≤ 127) (hb : -128 ≤ b ∧ b ≤ 127) (hfm : ∀ i, 0 ≤ fm i ∧ fm i ≤ 255) (W : World) :
    Calls Try.prog 19 #[.agg (pic 432 a b fm)] W fun e w' => ∃ v, e = .returned (.tuple #[v, .int .i64 C]) ∧ PRow w' W.heap.size v N P ∧ New W w' := by
  have := tin_spec a b fm ha hb hfm W
  rw [h.hn, h.hf, h.hc] at this
  exact this
theorem tin_both (ha : 1 ≤ a ∧ a ≤ 12) (hb : 1 ≤ b ∧ b ≤ 12) (hfm : ∀ i, 0 ≤ fm i ∧ fm i ≤ 255) (hi : okImg a b fm = true) :
    (∃ P, TnK a b fm 3 0 P) ∨ ∃ (N : Nat) (P Q : Nat → Int), TnK a b fm 0 N P ∧ (0 < N ∧ N ≤ 15) ∧ (∀ i, 0 ≤ P i ∧ P i ≤ 255) ∧ PofE a b fm N P Q ∧ cosS N P fm a b 144 = 0 := by
  rcases tinC_two hi with h | h
  · obtain ⟨h1, h2⟩ := tin_end ha hb hfm hi h
    exact Or.inr ⟨_, _, _, ⟨h, rfl, rfl⟩, okPal_pos h1, fun i => flF_b _ i, pof_end ha hb hi h1, h2⟩
  · refine Or.inl ⟨_, h, ?_, rfl⟩
    unfold tinN; rw [h]; exact if_neg (by decide)
theorem mean_ik {z : Nat → Int} {x0 x1 x2 : Int} (hc : meanC a b fm 3 z = 0) (h0 : meanV a b fm 3 z 0 = x0) (h1 : meanV a b fm 3 z 1 = x1) (h2 : meanV a b fm 3 z 2 = x2) (ha : -128 ≤ a ∧ a ≤ 127) (hb : -128 ≤ b ∧ b ≤ 127) (hfm : ∀ i, 0 ≤ fm i ∧ fm i ≤ 255) (ad : Option Addr) (c : Nat) (hz : ∀ i, -9223372036854775808 ≤ z i ∧ z i ≤ 9223372036854775807) (W : World) (hs : Sl W (.slice ad 3 c) 3 1 .i64 z) :
    Calls Try.prog 20 #[.agg (pic 432 a b fm), .slice ad 3 c] W fun e w' => e = .returned (.tuple #[.agg #[.int .u8 x0, .int .u8 x1, .int .u8 x2], .int .i64 0]) ∧ New W w' := by
  have := meanTone_impl a b fm ha hb hfm ad 3 c z hz (by omega) W hs
  rw [h0, h1, h2, hc] at this
  exact this
theorem mean_sk {z : Nat → Int} {x0 x1 x2 : Int} (hc : meanC a b fm 3 z = 0) (h0 : meanV a b fm 3 z 0 = x0) (h1 : meanV a b fm 3 z 1 = x1) (h2 : meanV a b fm 3 z 2 = x2) (ha : -128 ≤ a ∧ a ≤ 127) (hb : -128 ≤ b ∧ b ≤ 127) (hfm : ∀ i, 0 ≤ fm i ∧ fm i ≤ 255) (ad : Option Addr) (c : Nat) (hz : ∀ i, -9223372036854775808 ≤ z i ∧ z i ≤ 9223372036854775807) (W : World) (hs : Sl W (.slice ad 3 c) 3 1 .i64 z) :
    Calls Try.prog 21 #[.agg (pic 432 a b fm), .slice ad 3 c] W fun e w' => e = .returned (.tuple #[.agg #[.int .u8 x0, .int .u8 x1, .int .u8 x2], .int .i64 0]) ∧ New W w' := by
  have := meanTone_spec a b fm ha hb hfm ad 3 c z hz (by omega) W hs
  rw [h0, h1, h2, hc] at this
  exact this
end
theorem samePal_sk (a1 a2 : Option Addr) (n c1 c2 : Nat) (f : Nat → Int) (hn : n ≤ 1048576) (W : World) (h1 : Sl W (.slice a1 n c1) n 3 .u8 f) (h2 : Sl W (.slice a2 n c2) n 3 .u8 f) :
    Calls Try.prog 17 #[.slice a1 n c1, .slice a2 n c2] W fun e w' => e = .returned (.bool true) ∧ New W w' := by
  have := samePal_spec a1 a2 n n c1 c2 f f hn hn W h1 h2
  rw [samePal_self] at this
  exact this
theorem PRow.form2 {W : World} {base n : Nat} {v : Value} {f : Nat → Int} (h : PRow W base v n f) : ∃ x c, v = .slice x n c ∧ n ≤ c := by
  rcases h.shape with ⟨h1, h2⟩ | ⟨g, cap, cur, h1, _, _, _, h5, _⟩
  · exact ⟨_, 0, by rw [h2]; exact h1, by omega⟩
  · exact ⟨_, cap, h1, h5⟩
end Go.Proofs.Ytpphckfalgapdaa
/- The great law on fields: a number that is in a row is found; no condition. -/
set_option linter.unusedVariables false
namespace Go.Proofs.Ytpphckfalgapdaa
open Go.BigFrame
open Go.RowKit Go.Arr
set_option maxHeartbeats 1000000 in
set_option maxRecDepth 100000 in
theorem l00Has_in (a : Option Addr) (m c : Nat) (L : Nat → Int) (z : Int) (hm : m ≤ 100000) (W : World) (h1 : Reads W a m L) (hz : Hid (∃ t, t < m ∧ L t = z)) :
    Calls Try.prog 36 #[.slice a m c, .int .i64 z] W fun e w' => e = .returned (.bool true) ∧ W = w' := by
  go_enter Try.func36, Try.ntmps36
  go_wp2_with (fail)
  go_loop [5] (fun x => ∃ i : Nat, i ≤ m ∧ x = .int .i64 i ∧ Hid (∀ j, j < i → L j ≠ z)) (fun x => m - (intOf x).toNat)
  case atStart => exact ⟨0, by omega, rfl, fun j hj => absurd hj (by omega)⟩
  case round =>
    obtain ⟨i, hi, rfl, hal⟩ := hrel
    by_cases hlt : i < m
    · obtain ⟨g1, cur1, rfl, o1, e1⟩ := h1 i hlt
      obtain ⟨l1, e1⟩ := Array.getElem?_eq_some_iff.1 e1
      by_cases he : L i = z
      · have hd : (L i == z) = true := by simp [he]
        clear he hz
        go_wp2_with (fail)
        go_ret
        exact ⟨rfl, rfl⟩
      · have hal' : Hid (∀ j, j < i + 1 → L j ≠ z) := fun j hj => by
          by_cases e : j = i
          · subst e; exact he
          · exact hal.out j (by omega)
        have hd : (L i == z) = false := by simp [he]
        clear he
        go_wp2_with (fail)
        go_round
        case rel => exact ⟨i + 1, by omega, by go_num, hal'⟩
        case measure => simp [intOf]; omega
    · exfalso
      obtain ⟨t, ht, hz'⟩ := hz.out
      exact hal.out t (by omega) hz'
end Go.Proofs.Ytpphckfalgapdaa
