/- The great law on nearest tones: the other contracts with their values fixed; no condition. -/
import Derived.Test.YtphjhegaplochaaGreatDoorU17
import Derived.Test.YtphjhegaplochaaGreatDoorU19
import Derived.Test.YtphjhegaplochaaGreatDoorU5
import Derived.Test.YtphjhegaplochaaGreatDoorU8
import Derived.Test.YtphjhegaplochaaGreatDoorU7
import Derived.Test.YtphjhegaplochaaGreatDoorU21
import Derived.Test.YtphjhegaplochaaGreatDoorU9
import Derived.Test.YtphjhegaplochaaGreatDoorU13
import Derived.Test.YtphjhegaplochaaGreatDoorU22
import Derived.Test.YtphjhegaplochaaGreatDoorU10
import Derived.Test.YtphjhegaplochaaGreatDoorU15
import Derived.Test.YtphjhegaplochaaGreatDoorU16
import Derived.Test.YtphjhegaplochaaGreatDoorU4
import Derived.Test.YtphjhegaplochaaGreatDoorU6
set_option linter.unusedVariables false
namespace Go.Proofs.YtphjhegaplochaaGreatDoor
open Go.BigFrame
open Go.RowKit Go.Arr
theorem PRow.form3 {W : World} {base n : Nat} {v : Value} {f : Nat → Int} (h : PRow W base v n f) : ∃ x c, v = .slice x n c ∧ n ≤ c := by
  rcases h.shape with ⟨h1, h2⟩ | ⟨g, cap, cur, h1, _, _, _, h5, _⟩
  · exact ⟨_, 0, by rw [h2]; exact h1, by omega⟩
  · exact ⟨_, cap, h1, h5⟩
section
variable {a b : Int} {fm : Nat → Int} {n : Nat} {p : Nat → Int}
theorem ptext_ik {s : ByteArray} (h : NnTxt n p s) (ad : Option Addr) (c : Nat) (hp : ∀ i, 0 ≤ p i ∧ p i ≤ 255) (hn : n ≤ 1048576) (hc : n ≤ c) (W : World) (hs : Sl W (.slice ad n c) n 3 .u8 p) :
    Calls Tryz.prog 8 #[.slice ad n c] W fun e w' => e = .returned (.string s) ∧ New W w' := by
  have := palText_impl ad n c p hp hn hc W hs
  rw [h.txt] at this
  exact this
theorem rpal_ik {s : ByteArray} (h : NnTxt n p s) (m : Int) (W : World) (hm : W.cell? ⟨Tryz.laysM146_ren.g 1, 0, none⟩ = some (.int .i64 m)) :
    Calls Tryz.prog 7 #[.string s] W fun e w' => ∃ v, e = .returned (.tuple #[v, .int .i64 0]) ∧ PRow w' W.heap.size v n p ∧ New W w' := by
  refine (readPal_impl s h.size m W hm).mono ?_
  rintro e w' ⟨v, he, hr, hn⟩
  rw [h.code] at he
  rw [h.many] at hr
  exact ⟨v, he, hr.congr h.at_, hn⟩
theorem pofi {Q : Nat → Int} (h1 : pofA a b fm n p = pic 144 a b Q) (h2 : pofC a b fm n p = 0) (ha : -128 ≤ a ∧ a ≤ 127) (hb : -128 ≤ b ∧ b ≤ 127) (hfm : ∀ i, 0 ≤ fm i ∧ fm i ≤ 255) (ad : Option Addr) (c : Nat) (hp : ∀ i, 0 ≤ p i ∧ p i ≤ 255) (hn : n ≤ 1048576) (hc : n ≤ c) (W : World) (hs : Sl W (.slice ad n c) n 3 .u8 p) :
    Calls Tryz.prog 9 #[.agg (pic 432 a b fm), .slice ad n c] W fun e w' => e = .returned (.tuple #[.agg (pic 144 a b Q), .int .i64 0]) ∧ New W w' := by
  have := pictureOf_impl a b fm ha hb hfm ad n c p hp hn hc W hs
  rw [h1, h2] at this
  exact this
theorem pofs {Q : Nat → Int} (h1 : pofA a b fm n p = pic 144 a b Q) (h2 : pofC a b fm n p = 0) (ha : -128 ≤ a ∧ a ≤ 127) (hb : -128 ≤ b ∧ b ≤ 127) (hfm : ∀ i, 0 ≤ fm i ∧ fm i ≤ 255) (ad : Option Addr) (c : Nat) (hp : ∀ i, 0 ≤ p i ∧ p i ≤ 255) (hn : n ≤ 1048576) (W : World) (hs : Sl W (.slice ad n c) n 3 .u8 p) :
    Calls Tryz.prog 10 #[.agg (pic 432 a b fm), .slice ad n c] W fun e w' => e = .returned (.tuple #[.agg (pic 144 a b Q), .int .i64 0]) ∧ New W w' := by
  have := pictureOf_spec a b fm ha hb hfm ad n c p hp hn W hs
  rw [h1, h2] at this
  exact this
theorem costi {R : Nat → Int} {V : Int} (h1 : costC a b fm a b R n p = 0) (h2 : costV a b fm a b R n p = V) (ha : -128 ≤ a ∧ a ≤ 127) (hb : -128 ≤ b ∧ b ≤ 127) (hfm : ∀ i, 0 ≤ fm i ∧ fm i ≤ 255) (hR : ∀ i, 0 ≤ R i ∧ R i ≤ 255) (ad : Option Addr) (c : Nat) (hp : ∀ i, 0 ≤ p i ∧ p i ≤ 255) (hn : n ≤ 1048576) (hc : n ≤ c) (W : World) (hs : Sl W (.slice ad n c) n 3 .u8 p) :
    Calls Tryz.prog 11 #[.agg (pic 432 a b fm), .agg (pic 144 a b R), .slice ad n c] W fun e w' => e = .returned (.tuple #[.int .i64 V, .int .i64 0]) ∧ New W w' := by
  have := costOf_impl a b fm ha hb hfm a b R ha hb hR ad n c p hp hn hc W hs
  rw [h2, h1] at this
  exact this
theorem costs {R : Nat → Int} {V : Int} (h1 : costC a b fm a b R n p = 0) (h2 : costV a b fm a b R n p = V) (ha : -128 ≤ a ∧ a ≤ 127) (hb : -128 ≤ b ∧ b ≤ 127) (hfm : ∀ i, 0 ≤ fm i ∧ fm i ≤ 255) (hR : ∀ i, 0 ≤ R i ∧ R i ≤ 255) (ad : Option Addr) (c : Nat) (hp : ∀ i, 0 ≤ p i ∧ p i ≤ 255) (hn : n ≤ 1048576) (W : World) (hs : Sl W (.slice ad n c) n 3 .u8 p) :
    Calls Tryz.prog 12 #[.agg (pic 432 a b fm), .agg (pic 144 a b R), .slice ad n c] W fun e w' => e = .returned (.tuple #[.int .i64 V, .int .i64 0]) ∧ New W w' := by
  have := costOf_spec a b fm ha hb hfm a b R ha hb hR ad n c p hp hn W hs
  rw [h2, h1] at this
  exact this
theorem spri {R : Nat → Int} (h1 : sprA a b fm n p = pic 144 a b R) (h2 : sprC a b fm n p = 0) (ha : -128 ≤ a ∧ a ≤ 127) (hb : -128 ≤ b ∧ b ≤ 127) (hfm : ∀ i, 0 ≤ fm i ∧ fm i ≤ 255) (ad : Option Addr) (c : Nat) (hp : ∀ i, 0 ≤ p i ∧ p i ≤ 255) (hn : n ≤ 1048576) (hc : n ≤ c) (W : World) (hs : Sl W (.slice ad n c) n 3 .u8 p) :
    Calls Tryz.prog 13 #[.agg (pic 432 a b fm), .slice ad n c] W fun e w' => e = .returned (.tuple #[.agg (pic 144 a b R), .int .i64 0]) ∧ New W w' := by
  have := spread_impl a b fm ha hb hfm ad n c p hp hn hc W hs
  rw [h1, h2] at this
  exact this
theorem sprs {R : Nat → Int} (h1 : sprA a b fm n p = pic 144 a b R) (h2 : sprC a b fm n p = 0) (ha : -128 ≤ a ∧ a ≤ 127) (hb : -128 ≤ b ∧ b ≤ 127) (hfm : ∀ i, 0 ≤ fm i ∧ fm i ≤ 255) (ad : Option Addr) (c : Nat) (hp : ∀ i, 0 ≤ p i ∧ p i ≤ 255) (hn : n ≤ 1048576) (W : World) (hs : Sl W (.slice ad n c) n 3 .u8 p) :
    Calls Tryz.prog 14 #[.agg (pic 432 a b fm), .slice ad n c] W fun e w' => e = .returned (.tuple #[.agg (pic 144 a b R), .int .i64 0]) ∧ New W w' := by
  have := spread_spec a b fm ha hb hfm ad n c p hp hn W hs
  rw [h1, h2] at this
  exact this
theorem imi {Q I : Nat → Int} (h : NnIm a b n p Q I) (ha : -128 ≤ a ∧ a ≤ 127) (hb : -128 ≤ b ∧ b ≤ 127) (hQ : ∀ i, 0 ≤ Q i ∧ Q i ≤ 255) (ad : Option Addr) (c : Nat) (hp : ∀ i, 0 ≤ p i ∧ p i ≤ 255) (hn : n ≤ 1048576) (hc : n ≤ c) (W : World) (hs : Sl W (.slice ad n c) n 3 .u8 p) :
    Calls Tryz.prog 24 #[.agg (pic 144 a b Q), .slice ad n c, .agg #[.int .u8 0, .int .u8 0, .int .u8 0]] W fun e w' => e = .returned (.tuple #[.agg (pic 432 a b I), .int .i64 0]) ∧ New W w' := by
  have := imageOf_impl a b Q ha hb hQ ad n c p hp hn hc 0 0 0 W hs
  rw [h.im, h.code] at this
  exact this
theorem ims {Q I : Nat → Int} (h : NnIm a b n p Q I) (ha : -128 ≤ a ∧ a ≤ 127) (hb : -128 ≤ b ∧ b ≤ 127) (hQ : ∀ i, 0 ≤ Q i ∧ Q i ≤ 255) (ad : Option Addr) (c : Nat) (hp : ∀ i, 0 ≤ p i ∧ p i ≤ 255) (hn : n ≤ 1048576) (W : World) (hs : Sl W (.slice ad n c) n 3 .u8 p) :
    Calls Tryz.prog 25 #[.agg (pic 144 a b Q), .slice ad n c, .agg #[.int .u8 0, .int .u8 0, .int .u8 0]] W fun e w' => e = .returned (.tuple #[.agg (pic 432 a b I), .int .i64 0]) ∧ New W w' := by
  have := imageOf_spec a b Q ha hb hQ ad n c p hp hn 0 0 0 W hs
  rw [h.im, h.code] at this
  exact this
theorem stki {Q C : Nat → Int} (h1 : hasV a b Q n p = 0) (h2 : stockN a b Q n p = n) (h3 : stockF a b Q = C) (ha : -128 ≤ a ∧ a ≤ 127) (hb : -128 ≤ b ∧ b ≤ 127) (hQ : ∀ i, 0 ≤ Q i ∧ Q i ≤ 255) (ad : Option Addr) (c : Nat) (hn : n ≤ 1048576) (hc : n ≤ c) (W : World) (hs : Sl W (.slice ad n c) n 3 .u8 p) :
    Calls Tryz.prog 26 #[.agg (pic 144 a b Q), .slice ad n c] W fun e w' => ∃ v, e = .returned (.tuple #[v, .int .i64 0]) ∧ Row w' W.heap.size v n C ∧ New W w' := by
  have := stockFor_impl a b Q ha hb hQ ad n c p hn hc W hs
  rw [h1, h2, h3] at this
  exact this
theorem stks {Q C : Nat → Int} (h1 : hasV a b Q n p = 0) (h2 : stockN a b Q n p = n) (h3 : stockF a b Q = C) (ha : -128 ≤ a ∧ a ≤ 127) (hb : -128 ≤ b ∧ b ≤ 127) (hQ : ∀ i, 0 ≤ Q i ∧ Q i ≤ 255) (ad : Option Addr) (c : Nat) (hn : n ≤ 1048576) (W : World) (hs : Sl W (.slice ad n c) n 3 .u8 p) :
    Calls Tryz.prog 27 #[.agg (pic 144 a b Q), .slice ad n c] W fun e w' => ∃ v, e = .returned (.tuple #[v, .int .i64 0]) ∧ Row w' W.heap.size v n C ∧ New W w' := by
  have := stockFor_spec a b Q ha hb hQ ad n c p hn W hs
  rw [h1, h2, h3] at this
  exact this
theorem fsi {C G : Nat → Int} {A B K : Int} (h1 : fsA a b fm n p n C = pic 144 A B G) (h2 : fsC a b fm n p n C = K) (ha : -128 ≤ a ∧ a ≤ 127) (hb : -128 ≤ b ∧ b ≤ 127) (hfm : ∀ i, 0 ≤ fm i ∧ fm i ≤ 255) (ad : Option Addr) (c : Nat) (hp : ∀ i, 0 ≤ p i ∧ p i ≤ 255) (hn : n ≤ 1048576) (hc : n ≤ c) (sa : Option Addr) (cs : Nat) (W : World) (hs : Sl W (.slice ad n c) n 3 .u8 p) (ht : Sl W (.slice sa n cs) n 1 .i64 C) :
    Calls Tryz.prog 28 #[.agg (pic 432 a b fm), .slice ad n c, .slice sa n cs] W fun e w' => e = .returned (.tuple #[.agg (pic 144 A B G), .int .i64 K]) ∧ New W w' := by
  have := fromStock_impl a b fm ha hb hfm ad n c p hp hn hc sa n cs C hn W hs ht
  rw [h1, h2] at this
  exact this
theorem fss {C G : Nat → Int} {A B K : Int} (h1 : fsA a b fm n p n C = pic 144 A B G) (h2 : fsC a b fm n p n C = K) (ha : -128 ≤ a ∧ a ≤ 127) (hb : -128 ≤ b ∧ b ≤ 127) (hfm : ∀ i, 0 ≤ fm i ∧ fm i ≤ 255) (ad : Option Addr) (c : Nat) (hp : ∀ i, 0 ≤ p i ∧ p i ≤ 255) (hn : n ≤ 1048576) (sa : Option Addr) (cs : Nat) (W : World) (hs : Sl W (.slice ad n c) n 3 .u8 p) (ht : Sl W (.slice sa n cs) n 1 .i64 C) :
    Calls Tryz.prog 31 #[.agg (pic 432 a b fm), .slice ad n c, .slice sa n cs] W fun e w' => e = .returned (.tuple #[.agg (pic 144 A B G), .int .i64 K]) ∧ New W w' := by
  have := fromStock_spec a b fm ha hb hfm ad n c p hp hn sa n cs C hn W hs ht
  rw [h1, h2] at this
  exact this
theorem srti {O S : Nat → Int} (h : NnSrt n p O S) (ad : Option Addr) (c : Nat) (hp : ∀ i, 0 ≤ p i ∧ p i ≤ 255) (hn : n ≤ 1048576) (hc : n ≤ c) (W : World) (hs : Sl W (.slice ad n c) n 3 .u8 p) :
    Calls Tryz.prog 32 #[.slice ad n c] W fun e w' => ∃ v u, e = .returned (.tuple #[v, u, .int .i64 0]) ∧ PRow w' W.heap.size v n S ∧ Row w' W.heap.size u n O ∧ New W w' := by
  refine (sort_impl ad n c p hp hn hc W hs).mono ?_
  rintro e w' ⟨v, u, h1, h2, h3, h4, _⟩
  rw [h.code] at h1
  rw [h.many, h.is] at h2
  rw [h.many, h.ord] at h3
  exact ⟨v, u, h1, h2, h3, h4⟩
theorem srts {O S : Nat → Int} (h : NnSrt n p O S) (ad : Option Addr) (c : Nat) (hp : ∀ i, 0 ≤ p i ∧ p i ≤ 255) (hn : n ≤ 1048576) (W : World) (hs : Sl W (.slice ad n c) n 3 .u8 p) :
    Calls Tryz.prog 33 #[.slice ad n c] W fun e w' => ∃ v u, e = .returned (.tuple #[v, u, .int .i64 0]) ∧ PRow w' W.heap.size v n S ∧ Row w' W.heap.size u n O ∧ New W w' := by
  refine (sort_spec ad n c p hp hn W hs).mono ?_
  rintro e w' ⟨v, u, h1, h2, h3, h4, _⟩
  rw [h.code] at h1
  rw [h.many, h.is] at h2
  rw [h.many, h.ord] at h3
  exact ⟨v, u, h1, h2, h3, h4⟩
end
theorem palSelf (n : Nat) (f : Nat → Int) : samePal n n f f = true := samePal_t fun j _ => by unfold alikePal; rw [eq3_t]; exact ⟨rfl, rfl, rfl⟩
theorem spi (a1 a2 : Option Addr) (n c1 c2 : Nat) (f : Nat → Int) (hn : n ≤ 1048576) (W : World) (h1 : Sl W (.slice a1 n c1) n 3 .u8 f) (h2 : Sl W (.slice a2 n c2) n 3 .u8 f) :
    Calls Tryz.prog 15 #[.slice a1 n c1, .slice a2 n c2] W fun e w' => e = .returned (.bool true) ∧ New W w' := by
  have := samePal_impl a1 a2 n n c1 c2 f f hn hn W h1 h2
  rw [palSelf] at this
  exact this
theorem sps (a1 a2 : Option Addr) (n c1 c2 : Nat) (f : Nat → Int) (hn : n ≤ 1048576) (W : World) (h1 : Sl W (.slice a1 n c1) n 3 .u8 f) (h2 : Sl W (.slice a2 n c2) n 3 .u8 f) :
    Calls Tryz.prog 16 #[.slice a1 n c1, .slice a2 n c2] W fun e w' => e = .returned (.bool true) ∧ New W w' := by
  have := samePal_spec a1 a2 n n c1 c2 f f hn hn W h1 h2
  rw [palSelf] at this
  exact this
theorem vimg {a b : Int} {f : Nat → Int} (h : okImg a b f = true) (ha : -128 ≤ a ∧ a ≤ 127) (hb : -128 ≤ b ∧ b ≤ 127) (w : World) :
    Calls Tryz.prog 18 #[.agg (pic 432 a b f)] w fun e w' => e = .returned (.bool true) ∧ New w w' := by
  have := validImage_impl a b f ha hb w
  rw [h] at this
  exact this
theorem GoodQ.by2 {a b : Int} {q : Nat → Int} (h : GoodQ a b q) : ∀ i, 0 ≤ q i ∧ q i ≤ 255 := fun i => by have := h i; omega
theorem eqPicS (a b : Int) (q : Nat → Int) : eqPic 144 a b q a b q = true := by unfold eqPic; simp [eqUpto]
end Go.Proofs.YtphjhegaplochaaGreatDoor
