/- The text of a picture: what the reference returns; no condition. -/
import Derived.Test.YtbaphikficnjdaaStr
import Derived.Test.YtbaphikficnjdaaWithCol
set_option linter.unusedVariables false
namespace Go.Proofs.Ytbaphikficnjdaa
open Go.BigFrame
open Go.RowKit Go.Arr
def letB (x : Int) : Int := if x = 0 then 46 else 96 + x
set_option maxRecDepth 100000 in
theorem let_get (x : Int) (h0 : 0 ≤ x) (h1 : x < 16) (w : World) : (Instr.index 9 (.string ⟨#[46, 97, 98, 99, 100, 101, 102, 103, 104, 105, 106, 107, 108, 109, 110, 111]⟩) (.int .u8 x)).run Try.prog w = .ok (.int .u8 (letB x)) w := by
  have : x = 0 ∨ x = 1 ∨ x = 2 ∨ x = 3 ∨ x = 4 ∨ x = 5 ∨ x = 6 ∨ x = 7 ∨ x = 8 ∨ x = 9 ∨ x = 10 ∨ x = 11 ∨ x = 12 ∨ x = 13 ∨ x = 14 ∨ x = 15 := by omega
  rcases this with h | h | h | h | h | h | h | h | h | h | h | h | h | h | h | h <;> (subst h; rfl)
def txtRow (f : Nat → Int) (y : Nat) : Nat → List Int
  | 0 => []
  | x + 1 => txtRow f y x ++ [letB (f (x + 12 * y))]
def txtR (f : Nat → Int) (a : Nat) : Nat → List Int
  | 0 => []
  | y + 1 => txtR f a y ++ txtRow f y a ++ [10]
theorem length_txtRow (f : Nat → Int) (y x : Nat) : (txtRow f y x).length = x := by
  induction x with
  | zero => rfl
  | succ x ih => simp [txtRow, ih]
theorem length_txtR (f : Nat → Int) (a y : Nat) : (txtR f a y).length = (a + 1) * y := by
  induction y with
  | zero => rfl
  | succ y ih => simp only [txtR, List.length_append, ih, length_txtRow, List.length_cons, List.length_nil, Nat.mul_succ]; omega
theorem bstr_app (l m : List Int) : bstr l ++ bstr m = bstr (l ++ m) := by
  unfold bstr
  rw [ByteArray.ext_iff]
  simp [bytesOf]
theorem slBytes2 : SlTy Try.prog 54 5 (.int .u8 0) 1 1 := ⟨Try.underlying54, by kernel_rfl, rfl, by omega⟩
attribute [local go_sem high] let_get
theorem size_bstr (l : List Int) : (bstr l).size = l.length := by unfold bstr; simp [bytesOf, ByteArray.size]
set_option maxHeartbeats 2000000 in
set_option maxRecDepth 100000 in
theorem l01Text_any (g : Nat) (a b : Nat) (f : Nat → Int) (ha : 1 ≤ a ∧ a ≤ 12) (hb : 1 ≤ b ∧ b ≤ 12) (hf : ∀ i, i < 144 → 0 ≤ f i ∧ f i < 16) (w : World) (hg : obj w g = some (.cells (pic 144 a b f) 27)) :
    Calls Try.prog 30 #[.pointer (some ⟨g, 0, none⟩)] w fun e w' => e = .returned (.string (bstr (txtR f a b))) ∧ New w w' := by
  have hgl := obj_lt hg
  have hg' := hide hg
  have hf' := hide hf
  clear hg hf
  go_enter Try.func30, Try.ntmps30
  go_wp2_with (fail)
  go_loopw [3, 4] (fun s i wr => ∃ y : Nat, y ≤ b ∧ i = .int .i64 y ∧ s = .string (bstr (txtR f a y)) ∧ New w wr) (fun _ i _ => b - (intOf i).toNat)
  case atStart => exact ⟨0, by omega, rfl, rfl, New.refl w⟩
  case round =>
    obtain ⟨y, hy, rfl, rfl, hn⟩ := hrel
    have hp : obj wr g = some (.cells (pic 144 a b f) 27) := (hn.objs _ hgl).trans hg'.out
    obtain ⟨wo, rfl⟩ : ∃ wo : World, wo = wr := ⟨_, rfl⟩
    by_cases hlt : y < b
    · go_wp2_with (fail)
      go_loopw [3, 5] (fun s i wr => ∃ x : Nat, x ≤ a ∧ i = .int .i64 x ∧ s = .string (bstr (txtR f a y ++ txtRow f y x)) ∧ New w wr) (fun _ i _ => a - (intOf i).toNat)
      case atStart => exact ⟨0, by omega, rfl, by simp [txtRow], hn⟩
      case round =>
        clear hp hn
        obtain ⟨x, hx, rfl, rfl, hn⟩ := hrel
        have hp : obj wr g = some (.cells (pic 144 a b f) 27) := (hn.objs _ hgl).trans hg'.out
        have hgw : g < wr.heap.size := obj_lt hp
        by_cases hlx : x < a
        · have hv := hf'.out (x + 12 * y) (by omega)
          have hst : ∀ W : World, obj W wr.heap.size = some (.cells #[.int .u8 (letB (f (x + 12 * y)))] 5) → (convert 54 9 (.slice (some ⟨wr.heap.size, 0, none⟩) 1 1)).run Try.prog W = .ok (.string (bstr [letB (f (x + 12 * y))])) W := fun W hW => run_string (P := Try.prog) slBytes2.1 Try.underlying5 Try.underlying9 hW rfl (fun j hj => by
            match j, hj with
            | 0, _ => rfl)
          have hsz : (bstr (txtR f a y ++ txtRow f y x)).size ≤ 1000 := by
            rw [size_bstr, List.length_append, length_txtR, length_txtRow]
            have := Nat.mul_le_mul (show a + 1 ≤ 13 by omega) (show y ≤ 12 by omega)
            omega
          have hs1 : (bstr [letB (f (x + 12 * y))]).size = 1 := by rw [size_bstr]; rfl
          have hcat := bstr_app (txtR f a y ++ txtRow f y x) [letB (f (x + 12 * y))]
          have q1 : x + 12 * y < 144 := by omega
          go_wp2_with (fail)
          go_roundw
          case rel => exact ⟨x + 1, by omega, by go_num, by simp [txtRow], hn.alloc _⟩
          case measure => simp [intOf]; omega
        · obtain rfl : x = a := by omega
          have hsz : (bstr (txtR f x y ++ txtRow f y x)).size ≤ 1000 := by
            rw [size_bstr, List.length_append, length_txtR, length_txtRow]
            have := Nat.mul_le_mul (show x + 1 ≤ 13 by omega) (show y ≤ 12 by omega)
            omega
          have hcat : bstr (txtR f x y ++ txtRow f y x) ++ ⟨#[10]⟩ = bstr (txtR f x y ++ txtRow f y x ++ [10]) := bstr_app _ [10]
          go_wp2_with (fail)
          go_roundw
          case rel => exact ⟨y + 1, by omega, by go_num, by simp [txtR], hn⟩
          case measure => simp [intOf]; omega
    · obtain rfl : y = b := by omega
      go_wp2_with (fail)
      go_ret
      exact ⟨rfl, hn⟩
def txtA (a b : Int) (f : Nat → Int) : ByteArray := if okPic a b f = true then bstr (txtR f a.toNat b.toNat) else ⟨#[]⟩
set_option maxHeartbeats 1000000 in
set_option maxRecDepth 100000 in
theorem txt_spec (a b : Int) (f : Nat → Int) (ha : -128 ≤ a ∧ a ≤ 127) (hb : -128 ≤ b ∧ b ≤ 127) (hf : ∀ i, 0 ≤ f i ∧ f i ≤ 255) (w : World) :
    Calls Try.prog 9 #[.agg (pic 144 a b f)] w fun e w' => e = .returned (.string (txtA a b f)) ∧ New w w' := by
  cases h1 : okPic a b f
  · have hA : txtA a b f = ⟨#[]⟩ := by unfold txtA; rw [if_neg (by rw [h1]; simp)]
    rw [hA]
    clear hA
    go_enter Try.func9, Try.ntmps9
    go_wp2_with (fail)
    refine (l01Ok_any _ 27 a b f ha hb hf _ (by go_simp)).mono ?_
    rintro e w1 ⟨rfl, rfl⟩
    go_wp2_with (fail)
    go_ret
    refine ⟨rfl, ?_⟩
    repeat' (first | exact New.refl _ | refine New.alloc ?_ _ | refine New.drew ?_ | refine New.drewN ?_ _ | refine New.setRow ?_ (by omega) _ | refine New.setCell ?_ (by first | omega | (simp; done) | (simp; omega)) _)
  · have hA : txtA a b f = bstr (txtR f a.toNat b.toNat) := by unfold txtA; rw [if_pos h1]
    rw [hA]
    clear hA
    have gd := okPic_dims h1
    have hv : ∀ i, i < 144 → 0 ≤ f i ∧ f i < 16 := fun i hi => ⟨(hf i).1, (okPic_cell h1 i hi).1⟩
    obtain ⟨a', rfl⟩ : ∃ a' : Nat, a = a' := ⟨a.toNat, by omega⟩
    obtain ⟨b', rfl⟩ : ∃ b' : Nat, b = b' := ⟨b.toNat, by omega⟩
    have hv := hide hv
    go_enter Try.func9, Try.ntmps9
    go_wp2_with (fail)
    refine (l01Ok_any _ 27 a' b' f ha hb hf _ (by go_simp)).mono ?_
    rintro e w1 ⟨rfl, rfl⟩
    go_wp2_with (fail)
    refine (l01Text_any _ a' b' f (by omega) (by omega) hv.out _ (by go_simp)).mono ?_
    rintro e1 w1 ⟨rfl, hn1⟩
    have ho1 := hn1.objs
    have hz1 := hn1.le
    try simp at hz1
    go_wp2_with (fail)
    go_ret
    refine ⟨rfl, ?_⟩
    repeat' (first | exact New.refl _ | refine New.alloc ?_ _ | refine New.drew ?_ | refine New.drewN ?_ _ | refine New.setRow ?_ (by omega) _ | refine New.setCell ?_ (by first | omega | (simp; done) | (simp; omega)) _ | refine New.trans ?_ hn1)
end Go.Proofs.Ytbaphikficnjdaa
