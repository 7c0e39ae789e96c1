/- The image of a picture with the tones of a palette: the reference and the program answer alike; no condition. -/
import Derived.Test.YtnaecghpahbojaaDoorPicOf
import Derived.Test.YtnaecghpahbojaaDoorHas
set_option linter.unusedVariables false
namespace Go.Proofs.YtnaecghpahbojaaDoor
open Go.BigFrame
open Go.RowKit Go.Arr
theorem seg_pic3 (N o : Nat) (a b : Int) (F G : Nat → Int) (x y z : Int) (h : o + 3 ≤ N) (h0 : G o = x) (h1 : G (o + 1) = y) (h2 : G (o + 2) = z) (hG : ∀ i, i < N → i < o ∨ o + 3 ≤ i → G i = F i) : seg (pic N a b F) (2 + o) #[.int .u8 x, .int .u8 y, .int .u8 z] = pic N a b G := by
  apply Array.ext_getElem?
  intro i
  rw [get_seg _ _ _ _ (by simp; omega)]
  simp only [List.size_toArray, List.length_cons, List.length_nil]
  match i with
  | 0 => rw [if_neg (by omega), get_pic_0, get_pic_0]
  | 1 => rw [if_neg (by omega), get_pic_1, get_pic_1]
  | i + 2 =>
    rw [get_pic, get_pic]
    by_cases hi : 2 + o ≤ i + 2 ∧ i + 2 < 2 + o + (0 + 1 + 1 + 1)
    · rw [if_pos hi, if_pos (show i < N by omega)]
      obtain ⟨j, rfl⟩ : ∃ j, i = o + j := ⟨i - o, by omega⟩
      have hj : j < 3 := by omega
      rw [show o + j + 2 - (2 + o) = j by omega]
      match j, hj with
      | 0, _ => simp [h0]
      | 1, _ => simp [h1]
      | 2, _ => simp [h2]
    · rw [if_neg hi]
      by_cases hN : i < N
      · rw [if_pos hN, if_pos hN, hG i hN (by omega)]
      · rw [if_neg hN, if_neg hN]
def put3 (q : Nat → Int) (i : Nat) (x y z : Int) : Nat → Int := fun j => if j = i * 3 then x else if j = i * 3 + 1 then y else if j = i * 3 + 2 then z else q j
theorem seg_put3 {a b : Int} (q : Nat → Int) (i : Nat) (hi : i < 144) (x y z : Int) : seg (pic 432 a b q) (2 + i * 3) #[.int .u8 x, .int .u8 y, .int .u8 z] = pic 432 a b (put3 q i x y z) := by
  rw [seg_pic3 432 (i * 3) a b q (put3 q i x y z) x y z (by omega) (by simp [put3]) (by simp [put3]) (by simp [put3])]
  intro j hj h2
  unfold put3
  rw [if_neg (by omega), if_neg (by omega), if_neg (by omega)]
theorem put3_twice (q : Nat → Int) (i : Nat) (x y z x' y' z' : Int) : put3 (put3 q i x y z) i x' y' z' = put3 q i x' y' z' := by
  funext j
  unfold put3
  split
  · rfl
  · split
    · rfl
    · split <;> rfl
/-- the step at one cell -/
def imStep (f fp : Nat → Int) (x y z : Int) (q : Nat → Int) (i : Nat) : Nat → Int := if 0 < f i then put3 q i (fp (((f i).toNat - 1) * 3)) (fp (((f i).toNat - 1) * 3 + 1)) (fp (((f i).toNat - 1) * 3 + 2)) else put3 q i x y z
def imS (f fp : Nat → Int) (x y z : Int) (a b : Int) : Nat → Nat → Int := recS (imStep f fp x y z) (fun _ => 0) (cellN a b)
def iofA (a b : Int) (f : Nat → Int) (n : Nat) (fp : Nat → Int) (x y z : Int) : Array Value := if hasV a b f n fp = 0 then pic 432 a b (imS f fp x y z a b 144) else pic 432 0 0 fun _ => 0
theorem iof_t {a b : Int} {f : Nat → Int} {n : Nat} {fp : Nat → Int} {x y z : Int} (h : hasV a b f n fp = 0) : iofA a b f n fp x y z = pic 432 a b (imS f fp x y z a b 144) := if_pos h
theorem iof_f {a b : Int} {f : Nat → Int} {n : Nat} {fp : Nat → Int} {x y z k : Int} (h : hasV a b f n fp = k) (hk : k ≠ 0) : iofA a b f n fp x y z = pic 432 0 0 fun _ => 0 := if_neg (by rw [h]; exact hk)
theorem hasV_cases2 (a b : Int) (f : Nat → Int) (n : Nat) (fp : Nat → Int) : (hasV a b f n fp = 1 ∧ (okPic a b f && okPal n fp) = false) ∨ (hasV a b f n fp = 2 ∧ (okPic a b f = true ∧ okPal n fp = true) ∧ hasC n f = false) ∨ (hasV a b f n fp = 0 ∧ (okPic a b f = true ∧ okPal n fp = true) ∧ hasC n f = true) := by
  unfold hasV
  cases h1 : okPic a b f <;> cases h2 : okPal n fp <;> cases h3 : hasC n f <;> simp
theorem validPal_k {k : Bool} (a : Option Addr) (n c : Nat) (f : Nat → Int) (hn : n ≤ 1048576) (hc : n ≤ c) (h : okPal n f = k) (W : World) (hs : Sl W (.slice a n c) n 3 .u8 f) : Calls Tryd.prog 23 #[.slice a n c] W fun e w' => e = .returned (.bool k) ∧ New W w' := by
  rw [← h]; exact validPal_impl a n c f hn hc W hs
theorem imT (f fp : Nat → Int) (x y z : Int) (a b : Int) : recT (imStep f fp x y z) (fun _ => 0) (selG (cellN a b) 144) (selN (cellN a b) 144) = imS f fp x y z a b 144 := rec_eq (Nat.le_refl _)
end Go.Proofs.YtnaecghpahbojaaDoor
