/- Pictures whose errors are spread: the plain step, small functions; no condition. -/
import Derived.Test.YtpofhbdnjecfjaaNear
import Derived.Test.YtpofhbdnjecfjaaGre
import Derived.Test.YtpofhbdnjecfjaaVpal
set_option linter.unusedVariables false
namespace Go.Proofs.Ytpofhbdnjecfjaa
open Go.BigFrame
open Go.RowKit Go.Arr
theorem agg60 : AggTy Try.prog 60 12 := ⟨⟨_, Try.underlying60, rfl⟩, by kernel_rfl⟩
theorem zero60 (w : World) : (zeroValue 60).run Try.prog w = .ok (.agg (arr 12 .i64 fun _ => 0)) w := by kernel_rfl
theorem lv60 : loadVar 60 = aggLoad 60 := rfl
theorem sv60 : storeVar 60 = aggStore 60 := rfl
theorem ld60 (g off : Nat) (w : World) : (aggLoad 60 ⟨g, off, none⟩).run Try.prog w = segOr (obj w g) off 12 w ((aggLoadOld 60 ⟨g, off, none⟩).run Try.prog w) := run_aggLoad 60 12 _ Try.underlying60 rfl (by kernel_rfl) g off w
theorem st60 (g off : Nat) (v : Value) (w : World) : (aggStore 60 ⟨g, off, none⟩ v).run Try.prog w = segStoreOr (obj w g) g off 12 v w ((aggStoreOld 60 ⟨g, off, none⟩ v).run Try.prog w) := run_aggStore 60 12 (by kernel_rfl) g off v w
@[simp, go_sem] theorem seg_all12 (F : Nat → Int) (a b c d e f g h i j k l : Value) : seg (arr 12 .i64 F) 0 #[a, b, c, d, e, f, g, h, i, j, k, l] = #[a, b, c, d, e, f, g, h, i, j, k, l] := rfl
attribute [go_sem ↓] zero60 lv60 sv60
attribute [go_sem] ld60 st60
theorem w64_b (x : Int) : -9223372036854775808 ≤ wrap64 x ∧ wrap64 x ≤ 9223372036854775807 := by unfold wrap64; omega
theorem wrap_i {x : Int} (h : -9223372036854775808 ≤ x ∧ x ≤ 9223372036854775807) : IntKind.i64.wrap x = x := by simp [IntKind.wrap, IntKind.bits, IntKind.signed]; omega
theorem wrap_u {x : Int} (h : 0 ≤ x ∧ x ≤ 255) : IntKind.u8.wrap x = x := by simp [IntKind.wrap, IntKind.bits, IntKind.signed]; omega
/-- the place of part d, seen from cell n -/
def dxD (d : Nat) : Int := if d = 0 then 1 else if d = 1 then -1 else if d = 2 then 0 else 1
def dyD (d : Nat) : Int := if d = 0 then 0 else 1
def wtD (d : Nat) : Int := if d = 0 then 7 else if d = 1 then 3 else if d = 2 then 5 else 1
def tgD (n d : Nat) : Nat := n + (if d = 0 then 1 else if d = 1 then 11 else if d = 2 then 12 else 13)
def inD (a b : Int) (n d : Nat) : Bool := isCellB ((n : Int) % 12 + dxD d) ((n : Int) / 12 + dyD d) a b
/-- the value of a target -/
def vlD (F e : Nat → Int) (n d k : Nat) : Int := wrap64 (F (tgD n d * 3 + k) + wrap64 (wtD d * e k) / 16)
/-- the values, where some parts are done -/
def spS (P : Nat → Nat → Bool) (a b : Int) (n : Nat) (F e : Nat → Int) (j : Nat) : Int :=
  if j / 3 = tgD n 0 ∧ inD a b n 0 = true ∧ P 0 (j % 3) = true then vlD F e n 0 (j % 3)
  else if j / 3 = tgD n 1 ∧ inD a b n 1 = true ∧ P 1 (j % 3) = true then vlD F e n 1 (j % 3)
  else if j / 3 = tgD n 2 ∧ inD a b n 2 = true ∧ P 2 (j % 3) = true then vlD F e n 2 (j % 3)
  else if j / 3 = tgD n 3 ∧ inD a b n 3 = true ∧ P 3 (j % 3) = true then vlD F e n 3 (j % 3)
  else F j
section
variable {P : Nat → Nat → Bool} {a b : Int} {n : Nat} {F e : Nat → Int}
theorem spS_0 (h : ∀ d k, P d k = false) (j : Nat) : spS P a b n F e j = F j := by
  unfold spS
  rw [if_neg (fun h1 => by rw [h] at h1; exact absurd h1.2.2 (by simp)), if_neg (fun h1 => by rw [h] at h1; exact absurd h1.2.2 (by simp)), if_neg (fun h1 => by rw [h] at h1; exact absurd h1.2.2 (by simp)), if_neg (fun h1 => by rw [h] at h1; exact absurd h1.2.2 (by simp))]
/-- the cells of no part -/
theorem spS_far {j : Nat} (h : j / 3 ≤ n) : spS P a b n F e j = F j := by
  unfold spS tgD
  rw [if_neg (fun h1 => by have := h1.1; simp at this; omega), if_neg (fun h1 => by have := h1.1; simp at this; omega), if_neg (fun h1 => by have := h1.1; simp at this; omega), if_neg (fun h1 => by have := h1.1; simp at this; omega)]
theorem spS_congr {P' : Nat → Nat → Bool} (h : ∀ d k, d < 4 → k < 3 → inD a b n d = true → P d k = P' d k) (j : Nat) : spS P a b n F e j = spS P' a b n F e j := by
  have hk : j % 3 < 3 := Nat.mod_lt _ (by omega)
  have e1 : ∀ d, d < 4 → ((j / 3 = tgD n d ∧ inD a b n d = true ∧ P d (j % 3) = true) ↔ (j / 3 = tgD n d ∧ inD a b n d = true ∧ P' d (j % 3) = true)) := fun d hd => by
    constructor
    · rintro ⟨h1, h2, h3⟩; exact ⟨h1, h2, by rw [← h d _ hd hk h2]; exact h3⟩
    · rintro ⟨h1, h2, h3⟩; exact ⟨h1, h2, by rw [h d _ hd hk h2]; exact h3⟩
  unfold spS
  simp only [e1 0 (by omega), e1 1 (by omega), e1 2 (by omega), e1 3 (by omega)]
/-- the value that a part's channel has before it is done -/
theorem spS_at {d k : Nat} (hd : d < 4) (hk : k < 3) (hP : P d k = false) : spS P a b n F e (tgD n d * 3 + k) = F (tgD n d * 3 + k) := by
  have hq : (tgD n d * 3 + k) / 3 = tgD n d := by omega
  have hr : (tgD n d * 3 + k) % 3 = k := by omega
  unfold spS
  rw [hq, hr]
  have hn : ∀ d', d' < 4 → ¬ (tgD n d = tgD n d' ∧ inD a b n d' = true ∧ P d' k = true) := fun d' hd' h1 => by
    have e1 : d = d' := by
      have := h1.1
      unfold tgD at this
      have h3 : d = 0 ∨ d = 1 ∨ d = 2 ∨ d = 3 := by omega
      have h4 : d' = 0 ∨ d' = 1 ∨ d' = 2 ∨ d' = 3 := by omega
      rcases h3 with rfl | rfl | rfl | rfl <;> rcases h4 with rfl | rfl | rfl | rfl <;> simp at this <;> first | rfl | omega
    subst e1
    rw [hP] at h1
    exact absurd h1.2.2 (by simp)
  rw [if_neg (hn 0 (by omega)), if_neg (hn 1 (by omega)), if_neg (hn 2 (by omega)), if_neg (hn 3 (by omega))]
/-- a part's channel is done -/
theorem spS_upd {d k : Nat} (hd : d < 4) (hk : k < 3) (hi : inD a b n d = true) (j : Nat) : upd (spS P a b n F e) (tgD n d * 3 + k) (vlD F e n d k) j = spS (fun d' k' => P d' k' || (d' == d && k' == k)) a b n F e j := by
  unfold upd
  by_cases hj : j = tgD n d * 3 + k
  · rw [if_pos hj]
    subst hj
    have hq : (tgD n d * 3 + k) / 3 = tgD n d := by omega
    have hr : (tgD n d * 3 + k) % 3 = k := by omega
    unfold spS
    rw [hq, hr]
    have h3 : d = 0 ∨ d = 1 ∨ d = 2 ∨ d = 3 := by omega
    rcases h3 with rfl | rfl | rfl | rfl
    · rw [if_pos ⟨rfl, hi, by simp⟩]
    · rw [if_neg (fun h => by have := h.1; unfold tgD at this; simp at this), if_pos ⟨rfl, hi, by simp⟩]
    · rw [if_neg (fun h => by have := h.1; unfold tgD at this; simp at this), if_neg (fun h => by have := h.1; unfold tgD at this; simp at this), if_pos ⟨rfl, hi, by simp⟩]
    · rw [if_neg (fun h => by have := h.1; unfold tgD at this; simp at this), if_neg (fun h => by have := h.1; unfold tgD at this; simp at this), if_neg (fun h => by have := h.1; unfold tgD at this; simp at this), if_pos ⟨rfl, hi, by simp⟩]
  · rw [if_neg hj]
    have e1 : ∀ d', (j / 3 = tgD n d' ∧ inD a b n d' = true ∧ P d' (j % 3) = true) ↔ (j / 3 = tgD n d' ∧ inD a b n d' = true ∧ (P d' (j % 3) || (d' == d && j % 3 == k)) = true) := fun d' => by
      constructor
      · rintro ⟨h1, h2, h3⟩; exact ⟨h1, h2, by rw [h3]; rfl⟩
      · rintro ⟨h1, h2, h3⟩
        refine ⟨h1, h2, ?_⟩
        by_cases h4 : d' = d ∧ j % 3 = k
        · exfalso
          apply hj
          rw [← h4.2, ← h4.1, ← h1]
          omega
        · rw [show (d' == d && j % 3 == k) = false by
            rw [Bool.and_eq_false_iff]
            by_cases h5 : d' = d
            · right; simpa using fun h6 => h4 ⟨h5, h6⟩
            · left; simpa using h5, Bool.or_false] at h3
          exact h3
    unfold spS
    simp only [e1]
end
/-- the error of a cell -/
def erD (F fp : Nat → Int) (n c k : Nat) : Int := wrap64 (F (n * 3 + k) - fp (c * 3 + k))
def clD (x : Int) : Int := if x < 0 then 0 else if 255 < x then 255 else x
theorem clD_b (x : Int) : 0 ≤ clD x ∧ clD x ≤ 255 := by unfold clD; split <;> (try split) <;> omega
/-- the nearest tone of a cell -/
def nrD (m : Nat) (F fp : Nat → Int) (n : Nat) : Nat := (nearK fp (clD (F (n * 3))) (clD (F (n * 3 + 1))) (clD (F (n * 3 + 2))) m).1
abbrev StD := (Nat → Int) × (Nat → Int)
/-- a cell is done: what is left, the picture -/
def stD (m : Nat) (a b : Int) (fp : Nat → Int) (s : StD) (n : Nat) : StD := (spS (fun _ _ => true) a b n s.1 (erD s.1 fp n (nrD m s.1 fp n)), upd s.2 n ((nrD m s.1 fp n : Nat) + 1))
def spD (m : Nat) (a b : Int) (fm fp : Nat → Int) : Nat → StD := recS (stD m a b fp) (fm, fun _ => 0) (cellN a b)
def sprC (a b : Int) (fm : Nat → Int) (m : Nat) (fp : Nat → Int) : Int := if askOk a b fm m fp = true then 0 else 1
def sprA (a b : Int) (fm : Nat → Int) (m : Nat) (fp : Nat → Int) : Array Value := if askOk a b fm m fp = true then pic 144 a b (spD m a b fm fp 144).2 else pic 144 0 0 fun _ => 0
def mnD (x y : Int) : Int := if x < y then x else y
def mxD (x y : Int) : Int := if y < x then x else y
theorem mx_mn (x : Int) : mxD 0 (mnD 255 x) = clD x := by
  unfold mxD mnD clD
  repeat' split
  all_goals omega
set_option maxHeartbeats 1000000 in
theorem min_any (x y : Int) (w : World) : Calls Try.prog 21 #[.int .i64 x, .int .i64 y] w fun e w' => e = .returned (.int .i64 (mnD x y)) ∧ w = w' := by
  by_cases h : x < y
  · have hv : Hid (mnD x y = x) := if_pos h
    go_enter Try.func21, Try.ntmps21
    go_wp2_with (fail)
    go_ret
    exact ⟨by rw [hv.out]; rfl, rfl⟩
  · have hv : Hid (mnD x y = y) := if_neg h
    go_enter Try.func21, Try.ntmps21
    go_wp2_with (fail)
    go_ret
    exact ⟨by rw [hv.out]; rfl, rfl⟩
set_option maxHeartbeats 1000000 in
theorem max_any (x y : Int) (w : World) : Calls Try.prog 20 #[.int .i64 x, .int .i64 y] w fun e w' => e = .returned (.int .i64 (mxD x y)) ∧ w = w' := by
  by_cases h : y < x
  · have hv : Hid (mxD x y = x) := if_pos h
    go_enter Try.func20, Try.ntmps20
    go_wp2_with (fail)
    go_ret
    exact ⟨by rw [hv.out]; rfl, rfl⟩
  · have hv : Hid (mxD x y = y) := if_neg h
    go_enter Try.func20, Try.ntmps20
    go_wp2_with (fail)
    go_ret
    exact ⟨by rw [hv.out]; rfl, rfl⟩
theorem tdm16 (x : Int) : (0 ≤ x ∧ Int.tdiv x 16 = x / 16 ∧ Int.tmod x 16 = x % 16) ∨ (x < 0 ∧ Int.tdiv x 16 = -((-x) / 16) ∧ Int.tmod x 16 = -((-x) % 16)) := by
  by_cases h : 0 ≤ x
  · exact Or.inl ⟨h, Int.tdiv_eq_ediv_of_nonneg h, Int.tmod_eq_emod_of_nonneg h⟩
  · refine Or.inr ⟨by omega, ?_, ?_⟩
    · have h1 : Int.tdiv (-(-x)) 16 = -(Int.tdiv (-x) 16) := Int.neg_tdiv _ _
      rw [Int.neg_neg] at h1
      rw [h1, Int.tdiv_eq_ediv_of_nonneg (by omega)]
    · have h1 : Int.tmod (-(-x)) 16 = -(Int.tmod (-x) 16) := Int.neg_tmod _ _
      rw [Int.neg_neg] at h1
      rw [h1, Int.tmod_eq_emod_of_nonneg (by omega)]
theorem tdiv16 (x : Int) : (Int.tdiv x 16 - (if Int.tmod x 16 < 0 then 1 else 0)) = x / 16 := by
  rcases tdm16 x with ⟨h, h1, h2⟩ | ⟨h, h1, h2⟩ <;> rw [h1, h2] <;> split <;> omega
set_option maxHeartbeats 1000000 in
theorem down_any (x : Int) (hx : -9223372036854775808 ≤ x ∧ x ≤ 9223372036854775807) (w : World) : Calls Try.prog 24 #[.int .i64 x] w fun e w' => e = .returned (.int .i64 (x / 16)) ∧ w = w' := by
  have ht := hide (tdiv16 x)
  have hq : -9223372036854775800 ≤ Int.tdiv x 16 ∧ Int.tdiv x 16 ≤ 9223372036854775800 := by
    rcases tdm16 x with ⟨h, h1, h2⟩ | ⟨h, h1, h2⟩ <;> rw [h1] <;> omega
  by_cases h : Int.tmod x 16 < 0
  · have h2 : Hid (Int.tdiv x 16 - 1 = x / 16) := by have := ht.out; rw [if_pos h] at this; exact this
    go_enter Try.func24, Try.ntmps24
    go_wp2_with (fail)
    go_ret
    exact ⟨by rw [← h2.out]; rfl, rfl⟩
  · have h2 : Hid (Int.tdiv x 16 = x / 16) := by have := ht.out; rw [if_neg h, Int.sub_zero] at this; exact this
    go_enter Try.func24, Try.ntmps24
    go_wp2_with (fail)
    go_ret
    exact ⟨by rw [← h2.out]; rfl, rfl⟩
end Go.Proofs.Ytpofhbdnjecfjaa
