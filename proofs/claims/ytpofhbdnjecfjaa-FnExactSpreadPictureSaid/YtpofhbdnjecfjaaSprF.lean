/- Pictures whose errors are spread: the program's small functions, the plain step over a list of cells; no condition. -/
import Derived.Test.YtpofhbdnjecfjaaSpr
import Derived.Test.YtpofhbdnjecfjaaSel
import Derived.Test.YtpofhbdnjecfjaaSprR
import Derived.Test.YtpofhbdnjecfjaaSprP
set_option linter.unusedVariables false
namespace Go.Proofs.Ytpofhbdnjecfjaa
open Go.BigFrame
open Go.RowKit Go.Arr
set_option maxHeartbeats 1000000 in
theorem floor_any (x : Int) (hx : -9223372036854775808 ≤ x ∧ x ≤ 9223372036854775807) (w : World) : Calls Try.prog 32 #[.int .i64 x, .int .i64 16] w fun e w' => e = .returned (.int .i64 (x / 16)) ∧ w = w' := by
  have ht := hide (tdiv16 x)
  have hq : -9223372036854775800 ≤ Int.tdiv x 16 ∧ Int.tdiv x 16 ≤ 9223372036854775800 := by
    rcases tdm16 x with ⟨h, h1, h2⟩ | ⟨h, h1, h2⟩ <;> rw [h1] <;> omega
  by_cases h : Int.tmod x 16 < 0
  · have h2 : Hid (Int.tdiv x 16 - 1 = x / 16) := by have := ht.out; rw [if_pos h] at this; exact this
    go_enter Try.func32, Try.ntmps32
    go_wp2_with (fail)
    go_ret
    exact ⟨by rw [← h2.out]; rfl, rfl⟩
  · have h2 : Hid (Int.tdiv x 16 = x / 16) := by have := ht.out; rw [if_neg h, Int.sub_zero] at this; exact this
    go_enter Try.func32, Try.ntmps32
    go_wp2_with (fail)
    go_ret
    exact ⟨by rw [← h2.out]; rfl, rfl⟩
theorem arrX {n o p : Nat} {k : IntKind} {f : Nat → Int} (ho : o + 3 ≤ n) (hp : p = o + 3) : (arr n k f).extract o p = arr 3 k fun j => f (o + j) :=
  ext3 (by rw [get_arr, if_pos (by omega)]; rfl) (by rw [get_arr, if_pos (by omega)]) (by rw [get_arr, if_pos (by omega)]) hp
theorem sizeRow (w : World) : (sizeOf 54).run Try.prog w = .ok 3 w := by kernel_rfl
theorem ixParts (f : Nat → Int) (ik : IntKind) (i : Int) (h0 : 0 ≤ i) (h1 : i < 4) (w : World) : (Instr.index 60 (.agg (arr 12 .i64 f)) (.int ik i)).run Try.prog w = .ok (.agg (arr 3 .i64 fun j => f (i.toNat * 3 + j))) w := by
  have hlt : i.toNat < 4 := by omega
  have hx : (arr 12 .i64 f).extract (i.toNat * 3) (i.toNat * 3 + 3) = arr 3 .i64 fun j => f (i.toNat * 3 + j) := arrX (by omega) rfl
  have hp : (part 54 (arr 12 .i64 f) (i.toNat * 3)).run Try.prog w = .ok (.agg (arr 3 .i64 fun j => f (i.toNat * 3 + j))) w := by
    simp [part, isAgg, run_underlying Try.underlying54, hx]
  simp [Instr.index, asIntOf, run_underlying Try.underlying60, h0, h1, hp]
/-- the parts, as the program lays them -/
def pD (j : Nat) : Int := if j % 3 = 0 then dxD (j / 3) else if j % 3 = 1 then dyD (j / 3) else wtD (j / 3)
theorem pD_0 (d : Nat) : pD (d * 3 + 0) = dxD d := by unfold pD; rw [if_pos (by omega), show (d * 3 + 0) / 3 = d by omega]
theorem pD_1 (d : Nat) : pD (d * 3 + 1) = dyD d := by unfold pD; rw [if_neg (by omega), if_pos (by omega), show (d * 3 + 1) / 3 = d by omega]
theorem pD_2 (d : Nat) : pD (d * 3 + 2) = wtD d := by unfold pD; rw [if_neg (by omega), if_neg (by omega), show (d * 3 + 2) / 3 = d by omega]
theorem spI_0 {a b : Int} {k d : Nat} {F e : Nat → Int} : arr 432 .i64 (spS (fun d' _ => decide (d' < d)) a b k F e) = arr 432 .i64 (spS (fun d' k' => decide (d' < d) || (d' == d && decide (k' < 0))) a b k F e) :=
  arr_congr fun j _ => spS_congr (fun d' k' _ _ _ => by simp) j
theorem spI_skip {a b : Int} {k d : Nat} {F e : Nat → Int} (h : inD a b k d = false) : arr 432 .i64 (spS (fun d' _ => decide (d' < d)) a b k F e) = arr 432 .i64 (spS (fun d' _ => decide (d' < d + 1)) a b k F e) :=
  arr_congr fun j _ => spS_congr (fun d' k' _ _ hi => by
    by_cases e1 : d' = d
    · subst e1; rw [h] at hi; cases hi
    · rw [decide_eq_decide]; omega) j
theorem spI_3 {a b : Int} {k d : Nat} {F e : Nat → Int} : arr 432 .i64 (spS (fun d' k' => decide (d' < d) || (d' == d && decide (k' < 3))) a b k F e) = arr 432 .i64 (spS (fun d' _ => decide (d' < d + 1)) a b k F e) :=
  arr_congr fun j _ => spS_congr (fun d' k' _ hk _ => by
    rw [decide_eq_true hk, Bool.and_true, show (d' == d) = decide (d' = d) from rfl, ← Bool.decide_or, decide_eq_decide]
    omega) j
theorem spI_done {a b : Int} {k d K : Nat} {F e : Nat → Int} (hd : d < 4) (hK : K < 3) (h : inD a b k d = true) : arr 432 .i64 (upd (spS (fun d' k' => decide (d' < d) || (d' == d && decide (k' < K))) a b k F e) (tgD k d * 3 + K) (vlD F e k d K)) = arr 432 .i64 (spS (fun d' k' => decide (d' < d) || (d' == d && decide (k' < K + 1))) a b k F e) :=
  arr_congr fun j _ => (spS_upd hd hK h j).trans (spS_congr (fun d' k' _ _ _ => by
    by_cases e1 : d' = d
    · subst e1
      have : (decide (k' < K) || k' == K) = decide (k' < K + 1) := by
        by_cases h1 : k' = K
        · subst h1; simp
        · rw [show (k' == K) = false by simpa using h1, Bool.or_false, decide_eq_decide]; omega
      simp [← this]
    · have : (d' == d) = false := by simpa using e1
      simp [this]) j)
/-- so many cells of the list done -/
def spT (m : Nat) (a b : Int) (fm fp : Nat → Int) (t : Nat) : StD := recT (stD m a b fp) (fm, fun _ => 0) (selG (cellN a b) 144) t
theorem spT_s (m : Nat) (a b : Int) (fm fp : Nat → Int) (t : Nat) : spT m a b fm fp (t + 1) = stD m a b fp (spT m a b fm fp t) (selG (cellN a b) 144 t) := rfl
theorem spT_end (m : Nat) (a b : Int) (fm fp : Nat → Int) : spT m a b fm fp (selN (cellN a b) 144) = spD m a b fm fp 144 := rec_eq (Nat.le_refl 144)
end Go.Proofs.Ytpofhbdnjecfjaa
