/- The program's plain pictures and parts of pictures; no condition. -/
import Derived.Test.YtmmckoemkpfgbaaSpecC
set_option linter.unusedVariables false
namespace Go.Proofs.Ytmmckoemkpfgbaa
open Go.BigFrame
open Go.RowKit Go.Arr
set_option maxHeartbeats 2000000 in
set_option maxRecDepth 100000 in
theorem plain_fn (gc : Nat) (t : TypeId) (c : Int) (hc : 0 ≤ c ∧ c ≤ 15) (x y : Nat) (w : World) (hp : obj w gc = some (.cells #[.int .i64 c] t)) :
    Calls Try.prog 44 #[.int .i64 x, .int .i64 y, .pointer (some ⟨gc, 0, none⟩)] w fun e w' => e = .returned (.int .u8 c) ∧ New w w' := by
  go_enter Try.func44, Try.ntmps44
  go_wp2_with (fail)
  go_ret
  exact ⟨rfl, New.refl w⟩
set_option maxHeartbeats 2000000 in
set_option maxRecDepth 100000 in
theorem plain_impl (a b c : Int) (w : World) :
    Calls Try.prog 22 #[.int .i64 a, .int .i64 b, .int .i64 c] w fun e w' => e = .returned (.tuple #[.agg (pic 144 (plainA a b c).w (plainA a b c).h (plainA a b c).f), .int .i64 (plainA a b c).c]) ∧ New w w' := by
  cases h1 : isSizeB a b
  · have hA : plainA a b c = noPic 2 := by unfold isSizeB at h1; simp [plainA, plainQ, h1]
    rw [hA]
    clear hA
    go_enter Try.func22, Try.ntmps22
    go_wp2_with (go_at_call 42; refine (isSize_any _ _ _).mono ?_; rintro e w' ⟨rfl, rfl⟩)
    refine ret_cell_tmp agg27 rfl rfl (c := pic 144 0 0 fun _ => 0) (t := 27) (fr := (0, 0)) (by go_simp) size_pic rfl ⟨rfl, ?_⟩
    repeat' (first | exact New.refl _ | refine New.alloc ?_ _ | refine New.drew ?_ | refine New.drewN ?_ _ | refine New.setRow ?_ (by omega) _ | refine New.setCell ?_ (by first | omega | (simp; done) | (simp; omega)) _)
  cases h3 : inB c 0 15
  · have hA : plainA a b c = noPic 2 := by simp [plainA, plainQ, h3]
    rw [hA]
    clear hA
    go_enter Try.func22, Try.ntmps22
    go_wp2_with (first | (go_at_call 42; refine (isSize_any _ _ _).mono ?_; rintro e w' ⟨rfl, rfl⟩) | (go_at_call 35; refine (isColour_any _ _).mono ?_; rintro e w' ⟨rfl, rfl⟩))
    refine ret_cell_tmp agg27 rfl rfl (c := pic 144 0 0 fun _ => 0) (t := 27) (fr := (0, 0)) (by go_simp) size_pic rfl ⟨rfl, ?_⟩
    repeat' (first | exact New.refl _ | refine New.alloc ?_ _ | refine New.drew ?_ | refine New.drewN ?_ _ | refine New.setRow ?_ (by omega) _ | refine New.setCell ?_ (by first | omega | (simp; done) | (simp; omega)) _)
  have hA : plainA a b c = ⟨0, a, b, paint a b fun _ _ => c⟩ := by unfold isSizeB at h1; simp [plainA, plainQ, h1, h3]
  rw [hA]
  clear hA
  have gg : (1 ≤ a ∧ a ≤ 12) ∧ (1 ≤ b ∧ b ≤ 12) := by unfold isSizeB at h1; rw [Bool.and_eq_true] at h1; exact ⟨inB_t.1 h1.1, inB_t.1 h1.2⟩
  have gc := inB_t.1 h3
  go_enter Try.func22, Try.ntmps22
  go_wp2_with (fail)
  refine (isSize_any _ _ _).mono ?_
  rintro e w' ⟨rfl, rfl⟩
  go_wp2_with (fail)
  refine (isColour_any _ _).mono ?_
  rintro e w' ⟨rfl, rfl⟩
  go_wp2_with (fail)
  refine (painted_any a b (by omega) (by omega) 44 _ (fun _ _ => c) _ (enters Try.func44 (by kernel_rfl) rfl) (fun W x y hW hx hy => ?_)).mono ?_
  · exact plain_fn w.heap.size 2 c gc x y W (by rw [hW.objs _ (by simp; omega)]; go_simp)
  rintro e1 w1 ⟨rfl, hn1⟩
  have ho1 := hn1.objs
  have hz1 := hn1.le
  try simp at hz1
  have k1 : w.heap.size + 1 < w1.heap.size := by omega
  go_wp2_with (fail)
  refine ret_cell_tmp agg27 rfl rfl (c := pic 144 a b (paint a b fun _ _ => c)) (t := 27) (fr := (0, 0)) (by go_simp) size_pic rfl ⟨rfl, ?_⟩
  refine New.setRow (New.trans ?_ hn1) (by omega) _
  repeat' (first | exact New.refl _ | refine New.alloc ?_ _ | refine New.drew ?_ | refine New.drewN ?_ _ | refine New.setRow ?_ (by omega) _ | refine New.setCell ?_ (by first | omega | (simp; done) | (simp; omega)) _)
end Go.Proofs.Ytmmckoemkpfgbaa
