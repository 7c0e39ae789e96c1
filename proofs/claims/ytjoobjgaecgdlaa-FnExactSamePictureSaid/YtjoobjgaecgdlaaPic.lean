/- Pictures: what comes in is handed on, and two are held against each other; no condition. -/
import Derived.Test.YtjoobjgaecgdlaaTy
import Derived.Test.YtjoobjgaecgdlaaOpen
import Derived.Test.YtjoobjgaecgdlaaNewQ
namespace Go.Proofs.Ytjoobjgaecgdlaa
open Go.BigFrame
open Go.RowKit Go.Arr
set_option maxHeartbeats 400000 in
set_option maxRecDepth 100000 in
theorem toBytes_any (f : Nat → Int) (w : World) :
    Calls Try.prog 24 #[.agg (arr 144 .u8 f)] w fun e w' => e = .returned (.agg (arr 144 .u8 f)) ∧ New w w' := by
  go_enter Try.func24, Try.ntmps24
  go_wp2
  go_loopw [4] (fun i wr => ∃ k : Nat, k ≤ 144 ∧ i = .int .i64 k ∧ wr = ((w.alloc (Obj.cells (arr 144 IntKind.u8 f) 31)).alloc (Obj.cells (arr 144 IntKind.u8 fun _ => 0) 31)).alloc (Obj.cells (arr 144 IntKind.u8 fun j => if j < k then f j else 0) 31)) (fun i _ => 144 - (intOf i).toNat)
  case atStart => exact ⟨0, by omega, rfl, by simp⟩
  case round =>
    obtain ⟨k, hk, rfl, rfl⟩ := hrel
    by_cases hlt : k < 144
    · go_wp2
      go_roundw
      case rel =>
        refine ⟨k + 1, by omega, by go_num, ?_⟩
        congr 2
        refine arr_congr fun j hj => ?_
        unfold upd
        show _ = if j < k + 1 then f j else 0
        by_cases e : j = k
        · subst e; simp
        · rw [if_neg e]; dsimp only
          by_cases e2 : j < k
          · rw [if_pos e2, if_pos (by omega)]
          · rw [if_neg e2, if_neg (by omega)]
      case measure => simp [intOf]; omega
    · obtain rfl : k = 144 := by omega
      go_wp2
      refine ret_cell agg31 rfl rfl (c := arr 144 .u8 fun j => if j < 144 then f j else 0) (t := 31) (fr := (0, 0)) (by go_simp) (size_arr) rfl ⟨?_, ?_⟩
      · rw [arr_congr (fun i hi => if_pos hi)]
      · exact (((New.refl w).alloc _).alloc _).alloc _


set_option maxHeartbeats 400000 in
set_option maxRecDepth 100000 in
theorem toPicture_any (a b : Int) (f : Nat → Int) (w : World) :
    Calls Try.prog 15 #[.agg (pic 144 a b f)] w fun e w' => e = .returned (.agg (pic 144 a b f)) ∧ New w w' := by
  go_enter Try.func15, Try.ntmps15
  go_wp2_with (first | (go_at_call 24; refine (toBytes_any _ _).mono ?_; rintro e w1 ⟨rfl, hn1⟩; obtain ⟨ho1, hz1⟩ := hn1.old))
  refine ret_cell agg35 rfl rfl (c := pic 144 a b f) (t := 35) (fr := (0, 0)) (by go_simp) size_pic rfl ⟨rfl, ?_⟩
  repeat' (first | exact New.refl _ | refine New.alloc ?_ _ | refine New.drew ?_ | refine New.drewN ?_ _ | refine New.setRow ?_ (by omega) _ | refine New.trans ?_ hn1)
set_option maxHeartbeats 400000 in
set_option maxRecDepth 100000 in
theorem samePicture_impl (a b c d : Int) (f g : Nat → Int) (w : World) :
    Calls Try.prog 16 #[.agg (pic 144 a b f), .agg (pic 144 c d g)] w fun e w' => e = .returned (.bool (eqPic 144 a b f c d g)) ∧ New w w' := by
  go_enter Try.func16, Try.ntmps16
  go_wp2
  go_ret
  exact ⟨rfl, ((New.refl w).alloc _).alloc _⟩
set_option maxHeartbeats 400000 in
set_option maxRecDepth 100000 in
theorem samePicture_spec (a b c d : Int) (f g : Nat → Int) (w : World) :
    Calls Try.prog 14 #[.agg (pic 144 a b f), .agg (pic 144 c d g)] w fun e w' => e = .returned (.bool (eqPic 144 a b f c d g)) ∧ New w w' := by
  go_enter Try.func14, Try.ntmps14
  go_wp2
  go_ret
  exact ⟨rfl, ((New.refl w).alloc _).alloc _⟩
set_option maxHeartbeats 400000 in
set_option maxRecDepth 100000 in
theorem samePicture_law (a b : Int) (f : Nat → Int) (_ha : -128 ≤ a ∧ a ≤ 127) (_hb : -128 ≤ b ∧ b ≤ 127) (_hf : ∀ i, 0 ≤ f i ∧ f i ≤ 255) (c d : Int) (g : Nat → Int) (_hc : -128 ≤ c ∧ c ≤ 127) (_hd : -128 ≤ d ∧ d ≤ 127) (_hg : ∀ i, 0 ≤ g i ∧ g i ≤ 255) (w : World) :
    Calls Try.prog 6 #[.agg (pic 144 a b f), .agg (pic 144 c d g)] w fun e w' => e = .returned (.bool true) ∧ New w w' := by
  go_enter Try.func6, Try.ntmps6
  go_wp2_with (fail)
  refine wp_region_new (by kernel_rfl) (by kernel_rfl) ?_
  repeat (go_big_quiet_step (first | (go_at_call 15; exact calls_new (toPicture_any _ _ _ _)) | (go_at_call 14; exact calls_new (samePicture_spec _ _ _ _ _ _ _))))
  refine wpQuiet_nil ?_
  intro w1 hc1
  have hn1 := NewW.of hc1
  clear hc1
  obtain ⟨ho1, hz1⟩ := hn1.old
  simp at hz1
  have k1 : w.heap.size < w1.heap.size := by omega
  have k2 : w.heap.size + 1 < w1.heap.size := by omega
  go_wp2_with (fail)
  refine wp_region_new (by kernel_rfl) (by kernel_rfl) ?_
  repeat (go_big_quiet_step (first | (go_at_call 15; exact calls_new (toPicture_any _ _ _ _)) | (go_at_call 16; exact calls_new (samePicture_impl _ _ _ _ _ _ _))))
  refine wpQuiet_nil ?_
  intro w2 hc2
  have hn2 := NewW.of hc2
  clear hc2
  obtain ⟨ho2, hz2⟩ := hn2.old
  go_wp2_with (fail)
  go_ret
  refine ⟨rfl, ?_⟩
  repeat' (first | exact New.refl _ | refine New.alloc ?_ _ | refine New.drew ?_ | refine New.drewN ?_ _ | refine New.setRow ?_ (by omega) _ | refine New.trans ?_ hn2 | refine New.trans ?_ hn1)
end Go.Proofs.Ytjoobjgaecgdlaa
