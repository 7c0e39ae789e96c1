/- A strings.Builder that a call has made itself: a byte written, the string read; no condition. -/
import Derived.Test.YtmiafnlaooggjaaTy
import Derived.Test.YtmiafnlaooggjaaStr
import Derived.Lib.Builder
import Derived.Lib.UnsafeStr
import Derived.Lib.Strings
import Derived.Lib.Walk
import Derived.WalkKit
import Derived.Laws.Externs
set_option linter.unusedVariables false
namespace Go.Proofs.Ytmiafnlaooggjaa
open Go.BigFrame
open Go.RowKit Go.Arr
theorem shape_of {w : World} {b : Nat} {cs : Array Value} {T : TypeId} (h : obj w b = some (.cells cs T)) : w.shape? b = some (T, cs.size) := by
  unfold obj at h
  simp [World.shape?, h]
set_option maxHeartbeats 1000000 in
set_option maxRecDepth 100000 in
theorem copyCheck_used (b : Nat) (v : Value) (w : World) (hb : obj w b = some (.cells #[.pointer (some ⟨b, 0, none⟩), v] 123)) :
    Calls Try.prog 120 #[.pointer (some ⟨b, 0, none⟩)] w fun e w' => e = .returned (.tuple #[]) ∧ w' = w := by
  obtain ⟨j, hj, _⟩ := Option.map_eq_some_iff.1 (show (Try.prog.info? 123).map (·.size) = some 2 by kernel_rfl)
  have hl := obj_lt hb
  have hne := fun w' : World => Lib.run_neq_ptr_same (P := Try.prog) w' (tp := 121) ⟨b, 0, none⟩ Try.underlying121 hj
  go_enter Try.func120, Try.ntmps120
  go_wp2_with (fail)
  go_end0
  exact ⟨rfl, rfl⟩
set_option maxHeartbeats 1000000 in
set_option maxRecDepth 100000 in
theorem copyCheck_fresh (b : Nat) (v : Value) (w : World) (hb : obj w b = some (.cells #[.pointer none, v] 123)) :
    Calls Try.prog 120 #[.pointer (some ⟨b, 0, none⟩)] w fun e w' => e = .returned (.tuple #[]) ∧ w' = w.setCell ⟨b, 0, none⟩ (.pointer (some ⟨b, 0, none⟩)) := by
  obtain ⟨j, hj, hjs⟩ := Option.map_eq_some_iff.1 (show (Try.prog.info? 123).map (·.size) = some 2 by kernel_rfl)
  have hl := obj_lt hb
  have hsh := shape_of hb
  have hto := Lib.run_to_unsafe (P := Try.prog) w (src := 121) (dst := 161) ⟨b, 0, none⟩ Try.underlying121 Try.underlying161 hj (by rw [hjs]; decide) hsh (Nat.zero_lt_succ 1)
  have hfrom := Lib.run_from_unsafe (P := Try.prog) w (src := 161) (dst := 121) ⟨b, 0, none⟩ Try.underlying161 Try.underlying121 hj hsh (by kernel_rfl)
  go_enter Try.func120, Try.ntmps120
  go_wp2_with (fail)
  rw [run_callFunc_extern Try.func137 (by kernel_rfl) (by kernel_rfl) (by kernel_rfl) (e := Extern.AbiNoEscape.same) (by kernel_rfl)]
  rw [Lib.run_noEscape]
  simp only [Result.andThen]
  rw [Oper.upon_value]
  go_wp2_with (fail)
  go_end0
  exact ⟨rfl, rfl⟩
theorem copyCheck_any (B b : Nat) (bs : List Value) (w : World) (h : Lib.IsBuilder 123 5 B b bs w) :
    Calls Try.prog 120 #[.pointer (some ⟨b, 0, none⟩)] w fun e w' => e = .returned (.tuple #[]) ∧ (Lib.BuilderAt 123 5 B b (.pointer (some ⟨b, 0, none⟩)) bs w' ∧ Below B w w') := by
  rcases h with h | h
  · obtain ⟨hB, v, hb, hown, hne⟩ := id h
    refine (copyCheck_fresh b v w hb).mono ?_
    rintro e w' ⟨rfl, rfl⟩
    exact ⟨rfl, h.used _, (Below.refl B w).setCell (p := ⟨b, 0, none⟩) h.1 _⟩
  · obtain ⟨hB, v, hb, hown, hne⟩ := id h
    refine (copyCheck_used b v w hb).mono ?_
    rintro e w' ⟨rfl, rfl⟩
    exact ⟨rfl, h, Below.refl B _⟩
theorem slBytes3 : SlTy Try.prog 61 5 (.int .u8 0) 1 1 := ⟨Try.underlying61, by kernel_rfl, rfl, by omega⟩
end Go.Proofs.Ytmiafnlaooggjaa
