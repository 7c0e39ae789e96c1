/- A strings.Builder that a call has made itself: a byte written, the string read; no condition. -/
import Derived.Test.YtbaphikficnjdaaTy
import Derived.Test.YtbaphikficnjdaaStr
import Derived.Lib.Builder
import Derived.Lib.UnsafeStr
import Derived.Lib.Strings
import Derived.Lib.Walk
import Derived.WalkKit
import Derived.Laws.Externs
set_option linter.unusedVariables false
namespace Go.Proofs.Ytbaphikficnjdaa
open Go.BigFrame
open Go.RowKit Go.Arr
theorem shape_of {w : World} {b : Nat} {cs : Array Value} {T : TypeId} (h : obj w b = some (.cells cs T)) : w.shape? b = some (T, cs.size) := by
  unfold obj at h
  simp [World.shape?, h]
set_option maxHeartbeats 1000000 in
set_option maxRecDepth 100000 in
theorem copyCheck_used (b : Nat) (v : Value) (w : World) (hb : obj w b = some (.cells #[.pointer (some ⟨b, 0, none⟩), v] 56)) :
    Calls Try.prog 58 #[.pointer (some ⟨b, 0, none⟩)] w fun e w' => e = .returned (.tuple #[]) ∧ w' = w := by
  obtain ⟨j, hj, _⟩ := Option.map_eq_some_iff.1 (show (Try.prog.info? 56).map (·.size) = some 2 by kernel_rfl)
  have hl := obj_lt hb
  have hne := fun w' : World => Lib.run_neq_ptr_same (P := Try.prog) w' (tp := 53) ⟨b, 0, none⟩ Try.underlying53 hj
  go_enter Try.func58, Try.ntmps58
  go_wp2_with (fail)
  go_end0
  exact ⟨rfl, rfl⟩
set_option maxHeartbeats 1000000 in
set_option maxRecDepth 100000 in
theorem copyCheck_fresh (b : Nat) (v : Value) (w : World) (hb : obj w b = some (.cells #[.pointer none, v] 56)) :
    Calls Try.prog 58 #[.pointer (some ⟨b, 0, none⟩)] w fun e w' => e = .returned (.tuple #[]) ∧ w' = w.setCell ⟨b, 0, none⟩ (.pointer (some ⟨b, 0, none⟩)) := by
  obtain ⟨j, hj, hjs⟩ := Option.map_eq_some_iff.1 (show (Try.prog.info? 56).map (·.size) = some 2 by kernel_rfl)
  have hl := obj_lt hb
  have hsh := shape_of hb
  have hto := Lib.run_to_unsafe (P := Try.prog) w (src := 53) (dst := 90) ⟨b, 0, none⟩ Try.underlying53 Try.underlying90 hj (by rw [hjs]; decide) hsh (Nat.zero_lt_succ 1)
  have hfrom := Lib.run_from_unsafe (P := Try.prog) w (src := 90) (dst := 53) ⟨b, 0, none⟩ Try.underlying90 Try.underlying53 hj hsh (by kernel_rfl)
  go_enter Try.func58, Try.ntmps58
  go_wp2_with (fail)
  rw [run_callFunc_extern Try.func68 (by kernel_rfl) (by kernel_rfl) (by kernel_rfl) (e := Extern.AbiNoEscape.same) (by kernel_rfl)]
  rw [Lib.run_noEscape]
  simp only [Result.andThen]
  rw [Oper.upon_value]
  go_wp2_with (fail)
  go_end0
  exact ⟨rfl, rfl⟩
theorem copyCheck_any (B b : Nat) (bs : List Value) (w : World) (h : Lib.IsBuilder 56 5 B b bs w) :
    Calls Try.prog 58 #[.pointer (some ⟨b, 0, none⟩)] w fun e w' => e = .returned (.tuple #[]) ∧ (Lib.BuilderAt 56 5 B b (.pointer (some ⟨b, 0, none⟩)) bs w' ∧ Below B w w') := by
  rcases h with h | h
  · obtain ⟨hB, v, hb, hown, hne⟩ := id h
    refine (copyCheck_fresh b v w hb).mono ?_
    rintro e w' ⟨rfl, rfl⟩
    exact ⟨rfl, h.used _, (Below.refl B w).setCell (p := ⟨b, 0, none⟩) h.1 _⟩
  · obtain ⟨hB, v, hb, hown, hne⟩ := id h
    refine (copyCheck_used b v w hb).mono ?_
    rintro e w' ⟨rfl, rfl⟩
    exact ⟨rfl, h, Below.refl B _⟩
theorem slBytes3 : SlTy Try.prog 54 5 (.int .u8 0) 1 1 := ⟨Try.underlying54, by kernel_rfl, rfl, by omega⟩
set_option maxHeartbeats 2000000 in
set_option maxRecDepth 100000 in
theorem writeByte_any (B b : Nat) (bs : List Value) (c : Int) (w : World) (h : Lib.IsBuilder 56 5 B b bs w) (hlen : bs.length + 1 ≤ 100000) (hBw : B ≤ w.heap.size) :
    Calls Try.prog 33 #[.pointer (some ⟨b, 0, none⟩), .int .u8 c] w fun e w' => e = .returned .nilIface ∧ (Lib.BuilderAt 56 5 B b (.pointer (some ⟨b, 0, none⟩)) (bs ++ [.int .u8 c]) w' ∧ Below B w w') := by
  go_enter Try.func33, Try.ntmps33
  go_wp2_with (fail)
  refine (copyCheck_any B b bs _ h).mono ?_
  rintro e w1 ⟨rfl, h1, hb1⟩
  obtain ⟨hB, v, hbk, hown, hne⟩ := h1
  have hb : obj w1 b = some (.cells #[.pointer (some ⟨b, 0, none⟩), v] 56) := hbk
  have hlt := obj_lt hb
  have hz1 := hb1.size
  go_wp2_with (at_builtin; refine wpList_app slBytes3 rfl _ _ rfl B _ _ _ rfl (hown.alloc _) ⟨w1.heap.size, 0, none⟩ 1 1 [.int .u8 c] rfl rfl (news_new _ _ _ _ _ rfl) (by simp [Value.oneCell']) (by omega) (by unfold maxLen; omega) (by omega) (by simp; omega) ?_)
  intro g cap w2 hown' hgrow hat hlt2
  have hb2 : obj w2 b = some (.cells #[.pointer (some ⟨b, 0, none⟩), v] 56) := (grown_obj hgrow b (by simp; omega) (fun e => hne e.symm)).trans ((obj_alloc_past _ _ _ hlt).trans hb)
  have hput := Lib.BuilderAt.put (T := 56) (e := 5) hB hb2 (bs' := bs ++ [.int .u8 c]) (by simpa using hown') (by decide)
  have hbel := ((hb1.alloc (by omega) (.cells #[.int .u8 c] 5)).grown hgrow (by simp; omega) (fun k hk => (hown.lt k hk).1)).setCell (p := ⟨b, 1, none⟩) hB (.slice (some ⟨g, 0, none⟩) (bs.length + 1) cap)
  clear hown' hgrow hat hown hbk hb1
  go_wp2_with (fail)
  go_ret
  exact ⟨rfl, by simpa using hput, hbel⟩
end Go.Proofs.Ytbaphikficnjdaa
