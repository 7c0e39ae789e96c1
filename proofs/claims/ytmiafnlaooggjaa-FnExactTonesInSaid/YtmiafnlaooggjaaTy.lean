/- What loads, stores and zero values of the array and struct types come to; no condition. -/
import Derived.Test.YtmiafnlaooggjaaRows
import Derived.Test.YtmiafnlaooggjaaSli
namespace Go.Proofs.Ytmiafnlaooggjaa
open Go.RowKit Go.Arr

theorem agg35 : AggTy Try.prog 35 144 := ⟨⟨_, Try.underlying35, rfl⟩, by kernel_rfl⟩
theorem zero35 (w : World) : (zeroValue 35).run Try.prog w = .ok (.agg (arr 144 .u8 fun _ => 0)) w := by kernel_rfl
theorem lv35 : loadVar 35 = aggLoad 35 := rfl
theorem sv35 : storeVar 35 = aggStore 35 := rfl
theorem ld35 (g off : Nat) (w : World) : (aggLoad 35 ⟨g, off, none⟩).run Try.prog w = segOr (obj w g) off 144 w ((aggLoadOld 35 ⟨g, off, none⟩).run Try.prog w) := run_aggLoad 35 144 _ Try.underlying35 rfl (by kernel_rfl) g off w
theorem st35 (g off : Nat) (v : Value) (w : World) : (aggStore 35 ⟨g, off, none⟩ v).run Try.prog w = segStoreOr (obj w g) g off 144 v w ((aggStoreOld 35 ⟨g, off, none⟩ v).run Try.prog w) := run_aggStore 35 144 (by kernel_rfl) g off v w
theorem agg37 : AggTy Try.prog 37 146 := ⟨⟨_, Try.underlying37, rfl⟩, by kernel_rfl⟩
theorem zero37 (w : World) : (zeroValue 37).run Try.prog w = .ok (.agg (pic 144 0 0 fun _ => 0)) w := by kernel_rfl
theorem lv37 : loadVar 37 = aggLoad 37 := rfl
theorem sv37 : storeVar 37 = aggStore 37 := rfl
theorem ld37 (g off : Nat) (w : World) : (aggLoad 37 ⟨g, off, none⟩).run Try.prog w = segOr (obj w g) off 146 w ((aggLoadOld 37 ⟨g, off, none⟩).run Try.prog w) := run_aggLoad 37 146 _ Try.underlying37 rfl (by kernel_rfl) g off w
theorem st37 (g off : Nat) (v : Value) (w : World) : (aggStore 37 ⟨g, off, none⟩ v).run Try.prog w = segStoreOr (obj w g) g off 146 v w ((aggStoreOld 37 ⟨g, off, none⟩ v).run Try.prog w) := run_aggStore 37 146 (by kernel_rfl) g off v w
theorem agg31 : AggTy Try.prog 31 3 := ⟨⟨_, Try.underlying31, rfl⟩, by kernel_rfl⟩
theorem lv31 : loadVar 31 = aggLoad 31 := rfl
theorem sv31 : storeVar 31 = aggStore 31 := rfl
theorem ld31 (g off : Nat) (w : World) : (aggLoad 31 ⟨g, off, none⟩).run Try.prog w = segOr (obj w g) off 3 w ((aggLoadOld 31 ⟨g, off, none⟩).run Try.prog w) := run_aggLoad 31 3 _ Try.underlying31 rfl (by kernel_rfl) g off w
theorem st31 (g off : Nat) (v : Value) (w : World) : (aggStore 31 ⟨g, off, none⟩ v).run Try.prog w = segStoreOr (obj w g) g off 3 v w ((aggStoreOld 31 ⟨g, off, none⟩ v).run Try.prog w) := run_aggStore 31 3 (by kernel_rfl) g off v w
theorem agg40 : AggTy Try.prog 40 3 := ⟨⟨_, Try.underlying40, rfl⟩, by kernel_rfl⟩
theorem lv40 : loadVar 40 = aggLoad 40 := rfl
theorem sv40 : storeVar 40 = aggStore 40 := rfl
theorem ld40 (g off : Nat) (w : World) : (aggLoad 40 ⟨g, off, none⟩).run Try.prog w = segOr (obj w g) off 3 w ((aggLoadOld 40 ⟨g, off, none⟩).run Try.prog w) := run_aggLoad 40 3 _ Try.underlying40 rfl (by kernel_rfl) g off w
theorem st40 (g off : Nat) (v : Value) (w : World) : (aggStore 40 ⟨g, off, none⟩ v).run Try.prog w = segStoreOr (obj w g) g off 3 v w ((aggStoreOld 40 ⟨g, off, none⟩ v).run Try.prog w) := run_aggStore 40 3 (by kernel_rfl) g off v w
theorem agg32 : AggTy Try.prog 32 432 := ⟨⟨_, Try.underlying32, rfl⟩, by kernel_rfl⟩
theorem zero32 (w : World) : (zeroValue 32).run Try.prog w = .ok (.agg (arr 432 .u8 fun _ => 0)) w := by kernel_rfl
theorem lv32 : loadVar 32 = aggLoad 32 := rfl
theorem sv32 : storeVar 32 = aggStore 32 := rfl
theorem ld32 (g off : Nat) (w : World) : (aggLoad 32 ⟨g, off, none⟩).run Try.prog w = segOr (obj w g) off 432 w ((aggLoadOld 32 ⟨g, off, none⟩).run Try.prog w) := run_aggLoad 32 432 _ Try.underlying32 rfl (by kernel_rfl) g off w
theorem st32 (g off : Nat) (v : Value) (w : World) : (aggStore 32 ⟨g, off, none⟩ v).run Try.prog w = segStoreOr (obj w g) g off 432 v w ((aggStoreOld 32 ⟨g, off, none⟩ v).run Try.prog w) := run_aggStore 32 432 (by kernel_rfl) g off v w
theorem agg41 : AggTy Try.prog 41 432 := ⟨⟨_, Try.underlying41, rfl⟩, by kernel_rfl⟩
theorem zero41 (w : World) : (zeroValue 41).run Try.prog w = .ok (.agg (arr 432 .u8 fun _ => 0)) w := by kernel_rfl
theorem lv41 : loadVar 41 = aggLoad 41 := rfl
theorem sv41 : storeVar 41 = aggStore 41 := rfl
theorem ld41 (g off : Nat) (w : World) : (aggLoad 41 ⟨g, off, none⟩).run Try.prog w = segOr (obj w g) off 432 w ((aggLoadOld 41 ⟨g, off, none⟩).run Try.prog w) := run_aggLoad 41 432 _ Try.underlying41 rfl (by kernel_rfl) g off w
theorem st41 (g off : Nat) (v : Value) (w : World) : (aggStore 41 ⟨g, off, none⟩ v).run Try.prog w = segStoreOr (obj w g) g off 432 v w ((aggStoreOld 41 ⟨g, off, none⟩ v).run Try.prog w) := run_aggStore 41 432 (by kernel_rfl) g off v w
theorem agg43 : AggTy Try.prog 43 434 := ⟨⟨_, Try.underlying43, rfl⟩, by kernel_rfl⟩
theorem zero43 (w : World) : (zeroValue 43).run Try.prog w = .ok (.agg (pic 432 0 0 fun _ => 0)) w := by kernel_rfl
theorem lv43 : loadVar 43 = aggLoad 43 := rfl
theorem sv43 : storeVar 43 = aggStore 43 := rfl
theorem ld43 (g off : Nat) (w : World) : (aggLoad 43 ⟨g, off, none⟩).run Try.prog w = segOr (obj w g) off 434 w ((aggLoadOld 43 ⟨g, off, none⟩).run Try.prog w) := run_aggLoad 43 434 _ Try.underlying43 rfl (by kernel_rfl) g off w
theorem st43 (g off : Nat) (v : Value) (w : World) : (aggStore 43 ⟨g, off, none⟩ v).run Try.prog w = segStoreOr (obj w g) g off 434 v w ((aggStoreOld 43 ⟨g, off, none⟩ v).run Try.prog w) := run_aggStore 43 434 (by kernel_rfl) g off v w
theorem agg34 : AggTy Try.prog 34 434 := ⟨⟨_, Try.underlying34, rfl⟩, by kernel_rfl⟩
theorem zero34 (w : World) : (zeroValue 34).run Try.prog w = .ok (.agg (pic 432 0 0 fun _ => 0)) w := by kernel_rfl
theorem lv34 : loadVar 34 = aggLoad 34 := rfl
theorem sv34 : storeVar 34 = aggStore 34 := rfl
theorem ld34 (g off : Nat) (w : World) : (aggLoad 34 ⟨g, off, none⟩).run Try.prog w = segOr (obj w g) off 434 w ((aggLoadOld 34 ⟨g, off, none⟩).run Try.prog w) := run_aggLoad 34 434 _ Try.underlying34 rfl (by kernel_rfl) g off w
theorem st34 (g off : Nat) (v : Value) (w : World) : (aggStore 34 ⟨g, off, none⟩ v).run Try.prog w = segStoreOr (obj w g) g off 434 v w ((aggStoreOld 34 ⟨g, off, none⟩ v).run Try.prog w) := run_aggStore 34 434 (by kernel_rfl) g off v w
theorem agg79 : AggTy Try.prog 79 432 := ⟨⟨_, Try.underlying79, rfl⟩, by kernel_rfl⟩
theorem zero79 (w : World) : (zeroValue 79).run Try.prog w = .ok (.agg (arr 432 .i64 fun _ => 0)) w := by kernel_rfl
theorem lv79 : loadVar 79 = aggLoad 79 := rfl
theorem sv79 : storeVar 79 = aggStore 79 := rfl
theorem ld79 (g off : Nat) (w : World) : (aggLoad 79 ⟨g, off, none⟩).run Try.prog w = segOr (obj w g) off 432 w ((aggLoadOld 79 ⟨g, off, none⟩).run Try.prog w) := run_aggLoad 79 432 _ Try.underlying79 rfl (by kernel_rfl) g off w
theorem st79 (g off : Nat) (v : Value) (w : World) : (aggStore 79 ⟨g, off, none⟩ v).run Try.prog w = segStoreOr (obj w g) g off 432 v w ((aggStoreOld 79 ⟨g, off, none⟩ v).run Try.prog w) := run_aggStore 79 432 (by kernel_rfl) g off v w
theorem agg78 : AggTy Try.prog 78 3 := ⟨⟨_, Try.underlying78, rfl⟩, by kernel_rfl⟩
theorem mk26 (n : Nat) (hn : n ≤ 1048576) (w : World) : (Instr.makeSlice 26 (.int .i64 n) (.int .i64 n)).run Try.prog w = .ok (.slice (some ⟨w.heap.size, 0, none⟩) n n) (w.alloc (.cells (arr (n * 3) .u8 fun _ => 0) 40)) := mkrow Try.underlying26 (z := .agg #[.int .u8 0, .int .u8 0, .int .u8 0]) (bytes := 3) (by kernel_rfl) (made3 _) (by omega) n hn w
theorem mk25 (n : Nat) (hn : n ≤ 1048576) (w : World) : (Instr.makeSlice 25 (.int .i64 n) (.int .i64 n)).run Try.prog w = .ok (.slice (some ⟨w.heap.size, 0, none⟩) n n) (w.alloc (.cells (arr (n * 3) .u8 fun _ => 0) 40)) := mkrow Try.underlying25 (z := .agg #[.int .u8 0, .int .u8 0, .int .u8 0]) (bytes := 3) (by kernel_rfl) (made3 _) (by omega) n hn w
theorem mk47 (n : Nat) (hn : n ≤ 1048576) (w : World) : (Instr.makeSlice 47 (.int .i64 n) (.int .i64 n)).run Try.prog w = .ok (.slice (some ⟨w.heap.size, 0, none⟩) n n) (w.alloc (.cells (arr (n * 1) .i64 fun _ => 0) 2)) := mkrow Try.underlying47 (z := .int .i64 0) (bytes := 8) (by kernel_rfl) (made1 _) (by omega) n hn w
theorem size5 (w : World) : (sizeOf 5).run Try.prog w = .ok 1 w := by kernel_rfl
theorem eqt40_9999 (w : World) (x0 x1 x2 y0 y1 y2 : Int) : (Op.equalIn 9999 40 (.agg #[.int .u8 x0, .int .u8 x1, .int .u8 x2]) (.agg #[.int .u8 y0, .int .u8 y1, .int .u8 y2])).run Try.prog w = .ok (eq3 x0 x1 x2 y0 y1 y2) w := by
  rw [show (#[.int .u8 x0, .int .u8 x1, .int .u8 x2] : Array Value) = arr 3 .u8 (fun i => if i = 0 then x0 else if i = 1 then x1 else x2) from rfl, show (#[.int .u8 y0, .int .u8 y1, .int .u8 y2] : Array Value) = arr 3 .u8 (fun i => if i = 0 then y0 else if i = 1 then y1 else y2) from rfl]
  exact (run_equalIn_arr w 9997 40 5 Try.underlying40 Try.underlying5 size5).trans (by simp [eqUpto, eq3, List.range_succ, Bool.and_assoc])
theorem eqt40_10000 (w : World) (x0 x1 x2 y0 y1 y2 : Int) : (Op.equalIn 10000 40 (.agg #[.int .u8 x0, .int .u8 x1, .int .u8 x2]) (.agg #[.int .u8 y0, .int .u8 y1, .int .u8 y2])).run Try.prog w = .ok (eq3 x0 x1 x2 y0 y1 y2) w := by
  rw [show (#[.int .u8 x0, .int .u8 x1, .int .u8 x2] : Array Value) = arr 3 .u8 (fun i => if i = 0 then x0 else if i = 1 then x1 else x2) from rfl, show (#[.int .u8 y0, .int .u8 y1, .int .u8 y2] : Array Value) = arr 3 .u8 (fun i => if i = 0 then y0 else if i = 1 then y1 else y2) from rfl]
  exact (run_equalIn_arr w 9998 40 5 Try.underlying40 Try.underlying5 size5).trans (by simp [eqUpto, eq3, List.range_succ, Bool.and_assoc])
attribute [go_sem high] eqt40_9999 eqt40_10000
set_option maxHeartbeats 400000 in
theorem eql40 (w : World) (x0 x1 x2 y0 y1 y2 : Int) : (binOp .eql 40 (.agg #[.int .u8 x0, .int .u8 x1, .int .u8 x2]) (.agg #[.int .u8 y0, .int .u8 y1, .int .u8 y2])).run Try.prog w = .ok (.bool (eq3 x0 x1 x2 y0 y1 y2)) w := by
  go_simp
  try unfold eq3
  try (by_cases h0 : x0 = y0 <;> by_cases h1 : x1 = y1 <;> by_cases h2 : x2 = y2 <;> simp [h0, h1, h2])
set_option maxHeartbeats 400000 in
theorem neq40 (w : World) (x0 x1 x2 y0 y1 y2 : Int) : (binOp .neq 40 (.agg #[.int .u8 x0, .int .u8 x1, .int .u8 x2]) (.agg #[.int .u8 y0, .int .u8 y1, .int .u8 y2])).run Try.prog w = .ok (.bool (!eq3 x0 x1 x2 y0 y1 y2)) w := by
  go_simp
  try unfold eq3
  try (by_cases h0 : x0 = y0 <;> by_cases h1 : x1 = y1 <;> by_cases h2 : x2 = y2 <;> simp [h0, h1, h2])
theorem eq35 (w : World) (f g : Nat → Int) : (Op.equalIn 9999 35 (.agg (arr 144 .u8 f)) (.agg (arr 144 .u8 g))).run Try.prog w = .ok (eqUpto 144 f g) w := run_equalIn_arr w 9997 35 5 Try.underlying35 Try.underlying5 size5
theorem ix35 (f : Nat → Int) (ik : IntKind) (i : Int) (h0 : 0 ≤ i) (h1 : i < 144) (w : World) : (Instr.index 35 (.agg (arr 144 .u8 f)) (.int ik i)).run Try.prog w = .ok (.int .u8 (f i.toNat)) w := run_index_arr (n := 144) 35 5 Try.underlying35 Try.underlying5 size5 ik i h0 (by omega) w
attribute [go_sem ↓] zero35 lv35 sv35 zero37 lv37 sv37 lv31 sv31 lv40 sv40 zero32 lv32 sv32 zero41 lv41 sv41 zero43 lv43 sv43 zero34 lv34 sv34 zero79 lv79 sv79
attribute [go_sem] ld35 st35 ld37 st37 ld31 st31 ld40 st40 ld32 st32 ld41 st41 ld43 st43 ld34 st34 ld79 st79 mk26 mk25 mk47
attribute [go_sem high] eql40 neq40 eq35 ix35
set_option maxHeartbeats 400000 in
set_option maxRecDepth 100000 in
theorem eql37 (w : World) (a b c d : Int) (f g : Nat → Int) : (binOp .eql 37 (.agg (pic 144 a b f)) (.agg (pic 144 c d g))).run Try.prog w = .ok (.bool (eqPic 144 a b f c d g)) w := by
  go_simp
  unfold eqPic
  by_cases h1 : a = c <;> by_cases h2 : b = d <;> cases eqUpto 144 f g <;> simp [h1, h2]
set_option maxHeartbeats 400000 in
set_option maxRecDepth 100000 in
theorem neq37 (w : World) (a b c d : Int) (f g : Nat → Int) : (binOp .neq 37 (.agg (pic 144 a b f)) (.agg (pic 144 c d g))).run Try.prog w = .ok (.bool (!eqPic 144 a b f c d g)) w := by
  go_simp
  unfold eqPic
  by_cases h1 : a = c <;> by_cases h2 : b = d <;> cases eqUpto 144 f g <;> simp [h1, h2]
attribute [go_sem high] eql37 neq37
end Go.Proofs.Ytmiafnlaooggjaa
