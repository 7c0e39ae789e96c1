/- What loads, stores and zero values of the array and struct types come to; no condition. -/
import Derived.Test.YtedbagefigclgaaRows
import Derived.Test.YtedbagefigclgaaSli
namespace Go.Proofs.Ytedbagefigclgaa
open Go.RowKit Go.Arr

theorem agg23 : AggTy Try.prog 23 144 := ⟨⟨_, Try.underlying23, rfl⟩, by kernel_rfl⟩
theorem zero23 (w : World) : (zeroValue 23).run Try.prog w = .ok (.agg (arr 144 .u8 fun _ => 0)) w := by kernel_rfl
theorem lv23 : loadVar 23 = aggLoad 23 := rfl
theorem sv23 : storeVar 23 = aggStore 23 := rfl
theorem ld23 (g off : Nat) (w : World) : (aggLoad 23 ⟨g, off, none⟩).run Try.prog w = segOr (obj w g) off 144 w ((aggLoadOld 23 ⟨g, off, none⟩).run Try.prog w) := run_aggLoad 23 144 _ Try.underlying23 rfl (by kernel_rfl) g off w
theorem st23 (g off : Nat) (v : Value) (w : World) : (aggStore 23 ⟨g, off, none⟩ v).run Try.prog w = segStoreOr (obj w g) g off 144 v w ((aggStoreOld 23 ⟨g, off, none⟩ v).run Try.prog w) := run_aggStore 23 144 (by kernel_rfl) g off v w
theorem agg29 : AggTy Try.prog 29 146 := ⟨⟨_, Try.underlying29, rfl⟩, by kernel_rfl⟩
theorem zero29 (w : World) : (zeroValue 29).run Try.prog w = .ok (.agg (pic 144 0 0 fun _ => 0)) w := by kernel_rfl
theorem lv29 : loadVar 29 = aggLoad 29 := rfl
theorem sv29 : storeVar 29 = aggStore 29 := rfl
theorem ld29 (g off : Nat) (w : World) : (aggLoad 29 ⟨g, off, none⟩).run Try.prog w = segOr (obj w g) off 146 w ((aggLoadOld 29 ⟨g, off, none⟩).run Try.prog w) := run_aggLoad 29 146 _ Try.underlying29 rfl (by kernel_rfl) g off w
theorem st29 (g off : Nat) (v : Value) (w : World) : (aggStore 29 ⟨g, off, none⟩ v).run Try.prog w = segStoreOr (obj w g) g off 146 v w ((aggStoreOld 29 ⟨g, off, none⟩ v).run Try.prog w) := run_aggStore 29 146 (by kernel_rfl) g off v w
theorem agg25 : AggTy Try.prog 25 146 := ⟨⟨_, Try.underlying25, rfl⟩, by kernel_rfl⟩
theorem zero25 (w : World) : (zeroValue 25).run Try.prog w = .ok (.agg (pic 144 0 0 fun _ => 0)) w := by kernel_rfl
theorem lv25 : loadVar 25 = aggLoad 25 := rfl
theorem sv25 : storeVar 25 = aggStore 25 := rfl
theorem ld25 (g off : Nat) (w : World) : (aggLoad 25 ⟨g, off, none⟩).run Try.prog w = segOr (obj w g) off 146 w ((aggLoadOld 25 ⟨g, off, none⟩).run Try.prog w) := run_aggLoad 25 146 _ Try.underlying25 rfl (by kernel_rfl) g off w
theorem st25 (g off : Nat) (v : Value) (w : World) : (aggStore 25 ⟨g, off, none⟩ v).run Try.prog w = segStoreOr (obj w g) g off 146 v w ((aggStoreOld 25 ⟨g, off, none⟩ v).run Try.prog w) := run_aggStore 25 146 (by kernel_rfl) g off v w
theorem agg50 : AggTy Try.prog 50 3 := ⟨⟨_, Try.underlying50, rfl⟩, by kernel_rfl⟩
theorem lv50 : loadVar 50 = aggLoad 50 := rfl
theorem sv50 : storeVar 50 = aggStore 50 := rfl
theorem ld50 (g off : Nat) (w : World) : (aggLoad 50 ⟨g, off, none⟩).run Try.prog w = segOr (obj w g) off 3 w ((aggLoadOld 50 ⟨g, off, none⟩).run Try.prog w) := run_aggLoad 50 3 _ Try.underlying50 rfl (by kernel_rfl) g off w
theorem st50 (g off : Nat) (v : Value) (w : World) : (aggStore 50 ⟨g, off, none⟩ v).run Try.prog w = segStoreOr (obj w g) g off 3 v w ((aggStoreOld 50 ⟨g, off, none⟩ v).run Try.prog w) := run_aggStore 50 3 (by kernel_rfl) g off v w
theorem agg55 : AggTy Try.prog 55 3 := ⟨⟨_, Try.underlying55, rfl⟩, by kernel_rfl⟩
theorem lv55 : loadVar 55 = aggLoad 55 := rfl
theorem sv55 : storeVar 55 = aggStore 55 := rfl
theorem ld55 (g off : Nat) (w : World) : (aggLoad 55 ⟨g, off, none⟩).run Try.prog w = segOr (obj w g) off 3 w ((aggLoadOld 55 ⟨g, off, none⟩).run Try.prog w) := run_aggLoad 55 3 _ Try.underlying55 rfl (by kernel_rfl) g off w
theorem st55 (g off : Nat) (v : Value) (w : World) : (aggStore 55 ⟨g, off, none⟩ v).run Try.prog w = segStoreOr (obj w g) g off 3 v w ((aggStoreOld 55 ⟨g, off, none⟩ v).run Try.prog w) := run_aggStore 55 3 (by kernel_rfl) g off v w
theorem agg51 : AggTy Try.prog 51 432 := ⟨⟨_, Try.underlying51, rfl⟩, by kernel_rfl⟩
theorem zero51 (w : World) : (zeroValue 51).run Try.prog w = .ok (.agg (arr 432 .u8 fun _ => 0)) w := by kernel_rfl
theorem lv51 : loadVar 51 = aggLoad 51 := rfl
theorem sv51 : storeVar 51 = aggStore 51 := rfl
theorem ld51 (g off : Nat) (w : World) : (aggLoad 51 ⟨g, off, none⟩).run Try.prog w = segOr (obj w g) off 432 w ((aggLoadOld 51 ⟨g, off, none⟩).run Try.prog w) := run_aggLoad 51 432 _ Try.underlying51 rfl (by kernel_rfl) g off w
theorem st51 (g off : Nat) (v : Value) (w : World) : (aggStore 51 ⟨g, off, none⟩ v).run Try.prog w = segStoreOr (obj w g) g off 432 v w ((aggStoreOld 51 ⟨g, off, none⟩ v).run Try.prog w) := run_aggStore 51 432 (by kernel_rfl) g off v w
theorem agg56 : AggTy Try.prog 56 432 := ⟨⟨_, Try.underlying56, rfl⟩, by kernel_rfl⟩
theorem zero56 (w : World) : (zeroValue 56).run Try.prog w = .ok (.agg (arr 432 .u8 fun _ => 0)) w := by kernel_rfl
theorem lv56 : loadVar 56 = aggLoad 56 := rfl
theorem sv56 : storeVar 56 = aggStore 56 := rfl
theorem ld56 (g off : Nat) (w : World) : (aggLoad 56 ⟨g, off, none⟩).run Try.prog w = segOr (obj w g) off 432 w ((aggLoadOld 56 ⟨g, off, none⟩).run Try.prog w) := run_aggLoad 56 432 _ Try.underlying56 rfl (by kernel_rfl) g off w
theorem st56 (g off : Nat) (v : Value) (w : World) : (aggStore 56 ⟨g, off, none⟩ v).run Try.prog w = segStoreOr (obj w g) g off 432 v w ((aggStoreOld 56 ⟨g, off, none⟩ v).run Try.prog w) := run_aggStore 56 432 (by kernel_rfl) g off v w
theorem agg58 : AggTy Try.prog 58 434 := ⟨⟨_, Try.underlying58, rfl⟩, by kernel_rfl⟩
theorem zero58 (w : World) : (zeroValue 58).run Try.prog w = .ok (.agg (pic 432 0 0 fun _ => 0)) w := by kernel_rfl
theorem lv58 : loadVar 58 = aggLoad 58 := rfl
theorem sv58 : storeVar 58 = aggStore 58 := rfl
theorem ld58 (g off : Nat) (w : World) : (aggLoad 58 ⟨g, off, none⟩).run Try.prog w = segOr (obj w g) off 434 w ((aggLoadOld 58 ⟨g, off, none⟩).run Try.prog w) := run_aggLoad 58 434 _ Try.underlying58 rfl (by kernel_rfl) g off w
theorem st58 (g off : Nat) (v : Value) (w : World) : (aggStore 58 ⟨g, off, none⟩ v).run Try.prog w = segStoreOr (obj w g) g off 434 v w ((aggStoreOld 58 ⟨g, off, none⟩ v).run Try.prog w) := run_aggStore 58 434 (by kernel_rfl) g off v w
theorem agg53 : AggTy Try.prog 53 434 := ⟨⟨_, Try.underlying53, rfl⟩, by kernel_rfl⟩
theorem zero53 (w : World) : (zeroValue 53).run Try.prog w = .ok (.agg (pic 432 0 0 fun _ => 0)) w := by kernel_rfl
theorem lv53 : loadVar 53 = aggLoad 53 := rfl
theorem sv53 : storeVar 53 = aggStore 53 := rfl
theorem ld53 (g off : Nat) (w : World) : (aggLoad 53 ⟨g, off, none⟩).run Try.prog w = segOr (obj w g) off 434 w ((aggLoadOld 53 ⟨g, off, none⟩).run Try.prog w) := run_aggLoad 53 434 _ Try.underlying53 rfl (by kernel_rfl) g off w
theorem st53 (g off : Nat) (v : Value) (w : World) : (aggStore 53 ⟨g, off, none⟩ v).run Try.prog w = segStoreOr (obj w g) g off 434 v w ((aggStoreOld 53 ⟨g, off, none⟩ v).run Try.prog w) := run_aggStore 53 434 (by kernel_rfl) g off v w
theorem agg125 : AggTy Try.prog 125 3 := ⟨⟨_, Try.underlying125, rfl⟩, by kernel_rfl⟩
theorem agg84 : AggTy Try.prog 84 2 := ⟨⟨_, Try.underlying84, rfl⟩, by kernel_rfl⟩
theorem lv84 : loadVar 84 = aggLoad 84 := rfl
theorem sv84 : storeVar 84 = aggStore 84 := rfl
theorem ld84 (g off : Nat) (w : World) : (aggLoad 84 ⟨g, off, none⟩).run Try.prog w = segOr (obj w g) off 2 w ((aggLoadOld 84 ⟨g, off, none⟩).run Try.prog w) := run_aggLoad 84 2 _ Try.underlying84 rfl (by kernel_rfl) g off w
theorem st84 (g off : Nat) (v : Value) (w : World) : (aggStore 84 ⟨g, off, none⟩ v).run Try.prog w = segStoreOr (obj w g) g off 2 v w ((aggStoreOld 84 ⟨g, off, none⟩ v).run Try.prog w) := run_aggStore 84 2 (by kernel_rfl) g off v w
theorem agg86 : AggTy Try.prog 86 2 := ⟨⟨_, Try.underlying86, rfl⟩, by kernel_rfl⟩
theorem lv86 : loadVar 86 = aggLoad 86 := rfl
theorem sv86 : storeVar 86 = aggStore 86 := rfl
theorem ld86 (g off : Nat) (w : World) : (aggLoad 86 ⟨g, off, none⟩).run Try.prog w = segOr (obj w g) off 2 w ((aggLoadOld 86 ⟨g, off, none⟩).run Try.prog w) := run_aggLoad 86 2 _ Try.underlying86 rfl (by kernel_rfl) g off w
theorem st86 (g off : Nat) (v : Value) (w : World) : (aggStore 86 ⟨g, off, none⟩ v).run Try.prog w = segStoreOr (obj w g) g off 2 v w ((aggStoreOld 86 ⟨g, off, none⟩ v).run Try.prog w) := run_aggStore 86 2 (by kernel_rfl) g off v w
theorem mk38 (n : Nat) (hn : n ≤ 1048576) (w : World) : (Instr.makeSlice 38 (.int .i64 n) (.int .i64 n)).run Try.prog w = .ok (.slice (some ⟨w.heap.size, 0, none⟩) n n) (w.alloc (.cells (arr (n * 3) .u8 fun _ => 0) 55)) := mkrow Try.underlying38 (z := .agg #[.int .u8 0, .int .u8 0, .int .u8 0]) (bytes := 3) (by kernel_rfl) (made3 _) (by omega) n hn w
theorem mk37 (n : Nat) (hn : n ≤ 1048576) (w : World) : (Instr.makeSlice 37 (.int .i64 n) (.int .i64 n)).run Try.prog w = .ok (.slice (some ⟨w.heap.size, 0, none⟩) n n) (w.alloc (.cells (arr (n * 3) .u8 fun _ => 0) 55)) := mkrow Try.underlying37 (z := .agg #[.int .u8 0, .int .u8 0, .int .u8 0]) (bytes := 3) (by kernel_rfl) (made3 _) (by omega) n hn w
theorem mk45 (n : Nat) (hn : n ≤ 1048576) (w : World) : (Instr.makeSlice 45 (.int .i64 n) (.int .i64 n)).run Try.prog w = .ok (.slice (some ⟨w.heap.size, 0, none⟩) n n) (w.alloc (.cells (arr (n * 2) .i16 fun _ => 0) 84)) := mkrow Try.underlying45 (z := .agg #[.int .i16 0, .int .i16 0]) (bytes := 4) (by kernel_rfl) (made2 _) (by omega) n hn w
theorem mk44 (n : Nat) (hn : n ≤ 1048576) (w : World) : (Instr.makeSlice 44 (.int .i64 n) (.int .i64 n)).run Try.prog w = .ok (.slice (some ⟨w.heap.size, 0, none⟩) n n) (w.alloc (.cells (arr (n * 2) .i16 fun _ => 0) 84)) := mkrow Try.underlying44 (z := .agg #[.int .i16 0, .int .i16 0]) (bytes := 4) (by kernel_rfl) (made2 _) (by omega) n hn w
theorem mk26 (n : Nat) (hn : n ≤ 1048576) (w : World) : (Instr.makeSlice 26 (.int .i64 n) (.int .i64 n)).run Try.prog w = .ok (.slice (some ⟨w.heap.size, 0, none⟩) n n) (w.alloc (.cells (arr (n * 1) .i64 fun _ => 0) 2)) := mkrow Try.underlying26 (z := .int .i64 0) (bytes := 8) (by kernel_rfl) (made1 _) (by omega) n hn w
theorem size5 (w : World) : (sizeOf 5).run Try.prog w = .ok 1 w := by kernel_rfl
theorem eqt55_9999 (w : World) (x0 x1 x2 y0 y1 y2 : Int) : (Op.equalIn 9999 55 (.agg #[.int .u8 x0, .int .u8 x1, .int .u8 x2]) (.agg #[.int .u8 y0, .int .u8 y1, .int .u8 y2])).run Try.prog w = .ok (eq3 x0 x1 x2 y0 y1 y2) w := by
  rw [show (#[.int .u8 x0, .int .u8 x1, .int .u8 x2] : Array Value) = arr 3 .u8 (fun i => if i = 0 then x0 else if i = 1 then x1 else x2) from rfl, show (#[.int .u8 y0, .int .u8 y1, .int .u8 y2] : Array Value) = arr 3 .u8 (fun i => if i = 0 then y0 else if i = 1 then y1 else y2) from rfl]
  exact (run_equalIn_arr w 9997 55 5 Try.underlying55 Try.underlying5 size5).trans (by simp [eqUpto, eq3, List.range_succ, Bool.and_assoc])
theorem eqt55_10000 (w : World) (x0 x1 x2 y0 y1 y2 : Int) : (Op.equalIn 10000 55 (.agg #[.int .u8 x0, .int .u8 x1, .int .u8 x2]) (.agg #[.int .u8 y0, .int .u8 y1, .int .u8 y2])).run Try.prog w = .ok (eq3 x0 x1 x2 y0 y1 y2) w := by
  rw [show (#[.int .u8 x0, .int .u8 x1, .int .u8 x2] : Array Value) = arr 3 .u8 (fun i => if i = 0 then x0 else if i = 1 then x1 else x2) from rfl, show (#[.int .u8 y0, .int .u8 y1, .int .u8 y2] : Array Value) = arr 3 .u8 (fun i => if i = 0 then y0 else if i = 1 then y1 else y2) from rfl]
  exact (run_equalIn_arr w 9998 55 5 Try.underlying55 Try.underlying5 size5).trans (by simp [eqUpto, eq3, List.range_succ, Bool.and_assoc])
attribute [go_sem high] eqt55_9999 eqt55_10000
set_option maxHeartbeats 400000 in
theorem eql55 (w : World) (x0 x1 x2 y0 y1 y2 : Int) : (binOp .eql 55 (.agg #[.int .u8 x0, .int .u8 x1, .int .u8 x2]) (.agg #[.int .u8 y0, .int .u8 y1, .int .u8 y2])).run Try.prog w = .ok (.bool (eq3 x0 x1 x2 y0 y1 y2)) w := by
  go_simp
  try unfold eq3
  try (by_cases h0 : x0 = y0 <;> by_cases h1 : x1 = y1 <;> by_cases h2 : x2 = y2 <;> simp [h0, h1, h2])
set_option maxHeartbeats 400000 in
theorem neq55 (w : World) (x0 x1 x2 y0 y1 y2 : Int) : (binOp .neq 55 (.agg #[.int .u8 x0, .int .u8 x1, .int .u8 x2]) (.agg #[.int .u8 y0, .int .u8 y1, .int .u8 y2])).run Try.prog w = .ok (.bool (!eq3 x0 x1 x2 y0 y1 y2)) w := by
  go_simp
  try unfold eq3
  try (by_cases h0 : x0 = y0 <;> by_cases h1 : x1 = y1 <;> by_cases h2 : x2 = y2 <;> simp [h0, h1, h2])
set_option maxHeartbeats 400000 in
theorem eql84 (w : World) (x0 x1 y0 y1 : Int) : (binOp .eql 84 (.agg #[.int .i16 x0, .int .i16 x1]) (.agg #[.int .i16 y0, .int .i16 y1])).run Try.prog w = .ok (.bool (eq2 x0 x1 y0 y1)) w := by
  go_simp
  try unfold eq2
  try (by_cases h0 : x0 = y0 <;> by_cases h1 : x1 = y1 <;> simp [h0, h1])
set_option maxHeartbeats 400000 in
theorem neq84 (w : World) (x0 x1 y0 y1 : Int) : (binOp .neq 84 (.agg #[.int .i16 x0, .int .i16 x1]) (.agg #[.int .i16 y0, .int .i16 y1])).run Try.prog w = .ok (.bool (!eq2 x0 x1 y0 y1)) w := by
  go_simp
  try unfold eq2
  try (by_cases h0 : x0 = y0 <;> by_cases h1 : x1 = y1 <;> simp [h0, h1])
theorem eq23 (w : World) (f g : Nat → Int) : (Op.equalIn 9999 23 (.agg (arr 144 .u8 f)) (.agg (arr 144 .u8 g))).run Try.prog w = .ok (eqUpto 144 f g) w := run_equalIn_arr w 9997 23 5 Try.underlying23 Try.underlying5 size5
theorem ix23 (f : Nat → Int) (ik : IntKind) (i : Int) (h0 : 0 ≤ i) (h1 : i < 144) (w : World) : (Instr.index 23 (.agg (arr 144 .u8 f)) (.int ik i)).run Try.prog w = .ok (.int .u8 (f i.toNat)) w := run_index_arr (n := 144) 23 5 Try.underlying23 Try.underlying5 size5 ik i h0 (by omega) w
attribute [go_sem ↓] zero23 lv23 sv23 zero29 lv29 sv29 zero25 lv25 sv25 lv50 sv50 lv55 sv55 zero51 lv51 sv51 zero56 lv56 sv56 zero58 lv58 sv58 zero53 lv53 sv53 lv84 sv84 lv86 sv86
attribute [go_sem] ld23 st23 ld29 st29 ld25 st25 ld50 st50 ld55 st55 ld51 st51 ld56 st56 ld58 st58 ld53 st53 ld84 st84 ld86 st86 mk38 mk37 mk45 mk44 mk26
attribute [go_sem high] eql55 neq55 eql84 neq84 eq23 ix23
set_option maxHeartbeats 400000 in
set_option maxRecDepth 100000 in
theorem eql29 (w : World) (a b c d : Int) (f g : Nat → Int) : (binOp .eql 29 (.agg (pic 144 a b f)) (.agg (pic 144 c d g))).run Try.prog w = .ok (.bool (eqPic 144 a b f c d g)) w := by
  go_simp
  unfold eqPic
  by_cases h1 : a = c <;> by_cases h2 : b = d <;> cases eqUpto 144 f g <;> simp [h1, h2]
set_option maxHeartbeats 400000 in
set_option maxRecDepth 100000 in
theorem neq29 (w : World) (a b c d : Int) (f g : Nat → Int) : (binOp .neq 29 (.agg (pic 144 a b f)) (.agg (pic 144 c d g))).run Try.prog w = .ok (.bool (!eqPic 144 a b f c d g)) w := by
  go_simp
  unfold eqPic
  by_cases h1 : a = c <;> by_cases h2 : b = d <;> cases eqUpto 144 f g <;> simp [h1, h2]
attribute [go_sem high] eql29 neq29
end Go.Proofs.Ytedbagefigclgaa
