/- What loads, stores and zero values of the array and struct types come to; no condition. -/
import Derived.Test.YtpofhbdnjecfjaaRows
import Derived.Test.YtpofhbdnjecfjaaSli
namespace Go.Proofs.Ytpofhbdnjecfjaa
open Go.RowKit Go.Arr

theorem agg29 : AggTy Try.prog 29 144 := ⟨⟨_, Try.underlying29, rfl⟩, by kernel_rfl⟩
theorem zero29 (w : World) : (zeroValue 29).run Try.prog w = .ok (.agg (arr 144 .u8 fun _ => 0)) w := by kernel_rfl
theorem lv29 : loadVar 29 = aggLoad 29 := rfl
theorem sv29 : storeVar 29 = aggStore 29 := rfl
theorem ld29 (g off : Nat) (w : World) : (aggLoad 29 ⟨g, off, none⟩).run Try.prog w = segOr (obj w g) off 144 w ((aggLoadOld 29 ⟨g, off, none⟩).run Try.prog w) := run_aggLoad 29 144 _ Try.underlying29 rfl (by kernel_rfl) g off w
theorem st29 (g off : Nat) (v : Value) (w : World) : (aggStore 29 ⟨g, off, none⟩ v).run Try.prog w = segStoreOr (obj w g) g off 144 v w ((aggStoreOld 29 ⟨g, off, none⟩ v).run Try.prog w) := run_aggStore 29 144 (by kernel_rfl) g off v w
theorem agg31 : AggTy Try.prog 31 146 := ⟨⟨_, Try.underlying31, rfl⟩, by kernel_rfl⟩
theorem zero31 (w : World) : (zeroValue 31).run Try.prog w = .ok (.agg (pic 144 0 0 fun _ => 0)) w := by kernel_rfl
theorem lv31 : loadVar 31 = aggLoad 31 := rfl
theorem sv31 : storeVar 31 = aggStore 31 := rfl
theorem ld31 (g off : Nat) (w : World) : (aggLoad 31 ⟨g, off, none⟩).run Try.prog w = segOr (obj w g) off 146 w ((aggLoadOld 31 ⟨g, off, none⟩).run Try.prog w) := run_aggLoad 31 146 _ Try.underlying31 rfl (by kernel_rfl) g off w
theorem st31 (g off : Nat) (v : Value) (w : World) : (aggStore 31 ⟨g, off, none⟩ v).run Try.prog w = segStoreOr (obj w g) g off 146 v w ((aggStoreOld 31 ⟨g, off, none⟩ v).run Try.prog w) := run_aggStore 31 146 (by kernel_rfl) g off v w
theorem agg23 : AggTy Try.prog 23 3 := ⟨⟨_, Try.underlying23, rfl⟩, by kernel_rfl⟩
theorem lv23 : loadVar 23 = aggLoad 23 := rfl
theorem sv23 : storeVar 23 = aggStore 23 := rfl
theorem ld23 (g off : Nat) (w : World) : (aggLoad 23 ⟨g, off, none⟩).run Try.prog w = segOr (obj w g) off 3 w ((aggLoadOld 23 ⟨g, off, none⟩).run Try.prog w) := run_aggLoad 23 3 _ Try.underlying23 rfl (by kernel_rfl) g off w
theorem st23 (g off : Nat) (v : Value) (w : World) : (aggStore 23 ⟨g, off, none⟩ v).run Try.prog w = segStoreOr (obj w g) g off 3 v w ((aggStoreOld 23 ⟨g, off, none⟩ v).run Try.prog w) := run_aggStore 23 3 (by kernel_rfl) g off v w
theorem agg34 : AggTy Try.prog 34 3 := ⟨⟨_, Try.underlying34, rfl⟩, by kernel_rfl⟩
theorem lv34 : loadVar 34 = aggLoad 34 := rfl
theorem sv34 : storeVar 34 = aggStore 34 := rfl
theorem ld34 (g off : Nat) (w : World) : (aggLoad 34 ⟨g, off, none⟩).run Try.prog w = segOr (obj w g) off 3 w ((aggLoadOld 34 ⟨g, off, none⟩).run Try.prog w) := run_aggLoad 34 3 _ Try.underlying34 rfl (by kernel_rfl) g off w
theorem st34 (g off : Nat) (v : Value) (w : World) : (aggStore 34 ⟨g, off, none⟩ v).run Try.prog w = segStoreOr (obj w g) g off 3 v w ((aggStoreOld 34 ⟨g, off, none⟩ v).run Try.prog w) := run_aggStore 34 3 (by kernel_rfl) g off v w
theorem agg24 : AggTy Try.prog 24 432 := ⟨⟨_, Try.underlying24, rfl⟩, by kernel_rfl⟩
theorem zero24 (w : World) : (zeroValue 24).run Try.prog w = .ok (.agg (arr 432 .u8 fun _ => 0)) w := by kernel_rfl
theorem lv24 : loadVar 24 = aggLoad 24 := rfl
theorem sv24 : storeVar 24 = aggStore 24 := rfl
theorem ld24 (g off : Nat) (w : World) : (aggLoad 24 ⟨g, off, none⟩).run Try.prog w = segOr (obj w g) off 432 w ((aggLoadOld 24 ⟨g, off, none⟩).run Try.prog w) := run_aggLoad 24 432 _ Try.underlying24 rfl (by kernel_rfl) g off w
theorem st24 (g off : Nat) (v : Value) (w : World) : (aggStore 24 ⟨g, off, none⟩ v).run Try.prog w = segStoreOr (obj w g) g off 432 v w ((aggStoreOld 24 ⟨g, off, none⟩ v).run Try.prog w) := run_aggStore 24 432 (by kernel_rfl) g off v w
theorem agg35 : AggTy Try.prog 35 432 := ⟨⟨_, Try.underlying35, rfl⟩, by kernel_rfl⟩
theorem zero35 (w : World) : (zeroValue 35).run Try.prog w = .ok (.agg (arr 432 .u8 fun _ => 0)) w := by kernel_rfl
theorem lv35 : loadVar 35 = aggLoad 35 := rfl
theorem sv35 : storeVar 35 = aggStore 35 := rfl
theorem ld35 (g off : Nat) (w : World) : (aggLoad 35 ⟨g, off, none⟩).run Try.prog w = segOr (obj w g) off 432 w ((aggLoadOld 35 ⟨g, off, none⟩).run Try.prog w) := run_aggLoad 35 432 _ Try.underlying35 rfl (by kernel_rfl) g off w
theorem st35 (g off : Nat) (v : Value) (w : World) : (aggStore 35 ⟨g, off, none⟩ v).run Try.prog w = segStoreOr (obj w g) g off 432 v w ((aggStoreOld 35 ⟨g, off, none⟩ v).run Try.prog w) := run_aggStore 35 432 (by kernel_rfl) g off v w
theorem agg37 : AggTy Try.prog 37 434 := ⟨⟨_, Try.underlying37, rfl⟩, by kernel_rfl⟩
theorem zero37 (w : World) : (zeroValue 37).run Try.prog w = .ok (.agg (pic 432 0 0 fun _ => 0)) w := by kernel_rfl
theorem lv37 : loadVar 37 = aggLoad 37 := rfl
theorem sv37 : storeVar 37 = aggStore 37 := rfl
theorem ld37 (g off : Nat) (w : World) : (aggLoad 37 ⟨g, off, none⟩).run Try.prog w = segOr (obj w g) off 434 w ((aggLoadOld 37 ⟨g, off, none⟩).run Try.prog w) := run_aggLoad 37 434 _ Try.underlying37 rfl (by kernel_rfl) g off w
theorem st37 (g off : Nat) (v : Value) (w : World) : (aggStore 37 ⟨g, off, none⟩ v).run Try.prog w = segStoreOr (obj w g) g off 434 v w ((aggStoreOld 37 ⟨g, off, none⟩ v).run Try.prog w) := run_aggStore 37 434 (by kernel_rfl) g off v w
theorem agg26 : AggTy Try.prog 26 434 := ⟨⟨_, Try.underlying26, rfl⟩, by kernel_rfl⟩
theorem zero26 (w : World) : (zeroValue 26).run Try.prog w = .ok (.agg (pic 432 0 0 fun _ => 0)) w := by kernel_rfl
theorem lv26 : loadVar 26 = aggLoad 26 := rfl
theorem sv26 : storeVar 26 = aggStore 26 := rfl
theorem ld26 (g off : Nat) (w : World) : (aggLoad 26 ⟨g, off, none⟩).run Try.prog w = segOr (obj w g) off 434 w ((aggLoadOld 26 ⟨g, off, none⟩).run Try.prog w) := run_aggLoad 26 434 _ Try.underlying26 rfl (by kernel_rfl) g off w
theorem st26 (g off : Nat) (v : Value) (w : World) : (aggStore 26 ⟨g, off, none⟩ v).run Try.prog w = segStoreOr (obj w g) g off 434 v w ((aggStoreOld 26 ⟨g, off, none⟩ v).run Try.prog w) := run_aggStore 26 434 (by kernel_rfl) g off v w
theorem agg55 : AggTy Try.prog 55 432 := ⟨⟨_, Try.underlying55, rfl⟩, by kernel_rfl⟩
theorem zero55 (w : World) : (zeroValue 55).run Try.prog w = .ok (.agg (arr 432 .i64 fun _ => 0)) w := by kernel_rfl
theorem lv55 : loadVar 55 = aggLoad 55 := rfl
theorem sv55 : storeVar 55 = aggStore 55 := rfl
theorem ld55 (g off : Nat) (w : World) : (aggLoad 55 ⟨g, off, none⟩).run Try.prog w = segOr (obj w g) off 432 w ((aggLoadOld 55 ⟨g, off, none⟩).run Try.prog w) := run_aggLoad 55 432 _ Try.underlying55 rfl (by kernel_rfl) g off w
theorem st55 (g off : Nat) (v : Value) (w : World) : (aggStore 55 ⟨g, off, none⟩ v).run Try.prog w = segStoreOr (obj w g) g off 432 v w ((aggStoreOld 55 ⟨g, off, none⟩ v).run Try.prog w) := run_aggStore 55 432 (by kernel_rfl) g off v w
theorem agg54 : AggTy Try.prog 54 3 := ⟨⟨_, Try.underlying54, rfl⟩, by kernel_rfl⟩
theorem mk40 (n : Nat) (hn : n ≤ 1048576) (w : World) : (Instr.makeSlice 40 (.int .i64 n) (.int .i64 n)).run Try.prog w = .ok (.slice (some ⟨w.heap.size, 0, none⟩) n n) (w.alloc (.cells (arr (n * 3) .u8 fun _ => 0) 34)) := mkrow Try.underlying40 (z := .agg #[.int .u8 0, .int .u8 0, .int .u8 0]) (bytes := 3) (by kernel_rfl) (made3 _) (by omega) n hn w
theorem mk39 (n : Nat) (hn : n ≤ 1048576) (w : World) : (Instr.makeSlice 39 (.int .i64 n) (.int .i64 n)).run Try.prog w = .ok (.slice (some ⟨w.heap.size, 0, none⟩) n n) (w.alloc (.cells (arr (n * 3) .u8 fun _ => 0) 34)) := mkrow Try.underlying39 (z := .agg #[.int .u8 0, .int .u8 0, .int .u8 0]) (bytes := 3) (by kernel_rfl) (made3 _) (by omega) n hn w
theorem mk45 (n : Nat) (hn : n ≤ 1048576) (w : World) : (Instr.makeSlice 45 (.int .i64 n) (.int .i64 n)).run Try.prog w = .ok (.slice (some ⟨w.heap.size, 0, none⟩) n n) (w.alloc (.cells (arr (n * 1) .i64 fun _ => 0) 2)) := mkrow Try.underlying45 (z := .int .i64 0) (bytes := 8) (by kernel_rfl) (made1 _) (by omega) n hn w
theorem size5 (w : World) : (sizeOf 5).run Try.prog w = .ok 1 w := by kernel_rfl
theorem eqt34_9999 (w : World) (x0 x1 x2 y0 y1 y2 : Int) : (Op.equalIn 9999 34 (.agg #[.int .u8 x0, .int .u8 x1, .int .u8 x2]) (.agg #[.int .u8 y0, .int .u8 y1, .int .u8 y2])).run Try.prog w = .ok (eq3 x0 x1 x2 y0 y1 y2) w := by
  rw [show (#[.int .u8 x0, .int .u8 x1, .int .u8 x2] : Array Value) = arr 3 .u8 (fun i => if i = 0 then x0 else if i = 1 then x1 else x2) from rfl, show (#[.int .u8 y0, .int .u8 y1, .int .u8 y2] : Array Value) = arr 3 .u8 (fun i => if i = 0 then y0 else if i = 1 then y1 else y2) from rfl]
  exact (run_equalIn_arr w 9997 34 5 Try.underlying34 Try.underlying5 size5).trans (by simp [eqUpto, eq3, List.range_succ, Bool.and_assoc])
theorem eqt34_10000 (w : World) (x0 x1 x2 y0 y1 y2 : Int) : (Op.equalIn 10000 34 (.agg #[.int .u8 x0, .int .u8 x1, .int .u8 x2]) (.agg #[.int .u8 y0, .int .u8 y1, .int .u8 y2])).run Try.prog w = .ok (eq3 x0 x1 x2 y0 y1 y2) w := by
  rw [show (#[.int .u8 x0, .int .u8 x1, .int .u8 x2] : Array Value) = arr 3 .u8 (fun i => if i = 0 then x0 else if i = 1 then x1 else x2) from rfl, show (#[.int .u8 y0, .int .u8 y1, .int .u8 y2] : Array Value) = arr 3 .u8 (fun i => if i = 0 then y0 else if i = 1 then y1 else y2) from rfl]
  exact (run_equalIn_arr w 9998 34 5 Try.underlying34 Try.underlying5 size5).trans (by simp [eqUpto, eq3, List.range_succ, Bool.and_assoc])
attribute [go_sem high] eqt34_9999 eqt34_10000
set_option maxHeartbeats 400000 in
theorem eql34 (w : World) (x0 x1 x2 y0 y1 y2 : Int) : (binOp .eql 34 (.agg #[.int .u8 x0, .int .u8 x1, .int .u8 x2]) (.agg #[.int .u8 y0, .int .u8 y1, .int .u8 y2])).run Try.prog w = .ok (.bool (eq3 x0 x1 x2 y0 y1 y2)) w := by
  go_simp
  try unfold eq3
  try (by_cases h0 : x0 = y0 <;> by_cases h1 : x1 = y1 <;> by_cases h2 : x2 = y2 <;> simp [h0, h1, h2])
set_option maxHeartbeats 400000 in
theorem neq34 (w : World) (x0 x1 x2 y0 y1 y2 : Int) : (binOp .neq 34 (.agg #[.int .u8 x0, .int .u8 x1, .int .u8 x2]) (.agg #[.int .u8 y0, .int .u8 y1, .int .u8 y2])).run Try.prog w = .ok (.bool (!eq3 x0 x1 x2 y0 y1 y2)) w := by
  go_simp
  try unfold eq3
  try (by_cases h0 : x0 = y0 <;> by_cases h1 : x1 = y1 <;> by_cases h2 : x2 = y2 <;> simp [h0, h1, h2])
theorem eq29 (w : World) (f g : Nat → Int) : (Op.equalIn 9999 29 (.agg (arr 144 .u8 f)) (.agg (arr 144 .u8 g))).run Try.prog w = .ok (eqUpto 144 f g) w := run_equalIn_arr w 9997 29 5 Try.underlying29 Try.underlying5 size5
theorem ix29 (f : Nat → Int) (ik : IntKind) (i : Int) (h0 : 0 ≤ i) (h1 : i < 144) (w : World) : (Instr.index 29 (.agg (arr 144 .u8 f)) (.int ik i)).run Try.prog w = .ok (.int .u8 (f i.toNat)) w := run_index_arr (n := 144) 29 5 Try.underlying29 Try.underlying5 size5 ik i h0 (by omega) w
attribute [go_sem ↓] zero29 lv29 sv29 zero31 lv31 sv31 lv23 sv23 lv34 sv34 zero24 lv24 sv24 zero35 lv35 sv35 zero37 lv37 sv37 zero26 lv26 sv26 zero55 lv55 sv55
attribute [go_sem] ld29 st29 ld31 st31 ld23 st23 ld34 st34 ld24 st24 ld35 st35 ld37 st37 ld26 st26 ld55 st55 mk40 mk39 mk45
attribute [go_sem high] eql34 neq34 eq29 ix29
set_option maxHeartbeats 400000 in
set_option maxRecDepth 100000 in
theorem eql31 (w : World) (a b c d : Int) (f g : Nat → Int) : (binOp .eql 31 (.agg (pic 144 a b f)) (.agg (pic 144 c d g))).run Try.prog w = .ok (.bool (eqPic 144 a b f c d g)) w := by
  go_simp
  unfold eqPic
  by_cases h1 : a = c <;> by_cases h2 : b = d <;> cases eqUpto 144 f g <;> simp [h1, h2]
set_option maxHeartbeats 400000 in
set_option maxRecDepth 100000 in
theorem neq31 (w : World) (a b c d : Int) (f g : Nat → Int) : (binOp .neq 31 (.agg (pic 144 a b f)) (.agg (pic 144 c d g))).run Try.prog w = .ok (.bool (!eqPic 144 a b f c d g)) w := by
  go_simp
  unfold eqPic
  by_cases h1 : a = c <;> by_cases h2 : b = d <;> cases eqUpto 144 f g <;> simp [h1, h2]
attribute [go_sem high] eql31 neq31
end Go.Proofs.Ytpofhbdnjecfjaa
