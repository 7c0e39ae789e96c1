/- What loads, stores and zero values of the array and struct types come to; no condition. -/
import Derived.Test.YtfopllkienogfaaRows
import Derived.Test.YtfopllkienogfaaSli
namespace Go.Proofs.Ytfopllkienogfaa
open Go.RowKit Go.Arr

theorem agg23 : AggTy Try.prog 23 144 := ⟨⟨_, Try.underlying23, rfl⟩, by kernel_rfl⟩
theorem zero23 (w : World) : (zeroValue 23).run Try.prog w = .ok (.agg (arr 144 .u8 fun _ => 0)) w := by kernel_rfl
theorem lv23 : loadVar 23 = aggLoad 23 := rfl
theorem sv23 : storeVar 23 = aggStore 23 := rfl
theorem ld23 (g off : Nat) (w : World) : (aggLoad 23 ⟨g, off, none⟩).run Try.prog w = segOr (obj w g) off 144 w ((aggLoadOld 23 ⟨g, off, none⟩).run Try.prog w) := run_aggLoad 23 144 _ Try.underlying23 rfl (by kernel_rfl) g off w
theorem st23 (g off : Nat) (v : Value) (w : World) : (aggStore 23 ⟨g, off, none⟩ v).run Try.prog w = segStoreOr (obj w g) g off 144 v w ((aggStoreOld 23 ⟨g, off, none⟩ v).run Try.prog w) := run_aggStore 23 144 (by kernel_rfl) g off v w
theorem agg28 : AggTy Try.prog 28 146 := ⟨⟨_, Try.underlying28, rfl⟩, by kernel_rfl⟩
theorem zero28 (w : World) : (zeroValue 28).run Try.prog w = .ok (.agg (pic 144 0 0 fun _ => 0)) w := by kernel_rfl
theorem lv28 : loadVar 28 = aggLoad 28 := rfl
theorem sv28 : storeVar 28 = aggStore 28 := rfl
theorem ld28 (g off : Nat) (w : World) : (aggLoad 28 ⟨g, off, none⟩).run Try.prog w = segOr (obj w g) off 146 w ((aggLoadOld 28 ⟨g, off, none⟩).run Try.prog w) := run_aggLoad 28 146 _ Try.underlying28 rfl (by kernel_rfl) g off w
theorem st28 (g off : Nat) (v : Value) (w : World) : (aggStore 28 ⟨g, off, none⟩ v).run Try.prog w = segStoreOr (obj w g) g off 146 v w ((aggStoreOld 28 ⟨g, off, none⟩ v).run Try.prog w) := run_aggStore 28 146 (by kernel_rfl) g off v w
theorem agg25 : AggTy Try.prog 25 146 := ⟨⟨_, Try.underlying25, rfl⟩, by kernel_rfl⟩
theorem zero25 (w : World) : (zeroValue 25).run Try.prog w = .ok (.agg (pic 144 0 0 fun _ => 0)) w := by kernel_rfl
theorem lv25 : loadVar 25 = aggLoad 25 := rfl
theorem sv25 : storeVar 25 = aggStore 25 := rfl
theorem ld25 (g off : Nat) (w : World) : (aggLoad 25 ⟨g, off, none⟩).run Try.prog w = segOr (obj w g) off 146 w ((aggLoadOld 25 ⟨g, off, none⟩).run Try.prog w) := run_aggLoad 25 146 _ Try.underlying25 rfl (by kernel_rfl) g off w
theorem st25 (g off : Nat) (v : Value) (w : World) : (aggStore 25 ⟨g, off, none⟩ v).run Try.prog w = segStoreOr (obj w g) g off 146 v w ((aggStoreOld 25 ⟨g, off, none⟩ v).run Try.prog w) := run_aggStore 25 146 (by kernel_rfl) g off v w
theorem agg73 : AggTy Try.prog 73 144 := ⟨⟨_, Try.underlying73, rfl⟩, by kernel_rfl⟩
theorem zero73 (w : World) : (zeroValue 73).run Try.prog w = .ok (.agg (brr 144 fun _ => false)) w := by kernel_rfl
theorem lv73 : loadVar 73 = aggLoad 73 := rfl
theorem sv73 : storeVar 73 = aggStore 73 := rfl
theorem ld73 (g off : Nat) (w : World) : (aggLoad 73 ⟨g, off, none⟩).run Try.prog w = segOr (obj w g) off 144 w ((aggLoadOld 73 ⟨g, off, none⟩).run Try.prog w) := run_aggLoad 73 144 _ Try.underlying73 rfl (by kernel_rfl) g off w
theorem st73 (g off : Nat) (v : Value) (w : World) : (aggStore 73 ⟨g, off, none⟩ v).run Try.prog w = segStoreOr (obj w g) g off 144 v w ((aggStoreOld 73 ⟨g, off, none⟩ v).run Try.prog w) := run_aggStore 73 144 (by kernel_rfl) g off v w
theorem mk40 (n : Nat) (hn : n ≤ 1048576) (w : World) : (Instr.makeSlice 40 (.int .i64 n) (.int .i64 n)).run Try.prog w = .ok (.slice (some ⟨w.heap.size, 0, none⟩) n n) (w.alloc (.cells (arr (n * 1) .i64 fun _ => 0) 2)) := mkrow Try.underlying40 (z := .int .i64 0) (bytes := 8) (by kernel_rfl) (made1 _) (by omega) n hn w
theorem size5 (w : World) : (sizeOf 5).run Try.prog w = .ok 1 w := by kernel_rfl
theorem eq23 (w : World) (f g : Nat → Int) : (Op.equalIn 9999 23 (.agg (arr 144 .u8 f)) (.agg (arr 144 .u8 g))).run Try.prog w = .ok (eqUpto 144 f g) w := run_equalIn_arr w 9997 23 5 Try.underlying23 Try.underlying5 size5
theorem ix23 (f : Nat → Int) (ik : IntKind) (i : Int) (h0 : 0 ≤ i) (h1 : i < 144) (w : World) : (Instr.index 23 (.agg (arr 144 .u8 f)) (.int ik i)).run Try.prog w = .ok (.int .u8 (f i.toNat)) w := run_index_arr (n := 144) 23 5 Try.underlying23 Try.underlying5 size5 ik i h0 (by omega) w
attribute [go_sem ↓] zero23 lv23 sv23 zero28 lv28 sv28 zero25 lv25 sv25 zero73 lv73 sv73
attribute [go_sem] ld23 st23 ld28 st28 ld25 st25 ld73 st73 mk40
attribute [go_sem high] eq23 ix23
set_option maxHeartbeats 400000 in
set_option maxRecDepth 100000 in
theorem eql28 (w : World) (a b c d : Int) (f g : Nat → Int) : (binOp .eql 28 (.agg (pic 144 a b f)) (.agg (pic 144 c d g))).run Try.prog w = .ok (.bool (eqPic 144 a b f c d g)) w := by
  go_simp
  unfold eqPic
  by_cases h1 : a = c <;> by_cases h2 : b = d <;> cases eqUpto 144 f g <;> simp [h1, h2]
set_option maxHeartbeats 400000 in
set_option maxRecDepth 100000 in
theorem neq28 (w : World) (a b c d : Int) (f g : Nat → Int) : (binOp .neq 28 (.agg (pic 144 a b f)) (.agg (pic 144 c d g))).run Try.prog w = .ok (.bool (!eqPic 144 a b f c d g)) w := by
  go_simp
  unfold eqPic
  by_cases h1 : a = c <;> by_cases h2 : b = d <;> cases eqUpto 144 f g <;> simp [h1, h2]
attribute [go_sem high] eql28 neq28
end Go.Proofs.Ytfopllkienogfaa
