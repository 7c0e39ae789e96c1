/- What loads, stores and zero values of the array and struct types come to; no condition. -/
import Derived.Test.YtmmckoemkpfgbaaRows
import Derived.Test.YtmmckoemkpfgbaaSli
namespace Go.Proofs.Ytmmckoemkpfgbaa
open Go.RowKit Go.Arr

theorem agg25 : AggTy Try.prog 25 144 := ⟨⟨_, Try.underlying25, rfl⟩, by kernel_rfl⟩
theorem zero25 (w : World) : (zeroValue 25).run Try.prog w = .ok (.agg (arr 144 .u8 fun _ => 0)) w := by kernel_rfl
theorem lv25 : loadVar 25 = aggLoad 25 := rfl
theorem sv25 : storeVar 25 = aggStore 25 := rfl
theorem ld25 (g off : Nat) (w : World) : (aggLoad 25 ⟨g, off, none⟩).run Try.prog w = segOr (obj w g) off 144 w ((aggLoadOld 25 ⟨g, off, none⟩).run Try.prog w) := run_aggLoad 25 144 _ Try.underlying25 rfl (by kernel_rfl) g off w
theorem st25 (g off : Nat) (v : Value) (w : World) : (aggStore 25 ⟨g, off, none⟩ v).run Try.prog w = segStoreOr (obj w g) g off 144 v w ((aggStoreOld 25 ⟨g, off, none⟩ v).run Try.prog w) := run_aggStore 25 144 (by kernel_rfl) g off v w
theorem agg27 : AggTy Try.prog 27 146 := ⟨⟨_, Try.underlying27, rfl⟩, by kernel_rfl⟩
theorem zero27 (w : World) : (zeroValue 27).run Try.prog w = .ok (.agg (pic 144 0 0 fun _ => 0)) w := by kernel_rfl
theorem lv27 : loadVar 27 = aggLoad 27 := rfl
theorem sv27 : storeVar 27 = aggStore 27 := rfl
theorem ld27 (g off : Nat) (w : World) : (aggLoad 27 ⟨g, off, none⟩).run Try.prog w = segOr (obj w g) off 146 w ((aggLoadOld 27 ⟨g, off, none⟩).run Try.prog w) := run_aggLoad 27 146 _ Try.underlying27 rfl (by kernel_rfl) g off w
theorem st27 (g off : Nat) (v : Value) (w : World) : (aggStore 27 ⟨g, off, none⟩ v).run Try.prog w = segStoreOr (obj w g) g off 146 v w ((aggStoreOld 27 ⟨g, off, none⟩ v).run Try.prog w) := run_aggStore 27 146 (by kernel_rfl) g off v w
theorem agg62 : AggTy Try.prog 62 144 := ⟨⟨_, Try.underlying62, rfl⟩, by kernel_rfl⟩
theorem zero62 (w : World) : (zeroValue 62).run Try.prog w = .ok (.agg (brr 144 fun _ => false)) w := by kernel_rfl
theorem lv62 : loadVar 62 = aggLoad 62 := rfl
theorem sv62 : storeVar 62 = aggStore 62 := rfl
theorem ld62 (g off : Nat) (w : World) : (aggLoad 62 ⟨g, off, none⟩).run Try.prog w = segOr (obj w g) off 144 w ((aggLoadOld 62 ⟨g, off, none⟩).run Try.prog w) := run_aggLoad 62 144 _ Try.underlying62 rfl (by kernel_rfl) g off w
theorem st62 (g off : Nat) (v : Value) (w : World) : (aggStore 62 ⟨g, off, none⟩ v).run Try.prog w = segStoreOr (obj w g) g off 144 v w ((aggStoreOld 62 ⟨g, off, none⟩ v).run Try.prog w) := run_aggStore 62 144 (by kernel_rfl) g off v w
theorem mk34 (n : Nat) (hn : n ≤ 1048576) (w : World) : (Instr.makeSlice 34 (.int .i64 n) (.int .i64 n)).run Try.prog w = .ok (.slice (some ⟨w.heap.size, 0, none⟩) n n) (w.alloc (.cells (arr (n * 1) .i64 fun _ => 0) 2)) := mkrow Try.underlying34 (z := .int .i64 0) (bytes := 8) (by kernel_rfl) (made1 _) (by omega) n hn w
theorem size5 (w : World) : (sizeOf 5).run Try.prog w = .ok 1 w := by kernel_rfl
theorem eq25 (w : World) (f g : Nat → Int) : (Op.equalIn 9999 25 (.agg (arr 144 .u8 f)) (.agg (arr 144 .u8 g))).run Try.prog w = .ok (eqUpto 144 f g) w := run_equalIn_arr w 9997 25 5 Try.underlying25 Try.underlying5 size5
theorem ix25 (f : Nat → Int) (ik : IntKind) (i : Int) (h0 : 0 ≤ i) (h1 : i < 144) (w : World) : (Instr.index 25 (.agg (arr 144 .u8 f)) (.int ik i)).run Try.prog w = .ok (.int .u8 (f i.toNat)) w := run_index_arr (n := 144) 25 5 Try.underlying25 Try.underlying5 size5 ik i h0 (by omega) w
attribute [go_sem ↓] zero25 lv25 sv25 zero27 lv27 sv27 zero62 lv62 sv62
attribute [go_sem] ld25 st25 ld27 st27 ld62 st62 mk34
attribute [go_sem high] eq25 ix25
set_option maxHeartbeats 400000 in
set_option maxRecDepth 100000 in
theorem eql27 (w : World) (a b c d : Int) (f g : Nat → Int) : (binOp .eql 27 (.agg (pic 144 a b f)) (.agg (pic 144 c d g))).run Try.prog w = .ok (.bool (eqPic 144 a b f c d g)) w := by
  go_simp
  unfold eqPic
  by_cases h1 : a = c <;> by_cases h2 : b = d <;> cases eqUpto 144 f g <;> simp [h1, h2]
set_option maxHeartbeats 400000 in
set_option maxRecDepth 100000 in
theorem neq27 (w : World) (a b c d : Int) (f g : Nat → Int) : (binOp .neq 27 (.agg (pic 144 a b f)) (.agg (pic 144 c d g))).run Try.prog w = .ok (.bool (!eqPic 144 a b f c d g)) w := by
  go_simp
  unfold eqPic
  by_cases h1 : a = c <;> by_cases h2 : b = d <;> cases eqUpto 144 f g <;> simp [h1, h2]
attribute [go_sem high] eql27 neq27
end Go.Proofs.Ytmmckoemkpfgbaa
