/- What loads, stores and zero values of the array and struct types come to; no condition. -/
import Derived.Test.YtjoobjgaecgdlaaRows
import Derived.Test.YtjoobjgaecgdlaaArr
namespace Go.Proofs.Ytjoobjgaecgdlaa
open Go.RowKit Go.Arr

theorem agg31 : AggTy Try.prog 31 144 := ⟨⟨_, Try.underlying31, rfl⟩, by kernel_rfl⟩
theorem zero31 (w : World) : (zeroValue 31).run Try.prog w = .ok (.agg (arr 144 .u8 fun _ => 0)) w := by kernel_rfl
theorem lv31 : loadVar 31 = aggLoad 31 := rfl
theorem sv31 : storeVar 31 = aggStore 31 := rfl
theorem ld31 (g off : Nat) (w : World) : (aggLoad 31 ⟨g, off, none⟩).run Try.prog w = segOr (obj w g) off 144 w ((aggLoadOld 31 ⟨g, off, none⟩).run Try.prog w) := run_aggLoad 31 144 _ Try.underlying31 rfl (by kernel_rfl) g off w
theorem st31 (g off : Nat) (v : Value) (w : World) : (aggStore 31 ⟨g, off, none⟩ v).run Try.prog w = segStoreOr (obj w g) g off 144 v w ((aggStoreOld 31 ⟨g, off, none⟩ v).run Try.prog w) := run_aggStore 31 144 (by kernel_rfl) g off v w
theorem agg35 : AggTy Try.prog 35 146 := ⟨⟨_, Try.underlying35, rfl⟩, by kernel_rfl⟩
theorem zero35 (w : World) : (zeroValue 35).run Try.prog w = .ok (.agg (pic 144 0 0 fun _ => 0)) w := by kernel_rfl
theorem lv35 : loadVar 35 = aggLoad 35 := rfl
theorem sv35 : storeVar 35 = aggStore 35 := rfl
theorem ld35 (g off : Nat) (w : World) : (aggLoad 35 ⟨g, off, none⟩).run Try.prog w = segOr (obj w g) off 146 w ((aggLoadOld 35 ⟨g, off, none⟩).run Try.prog w) := run_aggLoad 35 146 _ Try.underlying35 rfl (by kernel_rfl) g off w
theorem st35 (g off : Nat) (v : Value) (w : World) : (aggStore 35 ⟨g, off, none⟩ v).run Try.prog w = segStoreOr (obj w g) g off 146 v w ((aggStoreOld 35 ⟨g, off, none⟩ v).run Try.prog w) := run_aggStore 35 146 (by kernel_rfl) g off v w
theorem agg33 : AggTy Try.prog 33 146 := ⟨⟨_, Try.underlying33, rfl⟩, by kernel_rfl⟩
theorem zero33 (w : World) : (zeroValue 33).run Try.prog w = .ok (.agg (pic 144 0 0 fun _ => 0)) w := by kernel_rfl
theorem lv33 : loadVar 33 = aggLoad 33 := rfl
theorem sv33 : storeVar 33 = aggStore 33 := rfl
theorem ld33 (g off : Nat) (w : World) : (aggLoad 33 ⟨g, off, none⟩).run Try.prog w = segOr (obj w g) off 146 w ((aggLoadOld 33 ⟨g, off, none⟩).run Try.prog w) := run_aggLoad 33 146 _ Try.underlying33 rfl (by kernel_rfl) g off w
theorem st33 (g off : Nat) (v : Value) (w : World) : (aggStore 33 ⟨g, off, none⟩ v).run Try.prog w = segStoreOr (obj w g) g off 146 v w ((aggStoreOld 33 ⟨g, off, none⟩ v).run Try.prog w) := run_aggStore 33 146 (by kernel_rfl) g off v w
theorem agg23 : AggTy Try.prog 23 3 := ⟨⟨_, Try.underlying23, rfl⟩, by kernel_rfl⟩
theorem agg25 : AggTy Try.prog 25 3 := ⟨⟨_, Try.underlying25, rfl⟩, by kernel_rfl⟩
theorem agg44 : AggTy Try.prog 44 3 := ⟨⟨_, Try.underlying44, rfl⟩, by kernel_rfl⟩
theorem size5 (w : World) : (sizeOf 5).run Try.prog w = .ok 1 w := by kernel_rfl
theorem eq31 (w : World) (f g : Nat → Int) : (Op.equalIn 9999 31 (.agg (arr 144 .u8 f)) (.agg (arr 144 .u8 g))).run Try.prog w = .ok (eqUpto 144 f g) w := run_equalIn_arr w 9997 31 5 Try.underlying31 Try.underlying5 size5
attribute [go_sem ↓] zero31 lv31 sv31 zero35 lv35 sv35 zero33 lv33 sv33
attribute [go_sem] ld31 st31 ld35 st35 ld33 st33
attribute [go_sem high] eq31
set_option maxHeartbeats 400000 in
set_option maxRecDepth 100000 in
theorem eql35 (w : World) (a b c d : Int) (f g : Nat → Int) : (binOp .eql 35 (.agg (pic 144 a b f)) (.agg (pic 144 c d g))).run Try.prog w = .ok (.bool (eqPic 144 a b f c d g)) w := by
  go_simp
  unfold eqPic
  by_cases h1 : a = c <;> by_cases h2 : b = d <;> cases eqUpto 144 f g <;> simp [h1, h2]
set_option maxHeartbeats 400000 in
set_option maxRecDepth 100000 in
theorem neq35 (w : World) (a b c d : Int) (f g : Nat → Int) : (binOp .neq 35 (.agg (pic 144 a b f)) (.agg (pic 144 c d g))).run Try.prog w = .ok (.bool (!eqPic 144 a b f c d g)) w := by
  go_simp
  unfold eqPic
  by_cases h1 : a = c <;> by_cases h2 : b = d <;> cases eqUpto 144 f g <;> simp [h1, h2]
attribute [go_sem high] eql35 neq35
end Go.Proofs.Ytjoobjgaecgdlaa
