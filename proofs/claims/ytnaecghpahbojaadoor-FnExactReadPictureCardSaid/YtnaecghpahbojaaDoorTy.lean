/- What loads, stores and zero values of the array and struct types come to; no condition. -/
import Derived.Test.YtnaecghpahbojaaDoorRows
import Derived.Test.YtnaecghpahbojaaDoorSli
namespace Go.Proofs.YtnaecghpahbojaaDoor
open Go.RowKit Go.Arr

theorem agg23 : AggTy Tryd.prog 23 144 := ⟨⟨_, Tryd.underlying23, rfl⟩, by kernel_rfl⟩
theorem zero23 (w : World) : (zeroValue 23).run Tryd.prog w = .ok (.agg (arr 144 .u8 fun _ => 0)) w := by kernel_rfl
theorem lv23 : loadVar 23 = aggLoad 23 := rfl
theorem sv23 : storeVar 23 = aggStore 23 := rfl
theorem ld23 (g off : Nat) (w : World) : (aggLoad 23 ⟨g, off, none⟩).run Tryd.prog w = segOr (obj w g) off 144 w ((aggLoadOld 23 ⟨g, off, none⟩).run Tryd.prog w) := run_aggLoad 23 144 _ Tryd.underlying23 rfl (by kernel_rfl) g off w
theorem st23 (g off : Nat) (v : Value) (w : World) : (aggStore 23 ⟨g, off, none⟩ v).run Tryd.prog w = segStoreOr (obj w g) g off 144 v w ((aggStoreOld 23 ⟨g, off, none⟩ v).run Tryd.prog w) := run_aggStore 23 144 (by kernel_rfl) g off v w
theorem agg25 : AggTy Tryd.prog 25 146 := ⟨⟨_, Tryd.underlying25, rfl⟩, by kernel_rfl⟩
theorem zero25 (w : World) : (zeroValue 25).run Tryd.prog w = .ok (.agg (pic 144 0 0 fun _ => 0)) w := by kernel_rfl
theorem lv25 : loadVar 25 = aggLoad 25 := rfl
theorem sv25 : storeVar 25 = aggStore 25 := rfl
theorem ld25 (g off : Nat) (w : World) : (aggLoad 25 ⟨g, off, none⟩).run Tryd.prog w = segOr (obj w g) off 146 w ((aggLoadOld 25 ⟨g, off, none⟩).run Tryd.prog w) := run_aggLoad 25 146 _ Tryd.underlying25 rfl (by kernel_rfl) g off w
theorem st25 (g off : Nat) (v : Value) (w : World) : (aggStore 25 ⟨g, off, none⟩ v).run Tryd.prog w = segStoreOr (obj w g) g off 146 v w ((aggStoreOld 25 ⟨g, off, none⟩ v).run Tryd.prog w) := run_aggStore 25 146 (by kernel_rfl) g off v w
theorem agg44 : AggTy Tryd.prog 44 3 := ⟨⟨_, Tryd.underlying44, rfl⟩, by kernel_rfl⟩
theorem lv44 : loadVar 44 = aggLoad 44 := rfl
theorem sv44 : storeVar 44 = aggStore 44 := rfl
theorem ld44 (g off : Nat) (w : World) : (aggLoad 44 ⟨g, off, none⟩).run Tryd.prog w = segOr (obj w g) off 3 w ((aggLoadOld 44 ⟨g, off, none⟩).run Tryd.prog w) := run_aggLoad 44 3 _ Tryd.underlying44 rfl (by kernel_rfl) g off w
theorem st44 (g off : Nat) (v : Value) (w : World) : (aggStore 44 ⟨g, off, none⟩ v).run Tryd.prog w = segStoreOr (obj w g) g off 3 v w ((aggStoreOld 44 ⟨g, off, none⟩ v).run Tryd.prog w) := run_aggStore 44 3 (by kernel_rfl) g off v w
theorem agg45 : AggTy Tryd.prog 45 3 := ⟨⟨_, Tryd.underlying45, rfl⟩, by kernel_rfl⟩
theorem lv45 : loadVar 45 = aggLoad 45 := rfl
theorem sv45 : storeVar 45 = aggStore 45 := rfl
theorem ld45 (g off : Nat) (w : World) : (aggLoad 45 ⟨g, off, none⟩).run Tryd.prog w = segOr (obj w g) off 3 w ((aggLoadOld 45 ⟨g, off, none⟩).run Tryd.prog w) := run_aggLoad 45 3 _ Tryd.underlying45 rfl (by kernel_rfl) g off w
theorem st45 (g off : Nat) (v : Value) (w : World) : (aggStore 45 ⟨g, off, none⟩ v).run Tryd.prog w = segStoreOr (obj w g) g off 3 v w ((aggStoreOld 45 ⟨g, off, none⟩ v).run Tryd.prog w) := run_aggStore 45 3 (by kernel_rfl) g off v w
theorem mk31 (n : Nat) (hn : n ≤ 1048576) (w : World) : (Instr.makeSlice 31 (.int .i64 n) (.int .i64 n)).run Tryd.prog w = .ok (.slice (some ⟨w.heap.size, 0, none⟩) n n) (w.alloc (.cells (arr (n * 3) .u8 fun _ => 0) 45)) := mkrow Tryd.underlying31 (z := .agg #[.int .u8 0, .int .u8 0, .int .u8 0]) (bytes := 3) (by kernel_rfl) (made3 _) (by omega) n hn w
theorem mk30 (n : Nat) (hn : n ≤ 1048576) (w : World) : (Instr.makeSlice 30 (.int .i64 n) (.int .i64 n)).run Tryd.prog w = .ok (.slice (some ⟨w.heap.size, 0, none⟩) n n) (w.alloc (.cells (arr (n * 3) .u8 fun _ => 0) 45)) := mkrow Tryd.underlying30 (z := .agg #[.int .u8 0, .int .u8 0, .int .u8 0]) (bytes := 3) (by kernel_rfl) (made3 _) (by omega) n hn w
theorem size5 (w : World) : (sizeOf 5).run Tryd.prog w = .ok 1 w := by kernel_rfl
theorem eqt45_9999 (w : World) (x0 x1 x2 y0 y1 y2 : Int) : (Op.equalIn 9999 45 (.agg #[.int .u8 x0, .int .u8 x1, .int .u8 x2]) (.agg #[.int .u8 y0, .int .u8 y1, .int .u8 y2])).run Tryd.prog w = .ok (eq3 x0 x1 x2 y0 y1 y2) w := by
  rw [show (#[.int .u8 x0, .int .u8 x1, .int .u8 x2] : Array Value) = arr 3 .u8 (fun i => if i = 0 then x0 else if i = 1 then x1 else x2) from rfl, show (#[.int .u8 y0, .int .u8 y1, .int .u8 y2] : Array Value) = arr 3 .u8 (fun i => if i = 0 then y0 else if i = 1 then y1 else y2) from rfl]
  exact (run_equalIn_arr w 9997 45 5 Tryd.underlying45 Tryd.underlying5 size5).trans (by simp [eqUpto, eq3, List.range_succ, Bool.and_assoc])
theorem eqt45_10000 (w : World) (x0 x1 x2 y0 y1 y2 : Int) : (Op.equalIn 10000 45 (.agg #[.int .u8 x0, .int .u8 x1, .int .u8 x2]) (.agg #[.int .u8 y0, .int .u8 y1, .int .u8 y2])).run Tryd.prog w = .ok (eq3 x0 x1 x2 y0 y1 y2) w := by
  rw [show (#[.int .u8 x0, .int .u8 x1, .int .u8 x2] : Array Value) = arr 3 .u8 (fun i => if i = 0 then x0 else if i = 1 then x1 else x2) from rfl, show (#[.int .u8 y0, .int .u8 y1, .int .u8 y2] : Array Value) = arr 3 .u8 (fun i => if i = 0 then y0 else if i = 1 then y1 else y2) from rfl]
  exact (run_equalIn_arr w 9998 45 5 Tryd.underlying45 Tryd.underlying5 size5).trans (by simp [eqUpto, eq3, List.range_succ, Bool.and_assoc])
attribute [go_sem high] eqt45_9999 eqt45_10000
set_option maxHeartbeats 400000 in
theorem eql45 (w : World) (x0 x1 x2 y0 y1 y2 : Int) : (binOp .eql 45 (.agg #[.int .u8 x0, .int .u8 x1, .int .u8 x2]) (.agg #[.int .u8 y0, .int .u8 y1, .int .u8 y2])).run Tryd.prog w = .ok (.bool (eq3 x0 x1 x2 y0 y1 y2)) w := by
  go_simp
  try unfold eq3
  try (by_cases h0 : x0 = y0 <;> by_cases h1 : x1 = y1 <;> by_cases h2 : x2 = y2 <;> simp [h0, h1, h2])
set_option maxHeartbeats 400000 in
theorem neq45 (w : World) (x0 x1 x2 y0 y1 y2 : Int) : (binOp .neq 45 (.agg #[.int .u8 x0, .int .u8 x1, .int .u8 x2]) (.agg #[.int .u8 y0, .int .u8 y1, .int .u8 y2])).run Tryd.prog w = .ok (.bool (!eq3 x0 x1 x2 y0 y1 y2)) w := by
  go_simp
  try unfold eq3
  try (by_cases h0 : x0 = y0 <;> by_cases h1 : x1 = y1 <;> by_cases h2 : x2 = y2 <;> simp [h0, h1, h2])
theorem eq23 (w : World) (f g : Nat → Int) : (Op.equalIn 9999 23 (.agg (arr 144 .u8 f)) (.agg (arr 144 .u8 g))).run Tryd.prog w = .ok (eqUpto 144 f g) w := run_equalIn_arr w 9997 23 5 Tryd.underlying23 Tryd.underlying5 size5
theorem ix23 (f : Nat → Int) (ik : IntKind) (i : Int) (h0 : 0 ≤ i) (h1 : i < 144) (w : World) : (Instr.index 23 (.agg (arr 144 .u8 f)) (.int ik i)).run Tryd.prog w = .ok (.int .u8 (f i.toNat)) w := run_index_arr (n := 144) 23 5 Tryd.underlying23 Tryd.underlying5 size5 ik i h0 (by omega) w
attribute [go_sem ↓] zero23 lv23 sv23 zero25 lv25 sv25 lv44 sv44 lv45 sv45
attribute [go_sem] ld23 st23 ld25 st25 ld44 st44 ld45 st45 mk31 mk30
attribute [go_sem high] eql45 neq45 eq23 ix23
set_option maxHeartbeats 400000 in
set_option maxRecDepth 100000 in
theorem eql25 (w : World) (a b c d : Int) (f g : Nat → Int) : (binOp .eql 25 (.agg (pic 144 a b f)) (.agg (pic 144 c d g))).run Tryd.prog w = .ok (.bool (eqPic 144 a b f c d g)) w := by
  go_simp
  unfold eqPic
  by_cases h1 : a = c <;> by_cases h2 : b = d <;> cases eqUpto 144 f g <;> simp [h1, h2]
set_option maxHeartbeats 400000 in
set_option maxRecDepth 100000 in
theorem neq25 (w : World) (a b c d : Int) (f g : Nat → Int) : (binOp .neq 25 (.agg (pic 144 a b f)) (.agg (pic 144 c d g))).run Tryd.prog w = .ok (.bool (!eqPic 144 a b f c d g)) w := by
  go_simp
  unfold eqPic
  by_cases h1 : a = c <;> by_cases h2 : b = d <;> cases eqUpto 144 f g <;> simp [h1, h2]
attribute [go_sem high] eql25 neq25
end Go.Proofs.YtnaecghpahbojaaDoor
