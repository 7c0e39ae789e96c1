/- What loads, stores and zero values of the array and struct types come to; no condition. -/
import Derived.Test.YthgnceamnjgkoaaRows
import Derived.Test.YthgnceamnjgkoaaSli
namespace Go.Proofs.Ythgnceamnjgkoaa
open Go.RowKit Go.Arr

theorem agg31 : AggTy Try.prog 31 144 := ⟨⟨_, Try.underlying31, rfl⟩, by kernel_rfl⟩
theorem zero31 (w : World) : (zeroValue 31).run Try.prog w = .ok (.agg (arr 144 .u8 fun _ => 0)) w := by kernel_rfl
theorem lv31 : loadVar 31 = aggLoad 31 := rfl
theorem sv31 : storeVar 31 = aggStore 31 := rfl
theorem ld31 (g off : Nat) (w : World) : (aggLoad 31 ⟨g, off, none⟩).run Try.prog w = segOr (obj w g) off 144 w ((aggLoadOld 31 ⟨g, off, none⟩).run Try.prog w) := run_aggLoad 31 144 _ Try.underlying31 rfl (by kernel_rfl) g off w
theorem st31 (g off : Nat) (v : Value) (w : World) : (aggStore 31 ⟨g, off, none⟩ v).run Try.prog w = segStoreOr (obj w g) g off 144 v w ((aggStoreOld 31 ⟨g, off, none⟩ v).run Try.prog w) := run_aggStore 31 144 (by kernel_rfl) g off v w
theorem agg41 : AggTy Try.prog 41 146 := ⟨⟨_, Try.underlying41, rfl⟩, by kernel_rfl⟩
theorem zero41 (w : World) : (zeroValue 41).run Try.prog w = .ok (.agg (pic 144 0 0 fun _ => 0)) w := by kernel_rfl
theorem lv41 : loadVar 41 = aggLoad 41 := rfl
theorem sv41 : storeVar 41 = aggStore 41 := rfl
theorem ld41 (g off : Nat) (w : World) : (aggLoad 41 ⟨g, off, none⟩).run Try.prog w = segOr (obj w g) off 146 w ((aggLoadOld 41 ⟨g, off, none⟩).run Try.prog w) := run_aggLoad 41 146 _ Try.underlying41 rfl (by kernel_rfl) g off w
theorem st41 (g off : Nat) (v : Value) (w : World) : (aggStore 41 ⟨g, off, none⟩ v).run Try.prog w = segStoreOr (obj w g) g off 146 v w ((aggStoreOld 41 ⟨g, off, none⟩ v).run Try.prog w) := run_aggStore 41 146 (by kernel_rfl) g off v w
theorem agg33 : AggTy Try.prog 33 146 := ⟨⟨_, Try.underlying33, rfl⟩, by kernel_rfl⟩
theorem zero33 (w : World) : (zeroValue 33).run Try.prog w = .ok (.agg (pic 144 0 0 fun _ => 0)) w := by kernel_rfl
theorem lv33 : loadVar 33 = aggLoad 33 := rfl
theorem sv33 : storeVar 33 = aggStore 33 := rfl
theorem ld33 (g off : Nat) (w : World) : (aggLoad 33 ⟨g, off, none⟩).run Try.prog w = segOr (obj w g) off 146 w ((aggLoadOld 33 ⟨g, off, none⟩).run Try.prog w) := run_aggLoad 33 146 _ Try.underlying33 rfl (by kernel_rfl) g off w
theorem st33 (g off : Nat) (v : Value) (w : World) : (aggStore 33 ⟨g, off, none⟩ v).run Try.prog w = segStoreOr (obj w g) g off 146 v w ((aggStoreOld 33 ⟨g, off, none⟩ v).run Try.prog w) := run_aggStore 33 146 (by kernel_rfl) g off v w
theorem agg34 : AggTy Try.prog 34 3 := ⟨⟨_, Try.underlying34, rfl⟩, by kernel_rfl⟩
theorem lv34 : loadVar 34 = aggLoad 34 := rfl
theorem sv34 : storeVar 34 = aggStore 34 := rfl
theorem ld34 (g off : Nat) (w : World) : (aggLoad 34 ⟨g, off, none⟩).run Try.prog w = segOr (obj w g) off 3 w ((aggLoadOld 34 ⟨g, off, none⟩).run Try.prog w) := run_aggLoad 34 3 _ Try.underlying34 rfl (by kernel_rfl) g off w
theorem st34 (g off : Nat) (v : Value) (w : World) : (aggStore 34 ⟨g, off, none⟩ v).run Try.prog w = segStoreOr (obj w g) g off 3 v w ((aggStoreOld 34 ⟨g, off, none⟩ v).run Try.prog w) := run_aggStore 34 3 (by kernel_rfl) g off v w
theorem agg35 : AggTy Try.prog 35 3 := ⟨⟨_, Try.underlying35, rfl⟩, by kernel_rfl⟩
theorem lv35 : loadVar 35 = aggLoad 35 := rfl
theorem sv35 : storeVar 35 = aggStore 35 := rfl
theorem ld35 (g off : Nat) (w : World) : (aggLoad 35 ⟨g, off, none⟩).run Try.prog w = segOr (obj w g) off 3 w ((aggLoadOld 35 ⟨g, off, none⟩).run Try.prog w) := run_aggLoad 35 3 _ Try.underlying35 rfl (by kernel_rfl) g off w
theorem st35 (g off : Nat) (v : Value) (w : World) : (aggStore 35 ⟨g, off, none⟩ v).run Try.prog w = segStoreOr (obj w g) g off 3 v w ((aggStoreOld 35 ⟨g, off, none⟩ v).run Try.prog w) := run_aggStore 35 3 (by kernel_rfl) g off v w
theorem agg46 : AggTy Try.prog 46 432 := ⟨⟨_, Try.underlying46, rfl⟩, by kernel_rfl⟩
theorem zero46 (w : World) : (zeroValue 46).run Try.prog w = .ok (.agg (arr 432 .u8 fun _ => 0)) w := by kernel_rfl
theorem lv46 : loadVar 46 = aggLoad 46 := rfl
theorem sv46 : storeVar 46 = aggStore 46 := rfl
theorem ld46 (g off : Nat) (w : World) : (aggLoad 46 ⟨g, off, none⟩).run Try.prog w = segOr (obj w g) off 432 w ((aggLoadOld 46 ⟨g, off, none⟩).run Try.prog w) := run_aggLoad 46 432 _ Try.underlying46 rfl (by kernel_rfl) g off w
theorem st46 (g off : Nat) (v : Value) (w : World) : (aggStore 46 ⟨g, off, none⟩ v).run Try.prog w = segStoreOr (obj w g) g off 432 v w ((aggStoreOld 46 ⟨g, off, none⟩ v).run Try.prog w) := run_aggStore 46 432 (by kernel_rfl) g off v w
theorem agg36 : AggTy Try.prog 36 432 := ⟨⟨_, Try.underlying36, rfl⟩, by kernel_rfl⟩
theorem zero36 (w : World) : (zeroValue 36).run Try.prog w = .ok (.agg (arr 432 .u8 fun _ => 0)) w := by kernel_rfl
theorem lv36 : loadVar 36 = aggLoad 36 := rfl
theorem sv36 : storeVar 36 = aggStore 36 := rfl
theorem ld36 (g off : Nat) (w : World) : (aggLoad 36 ⟨g, off, none⟩).run Try.prog w = segOr (obj w g) off 432 w ((aggLoadOld 36 ⟨g, off, none⟩).run Try.prog w) := run_aggLoad 36 432 _ Try.underlying36 rfl (by kernel_rfl) g off w
theorem st36 (g off : Nat) (v : Value) (w : World) : (aggStore 36 ⟨g, off, none⟩ v).run Try.prog w = segStoreOr (obj w g) g off 432 v w ((aggStoreOld 36 ⟨g, off, none⟩ v).run Try.prog w) := run_aggStore 36 432 (by kernel_rfl) g off v w
theorem agg38 : AggTy Try.prog 38 434 := ⟨⟨_, Try.underlying38, rfl⟩, by kernel_rfl⟩
theorem zero38 (w : World) : (zeroValue 38).run Try.prog w = .ok (.agg (pic 432 0 0 fun _ => 0)) w := by kernel_rfl
theorem lv38 : loadVar 38 = aggLoad 38 := rfl
theorem sv38 : storeVar 38 = aggStore 38 := rfl
theorem ld38 (g off : Nat) (w : World) : (aggLoad 38 ⟨g, off, none⟩).run Try.prog w = segOr (obj w g) off 434 w ((aggLoadOld 38 ⟨g, off, none⟩).run Try.prog w) := run_aggLoad 38 434 _ Try.underlying38 rfl (by kernel_rfl) g off w
theorem st38 (g off : Nat) (v : Value) (w : World) : (aggStore 38 ⟨g, off, none⟩ v).run Try.prog w = segStoreOr (obj w g) g off 434 v w ((aggStoreOld 38 ⟨g, off, none⟩ v).run Try.prog w) := run_aggStore 38 434 (by kernel_rfl) g off v w
theorem agg48 : AggTy Try.prog 48 434 := ⟨⟨_, Try.underlying48, rfl⟩, by kernel_rfl⟩
theorem zero48 (w : World) : (zeroValue 48).run Try.prog w = .ok (.agg (pic 432 0 0 fun _ => 0)) w := by kernel_rfl
theorem lv48 : loadVar 48 = aggLoad 48 := rfl
theorem sv48 : storeVar 48 = aggStore 48 := rfl
theorem ld48 (g off : Nat) (w : World) : (aggLoad 48 ⟨g, off, none⟩).run Try.prog w = segOr (obj w g) off 434 w ((aggLoadOld 48 ⟨g, off, none⟩).run Try.prog w) := run_aggLoad 48 434 _ Try.underlying48 rfl (by kernel_rfl) g off w
theorem st48 (g off : Nat) (v : Value) (w : World) : (aggStore 48 ⟨g, off, none⟩ v).run Try.prog w = segStoreOr (obj w g) g off 434 v w ((aggStoreOld 48 ⟨g, off, none⟩ v).run Try.prog w) := run_aggStore 48 434 (by kernel_rfl) g off v w
theorem agg99 : AggTy Try.prog 99 16 := ⟨⟨_, Try.underlying99, rfl⟩, by kernel_rfl⟩
theorem zero99 (w : World) : (zeroValue 99).run Try.prog w = .ok (.agg (arr 16 .i64 fun _ => 0)) w := by kernel_rfl
theorem lv99 : loadVar 99 = aggLoad 99 := rfl
theorem sv99 : storeVar 99 = aggStore 99 := rfl
theorem ld99 (g off : Nat) (w : World) : (aggLoad 99 ⟨g, off, none⟩).run Try.prog w = segOr (obj w g) off 16 w ((aggLoadOld 99 ⟨g, off, none⟩).run Try.prog w) := run_aggLoad 99 16 _ Try.underlying99 rfl (by kernel_rfl) g off w
theorem st99 (g off : Nat) (v : Value) (w : World) : (aggStore 99 ⟨g, off, none⟩ v).run Try.prog w = segStoreOr (obj w g) g off 16 v w ((aggStoreOld 99 ⟨g, off, none⟩ v).run Try.prog w) := run_aggStore 99 16 (by kernel_rfl) g off v w
theorem agg108 : AggTy Try.prog 108 432 := ⟨⟨_, Try.underlying108, rfl⟩, by kernel_rfl⟩
theorem zero108 (w : World) : (zeroValue 108).run Try.prog w = .ok (.agg (arr 432 .i64 fun _ => 0)) w := by kernel_rfl
theorem lv108 : loadVar 108 = aggLoad 108 := rfl
theorem sv108 : storeVar 108 = aggStore 108 := rfl
theorem ld108 (g off : Nat) (w : World) : (aggLoad 108 ⟨g, off, none⟩).run Try.prog w = segOr (obj w g) off 432 w ((aggLoadOld 108 ⟨g, off, none⟩).run Try.prog w) := run_aggLoad 108 432 _ Try.underlying108 rfl (by kernel_rfl) g off w
theorem st108 (g off : Nat) (v : Value) (w : World) : (aggStore 108 ⟨g, off, none⟩ v).run Try.prog w = segStoreOr (obj w g) g off 432 v w ((aggStoreOld 108 ⟨g, off, none⟩ v).run Try.prog w) := run_aggStore 108 432 (by kernel_rfl) g off v w
theorem agg107 : AggTy Try.prog 107 3 := ⟨⟨_, Try.underlying107, rfl⟩, by kernel_rfl⟩
theorem mk26 (n : Nat) (hn : n ≤ 1048576) (w : World) : (Instr.makeSlice 26 (.int .i64 n) (.int .i64 n)).run Try.prog w = .ok (.slice (some ⟨w.heap.size, 0, none⟩) n n) (w.alloc (.cells (arr (n * 3) .u8 fun _ => 0) 35)) := mkrow Try.underlying26 (z := .agg #[.int .u8 0, .int .u8 0, .int .u8 0]) (bytes := 3) (by kernel_rfl) (made3 _) (by omega) n hn w
theorem mk25 (n : Nat) (hn : n ≤ 1048576) (w : World) : (Instr.makeSlice 25 (.int .i64 n) (.int .i64 n)).run Try.prog w = .ok (.slice (some ⟨w.heap.size, 0, none⟩) n n) (w.alloc (.cells (arr (n * 3) .u8 fun _ => 0) 35)) := mkrow Try.underlying25 (z := .agg #[.int .u8 0, .int .u8 0, .int .u8 0]) (bytes := 3) (by kernel_rfl) (made3 _) (by omega) n hn w
theorem mk54 (n : Nat) (hn : n ≤ 1048576) (w : World) : (Instr.makeSlice 54 (.int .i64 n) (.int .i64 n)).run Try.prog w = .ok (.slice (some ⟨w.heap.size, 0, none⟩) n n) (w.alloc (.cells (arr (n * 1) .i64 fun _ => 0) 2)) := mkrow Try.underlying54 (z := .int .i64 0) (bytes := 8) (by kernel_rfl) (made1 _) (by omega) n hn w
theorem size5 (w : World) : (sizeOf 5).run Try.prog w = .ok 1 w := by kernel_rfl
theorem eqt35_9999 (w : World) (x0 x1 x2 y0 y1 y2 : Int) : (Op.equalIn 9999 35 (.agg #[.int .u8 x0, .int .u8 x1, .int .u8 x2]) (.agg #[.int .u8 y0, .int .u8 y1, .int .u8 y2])).run Try.prog w = .ok (eq3 x0 x1 x2 y0 y1 y2) w := by
  rw [show (#[.int .u8 x0, .int .u8 x1, .int .u8 x2] : Array Value) = arr 3 .u8 (fun i => if i = 0 then x0 else if i = 1 then x1 else x2) from rfl, show (#[.int .u8 y0, .int .u8 y1, .int .u8 y2] : Array Value) = arr 3 .u8 (fun i => if i = 0 then y0 else if i = 1 then y1 else y2) from rfl]
  exact (run_equalIn_arr w 9997 35 5 Try.underlying35 Try.underlying5 size5).trans (by simp [eqUpto, eq3, List.range_succ, Bool.and_assoc])
theorem eqt35_10000 (w : World) (x0 x1 x2 y0 y1 y2 : Int) : (Op.equalIn 10000 35 (.agg #[.int .u8 x0, .int .u8 x1, .int .u8 x2]) (.agg #[.int .u8 y0, .int .u8 y1, .int .u8 y2])).run Try.prog w = .ok (eq3 x0 x1 x2 y0 y1 y2) w := by
  rw [show (#[.int .u8 x0, .int .u8 x1, .int .u8 x2] : Array Value) = arr 3 .u8 (fun i => if i = 0 then x0 else if i = 1 then x1 else x2) from rfl, show (#[.int .u8 y0, .int .u8 y1, .int .u8 y2] : Array Value) = arr 3 .u8 (fun i => if i = 0 then y0 else if i = 1 then y1 else y2) from rfl]
  exact (run_equalIn_arr w 9998 35 5 Try.underlying35 Try.underlying5 size5).trans (by simp [eqUpto, eq3, List.range_succ, Bool.and_assoc])
attribute [go_sem high] eqt35_9999 eqt35_10000
set_option maxHeartbeats 400000 in
theorem eql35 (w : World) (x0 x1 x2 y0 y1 y2 : Int) : (binOp .eql 35 (.agg #[.int .u8 x0, .int .u8 x1, .int .u8 x2]) (.agg #[.int .u8 y0, .int .u8 y1, .int .u8 y2])).run Try.prog w = .ok (.bool (eq3 x0 x1 x2 y0 y1 y2)) w := by
  go_simp
  try unfold eq3
  try (by_cases h0 : x0 = y0 <;> by_cases h1 : x1 = y1 <;> by_cases h2 : x2 = y2 <;> simp [h0, h1, h2])
set_option maxHeartbeats 400000 in
theorem neq35 (w : World) (x0 x1 x2 y0 y1 y2 : Int) : (binOp .neq 35 (.agg #[.int .u8 x0, .int .u8 x1, .int .u8 x2]) (.agg #[.int .u8 y0, .int .u8 y1, .int .u8 y2])).run Try.prog w = .ok (.bool (!eq3 x0 x1 x2 y0 y1 y2)) w := by
  go_simp
  try unfold eq3
  try (by_cases h0 : x0 = y0 <;> by_cases h1 : x1 = y1 <;> by_cases h2 : x2 = y2 <;> simp [h0, h1, h2])
theorem eq31 (w : World) (f g : Nat → Int) : (Op.equalIn 9999 31 (.agg (arr 144 .u8 f)) (.agg (arr 144 .u8 g))).run Try.prog w = .ok (eqUpto 144 f g) w := run_equalIn_arr w 9997 31 5 Try.underlying31 Try.underlying5 size5
theorem ix31 (f : Nat → Int) (ik : IntKind) (i : Int) (h0 : 0 ≤ i) (h1 : i < 144) (w : World) : (Instr.index 31 (.agg (arr 144 .u8 f)) (.int ik i)).run Try.prog w = .ok (.int .u8 (f i.toNat)) w := run_index_arr (n := 144) 31 5 Try.underlying31 Try.underlying5 size5 ik i h0 (by omega) w
theorem size2 (w : World) : (sizeOf 2).run Try.prog w = .ok 1 w := by kernel_rfl
theorem ix99 (f : Nat → Int) (ik : IntKind) (i : Int) (h0 : 0 ≤ i) (h1 : i < 16) (w : World) : (Instr.index 99 (.agg (arr 16 .i64 f)) (.int ik i)).run Try.prog w = .ok (.int .i64 (f i.toNat)) w := run_index_arr (n := 16) 99 2 Try.underlying99 Try.underlying2 size2 ik i h0 (by omega) w
attribute [go_sem ↓] zero31 lv31 sv31 zero41 lv41 sv41 zero33 lv33 sv33 lv34 sv34 lv35 sv35 zero46 lv46 sv46 zero36 lv36 sv36 zero38 lv38 sv38 zero48 lv48 sv48 zero99 lv99 sv99 zero108 lv108 sv108
attribute [go_sem] ld31 st31 ld41 st41 ld33 st33 ld34 st34 ld35 st35 ld46 st46 ld36 st36 ld38 st38 ld48 st48 ld99 st99 ld108 st108 mk26 mk25 mk54
attribute [go_sem high] eql35 neq35 eq31 ix31 ix99
set_option maxHeartbeats 400000 in
set_option maxRecDepth 100000 in
theorem eql41 (w : World) (a b c d : Int) (f g : Nat → Int) : (binOp .eql 41 (.agg (pic 144 a b f)) (.agg (pic 144 c d g))).run Try.prog w = .ok (.bool (eqPic 144 a b f c d g)) w := by
  go_simp
  unfold eqPic
  by_cases h1 : a = c <;> by_cases h2 : b = d <;> cases eqUpto 144 f g <;> simp [h1, h2]
set_option maxHeartbeats 400000 in
set_option maxRecDepth 100000 in
theorem neq41 (w : World) (a b c d : Int) (f g : Nat → Int) : (binOp .neq 41 (.agg (pic 144 a b f)) (.agg (pic 144 c d g))).run Try.prog w = .ok (.bool (!eqPic 144 a b f c d g)) w := by
  go_simp
  unfold eqPic
  by_cases h1 : a = c <;> by_cases h2 : b = d <;> cases eqUpto 144 f g <;> simp [h1, h2]
attribute [go_sem high] eql41 neq41
end Go.Proofs.Ythgnceamnjgkoaa
