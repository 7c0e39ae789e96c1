/- Strings of bytes that a call has gathered; no condition. -/
import Derived.Test.YtnaecghpahbojaaDoorSlc
import Derived.Laws.BytesString
set_option linter.unusedVariables false
namespace Go.Arr
open Go.RowKit
def bytesOf (l : List Int) : List UInt8 := l.map fun z => UInt8.ofNat z.toNat
/-- a string out of numbers -/
def bstr (l : List Int) : ByteArray := ⟨(bytesOf l).toArray⟩
theorem foldl_push (l : List Int) : ∀ s : ByteArray, l.foldl (fun r z => r.push (UInt8.ofNat z.toNat)) s = ⟨(s.data.toList ++ bytesOf l).toArray⟩ := by
  induction l with
  | nil => intro s; simp [bytesOf]
  | cons z l ih => intro s; rw [List.foldl_cons, ih]; simp [bytesOf, ByteArray.push]
theorem run_string {P : Program} {w : World} {src dst e : TypeId} (hs : P.underlying src = some (.slice e)) (he : P.underlying e = some (.int .u8)) (hd : P.underlying dst = some .string)
    {g off len cap : Nat} {cur : Array Value} {t : TypeId} {fr : Nat × Nat} {l : List Int} (ho : obj w g = some (.cells cur t fr)) (hl : l.length = len) (hc : ∀ j, j < len → cur[off + j]? = some (.int .u8 (l.getD j 0))) :
    (convert src dst (.slice (some ⟨g, off, none⟩) len cap)).run P w = .ok (.string (bstr l)) w := by
  rw [run_convert_bytes_string w src dst e _ _ _ hs he hd]
  rw [run_bytesToString w ⟨g, off, none⟩ len cap l]
  · rw [foldl_push]; rfl
  · have h := run_loadCells_list (P := P) w ⟨g, off, none⟩ (l.map (Value.int .u8)) (fun j v hv => by
      rw [addr_add, cell_of_row w g _ cur t fr ho]
      have hj : j < l.length := by
        have := (List.getElem?_eq_some_iff.1 hv).1
        simpa using this
      rw [hc j (by omega)]
      simp only [List.getElem?_map, List.getElem?_eq_getElem hj, Option.map_some] at hv
      rw [← hv]
      simp [List.getD, hj])
    rw [List.length_map, hl] at h
    exact h
end Go.Arr
