/- The text of a tone: what the reference and the program return; no condition. -/
import Derived.Test.YtmiafnlaooggjaaTy
import Derived.Test.YtmiafnlaooggjaaTone
import Derived.Test.YtmiafnlaooggjaaStr
set_option linter.unusedVariables false
namespace Go.Proofs.Ytmiafnlaooggjaa
open Go.BigFrame
open Go.RowKit Go.Arr
theorem slBytes : SlTy Try.prog 61 5 (.int .u8 0) 1 1 := ⟨Try.underlying61, by kernel_rfl, rfl, by omega⟩
/-- the digit of a number below 16 -/
def hexd (x : Int) : Int := if x < 10 then 48 + x else 87 + x
def hexes (l : List Int) : List Int := l.flatMap fun x => [hexd (x / 16), hexd (x % 16)]
set_option maxRecDepth 100000 in
theorem dig_get (x : Int) (h0 : 0 ≤ x) (h1 : x < 16) (w : World) : (Instr.index 9 (.string ⟨#[48, 49, 50, 51, 52, 53, 54, 55, 56, 57, 97, 98, 99, 100, 101, 102]⟩) (.int .u8 x)).run Try.prog w = .ok (.int .u8 (hexd x)) w := by
  have : x = 0 ∨ x = 1 ∨ x = 2 ∨ x = 3 ∨ x = 4 ∨ x = 5 ∨ x = 6 ∨ x = 7 ∨ x = 8 ∨ x = 9 ∨ x = 10 ∨ x = 11 ∨ x = 12 ∨ x = 13 ∨ x = 14 ∨ x = 15 := by omega
  rcases this with h | h | h | h | h | h | h | h | h | h | h | h | h | h | h | h <;> (subst h; rfl)
def sel (a b c : Int) : Nat → Int
  | 0 => a
  | 1 => b
  | _ => c
theorem tone_arr (a b c : Int) : (#[.int .u8 a, .int .u8 b, .int .u8 c] : Array Value) = arr 3 .u8 (sel a b c) := rfl
def hexUpto (f : Nat → Int) : Nat → List Int
  | 0 => []
  | k + 1 => hexUpto f k ++ [hexd (f k / 16), hexd (f k % 16)]
theorem length_hexUpto (f : Nat → Int) (k : Nat) : (hexUpto f k).length = 2 * k := by
  induction k with
  | zero => rfl
  | succ k ih => simp [hexUpto, ih]; omega
attribute [local go_sem high] dig_get
theorem u8_quo (x : Int) (h0 : 0 ≤ x) (h1 : x ≤ 255) : IntKind.u8.wrap (x.tdiv 16) = x / 16 := by
  rw [Int.tdiv_eq_ediv_of_nonneg h0]
  show (x / 16) % 256 = x / 16
  omega
def toneText (a b c : Int) : ByteArray := bstr (35 :: hexUpto (sel a b c) 3)
set_option maxHeartbeats 2000000 in
set_option maxRecDepth 100000 in
theorem toneText_spec0 (a b c : Int) (ha : 0 ≤ a ∧ a ≤ 255) (hb : 0 ≤ b ∧ b ≤ 255) (hc : 0 ≤ c ∧ c ≤ 255) (w : World) :
    Calls Try.prog 97 #[.agg #[.int .u8 a, .int .u8 b, .int .u8 c]] w fun e w' => e = .returned (.string (toneText a b c)) ∧ New w w' := by
  have hs : ∀ k, 0 ≤ sel a b c k ∧ sel a b c k ≤ 255 := by
    intro k
    unfold sel
    split <;> assumption
  rw [tone_arr]
  go_enter Try.func97, Try.ntmps97
  go_wp2
  go_loopw [3, 4] (fun v i wr => ∃ (k g cap : Nat), k ≤ 3 ∧ i = .int .i64 k ∧ v = .slice (some ⟨g, 0, none⟩) (1 + 2 * k) cap ∧ wr.ownsRow (w.heap.size + 1) 5 1 (.slice (some ⟨g, 0, none⟩) (1 + 2 * k) cap) (1 + 2 * k) ((35 :: hexUpto (sel a b c) k).map (Value.int .u8)) ∧ Hid (obj wr w.heap.size = some (.cells (arr 3 .u8 (sel a b c)) 40)) ∧ New w wr) (fun _ i _ => 3 - (intOf i).toNat)
  case atStart =>
    refine ⟨0, w.heap.size + 1, 1, by omega, rfl, rfl, ?_, ?_, ?_⟩
    · exact own_of_obj (cur := #[.int .u8 35]) (by go_simp) (by omega) (by omega) (by decide) rfl
    · show _ = _
      go_simp
    · exact ((New.refl w).alloc _).alloc _
  case round =>
    obtain ⟨k, g, cap, hk, rfl, rfl, hown, hob, hn⟩ := hrel
    by_cases hlt : k < 3
    · have ho := hob.out
      have hl := hn.le
      have hsk := hs k
      have q1 : IntKind.u8.wrap ((sel a b c k).tdiv 16) = sel a b c k / 16 := u8_quo _ hsk.1 hsk.2
      have q2 : (sel a b c k).tmod 16 = sel a b c k % 16 := Int.tmod_eq_emod_of_nonneg hsk.1
      have p1 : 0 ≤ sel a b c k / 16 := by omega
      have p2 : sel a b c k / 16 < 16 := by omega
      have p3 : 0 ≤ sel a b c k % 16 := by omega
      have p4 : sel a b c k % 16 < 16 := by omega
      clear hs
      go_wp2_with (fail)
      go_region_law ((refine step_app slBytes rfl _ _ rfl (w.heap.size + 1) _ _ _ (by simp [Act.eval]) ((hown.drew).alloc _) ⟨wr.heap.size, 0, none⟩ 2 2 [.int .u8 (hexd (sel a b c k / 16)), .int .u8 (hexd (sel a b c k % 16))] (by simp [Act.eval]) rfl (news_new _ _ _ _ _ rfl) (by simp [Value.oneCell']) (by omega) (by unfold maxLen; omega) (by omega) (by simp; omega) ?_; intro g1 cap1 w1 hown1 hg1 hat1 hlt1))
      all_goals
        obtain ⟨_, _, hbg, hbl, _⟩ := own_obj hown
        have hn1 : New w w1 := grown_new ((hn.alloc _).drew) hg1 (by simp [Value.ownBlock]; omega)
        have ho1 : obj w1 w.heap.size = some (.cells (arr 3 .u8 (sel a b c)) 40) := by
          rw [grown_obj hg1 _ (by simp; omega) (by simp [Value.ownBlock]; omega)]
          show obj ((wr.alloc _).drew) _ = _
          rw [obj_drew, obj_alloc_past _ _ _ (by omega), ho]
        clear hg1 hat1 hown ho hn
        have hown2 : w1.ownsRow (w.heap.size + 1) 5 1 (.slice (some ⟨g1, 0, none⟩) (1 + 2 * (k + 1)) cap1) (1 + 2 * (k + 1)) ((35 :: hexUpto (sel a b c) (k + 1)).map (Value.int .u8)) := by
          have e2 : 1 + 2 * k + 2 = 1 + 2 * (k + 1) := by omega
          rw [e2] at hown1
          simpa [hexUpto] using hown1
        clear hown1
        go_wp2_with (fail)
        go_roundw
        case rel => exact ⟨k + 1, g1, cap1, by omega, by go_num, by rw [show 1 + 2 * (k + 1) = 1 + 2 * k + 2 from by omega], hown2, ho1, hn1⟩
        case measure => simp [intOf]; omega
    · obtain rfl : k = 3 := by omega
      obtain ⟨cur, hcur, _, _, hsz, _, _, hcu⟩ := own_obj hown
      have hst := run_string (P := Try.prog) (w := wr) (dst := 9) slBytes.1 Try.underlying5 Try.underlying9 (len := 1 + 2 * 3) (cap := cap) (l := 35 :: hexUpto (sel a b c) 3) hcur (by simp [length_hexUpto]) (fun j hj => by
        rw [Nat.zero_add, hcu j (by omega), List.getElem?_map, List.getElem?_eq_getElem (by simp [length_hexUpto]; omega)]
        simp [List.getD, show j < 7 from hj, length_hexUpto])
      go_wp2_with (fail)
      go_ret
      exact ⟨rfl, hn⟩
theorem and15_fin : ∀ n : Fin 256, bits .and .u8 ((n.val : Nat) : Int) 15 = ((n.val : Nat) : Int) % 16 := by decide +kernel
theorem and15 (x : Int) (h0 : 0 ≤ x) (h1 : x ≤ 255) : bits .and .u8 x 15 = x % 16 := by
  obtain ⟨n, rfl⟩ := Int.eq_ofNat_of_zero_le h0
  exact and15_fin ⟨n, by omega⟩
def byteAt (s : ByteArray) (i : Nat) : Int := ((s.data.getD i 0).toNat : Int)
set_option maxHeartbeats 2000000 in
set_option maxRecDepth 100000 in
theorem inHex_any (s : ByteArray) (hs : s.size ≤ 1000000000) (w : World) :
    Calls Try.prog 99 #[.string s] w fun e w' => e = .returned (.string (bstr (hexUpto (byteAt s) s.size))) ∧ New w w' := by
  go_enter Try.func99, Try.ntmps99
  go_wp2
  go_loopw [3, 8] (fun v i wr => ∃ (k g cap : Nat), k ≤ s.size ∧ i = .int .i64 k ∧ v = .slice (some ⟨g, 0, none⟩) (2 * k) cap ∧ wr.ownsRow w.heap.size 5 1 (.slice (some ⟨g, 0, none⟩) (2 * k) cap) (2 * k) ((hexUpto (byteAt s) k).map (Value.int .u8)) ∧ New w wr) (fun _ i _ => s.size - (intOf i).toNat)
  case atStart =>
    refine ⟨0, w.heap.size, 0, by omega, rfl, rfl, ?_, (New.refl w).alloc _⟩
    exact own_of_obj (cur := #[]) (by go_simp) (by omega) (by omega) (by decide) rfl
  case round =>
    obtain ⟨k, g, cap, hk, rfl, rfl, hown, hn⟩ := hrel
    by_cases hlt : k < s.size
    · have hl := hn.le
      have hb : 0 ≤ byteAt s k ∧ byteAt s k ≤ 255 := by
        unfold byteAt
        have := (s.data.getD k 0).toNat_lt
        omega
      have hx : ((s[k].toNat : Nat) : Int) = byteAt s k := by
        unfold byteAt
        have hkd : k < s.data.size := hlt
        rw [Array.getD_eq_getD_getElem?, Array.getElem?_eq_getElem hkd]
        rfl
      have q2 : bits .and .u8 (byteAt s k) 15 = byteAt s k % 16 := and15 _ hb.1 hb.2
      have p1 : 0 ≤ byteAt s k / 16 := by omega
      have p2 : byteAt s k / 16 < 16 := by omega
      have p3 : 0 ≤ byteAt s k % 16 := by omega
      have p4 : byteAt s k % 16 < 16 := by omega
      go_wp2_with (fail)
      go_region_law ((refine step_app slBytes rfl _ _ rfl w.heap.size _ _ _ (by simp [Act.eval]) ((hown.drew).alloc _) ⟨wr.heap.size, 0, none⟩ 2 2 [.int .u8 (hexd (byteAt s k / 16)), .int .u8 (hexd (byteAt s k % 16))] (by simp [Act.eval]) rfl (news_new _ _ _ _ _ rfl) (by simp [Value.oneCell']) (by omega) (by unfold maxLen; omega) (by omega) (by simp; omega) ?_; intro g1 cap1 w1 hown1 hg1 hat1 hlt1))
      all_goals
        obtain ⟨_, _, hbg, hbl, _⟩ := own_obj hown
        have hn1 : New w w1 := grown_new ((hn.alloc _).drew) hg1 (by simp [Value.ownBlock]; omega)
        clear hg1 hat1 hown hn hx q2
        have hown2 : w1.ownsRow w.heap.size 5 1 (.slice (some ⟨g1, 0, none⟩) (2 * (k + 1)) cap1) (2 * (k + 1)) ((hexUpto (byteAt s) (k + 1)).map (Value.int .u8)) := by
          have e2 : 2 * k + 2 = 2 * (k + 1) := by omega
          rw [e2] at hown1
          simpa [hexUpto] using hown1
        clear hown1
        go_wp2_with (fail)
        go_roundw
        case rel => exact ⟨k + 1, g1, cap1, by omega, by go_num, by rw [show 2 * (k + 1) = 2 * k + 2 from by omega], hown2, hn1⟩
        case measure => simp [intOf]; omega
    · obtain rfl : k = s.size := by omega
      obtain ⟨cur, hcur, _, _, hsz, _, _, hcu⟩ := own_obj hown
      have hst := run_string (P := Try.prog) (w := wr) (dst := 9) slBytes.1 Try.underlying5 Try.underlying9 (len := 2 * s.size) (cap := cap) (l := hexUpto (byteAt s) s.size) hcur (by simp [length_hexUpto]) (fun j hj => by
        rw [Nat.zero_add, hcu j (by omega), List.getElem?_map, List.getElem?_eq_getElem (by simp [length_hexUpto]; omega)]
        simp [List.getD, hj, length_hexUpto])
      go_wp2_with (fail)
      go_ret
      exact ⟨rfl, hn⟩
set_option maxHeartbeats 2000000 in
set_option maxRecDepth 100000 in
theorem toneText_impl (a b c : Int) (ha : 0 ≤ a ∧ a ≤ 255) (hb : 0 ≤ b ∧ b ≤ 255) (hc : 0 ≤ c ∧ c ≤ 255) (w : World) :
    Calls Try.prog 48 #[.agg #[.int .u8 a, .int .u8 b, .int .u8 c]] w fun e w' => e = .returned (.string (toneText a b c)) ∧ New w w' := by
  have hst : ∀ W : World, obj W w.heap.size = some (.cells #[.int .u8 a, .int .u8 b, .int .u8 c] 40) → (convert 61 9 (.slice (some ⟨w.heap.size, 0, none⟩) 3 3)).run Try.prog W = .ok (.string (bstr [a, b, c])) W := fun W hW => run_string (P := Try.prog) slBytes.1 Try.underlying5 Try.underlying9 hW rfl (fun j hj => by
    match j, hj with
    | 0, _ => rfl
    | 1, _ => rfl
    | 2, _ => rfl)
  have hsz : (bstr [a, b, c]).size = 3 := rfl
  have hhx : hexUpto (byteAt (bstr [a, b, c])) 3 = hexUpto (sel a b c) 3 := by
    have e0 : byteAt (bstr [a, b, c]) 0 = a := by
      show ((UInt8.ofNat a.toNat).toNat : Int) = a
      simp; omega
    have e1 : byteAt (bstr [a, b, c]) 1 = b := by
      show ((UInt8.ofNat b.toNat).toNat : Int) = b
      simp; omega
    have e2 : byteAt (bstr [a, b, c]) 2 = c := by
      show ((UInt8.ofNat c.toNat).toNat : Int) = c
      simp; omega
    simp only [hexUpto, e0, e1, e2]
    rfl
  have hcat : (⟨#[35]⟩ : ByteArray) ++ bstr (hexUpto (sel a b c) 3) = toneText a b c := by
    unfold toneText bstr
    rw [ByteArray.ext_iff]
    simp [bytesOf]
  go_enter Try.func48, Try.ntmps48
  go_wp2_with (fail)
  refine (inHex_any _ (by rw [hsz]; omega) _).mono ?_
  rintro e1 w1 ⟨rfl, hn1⟩
  rw [hsz, hhx]
  clear hhx hsz hst
  go_wp2_with (fail)
  go_ret
  refine ⟨?_, ?_⟩
  · simp
  · exact ((New.refl w).alloc _).trans hn1
end Go.Proofs.Ytmiafnlaooggjaa
