/- The text of a palette: the reference and the program answer alike; no condition. -/
import Derived.Test.YtmiafnlaooggjaaJoi
import Derived.Test.YtmiafnlaooggjaaToneText
import Derived.Test.YtmiafnlaooggjaaVpal
import Derived.Test.YtmiafnlaooggjaaNear
import Derived.Test.YtmiafnlaooggjaaSlc
set_option linter.unusedVariables false
namespace Go.Proofs.Ytmiafnlaooggjaa
open Go.BigFrame
open Go.RowKit Go.Arr
theorem slStrs : SlTy Try.prog 72 9 (.string ByteArray.empty) 1 16 := ⟨Try.underlying72, by kernel_rfl, rfl, by omega⟩
/-- texts, in memory of the call's own -/
def TRow (W : World) (base : Nat) (v : Value) (n : Nat) (s : Nat → ByteArray) : Prop := W.ownsRow base 9 1 v n ((List.range n).map fun i => Value.string (s i))
section
variable {W W' : World} {base n : Nat} {v : Value} {s s' : Nat → ByteArray}
theorem TRow.new (h : TRow W base v n s) (hn : New W W') : TRow W' base v n s := own_new h hn
theorem TRow.form (h : TRow W base v n s) : ∃ a cap, v = .slice a n cap := by
  obtain ⟨hl, h | ⟨g, cap, cur, h1, _⟩⟩ := h
  · exact ⟨none, 0, by rw [h.2]; exact h.1⟩
  · exact ⟨_, _, h1⟩
theorem TRow.block (h : TRow W base v n s) : ∀ b, v.ownBlock = some b → base ≤ b ∧ b < W.heap.size := h.lt
theorem TRow.empty {g : Nat} (h : obj W g = some (.cells #[] 9)) (hb : base ≤ g) : TRow W base (.slice (some ⟨g, 0, none⟩) 0 0) 0 s :=
  ⟨by simp, .inr ⟨g, 0, #[], rfl, hb, h, by omega, by omega, rfl, by simp⟩⟩
theorem trow_app {g cap : Nat} (h : W'.ownsRow base 9 1 (.slice (some ⟨g, 0, none⟩) (n + 1) cap) (n + 1) ((List.range n).map (fun i => Value.string (s i)) ++ [.string (s n)])) : TRow W' base (.slice (some ⟨g, 0, none⟩) (n + 1) cap) (n + 1) s := by
  unfold TRow
  rw [List.range_succ, List.map_append, List.map_singleton]
  exact h
theorem TRow.cells {bk o c : Nat} (h : TRow W base (.slice (some ⟨bk, o, none⟩) n c) n s) : ∀ (j : Nat) x, ((List.range n).map s)[j]? = some x → W.cell? ⟨bk, o + j, none⟩ = some (.string x) := by
  intro j x hx
  obtain ⟨hl, h' | ⟨g, cap, cur, h1, h2, h3, h4, h5, h6, h7⟩⟩ := h
  · cases h'.1
  · simp only [Value.slice.injEq, Option.some.injEq, Addr.mk.injEq, and_true] at h1
    obtain ⟨⟨rfl, rfl⟩, _, rfl⟩ := h1
    have hj : j < n := by
      rcases Nat.lt_or_ge j n with h | h
      · exact h
      · rw [List.getElem?_eq_none (by simpa using h)] at hx; cases hx
    have e : (cur.toList.take (n * 1))[j]? = ((List.range n).map fun i => Value.string (s i))[j]? := by rw [h7]
    rw [Nat.mul_one, List.getElem?_take, if_pos hj, Array.getElem?_toList] at e
    rw [cell_obj, show obj W bk = _ from h3, cellOf_cells, Nat.zero_add, e]
    simp [hj] at hx ⊢
    exact hx
end
/-- a tone's text; a palette's -/
def ttL (f : Nat → Int) (i : Nat) : List Int := 35 :: hexUpto (sel (f (i * 3)) (f (i * 3 + 1)) (f (i * 3 + 2))) 3
def palL (f : Nat → Int) : Nat → List Int
  | 0 => []
  | k + 1 => (if k = 0 then [] else palL f k ++ [32]) ++ ttL f k
theorem ttL_text (f : Nat → Int) (i : Nat) : toneText (f (i * 3)) (f (i * 3 + 1)) (f (i * 3 + 2)) = bstr (ttL f i) := rfl
theorem length_ttL (f : Nat → Int) (i : Nat) : (ttL f i).length = 7 := by unfold ttL; simp [length_hexUpto]
theorem palL_s (f : Nat → Int) {k : Nat} (h : 0 < k) : palL f (k + 1) = palL f k ++ [32] ++ ttL f k := by rw [palL, if_neg (by omega)]
theorem length_palL (f : Nat → Int) (k : Nat) : (palL f k).length ≤ 8 * k := by
  induction k with
  | zero => simp [palL]
  | succ k ih =>
    rw [palL, List.length_append, length_ttL]
    split
    · simp
      omega
    · simp only [List.length_append, List.length_singleton]; omega
theorem bstr_cat (l m : List Int) : bstr l ++ bstr m = bstr (l ++ m) := by
  unfold bstr
  rw [ByteArray.ext_iff]
  simp [bytesOf]
theorem data_bstr (l : List Int) : (bstr l).data.toList = bytesOf l := by simp [bstr]
theorem size_bs (l : List Int) : (bstr l).size = l.length := by unfold bstr; simp [bytesOf, ByteArray.size]
theorem join_snoc (xs : List (List UInt8)) (y sep : List UInt8) (h : xs ≠ []) : Lib.join (xs ++ [y]) sep = Lib.join xs sep ++ sep ++ y := by
  cases xs with
  | nil => exact absurd rfl h
  | cons x r =>
    rw [List.cons_append, Lib.join_cons, Lib.join_cons]
    simp [Lib.joinTail]
theorem join_palL (f : Nat → Int) (n : Nat) : Lib.join (((List.range n).map fun i => bstr (ttL f i)).map (·.data.toList)) [32] = bytesOf (palL f n) := by
  induction n with
  | zero => rfl
  | succ n ih =>
    rw [List.range_succ, List.map_append, List.map_append, List.map_singleton, List.map_singleton]
    by_cases h : n = 0
    · subst h
      simp [Lib.join_one, palL, data_bstr]
    · rw [join_snoc _ _ _ (by simp; omega), ih, palL_s f (by omega), data_bstr]
      simp [bytesOf]
def ptA (n : Nat) (f : Nat → Int) : ByteArray := if okPal n f = true then bstr (palL f n) else ⟨#[]⟩
set_option maxHeartbeats 2000000 in
set_option maxRecDepth 100000 in
theorem l02Text_any (a : Option Addr) (n c : Nat) (f : Nat → Int) (hf : ∀ i, 0 ≤ f i ∧ f i ≤ 255) (hn : 0 < n ∧ n ≤ 15) (W : World) (hs : Sl W (.slice a n c) n 3 .u8 f) :
    Calls Try.prog 45 #[.slice a n c] W fun e w' => e = .returned (.string (bstr (palL f n))) ∧ New W w' := by
  obtain ⟨g, off, cur, t, fr, rfl, o1, hx⟩ := elsPal hs hn.1
  have hx := hide hx
  have q1 := obj_lt o1
  have x0 := (hx.out 0 hn.1).1
  have l0 := (hx.out 0 hn.1).2
  have e0 : Hid (toneText (f (0 * 3)) (f (0 * 3 + 1)) (f (0 * 3 + 2)) = bstr (palL f 1)) := by show _ = _; rw [ttL_text]; rfl
  clear hs
  simp only [Nat.zero_mul, Nat.add_zero, Nat.zero_add] at x0 l0 e0
  go_enter Try.func45, Try.ntmps45
  go_wp2_with (fail)
  refine (toneText_spec0 _ _ _ (hf _) (hf _) (hf _) _).mono ?_
  rintro e w1 ⟨rfl, hn1⟩
  rw [e0.out]
  have o2 := (hn1.objs _ q1).trans o1
  clear x0 l0 e0
  go_wp2_with (fail)
  go_loopw [3, 4] (fun s x wr => ∃ k : Nat, 0 < k ∧ k ≤ n ∧ x = .int .i64 k ∧ s = .string (bstr (palL f k)) ∧ New W wr) (fun _ x _ => n - (intOf x).toNat)
  case atStart => exact ⟨1, by omega, by omega, rfl, rfl, hn1⟩
  case round =>
    obtain ⟨k, hk0, hk, rfl, rfl, hnw⟩ := hrel
    by_cases hlt : k < n
    · have p1 := (hnw.objs _ q1).trans o1
      have x1 := (hx.out k hlt).1
      have l1 := (hx.out k hlt).2
      have r1 := obj_lt p1
      have hst : Hid (bstr (palL f k) ++ (⟨#[32]⟩ ++ toneText (f (k * 3)) (f (k * 3 + 1)) (f (k * 3 + 2))) = bstr (palL f (k + 1))) := by
        show _ = _
        rw [ttL_text, show (⟨#[32]⟩ : ByteArray) = bstr [32] from rfl, bstr_cat, bstr_cat, palL_s f hk0, List.append_assoc]
      have tsz : (toneText (f (k * 3)) (f (k * 3 + 1)) (f (k * 3 + 2))).size = 7 := by rw [ttL_text, size_bs, length_ttL]
      have psz : (bstr (palL f k)).size ≤ 8 * k := by rw [size_bs]; exact length_palL f k
      clear o1 o2
      go_wp2_with (fail)
      refine (toneText_spec0 _ _ _ (hf _) (hf _) (hf _) _).mono ?_
      rintro e w2 ⟨rfl, hn2⟩
      go_wp2_with (fail)
      go_roundw
      case rel => exact ⟨k + 1, by omega, by omega, by go_num, by rw [← hst.out], hnw.trans hn2⟩
      case measure => simp [intOf]; omega
    · obtain rfl : k = n := by omega
      go_wp2_with (fail)
      go_ret
      exact ⟨rfl, hnw⟩
set_option maxHeartbeats 2000000 in
set_option maxRecDepth 100000 in
theorem palText_spec (a : Option Addr) (n c : Nat) (f : Nat → Int) (hf : ∀ i, 0 ≤ f i ∧ f i ≤ 255) (hn : n ≤ 1048576) (W : World) (hs : Sl W (.slice a n c) n 3 .u8 f) :
    Calls Try.prog 11 #[.slice a n c] W fun e w' => e = .returned (.string (ptA n f)) ∧ New W w' := by
  cases h : okPal n f
  · have hA : Hid (ptA n f = ⟨#[]⟩) := if_neg (by rw [h]; simp)
    go_enter Try.func11, Try.ntmps11
    go_wp2_with (fail)
    refine (validPal_spec a n c f hn _ hs).mono ?_
    rintro e w1 ⟨rfl, hn1⟩
    rw [h]
    go_wp2_with (fail)
    go_ret
    exact ⟨by rw [hA.out]; rfl, hn1⟩
  · have hA : Hid (ptA n f = bstr (palL f n)) := if_pos h
    have hp := okPal_pos h
    go_enter Try.func11, Try.ntmps11
    go_wp2_with (fail)
    refine (validPal_spec a n c f hn _ hs).mono ?_
    rintro e w1 ⟨rfl, hn1⟩
    rw [h]
    go_wp2_with (fail)
    refine (l02Text_any a n c f hf hp _ (hs.new hn1)).mono ?_
    rintro e w2 ⟨rfl, hn2⟩
    go_wp2_with (fail)
    go_ret
    exact ⟨by rw [hA.out]; rfl, hn1.trans hn2⟩
set_option maxHeartbeats 2000000 in
set_option maxRecDepth 100000 in
theorem palText_impl (a : Option Addr) (n c : Nat) (f : Nat → Int) (hf : ∀ i, 0 ≤ f i ∧ f i ≤ 255) (hn : n ≤ 1048576) (hc : n ≤ c) (W : World) (hs : Sl W (.slice a n c) n 3 .u8 f) :
    Calls Try.prog 13 #[.slice a n c] W fun e w' => e = .returned (.string (ptA n f)) ∧ New W w' := by
  cases h : okPal n f
  · have hA : Hid (ptA n f = ⟨#[]⟩) := if_neg (by rw [h]; simp)
    go_enter Try.func13, Try.ntmps13
    go_wp2_with (fail)
    refine (validPal_impl a n c f hn hc _ hs).mono ?_
    rintro e w1 ⟨rfl, hn1⟩
    rw [h]
    go_wp2_with (fail)
    go_ret
    exact ⟨by rw [hA.out]; rfl, hn1⟩
  · have hA : Hid (ptA n f = bstr (palL f n)) := if_pos h
    have hp := okPal_pos h
    have hjl : (Lib.join (((List.range n).map fun i => bstr (ttL f i)).map (·.data.toList)) (⟨#[32]⟩ : ByteArray).data.toList).length ≤ 140737488355328 := by
      show (Lib.join (((List.range n).map fun i => bstr (ttL f i)).map (·.data.toList)) [32]).length ≤ _
      rw [join_palL]
      have := length_palL f n
      simp [bytesOf]
      omega
    have hje : (⟨(Lib.join (((List.range n).map fun i => bstr (ttL f i)).map (·.data.toList)) (⟨#[32]⟩ : ByteArray).data.toList).toArray⟩ : ByteArray) = bstr (palL f n) := by
      show (⟨(Lib.join (((List.range n).map fun i => bstr (ttL f i)).map (·.data.toList)) [32]).toArray⟩ : ByteArray) = _
      rw [join_palL]
      rfl
    have hjl := hide hjl
    have hje := hide hje
    obtain ⟨g, off, cur, t, fr, rfl, o1, hx⟩ := elsPal hs hp.1
    have hx := hide hx
    have q1 := obj_lt o1
    go_enter Try.func13, Try.ntmps13
    go_wp2_with (fail)
    refine (validPal_impl _ n c f hn hc _ hs).mono ?_
    rintro e w1 ⟨rfl, hn1⟩
    rw [h]
    clear h hs
    have hz1 := hn1.le
    go_wp2_with (fail)
    go_loopw [3, 12] (fun v x wr => ∃ k : Nat, k ≤ n ∧ x = .int .i64 k ∧ TRow wr W.heap.size v k (fun i => bstr (ttL f i)) ∧ New W wr) (fun _ x _ => n - (intOf x).toNat)
    case atStart => exact ⟨0, by omega, rfl, TRow.empty (obj_alloc_at _ _ _ (by simp)) (by omega), hn1.alloc _⟩
    case round =>
      obtain ⟨k, hk, rfl, hrow, hnw⟩ := hrel
      by_cases hlt : k < n
      · have p1 := (hnw.objs _ q1).trans o1
        have x1 := (hx.out k hlt).1
        have l1 := (hx.out k hlt).2
        have r1 := obj_lt p1
        have hzw := hnw.le
        clear o1
        go_wp2_with (fail)
        refine (toneText_impl _ _ _ (hf _) (hf _) (hf _) _).mono ?_
        rintro e w2 ⟨rfl, hn2⟩
        rw [ttL_text]
        have hrow2 := (hrow.new ((New.refl _).alloc (Obj.cells #[.int .u8 (f (k * 3)), .int .u8 (f (k * 3 + 1)), .int .u8 (f (k * 3 + 2))] 40))).new hn2
        have hN2 := (hnw.alloc (Obj.cells #[.int .u8 (f (k * 3)), .int .u8 (f (k * 3 + 1)), .int .u8 (f (k * 3 + 2))] 40)).trans hn2
        have hbk := hrow2.block
        have hz2 := hN2.le
        obtain ⟨x3, y3, rfl⟩ := hrow.form
        clear hrow hn2 p1
        go_wp2_with (at_builtin; refine wpList_app slStrs rfl _ _ rfl W.heap.size _ _ _ rfl (hrow2.new ((New.refl _).alloc _)) ⟨w2.heap.size, 0, none⟩ 1 1 [.string (bstr (ttL f k))] rfl rfl (news_new _ _ _ _ _ rfl) (by simp [Value.oneCell']) (by omega) (by unfold maxLen; omega) (by omega) (by simp; omega) ?_)
        intro g1 cap1 w3 hown1 hg1 hat1 hlt1
        have hrow3 := trow_app hown1
        have hN3 : New W w3 := grown_new (hN2.alloc _) hg1 fun b hb => (hbk b hb).1
        clear hown1 hg1 hat1 hrow2
        go_wp2_with (fail)
        go_roundw
        case rel => exact ⟨k + 1, by omega, by go_num, hrow3, hN3⟩
        case measure => simp [intOf]; omega
      · obtain rfl : k = n := by omega
        obtain ⟨x3, y3, rfl⟩ := hrow.form
        obtain ⟨bk, rfl⟩ : ∃ bk, x3 = some ⟨bk, 0, none⟩ := by
          obtain ⟨hl, h' | ⟨g', cap, cur', h1, _⟩⟩ := hrow
          · omega
          · simp only [Value.slice.injEq] at h1; exact ⟨g', h1.1⟩
        have hcap : k ≤ y3 := by
          obtain ⟨hl, h' | ⟨g', cap, cur', h1, h2, h3, h4, _⟩⟩ := hrow
          · omega
          · simp only [Value.slice.injEq] at h1; omega
        have hcl := hide hrow.cells
        have hbk := (hrow.block bk rfl).2
        have hln : ((List.range k).map fun i => bstr (ttL f i)).length = k := by simp
        go_wp2_with (fail)
        have hj := join_any bk 0 y3 ((List.range k).map fun i => bstr (ttL f i)) ⟨#[32]⟩ wr hcl.out hbk (by rw [hln]; omega) (by rw [hln]; exact hcap) hjl.out
        rw [hln, hje.out] at hj
        refine hj.mono ?_
        rintro e w4 ⟨rfl, hn4⟩
        go_wp2_with (fail)
        go_ret
        exact ⟨by rw [hA.out]; rfl, hnw.trans hn4⟩
end Go.Proofs.Ytmiafnlaooggjaa
