/- The picture of an image with the tones of a palette: the reference and the program answer alike; no condition. -/
import Derived.Test.YtpofhbdnjecfjaaSel
import Derived.Test.YtpofhbdnjecfjaaNear
import Derived.Test.YtpofhbdnjecfjaaInts
set_option linter.unusedVariables false
namespace Go.Proofs.Ytpofhbdnjecfjaa
open Go.BigFrame
open Go.RowKit Go.Arr
set_option maxHeartbeats 2000000 in
set_option maxRecDepth 100000 in
theorem cells_any (a b : Int) (f : Nat → Int) (ha : -128 ≤ a ∧ a ≤ 127) (hb : -128 ≤ b ∧ b ≤ 127) (w : World) :
    Calls Try.prog 29 #[.agg (pic 432 a b f)] w fun e w' => ∃ v, e = .returned v ∧ Row w' w.heap.size v (selN (cellN a b) 144) (fun j => (selG (cellN a b) 144 j : Int)) ∧ New w w' := by
  go_enter Try.func29, Try.ntmps29
  go_wp2_with (fail)
  go_loopw [3, 6] (fun v i wr => ∃ k : Nat, k ≤ 144 ∧ i = .int .i64 k ∧ Row wr (w.heap.size + 1) v (selN (cellN a b) k) (fun j => (selG (cellN a b) k j : Int)) ∧ Hid (obj wr w.heap.size = some (.cells (pic 432 a b f) 37)) ∧ New w wr ∧ w.heap.size + 1 ≤ wr.heap.size) (fun _ i _ => 144 - (intOf i).toNat)
  case atStart =>
    refine ⟨0, by omega, rfl, row_empty2 (by go_simp) (by omega), ?_, ?_, by simp⟩
    · show _ = _
      go_simp
    · exact ((New.refl w).alloc _).alloc _
  case round =>
    obtain ⟨k, hk, rfl, hrow, hp1, hn, hlw⟩ := hrel
    have hp := hp1.out
    by_cases hlt : k < 144
    · have hcc : isCellB ((k : Int) % 12) ((k : Int) / 12) a b = cellB k a b := cell_isCell k hlt a b
      cases hc : cellB k a b
      · have e1 : Hid (selN (cellN a b) (k + 1) = selN (cellN a b) k) := selN_f hc
        have e2 : Hid (selG (cellN a b) (k + 1) = selG (cellN a b) k) := selG_f hc
        rw [hc] at hcc
        clear hc
        go_wp2_with (go_at_call 31; refine (isCell_any _ _ _ _ ha hb _).mono ?_; rintro e w' ⟨rfl, rfl⟩; rw [hcc])
        go_roundw
        case rel => exact ⟨k + 1, by omega, by go_num, by rw [e1.out, e2.out]; exact hrow, hp1, hn, hlw⟩
        case measure => simp [intOf]; omega
      · have e1 : Hid (selN (cellN a b) (k + 1) = selN (cellN a b) k + 1) := selN_t hc
        have e2 : Hid (selG (cellN a b) (k + 1) = fun j => if j = selN (cellN a b) k then k else selG (cellN a b) k j) := selG_t hc
        have hle := selN_le (p := cellN a b) k
        rw [hc] at hcc
        clear hc
        go_wp2_with (first | (go_at_call 31; refine (isCell_any _ _ _ _ ha hb _).mono ?_; rintro e w' ⟨rfl, rfl⟩; rw [hcc]) | (at_builtin; refine wpList_app slInts rfl _ _ rfl (w.heap.size + 1) _ _ _ rfl (hrow.new ((New.refl _).alloc _)) ⟨wr.heap.size, 0, none⟩ 1 1 [.int .i64 k] rfl rfl (news_new _ _ _ _ _ rfl) (by simp [Value.oneCell']) (by omega) (by unfold maxLen; omega) (by omega) (by simp; omega) ?_))
        intro g1 cap1 w1 hown1 hg1 hat1 hlt1
        have hbk := hrow.block
        have hne1 : ∀ b, b < w.heap.size + 1 → some b ≠ u3.ownBlock := fun b hb e => by have := hbk b e.symm; omega
        have hn1 : New w w1 := grown_new (hn.alloc _) hg1 fun b hb => by have := hbk b hb; omega
        have hp' := hide ((grown_obj hg1 _ (by simp; omega) (hne1 _ (by omega))).trans ((obj_alloc_past _ _ _ (by omega)).trans hp))
        have hr1 := row_app2 hown1
        have hlw1 := grown_le hg1
        simp at hlw1
        clear hown1 hg1 hat1 hrow hp hn hp1
        go_wp2_with (fail)
        go_roundw
        case rel =>
          refine ⟨k + 1, by omega, by go_num, ?_, hp', hn1, by omega⟩
          rw [e1.out, e2.out]
          refine hr1.congr fun j hj => ?_
          unfold upd
          dsimp only
          by_cases e : j = selN (cellN a b) k
          · rw [if_pos e, if_pos e]
          · rw [if_neg e, if_neg e]
        case measure => simp [intOf]; omega
    · obtain rfl : k = 144 := by omega
      go_wp2_with (fail)
      go_ret
      exact ⟨_, rfl, hrow.lower (by omega), hn⟩
/-- one cell of the picture -/
def nearC (n : Nat) (fp fm : Nat → Int) (i : Nat) : Int := (nearK fp (fm (i * 3)) (fm (i * 3 + 1)) (fm (i * 3 + 2)) n).1 + 1
def stepP (n : Nat) (fp fm : Nat → Int) (q : Nat → Int) (i : Nat) : Nat → Int := upd q i (nearC n fp fm i)
def picS (n : Nat) (fp fm : Nat → Int) (a b : Int) : Nat → Nat → Int := recS (stepP n fp fm) (fun _ => 0) (cellN a b)
theorem nearC_b (n : Nat) (fp fm : Nat → Int) (i : Nat) (hn : n ≤ 15) : 0 ≤ nearC n fp fm i ∧ nearC n fp fm i ≤ 16 := by
  have := nearK_le fp (fm (i * 3)) (fm (i * 3 + 1)) (fm (i * 3 + 2)) n
  unfold nearC
  omega
def askOk (a b : Int) (fm : Nat → Int) (n : Nat) (fp : Nat → Int) : Bool := okImg a b fm && okPal n fp
set_option maxHeartbeats 1000000 in
theorem l02Asked_any (gm : Nat) (t0 : TypeId) (a b : Int) (fm : Nat → Int) (ha : -128 ≤ a ∧ a ≤ 127) (hb : -128 ≤ b ∧ b ≤ 127) (ad : Option Addr) (n c : Nat) (fp : Nat → Int) (hn : n ≤ 1048576) (W : World) (om : obj W gm = some (.cells (pic 432 a b fm) t0)) (hs : Sl W (.slice ad n c) n 3 .u8 fp) :
    Calls Try.prog 18 #[.pointer (some ⟨gm, 0, none⟩), .slice ad n c] W fun e w' => e = .returned (.int .i64 (if askOk a b fm n fp = true then 0 else 1)) ∧ New W w' := by
  unfold askOk
  cases h1 : okImg a b fm
  · go_enter Try.func18, Try.ntmps18
    go_wp2_with (fail)
    refine (l02Image_any _ t0 a b fm ha hb _ om).mono ?_
    rintro e w1 ⟨rfl, rfl⟩
    rw [h1]
    go_wp2_with (fail)
    go_ret
    exact ⟨rfl, New.refl _⟩
  cases h2 : okPal n fp
  all_goals
    go_enter Try.func18, Try.ntmps18
    go_wp2_with (fail)
    refine (l02Image_any _ t0 a b fm ha hb _ om).mono ?_
    rintro e w1 ⟨rfl, rfl⟩
    rw [h1]
    go_wp2_with (fail)
    refine (validPal_spec _ n _ fp hn _ hs).mono ?_
    rintro e w1 ⟨rfl, hn1⟩
    rw [h2]
    go_wp2_with (fail)
    go_ret
    exact ⟨rfl, hn1⟩
def pofA (a b : Int) (fm : Nat → Int) (n : Nat) (fp : Nat → Int) : Array Value := if askOk a b fm n fp = true then pic 144 a b (picS n fp fm a b 144) else pic 144 0 0 fun _ => 0
def pofC (a b : Int) (fm : Nat → Int) (n : Nat) (fp : Nat → Int) : Int := if askOk a b fm n fp = true then 0 else 1
theorem pof_t {a b : Int} {fm : Nat → Int} {n : Nat} {fp : Nat → Int} (h : askOk a b fm n fp = true) : pofA a b fm n fp = pic 144 a b (picS n fp fm a b 144) ∧ pofC a b fm n fp = 0 := ⟨if_pos h, if_pos h⟩
theorem pof_f {a b : Int} {fm : Nat → Int} {n : Nat} {fp : Nat → Int} (h : askOk a b fm n fp = false) : (pofA a b fm n fp = pic 144 0 0 fun _ => 0) ∧ pofC a b fm n fp = 1 := ⟨if_neg (by simp [h]), if_neg (by simp [h])⟩
theorem askOk_e {a b : Int} {fm : Nat → Int} {n : Nat} {fp : Nat → Int} (h : askOk a b fm n fp = true) : okImg a b fm = true ∧ okPal n fp = true := by
  unfold askOk at h
  exact Bool.and_eq_true _ _ ▸ h
theorem picT (n : Nat) (fp fm : Nat → Int) (a b : Int) : recT (stepP n fp fm) (fun _ => 0) (selG (cellN a b) 144) (selN (cellN a b) 144) = picS n fp fm a b 144 := rec_eq (Nat.le_refl _)
end Go.Proofs.Ytpofhbdnjecfjaa
