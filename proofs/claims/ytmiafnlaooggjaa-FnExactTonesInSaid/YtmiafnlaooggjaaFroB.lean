/- A picture from a stock of tones: what the program returns; no condition. -/
import Derived.Test.YtmiafnlaooggjaaFroS
import Derived.Test.YtmiafnlaooggjaaImOf
import Derived.Test.YtmiafnlaooggjaaDraw
set_option linter.unusedVariables false
namespace Go.Proofs.Ytmiafnlaooggjaa
open Go.BigFrame
open Go.RowKit Go.Arr
set_option maxHeartbeats 1000000 in
set_option maxRecDepth 100000 in
theorem clone_any (ad : Option Addr) (n c : Nat) (z : Nat → Int) (hp : 0 < n) (hn : n ≤ 1048576) (W : World) (hs : Sl W (.slice ad n c) n 1 .i64 z) :
    Calls Try.prog 89 #[.slice ad n c] W fun e w' => ∃ g cap, e = .returned (.slice (some ⟨g, 0, none⟩) n cap) ∧ Own w' g n z ∧ W.heap.size ≤ g ∧ New W w' := by
  obtain ⟨gs, offs, curs, ts, frs, rfl, o5, hel5⟩ := elInts hs hp
  have r5 := obj_lt o5
  have heq := fun w' : World => Lib.run_eql_slice_nil (P := Try.prog) w' 47 2 (some ⟨gs, offs, none⟩) n c 0 0 Try.underlying47
  go_enter Try.func89, Try.ntmps89
  go_wp2_with (at_builtin; refine wpList_app slInts rfl _ _ rfl W.heap.size (.slice (some ⟨W.heap.size, 0, none⟩) 0 0) 0 [] rfl (row_empty2 (f := z) (obj_alloc_at _ _ _ rfl) (Nat.le_refl _)) ⟨gs, offs, none⟩ n c (irow n .i64 z) rfl (by simp) (news_sl ((obj_alloc_past _ _ _ r5).trans o5) hel5) irow_one (by omega) (by unfold maxLen; omega) (by omega) (by simp) ?_)
  intro g1 cap1 w2 hown hg2 hat hlt2
  try simp only [Nat.zero_add, List.nil_append] at hown
  try simp only [Nat.zero_add]
  have hrow : Row w2 W.heap.size (.slice (some ⟨g1, 0, none⟩) n cap1) n z := hown
  obtain ⟨g2, cap2, he2, hg2b, hOwn⟩ := hrow.own hp
  simp only [Value.slice.injEq, Option.some.injEq, Addr.mk.injEq, and_true] at he2
  obtain ⟨rfl, _, rfl⟩ := he2
  have hn2 : New W w2 := grown_new ((New.refl W).alloc _) hg2 fun b hb => by simp [Value.ownBlock] at hb; omega
  clear hown hg2 hat hrow
  go_wp2_with (fail)
  go_ret
  exact ⟨g1, cap1, rfl, hOwn, hg2b, hn2⟩
def badB (s n : Nat) (st : Nat → Int) : Bool := !(decide (s = n) && inStock s st)
theorem badB_t {s n : Nat} {st : Nat → Int} (h : badB s n st = true) : ¬ s = n ∨ inStock s st = false := by
  unfold badB at h
  by_cases h1 : s = n <;> cases h2 : inStock s st <;> simp_all
theorem badB_f {s n : Nat} {st : Nat → Int} (h : badB s n st = false) : s = n ∧ inStock s st = true := by
  unfold badB at h
  by_cases h1 : s = n <;> cases h2 : inStock s st <;> simp_all
theorem fsT (fm fp : Nat → Int) (n : Nat) (st : Nat → Int) (a b : Int) : recT (stepF fm fp n) (some (fun _ => 0, st)) (selG (cellN a b) 144) (selN (cellN a b) 144) = fsS fm fp n st a b 144 := rec_eq (Nat.le_refl _)
end Go.Proofs.Ytmiafnlaooggjaa
