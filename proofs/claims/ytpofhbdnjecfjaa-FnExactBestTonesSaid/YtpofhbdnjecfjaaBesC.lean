/- All lists of so many colours, by the program; no condition. -/
import Derived.Test.YtpofhbdnjecfjaaBesP
import Derived.Test.YtpofhbdnjecfjaaRRow
import Derived.Test.YtpofhbdnjecfjaaGrw
set_option linter.unusedVariables false
namespace Go.Proofs.Ytpofhbdnjecfjaa
open Go.BigFrame
open Go.RowKit Go.Arr
/-- the lists, each in memory of its own -/
def LR (W : World) (base : Nat) (v : Value) (vs : Nat → Value) (ls : List (List Int)) : Prop := RR W base v ls.length vs (fun i => (ls.getD i []).length) fun i => fn (ls.getD i [])
theorem RR.congr3 {W : World} {base n n' : Nat} {v : Value} {vs : Nat → Value} {m m' : Nat → Nat} {F F' : Nat → Nat → Int} (h : RR W base v n vs m F) (hn : n = n') (hm : ∀ i, i < n → m i = m' i) (hF : ∀ i, i < n → F i = F' i) : RR W base v n' vs m' F' := by
  subst hn
  exact ⟨h.1, fun i hi => by rw [← hm i hi, ← hF i hi]; exact h.2.1 i hi, h.2.2.1, h.2.2.2⟩
theorem LR.of_app {W : World} {base k : Nat} {v r : Value} {vs : Nat → Value} {ls : List (List Int)} {l : List Int} (h : RR W base v (ls.length + 1) (fun i => if i = ls.length then r else vs i) (fun i => if i = ls.length then k else (ls.getD i []).length) (fun i => if i = ls.length then fn l else fn (ls.getD i []))) (hk : l.length = k) : LR W base v (fun i => if i = ls.length then r else vs i) (ls ++ [l]) := by
  have hg : ∀ i, i < ls.length + 1 → (ls ++ [l]).getD i [] = if i = ls.length then l else ls.getD i [] := fun i hi => by
    rw [List.getD_eq_getElem?_getD, List.getD_eq_getElem?_getD, List.getElem?_append]
    by_cases e : i = ls.length
    · subst e; simp
    · rw [if_pos (by omega), if_neg e]
  refine RR.congr3 h (by simp) (fun i hi => ?_) fun i hi => ?_
  · rw [hg i hi]
    by_cases e : i = ls.length
    · rw [if_pos e, if_pos e, hk]
    · rw [if_neg e, if_neg e]
  · rw [hg i hi]
    by_cases e : i = ls.length
    · rw [if_pos e, if_pos e]
    · rw [if_neg e, if_neg e]
/-- how many there can be -/
theorem chL_len (m : Nat) : ∀ c n, (chL m c n).length ≤ 2 ^ (n + 1 - c) := by
  induction m with
  | zero => intro c n; simp [chL]; exact Nat.one_le_two_pow
  | succ m ih =>
    intro c n
    have h : ∀ K, K ≤ n + 1 - c → ((List.range K).flatMap fun i => (chL m (c + i + 1) n).map fun l => ((c + i : Nat) : Int) :: l).length + 2 ^ (n + 1 - c - K) ≤ 2 ^ (n + 1 - c) := by
      intro K
      induction K with
      | zero => intro _; simp
      | succ K ihK =>
        intro hK
        have h1 := ihK (by omega)
        have h2 := ih (c + K + 1) n
        rw [List.range_succ, List.flatMap_append, List.length_append]
        simp only [List.flatMap_cons, List.flatMap_nil, List.append_nil, List.length_map]
        rw [show n + 1 - c - K = (n + 1 - c - (K + 1)) + 1 by omega, Nat.pow_succ] at h1
        rw [show n + 1 - (c + K + 1) = n + 1 - c - (K + 1) by omega] at h2
        omega
    have := h (n + 1 - c) (Nat.le_refl _)
    unfold chL
    exact Nat.le_trans (Nat.le_add_right _ _) this
theorem chL_lenA (m c n K : Nat) (hK : K ≤ n + 1 - c) : ((List.range K).flatMap fun i => (chL m (c + i + 1) n).map fun l => ((c + i : Nat) : Int) :: l).length ≤ 2 ^ (n + 1 - c) := by
  have h := chL_len (m + 1) c n
  have e : (chL (m + 1) c n).length = ((List.range K).flatMap fun i => (chL m (c + i + 1) n).map fun l => ((c + i : Nat) : Int) :: l).length + (((List.range (n + 1 - c)).drop K).flatMap fun i => (chL m (c + i + 1) n).map fun l => ((c + i : Nat) : Int) :: l).length := by
    rw [chL, ← List.length_append, ← List.flatMap_append]
    congr 2
    have := List.take_append_drop K (List.range (n + 1 - c))
    rw [List.take_range, Nat.min_eq_left hK] at this
    exact this.symm
  omega
theorem row_k (W : World) (k : Int) : Row (W.alloc (Obj.cells #[.int .i64 k] 2)) W.heap.size (.slice (some ⟨W.heap.size, 0, none⟩) 1 1) 1 fun _ => k :=
  Row.of (obj_alloc_at _ _ _ rfl) (Nat.le_refl _) (Nat.le_refl _) (by unfold maxLen; omega) rfl fun j hj => by
    have h : j = 0 := by omega
    subst h
    rfl
theorem cons_irow (k : Int) (m : Nat) (l : List Int) : Value.int .i64 k :: irow m .i64 (fn l) = irow (1 + m) .i64 (fn (k :: l)) := by
  unfold irow
  rw [Nat.add_comm 1 m, List.range_succ_eq_map, List.map_cons, List.map_map]
  rfl
theorem pow_le10 {x : Nat} (h : x ≤ 11) : 2 ^ x ≤ 2048 := Nat.pow_le_pow_right (by omega) h
set_option maxHeartbeats 4000000 in
set_option maxRecDepth 100000 in
theorem choices_any (n : Nat) (hn : n ≤ 10) (m : Nat) : ∀ (c : Nat) (hc : 1 ≤ c ∧ c ≤ 12) (hm : m ≤ 10) (W : World), Calls Try.prog 40 #[.int .i64 (m : Nat), .int .i64 (c : Nat), .int .i64 (n : Nat)] W fun e w' => ∃ v vs, e = .returned v ∧ LR w' W.heap.size v vs (chL m c n) ∧ New W w' := by
  induction m with
  | zero =>
    intro c hc hm W
    go_enter Try.func40, Try.ntmps40
    go_wp2_with (fail)
    go_ret
    refine ⟨_, fun _ => .slice (some ⟨W.heap.size, 0, none⟩) 0 0, rfl, ?_, ((New.refl _).alloc _).alloc _⟩
    refine ⟨⟨by simp [chL], .inr ⟨W.heap.size + 1, 1, #[.slice (some ⟨W.heap.size, 0, none⟩) 0 0], rfl, by omega, obj_alloc_at _ _ _ (by simp), by simp [chL], by unfold maxLen; omega, rfl, rfl⟩⟩, fun i hi => ?_, fun i j b hi hj => ?_, fun i b hi hb => ?_⟩
    · have hi0 : i = 0 := by simp [chL] at hi; omega
      subst hi0
      exact row_empty2 ((obj_alloc_past _ _ _ (by simp)).trans (obj_alloc_at _ _ _ rfl)) (Nat.le_refl _)
    · simp [chL] at hi hj; omega
    · simp [Value.ownBlock] at hb ⊢; omega
  | succ m ih =>
    intro c hc hm W
    have ih' := hide ih
    clear ih
    obtain ⟨M, hM⟩ : ∃ M : Int, M = ((m + 1 : Nat) : Int) := ⟨_, rfl⟩
    rw [← hM]
    have hM1 : M - 1 = (m : Int) := by omega
    have hM0 : (M == 0) = false := by simp; omega
    have hMb : 1 ≤ M ∧ M ≤ 10 := by omega
    replace hM := hide hM
    go_enter Try.func40, Try.ntmps40
    go_wp2_with (fail)
    go_loopw [7, 8] (fun v x wr => ∃ (i k : Nat) (vs : Nat → Value), i ≤ n + 1 - c ∧ Hid (k = c + i) ∧ x = .int .i64 (k : Nat) ∧ LR wr W.heap.size v vs ((List.range i).flatMap fun i => (chL m (c + i + 1) n).map fun l => ((c + i : Nat) : Int) :: l) ∧ New W wr ∧ W.heap.size ≤ wr.heap.size) (fun _ x _ => 30 - (intOf x).toNat)
    case atStart => exact ⟨0, c, fun _ => .slice none 0 0, by omega, rfl, rfl, RR.empty (obj_alloc_at _ _ _ rfl) (Nat.le_refl _), (New.refl W).alloc _, by simp⟩
    case round =>
      obtain ⟨i, k, vs, hi, hki, rfl, hlr, hnw, hlw⟩ := hrel
      have hk1 : 1 ≤ k ∧ k ≤ 12 ∧ c ≤ k := by have := hki.out; omega
      have hA0 := chL_lenA m c n i hi
      have hA1 := pow_le10 (x := n + 1 - c) (by omega)
      generalize hAe : ((List.range i).flatMap fun i => (chL m (c + i + 1) n).map fun l => ((c + i : Nat) : Int) :: l) = A at hlr hA0
      obtain ⟨x3, y3, rfl⟩ := hlr.form
      by_cases hlt : k ≤ n
      · have hAe' := hide hAe
        clear hAe
        obtain ⟨wk, hwk⟩ : ∃ x, x = wr := ⟨_, rfl⟩
        subst hwk
        go_wp2_with (fail)
        try simp only [show decide ((k : Int) ≤ (n : Int)) = true from decide_eq_true (by omega)]
        rw [show (k : Int) + 1 = ((k + 1 : Nat) : Int) by omega]
        refine (ih'.out (k + 1) (by omega) (by omega) wk).mono ?_
        rintro e w2 ⟨v2, vs2, rfl, hX, hn2⟩
        obtain ⟨X, hXe⟩ : ∃ X, Hid (chL m (k + 1) n = X) := ⟨_, rfl⟩
        have hX0 := chL_len m (k + 1) n
        have hX1 := pow_le10 (x := n + 1 - (k + 1)) (by omega)
        have hXm : Hid (∀ l, l ∈ X → l.length = m) := fun l hl => (chL_mem m _ _ l (by rw [hXe.out]; exact hl)).1
        rw [hXe.out] at hX hX0
        obtain ⟨x4, y4, rfl⟩ := hX.form
        have hvo0 : Hid (∀ q : Nat, (Value.slice x3 A.length y3).ownBlock = some q → q < wk.heap.size ∨ w2.heap.size ≤ q) := fun q hq => Or.inl (hlr.block q hq).2
        have hlr2 := hlr.new hn2
        have hN2 := hnw.trans hn2
        have hz2 := hn2.le
        clear hlr hn2 hnw
        obtain ⟨g, hg⟩ : ∃ g : List Int → List Int, Hid (g = fun l => (k : Int) :: l) := ⟨_, rfl⟩
        go_wp2_with (fail)
        go_loopw [29, 7] (fun x v wq => ∃ (t : Nat) (vsA : Nat → Value), t ≤ X.length ∧ x = .int .i64 (t : Nat) ∧ LR wq W.heap.size v vsA (A ++ (X.take t).map g) ∧ Hid (∀ q : Nat, v.ownBlock = some q → q < wk.heap.size ∨ w2.heap.size ≤ q) ∧ Hid (∀ q, wk.heap.size ≤ q → q < w2.heap.size → obj wq q = obj w2 q) ∧ New W wq ∧ w2.heap.size ≤ wq.heap.size) (fun x _ _ => X.length - (intOf x).toNat)
        case atStart => exact ⟨0, vs, by omega, rfl, by rw [List.take_zero, List.map_nil, List.append_nil]; exact hlr2, hvo0, fun q _ _ => rfl, hN2, Nat.le_refl _⟩
        case round =>
          obtain ⟨t, vsA, ht, rfl, hlr, hvo, hkeep, hnW, hzw⟩ := hrel
          clear hlr2 hN2 hvo0
          have hlen : (A ++ (X.take t).map g).length ≤ 100000 := by rw [List.length_append, List.length_map, List.length_take]; omega
          obtain ⟨AX, hAX⟩ : ∃ AX, Hid (A ++ (X.take t).map g = AX) := ⟨_, rfl⟩
          rw [hAX.out] at hlr hlen
          obtain ⟨x5, y5, rfl⟩ := hlr.form
          by_cases htl : t < X.length
          · have hXt : X[t]? = some X[t] := List.getElem?_eq_getElem htl
            have hlm := hXm.out X[t] (List.getElem_mem htl)
            have hrow := hX.row htl
            have hgd : X.getD t [] = X[t] := by rw [List.getD_eq_getElem?_getD, hXt]; rfl
            rw [hgd, hlm] at hrow
            obtain ⟨gs, cur, rfl, os, ls, es⟩ := RR.slot hX htl
            have hbs := hX.block gs rfl
            have os2 := (hkeep.out gs hbs.1 hbs.2).trans os
            have lgs := obj_lt os2
            have hrow2 : Row wr wk.heap.size (vs2 t) m (fn X[t]) := hrow.same fun q hq => hkeep.out q (hrow.block q hq).1 (hrow.block q hq).2
            generalize hl : X[t] = l at hXt hlm hrow2
            obtain ⟨x6, y6, hv6, hrd⟩ := hrow2.reads
            rw [hv6] at es
            have hsl6 := hrow2.sl
            rw [hv6] at hsl6
            have hx6 : x6 = none ∨ ∃ g6, x6 = some ⟨g6, 0, none⟩ := by
              rcases hrow2.shape with ⟨h1, _⟩ | ⟨g6, c6, cur6, h1, _⟩
              · rw [hv6] at h1; simp only [Value.slice.injEq] at h1; exact Or.inl h1.1
              · rw [hv6] at h1; simp only [Value.slice.injEq] at h1; exact Or.inr ⟨g6, h1.1⟩
            clear hrow hgd os hrow2 hv6
            by_cases hm0 : m = 0
            · rw [hm0] at es
              rcases hx6 with hx6 | ⟨g6, hx6⟩
              all_goals subst hx6
              all_goals
                have hrowR : Row (wr.alloc (Obj.cells #[.int .i64 (k : Nat)] 2)) wr.heap.size (Value.slice (some ⟨wr.heap.size, 0, none⟩) 1 1) (m + 1) (fn ((k : Int) :: l)) := by rw [show m + 1 = 1 by omega]; exact (row_k wr k).congr fun j hj => by rw [show j = 0 by omega]; rfl
                have hnR : New wr (wr.alloc (Obj.cells #[.int .i64 (k : Nat)] 2)) := (New.refl _).alloc _
                replace hm0 := hide hm0
                have hbX2 : ∀ (j q : Nat), j < AX.length → (vsA j).ownBlock = some q → q < wr.heap.size := fun j q hj hq => ((hlr.row hj).block q hq).2
                have hbv : ∀ q : Nat, (Value.slice x5 AX.length y5).ownBlock = some q → q < wr.heap.size := fun q hq => (hlr.block q hq).2
                have hlr5 := hlr.new (hnR.trans ((New.refl _).alloc (Obj.cells #[Value.slice (some ⟨wr.heap.size, 0, none⟩) 1 1] 45)))
                have hrow6 : Row ((wr.alloc (Obj.cells #[.int .i64 (k : Nat)] 2)).alloc (Obj.cells #[Value.slice (some ⟨wr.heap.size, 0, none⟩) 1 1] 45)) W.heap.size (Value.slice (some ⟨wr.heap.size, 0, none⟩) 1 1) (m + 1) (fn ((k : Int) :: l)) := (hrowR.new ((New.refl _).alloc _)).lower (by omega)
                have hnX : New wr ((wr.alloc (Obj.cells #[.int .i64 (k : Nat)] 2)).alloc (Obj.cells #[Value.slice (some ⟨wr.heap.size, 0, none⟩) 1 1] 45)) := hnR.alloc _
                have hzX := hnX.le
                have hgr : ∀ q : Nat, (Value.slice (some ⟨wr.heap.size, 0, none⟩) 1 1).ownBlock = some q → wr.heap.size ≤ q := fun q hq => (hrowR.block q hq).1
                have hWz := hnR.le
                try simp only [World.size_alloc] at hWz
                go_wp2_with (at_builtin; refine wpList_app slRows rfl _ _ rfl W.heap.size _ _ _ rfl hlr5.1 ⟨wr.heap.size + 1, 0, none⟩ 1 1 [Value.slice (some ⟨wr.heap.size, 0, none⟩) 1 1] rfl rfl (news_new _ _ _ _ _ (by simp)) (by simp [Value.oneCell']) (by omega) (by unfold maxLen; omega) (by omega) (by simp; omega) ?_)
                intro g5 cap5 w7 hown1 hg1 hat1 hlt1
                have hrr7 := RR.app hlr5 hrow6 (fun j q hj hq h2 => by have h3 := hbX2 j q hj hq; have h4 := hgr q h2; omega) (fun q hq h2 => by have h3 := hbv q h2; have h4 := hgr q hq; omega) hown1 hg1 (hat1.imp id fun h => by first | exact Nat.le_of_eq h.symm | (simp; omega))
                have hLR7 := LR.of_app (l := (k : Int) :: l) hrr7 (by rw [List.length_cons, hlm])
                have hN7 : New W w7 := grown_new (hnW.trans hnX) hg1 fun q hq => (hlr5.block q hq).1
                have hk7 : Hid (∀ q, wk.heap.size ≤ q → q < w2.heap.size → obj w7 q = obj w2 q) := fun q h1 h2 => by
                  rw [grown_obj hg1 q (by omega) (fun e => by have h3 := hvo.out q e.symm; omega), hnX.objs q (by omega)]
                  exact hkeep.out q h1 h2
                have hvo7 : Hid (∀ q : Nat, (Value.slice (some ⟨g5, 0, none⟩) (AX.length + 1) cap5).ownBlock = some q → q < wk.heap.size ∨ w2.heap.size ≤ q) := fun q hq => by
                  simp [Value.ownBlock] at hq
                  subst hq
                  rcases hat1 with h | h
                  · exact hvo.out _ h
                  · right; (try simp at h); omega
                have hz7 := grown_le hg1
                have hst : AX ++ [(k : Int) :: l] = A ++ (X.take (t + 1)).map g := by rw [← hAX.out, List.take_add_one, hXt, List.map_append, ← List.append_assoc, hg.out]; rfl
                rw [hst] at hLR7
                clear hown1 hg1 hat1 hlr5 hrow6 hnX hrr7 hst
                go_wp2_with (fail)
                go_roundw
                case rel => exact ⟨t + 1, _, by omega, by go_num, hLR7, hvo7, hk7, hN7, by omega⟩
                case measure => simp [intOf]; omega
            · obtain ⟨gl, offl, curl, tl, frl, rfl, ol, hel⟩ := elInts hsl6 (by omega)
              have rl := obj_lt ol
              go_wp2_with (at_builtin; refine wpList_app slInts rfl _ _ rfl wr.heap.size (.slice (some ⟨wr.heap.size, 0, none⟩) 1 1) 1 [.int .i64 (k : Nat)] rfl (row_k _ _) ⟨gl, offl, none⟩ m y6 (irow m .i64 (fn l)) rfl (by simp) (news_sl ((obj_alloc_past _ _ _ rl).trans ol) hel) irow_one (by omega) (by unfold maxLen; omega) (by omega) (by simp) ?_)
              intro g1 cap1 w3 hown0 hg0 hat0 hlt0
              have hrowR : Row w3 wr.heap.size (.slice (some ⟨g1, 0, none⟩) (1 + m) cap1) (m + 1) (fn ((k : Int) :: l)) := by
                rw [cons_irow] at hown0
                rw [Nat.add_comm m 1]
                exact hown0
              have hnR : New wr w3 := grown_new ((New.refl wr).alloc _) hg0 fun b hb => by simp [Value.ownBlock] at hb; omega
              clear hown0 hg0 hat0
              have hbX2 : ∀ (j q : Nat), j < AX.length → (vsA j).ownBlock = some q → q < wr.heap.size := fun j q hj hq => ((hlr.row hj).block q hq).2
              have hbv : ∀ q : Nat, (Value.slice x5 AX.length y5).ownBlock = some q → q < wr.heap.size := fun q hq => (hlr.block q hq).2
              have hlr5 := hlr.new (hnR.trans ((New.refl _).alloc (Obj.cells #[Value.slice (some ⟨g1, 0, none⟩) (1 + m) cap1] 45)))
              have hrow6 : Row (w3.alloc (Obj.cells #[Value.slice (some ⟨g1, 0, none⟩) (1 + m) cap1] 45)) W.heap.size (Value.slice (some ⟨g1, 0, none⟩) (1 + m) cap1) (m + 1) (fn ((k : Int) :: l)) := (hrowR.new ((New.refl _).alloc _)).lower (by omega)
              have hnX : New wr (w3.alloc (Obj.cells #[Value.slice (some ⟨g1, 0, none⟩) (1 + m) cap1] 45)) := hnR.alloc _
              have hzX := hnX.le
              have hgr : ∀ q : Nat, (Value.slice (some ⟨g1, 0, none⟩) (1 + m) cap1).ownBlock = some q → wr.heap.size ≤ q := fun q hq => (hrowR.block q hq).1
              have hWz := hnR.le
              try simp only [World.size_alloc] at hWz
              go_wp2_with (at_builtin; refine wpList_app slRows rfl _ _ rfl W.heap.size _ _ _ rfl hlr5.1 ⟨w3.heap.size, 0, none⟩ 1 1 [Value.slice (some ⟨g1, 0, none⟩) (1 + m) cap1] rfl rfl (news_new _ _ _ _ _ (by simp)) (by simp [Value.oneCell']) (by omega) (by unfold maxLen; omega) (by omega) (by simp; omega) ?_)
              intro g5 cap5 w7 hown1 hg1 hat1 hlt1
              have hrr7 := RR.app hlr5 hrow6 (fun j q hj hq h2 => by have h3 := hbX2 j q hj hq; have h4 := hgr q h2; omega) (fun q hq h2 => by have h3 := hbv q h2; have h4 := hgr q hq; omega) hown1 hg1 (hat1.imp id fun h => by first | exact Nat.le_of_eq h.symm | (simp; omega))
              have hLR7 := LR.of_app (l := (k : Int) :: l) hrr7 (by rw [List.length_cons, hlm])
              have hN7 : New W w7 := grown_new (hnW.trans hnX) hg1 fun q hq => (hlr5.block q hq).1
              have hk7 : Hid (∀ q, wk.heap.size ≤ q → q < w2.heap.size → obj w7 q = obj w2 q) := fun q h1 h2 => by
                rw [grown_obj hg1 q (by omega) (fun e => by have h3 := hvo.out q e.symm; omega), hnX.objs q (by omega)]
                exact hkeep.out q h1 h2
              have hvo7 : Hid (∀ q : Nat, (Value.slice (some ⟨g5, 0, none⟩) (AX.length + 1) cap5).ownBlock = some q → q < wk.heap.size ∨ w2.heap.size ≤ q) := fun q hq => by
                simp [Value.ownBlock] at hq
                subst hq
                rcases hat1 with h | h
                · exact hvo.out _ h
                · right; (try simp at h); omega
              have hz7 := grown_le hg1
              have hst : AX ++ [(k : Int) :: l] = A ++ (X.take (t + 1)).map g := by rw [← hAX.out, List.take_add_one, hXt, List.map_append, ← List.append_assoc, hg.out]; rfl
              rw [hst] at hLR7
              clear hown1 hg1 hat1 hlr5 hrow6 hnX hrr7 hst
              go_wp2_with (fail)
              go_roundw
              case rel => exact ⟨t + 1, _, by omega, by go_num, hLR7, hvo7, hk7, hN7, by omega⟩
              case measure => simp [intOf]; omega
          · have htX : t = X.length := by omega
            have hfin : LR wr W.heap.size (.slice x5 AX.length y5) vsA ((List.range (i + 1)).flatMap fun i => (chL m (c + i + 1) n).map fun l => ((c + i : Nat) : Int) :: l) := by
              have e : AX = (List.range (i + 1)).flatMap fun i => (chL m (c + i + 1) n).map fun l => ((c + i : Nat) : Int) :: l := by
                rw [← hAX.out, htX, List.take_length, List.range_succ, List.flatMap_append, hAe'.out, hg.out, ← hXe.out, hki.out]
                simp
              rw [← e]
              exact hlr
            clear htX hlr
            go_wp2_with (fail)
            go_roundw
            case rel => exact ⟨i + 1, k + 1, vsA, by have := hki.out; omega, by show _ = _; have := hki.out; omega, by go_num, hfin, hnW, by omega⟩
            case measure => simp [intOf]; omega
      · have hie : i = n + 1 - c := by have := hki.out; omega
        have hAe2 : Hid (A = chL (m + 1) c n) := by show _ = _; rw [← hAe, hie]; rfl
        clear hAe hie
        go_wp2_with (fail)
        go_ret
        exact ⟨_, vs, rfl, by rw [← hAe2.out]; exact hlr, hnw⟩
end Go.Proofs.Ytpofhbdnjecfjaa
