/- All lists of so many colours, by the program; no condition. -/
import Derived.Test.YtpphckfalgapdaaU10
import Derived.Test.YtpphckfalgapdaaU2
import Derived.Test.YtpphckfalgapdaaU6
set_option linter.unusedVariables false
namespace Go.Proofs.Ytpphckfalgapdaa
open Go.BigFrame
open Go.RowKit Go.Arr
/-- the lists, each in memory of its own -/
def LR (W : World) (base : Nat) (v : Value) (vs : Nat → Value) (ls : List (List Int)) : Prop := RR W base v ls.length vs (fun i => (ls.getD i []).length) fun i => fn (ls.getD i [])
theorem RR.congr3 {W : World} {base n n' : Nat} {v : Value} {vs : Nat → Value} {m m' : Nat → Nat} {F F' : Nat → Nat → Int} (h : RR W base v n vs m F) (hn : n = n') (hm : ∀ i, i < n → m i = m' i) (hF : ∀ i, i < n → F i = F' i) : RR W base v n' vs m' F' := by
  subst hn
  exact ⟨h.1, fun i hi => by rw [← hm i hi, ← hF i hi]; exact h.2.1 i hi, h.2.2.1, h.2.2.2⟩
theorem LR.of_app {W : World} {base k : Nat} {v r : Value} {vs : Nat → Value} {ls : List (List Int)} {l : List Int} (h : RR W base v (ls.length + 1) (fun i => if i = ls.length then r else vs i) (fun i => if i = ls.length then k else (ls.getD i []).length) (fun i => if i = ls.length then fn l else fn (ls.getD i []))) (hk : l.length = k) : LR W base v (fun i => if i = ls.length then r else vs i) (ls ++ [l]) := by
  have hg : ∀ i, i < ls.length + 1 → (ls ++ [l]).getD i [] = if i = ls.length then l else ls.getD i [] := fun i hi => by
    rw [List.getD_eq_getElem?_getD, List.getD_eq_getElem?_getD, List.getElem?_append]
    by_cases e : i = ls.length
    · subst e; simp
    · rw [if_pos (by omega), if_neg e]
  refine RR.congr3 h (by simp) (fun i hi => ?_) fun i hi => ?_
  · rw [hg i hi]
    by_cases e : i = ls.length
    · rw [if_pos e, if_pos e, hk]
    · rw [if_neg e, if_neg e]
  · rw [hg i hi]
    by_cases e : i = ls.length
    · rw [if_pos e, if_pos e]
    · rw [if_neg e, if_neg e]
/-- how many there can be -/
theorem chL_len (m : Nat) : ∀ c n, (chL m c n).length ≤ 2 ^ (n + 1 - c) := by
  induction m with
  | zero => intro c n; simp [chL]; exact Nat.one_le_two_pow
  | succ m ih =>
    intro c n
    have h : ∀ K, K ≤ n + 1 - c → ((List.range K).flatMap fun i => (chL m (c + i + 1) n).map fun l => ((c + i : Nat) : Int) :: l).length + 2 ^ (n + 1 - c - K) ≤ 2 ^ (n + 1 - c) := by
      intro K
      induction K with
      | zero => intro _; simp
      | succ K ihK =>
        intro hK
        have h1 := ihK (by omega)
        have h2 := ih (c + K + 1) n
        rw [List.range_succ, List.flatMap_append, List.length_append]
        simp only [List.flatMap_cons, List.flatMap_nil, List.append_nil, List.length_map]
        rw [show n + 1 - c - K = (n + 1 - c - (K + 1)) + 1 by omega, Nat.pow_succ] at h1
        rw [show n + 1 - (c + K + 1) = n + 1 - c - (K + 1) by omega] at h2
        omega
    have := h (n + 1 - c) (Nat.le_refl _)
    unfold chL
    exact Nat.le_trans (Nat.le_add_right _ _) this
theorem chL_lenA (m c n K : Nat) (hK : K ≤ n + 1 - c) : ((List.range K).flatMap fun i => (chL m (c + i + 1) n).map fun l => ((c + i : Nat) : Int) :: l).length ≤ 2 ^ (n + 1 - c) := by
  have h := chL_len (m + 1) c n
  have e : (chL (m + 1) c n).length = ((List.range K).flatMap fun i => (chL m (c + i + 1) n).map fun l => ((c + i : Nat) : Int) :: l).length + (((List.range (n + 1 - c)).drop K).flatMap fun i => (chL m (c + i + 1) n).map fun l => ((c + i : Nat) : Int) :: l).length := by
    rw [chL, ← List.length_append, ← List.flatMap_append]
    congr 2
    have := List.take_append_drop K (List.range (n + 1 - c))
    rw [List.take_range, Nat.min_eq_left hK] at this
    exact this.symm
  omega
theorem row_k (W : World) (k : Int) : Row (W.alloc (Obj.cells #[.int .i64 k] 2)) W.heap.size (.slice (some ⟨W.heap.size, 0, none⟩) 1 1) 1 fun _ => k :=
  Row.of (obj_alloc_at _ _ _ rfl) (Nat.le_refl _) (Nat.le_refl _) (by unfold maxLen; omega) rfl fun j hj => by
    have h : j = 0 := by omega
    subst h
    rfl
theorem cons_irow (k : Int) (m : Nat) (l : List Int) : Value.int .i64 k :: irow m .i64 (fn l) = irow (1 + m) .i64 (fn (k :: l)) := by
  unfold irow
  rw [Nat.add_comm 1 m, List.range_succ_eq_map, List.map_cons, List.map_map]
  rfl
theorem pow_le10 {x : Nat} (h : x ≤ 11) : 2 ^ x ≤ 2048 := Nat.pow_le_pow_right (by omega) h
set_option maxHeartbeats 4000000 in
set_option maxRecDepth 100000 in
theorem choices_any (n : Nat) (hn : n ≤ 10) (m : Nat) : ∀ (c : Nat) (hc : 1 ≤ c ∧ c ≤ 12) (hm : m ≤ 10) (W : World), Calls Try.prog 29 #[.int .i64 (m : Nat), .int .i64 (c : Nat), .int .i64 (n : Nat)] W fun e w' => ∃ v vs, e = .returned v ∧ LR w' W.heap.size v vs (chL m c n) ∧ New W w' := by
  induction m with
  | zero =>
    intro c hc hm W
    go_enter Try.func29, Try.ntmps29
    go_wp2_with (fail)
    go_ret
    refine ⟨_, fun _ => .slice (some ⟨W.heap.size, 0, none⟩) 0 0, rfl, ?_, ((New.refl _).alloc _).alloc _⟩
    refine ⟨⟨by simp [chL], .inr ⟨W.heap.size + 1, 1, #[.slice (some ⟨W.heap.size, 0, none⟩) 0 0], rfl, by omega, obj_alloc_at _ _ _ (by simp), by simp [chL], by unfold maxLen; omega, rfl, rfl⟩⟩, fun i hi => ?_, fun i j b hi hj => ?_, fun i b hi hb => ?_⟩
    · have hi0 : i = 0 := by simp [chL] at hi; omega
      subst hi0
      exact row_empty2 ((obj_alloc_past _ _ _ (by simp)).trans (obj_alloc_at _ _ _ rfl)) (Nat.le_refl _)
    · simp [chL] at hi hj; omega
    · simp [Value.ownBlock] at hb ⊢; omega
  | succ m ih =>
    intro c hc hm W
    have ih' := hide ih
    clear ih
    obtain ⟨M, hM⟩ : ∃ M : Int, M = ((m + 1 : Nat) : Int) := ⟨_, rfl⟩
    rw [← hM]
    have hM1 : M - 1 = (m : Int) := by omega
    have hM0 : (M == 0) = false := by simp; omega
    have hMb : 1 ≤ M ∧ M ≤ 10 := by omega
    replace hM := hide hM
    go_enter Try.func29, Try.ntmps29
    go_wp2_with (fail)
    go_loopw [7, 8] (fun v x wr => ∃ (i k : Nat) (vs : Nat → Value), i ≤ n + 1 - c ∧ Hid (k = c + i) ∧ x = .int .i64 (k : Nat) ∧ LR wr W.heap.size v vs ((List.range i).flatMap fun i => (chL m (c + i + 1) n).map fun l => ((c + i : Nat) : Int) :: l) ∧ New W wr ∧ W.heap.size ≤ wr.heap.size) (fun _ x _ => 30 - (intOf x).toNat)
    case atStart => exact ⟨0, c, fun _ => .slice none 0 0, by omega, rfl, rfl, RR.empty (obj_alloc_at _ _ _ rfl) (Nat.le_refl _), (New.refl W).alloc _, by simp⟩
    case round =>
      obtain ⟨i, k, vs, hi, hki, rfl, hlr, hnw, hlw⟩ := hrel
      have hk1 : 1 ≤ k ∧ k ≤ 12 ∧ c ≤ k := by have := hki.out; omega
      have hA0 := chL_lenA m c n i hi
      have hA1 := pow_le10 (x := n + 1 - c) (by omega)
      generalize hAe : ((List.range i).flatMap fun i => (chL m (c + i + 1) n).map fun l => ((c + i : Nat) : Int) :: l) = A at hlr hA0
      obtain ⟨x3, y3, rfl⟩ := hlr.form
      by_cases hlt : k ≤ n
      · have hAe' := hide hAe
        clear hAe
        obtain ⟨wk, hwk⟩ : ∃ x, x = wr := ⟨_, rfl⟩
        subst hwk
        go_wp2_with (fail)
        try simp only [show decide ((k : Int) ≤ (n : Int)) = true from decide_eq_true (by omega)]
        rw [show (k : Int) + 1 = ((k + 1 : Nat) : Int) by omega]
        refine (ih'.out (k + 1) (by omega) (by omega) wk).mono ?_
        rintro e w2 ⟨v2, vs2, rfl, hX, hn2⟩
        obtain ⟨X, hXe⟩ : ∃ X, Hid (chL m (k + 1) n = X) := ⟨_, rfl⟩
        have hX0 := chL_len m (k + 1) n
        have hX1 := pow_le10 (x := n + 1 - (k + 1)) (by omega)
        have hXm : Hid (∀ l, l ∈ X → l.length = m) := fun l hl => (chL_mem m _ _ l (by rw [hXe.out]; exact hl)).1
        rw [hXe.out] at hX hX0
        obtain ⟨x4, y4, rfl⟩ := hX.form
        have hvo0 : Hid (∀ q : Nat, (Value.slice x3 A.length y3).ownBlock = some q → q < wk.heap.size ∨ w2.heap.size ≤ q) := fun q hq => Or.inl (hlr.block q hq).2
        have hlr2 := hlr.new hn2
        have hN2 := hnw.trans hn2
        have hz2 := hn2.le
        clear hlr hn2 hnw
        obtain ⟨g, hg⟩ : ∃ g : List Int → List Int, Hid (g = fun l => (k : Int) :: l) := ⟨_, rfl⟩
        go_wp2_with (fail)
        go_loopw [29, 7] (fun x v wq => ∃ (t : Nat) (vsA : Nat → Value), t ≤ X.length ∧ x = .int .i64 (t : Nat) ∧ LR wq W.heap.size v vsA (A ++ (X.take t).map g) ∧ Hid (∀ q : Nat, v.ownBlock = some q → q < wk.heap.size ∨ w2.heap.size ≤ q) ∧ Hid (∀ q, wk.heap.size ≤ q → q < w2.heap.size → obj wq q = obj w2 q) ∧ New W wq ∧ w2.heap.size ≤ wq.heap.size) (fun x _ _ => X.length - (intOf x).toNat)
        case atStart => exact ⟨0, vs, by omega, rfl, by rw [List.take_zero, List.map_nil, List.append_nil]; exact hlr2, hvo0, fun q _ _ => rfl, hN2, Nat.le_refl _⟩
        case round =>
          obtain ⟨t, vsA, ht, rfl, hlr, hvo, hkeep, hnW, hzw⟩ := hrel
          clear hlr2 hN2 hvo0
          have hlen : (A ++ (X.take t).map g).length ≤ 100000 := by rw [List.length_append, List.length_map, List.length_take]; omega
          obtain ⟨AX, hAX⟩ : ∃ AX, Hid (A ++ (X.take t).map g = AX) := ⟨_, rfl⟩
          rw [hAX.out] at hlr hlen
          obtain ⟨x5, y5, rfl⟩ := hlr.form
          by_cases htl : t < X.length
          · have hXt : X[t]? = some X[t] := List.getElem?_eq_getElem htl
            have hlm := hXm.out X[t] (List.getElem_mem htl)
            have hrow := hX.row htl
            have hgd : X.getD t [] = X[t] := by rw [List.getD_eq_getElem?_getD, hXt]; rfl
            rw [hgd, hlm] at hrow
            obtain ⟨gs, cur, rfl, os, ls, es⟩ := RR.slot hX htl
            have hbs := hX.block gs rfl
            have os2 := (hkeep.out gs hbs.1 hbs.2).trans os
            have lgs := obj_lt os2
            have hrow2 : Row wr wk.heap.size (vs2 t) m (fn X[t]) := hrow.same fun q hq => hkeep.out q (hrow.block q hq).1 (hrow.block q hq).2
            generalize hl : X[t] = l at hXt hlm hrow2
            obtain ⟨x6, y6, hv6, hrd⟩ := hrow2.reads
            rw [hv6] at es
            have hsl6 := hrow2.sl
            rw [hv6] at hsl6
            have hx6 : x6 = none ∨ ∃ g6, x6 = some ⟨g6, 0, none⟩ := by
              rcases hrow2.shape with ⟨h1, _⟩ | ⟨g6, c6, cur6, h1, _⟩
              · rw [hv6] at h1; simp only [Value.slice.injEq] at h1; exact Or.inl h1.1
              · rw [hv6] at h1; simp only [Value.slice.injEq] at h1; exact Or.inr ⟨g6, h1.1⟩
            clear hrow hgd os hrow2 hv6
            by_cases hm0 : m = 0
            · rw [hm0] at es
              rcases hx6 with hx6 | ⟨g6, hx6⟩
              all_goals subst hx6
              all_goals
                have hrowR : Row (wr.alloc (Obj.cells #[.int .i64 (k : Nat)] 2)) wr.heap.size (Value.slice (some ⟨wr.heap.size, 0, none⟩) 1 1) (m + 1) (fn ((k : Int) :: l)) := by rw [show m + 1 = 1 by omega]; exact (row_k wr k).congr fun j hj => by rw [show j = 0 by omega]; rfl
                have hnR : New wr (wr.alloc (Obj.cells #[.int .i64 (k : Nat)] 2)) := (New.refl _).alloc _
                replace hm0 := hide hm0
                have hbX2 : ∀ (j q : Nat), j < AX.length → (vsA j).ownBlock = some q → q < wr.heap.size := fun j q hj hq => ((hlr.row hj).block q hq).2
                have hbv : ∀ q : Nat, (Value.slice x5 AX.length y5).ownBlock = some q → q < wr.heap.size := fun q hq => (hlr.block q hq).2
                have hlr5 := hlr.new (hnR.trans ((New.refl _).alloc (Obj.cells #[Value.slice (some ⟨wr.heap.size, 0, none⟩) 1 1] 35)))
                have hrow6 : Row ((wr.alloc (Obj.cells #[.int .i64 (k : Nat)] 2)).alloc (Obj.cells #[Value.slice (some ⟨wr.heap.size, 0, none⟩) 1 1] 35)) W.heap.size (Value.slice (some ⟨wr.heap.size, 0, none⟩) 1 1) (m + 1) (fn ((k : Int) :: l)) := (hrowR.new ((New.refl _).alloc _)).lower (by omega)
                have hnX : New wr ((wr.alloc (Obj.cells #[.int .i64 (k : Nat)] 2)).alloc (Obj.cells #[Value.slice (some ⟨wr.heap.size, 0, none⟩) 1 1] 35)) := hnR.alloc _
                have hzX := hnX.le
                have hgr : ∀ q : Nat, (Value.slice (some ⟨wr.heap.size, 0, none⟩) 1 1).ownBlock = some q → wr.heap.size ≤ q := fun q hq => (hrowR.block q hq).1
                have hWz := hnR.le
                try simp only [World.size_alloc] at hWz
                go_wp2_with (at_builtin; refine wpList_app slRows rfl _ _ rfl W.heap.size _ _ _ rfl hlr5.1 ⟨wr.heap.size + 1, 0, none⟩ 1 1 [Value.slice (some ⟨wr.heap.size, 0, none⟩) 1 1] rfl rfl (news_new _ _ _ _ _ (by simp)) (by simp [Value.oneCell']) (by omega) (by unfold maxLen; omega) (by omega) (by simp; omega) ?_)
                intro g5 cap5 w7 hown1 hg1 hat1 hlt1
                have hrr7 := RR.app hlr5 hrow6 (fun j q hj hq h2 => by have h3 := hbX2 j q hj hq; have h4 := hgr q h2; omega) (fun q hq h2 => by have h3 := hbv q h2; have h4 := hgr q hq; omega) hown1 hg1 (hat1.imp id fun h => by first | exact Nat.le_of_eq h.symm | (simp; omega))
                have hLR7 := LR.of_app (l := (k : Int) :: l) hrr7 (by rw [List.length_cons, hlm])
                have hN7 : New W w7 := grown_new (hnW.trans hnX) hg1 fun q hq => (hlr5.block q hq).1
                have hk7 : Hid (∀ q, wk.heap.size ≤ q → q < w2.heap.size → obj w7 q = obj w2 q) := fun q h1 h2 => by
                  rw [grown_obj hg1 q (by omega) (fun e => by have h3 := hvo.out q e.symm; omega), hnX.objs q (by omega)]
                  exact hkeep.out q h1 h2
                have hvo7 : Hid (∀ q : Nat, (Value.slice (some ⟨g5, 0, none⟩) (AX.length + 1) cap5).ownBlock = some q → q < wk.heap.size ∨ w2.heap.size ≤ q) := fun q hq => by
                  simp [Value.ownBlock] at hq
                  subst hq
                  rcases hat1 with h | h
                  · exact hvo.out _ h
                  · right; (try simp at h); omega
                have hz7 := grown_le hg1
                have hst : AX ++ [(k : Int) :: l] = A ++ (X.take (t + 1)).map g := by rw [← hAX.out, List.take_add_one, hXt, List.map_append, ← List.append_assoc, hg.out]; rfl
                rw [hst] at hLR7
                clear hown1 hg1 hat1 hlr5 hrow6 hnX hrr7 hst
                go_wp2_with (fail)
                go_roundw
                case rel => exact ⟨t + 1, _, by omega, by go_num, hLR7, hvo7, hk7, hN7, by omega⟩
                case measure => simp [intOf]; omega
            · obtain ⟨gl, offl, curl, tl, frl, rfl, ol, hel⟩ := elInts hsl6 (by omega)
              have rl := obj_lt ol
              go_wp2_with (at_builtin; refine wpList_app slInts rfl _ _ rfl wr.heap.size (.slice (some ⟨wr.heap.size, 0, none⟩) 1 1) 1 [.int .i64 (k : Nat)] rfl (row_k _ _) ⟨gl, offl, none⟩ m y6 (irow m .i64 (fn l)) rfl (by simp) (news_sl ((obj_alloc_past _ _ _ rl).trans ol) hel) irow_one (by omega) (by unfold maxLen; omega) (by omega) (by simp) ?_)
              intro g1 cap1 w3 hown0 hg0 hat0 hlt0
              have hrowR : Row w3 wr.heap.size (.slice (some ⟨g1, 0, none⟩) (1 + m) cap1) (m + 1) (fn ((k : Int) :: l)) := by
                rw [cons_irow] at hown0
                rw [Nat.add_comm m 1]
                exact hown0
              have hnR : New wr w3 := grown_new ((New.refl wr).alloc _) hg0 fun b hb => by simp [Value.ownBlock] at hb; omega
              clear hown0 hg0 hat0
              have hbX2 : ∀ (j q : Nat), j < AX.length → (vsA j).ownBlock = some q → q < wr.heap.size := fun j q hj hq => ((hlr.row hj).block q hq).2
              have hbv : ∀ q : Nat, (Value.slice x5 AX.length y5).ownBlock = some q → q < wr.heap.size := fun q hq => (hlr.block q hq).2
              have hlr5 := hlr.new (hnR.trans ((New.refl _).alloc (Obj.cells #[Value.slice (some ⟨g1, 0, none⟩) (1 + m) cap1] 35)))
              have hrow6 : Row (w3.alloc (Obj.cells #[Value.slice (some ⟨g1, 0, none⟩) (1 + m) cap1] 35)) W.heap.size (Value.slice (some ⟨g1, 0, none⟩) (1 + m) cap1) (m + 1) (fn ((k : Int) :: l)) := (hrowR.new ((New.refl _).alloc _)).lower (by omega)
              have hnX : New wr (w3.alloc (Obj.cells #[Value.slice (some ⟨g1, 0, none⟩) (1 + m) cap1] 35)) := hnR.alloc _
              have hzX := hnX.le
              have hgr : ∀ q : Nat, (Value.slice (some ⟨g1, 0, none⟩) (1 + m) cap1).ownBlock = some q → wr.heap.size ≤ q := fun q hq => (hrowR.block q hq).1
              have hWz := hnR.le
              try simp only [World.size_alloc] at hWz
              go_wp2_with (at_builtin; refine wpList_app slRows rfl _ _ rfl W.heap.size _ _ _ rfl hlr5.1 ⟨w3.heap.size, 0, none⟩ 1 1 [Value.slice (some ⟨g1, 0, none⟩) (1 + m) cap1] rfl rfl (news_new _ _ _ _ _ (by simp)) (by simp [Value.oneCell']) (by omega) (by unfold maxLen; omega) (by omega) (by simp; omega) ?_)
              intro g5 cap5 w7 hown1 hg1 hat1 hlt1
              have hrr7 := RR.app hlr5 hrow6 (fun j q hj hq h2 => by have h3 := hbX2 j q hj hq; have h4 := hgr q h2; omega) (fun q hq h2 => by have h3 := hbv q h2; have h4 := hgr q hq; omega) hown1 hg1 (hat1.imp id fun h => by first | exact Nat.le_of_eq h.symm | (simp; omega))
              have hLR7 := LR.of_app (l := (k : Int) :: l) hrr7 (by rw [List.length_cons, hlm])
              have hN7 : New W w7 := grown_new (hnW.trans hnX) hg1 fun q hq => (hlr5.block q hq).1
              have hk7 : Hid (∀ q, wk.heap.size ≤ q → q < w2.heap.size → obj w7 q = obj w2 q) := fun q h1 h2 => by
                rw [grown_obj hg1 q (by omega) (fun e => by have h3 := hvo.out q e.symm; omega), hnX.objs q (by omega)]
                exact hkeep.out q h1 h2
              have hvo7 : Hid (∀ q : Nat, (Value.slice (some ⟨g5, 0, none⟩) (AX.length + 1) cap5).ownBlock = some q → q < wk.heap.size ∨ w2.heap.size ≤ q) := fun q hq => by
                simp [Value.ownBlock] at hq
                subst hq
                rcases hat1 with h | h
                · exact hvo.out _ h
                · right; (try simp at h); omega
              have hz7 := grown_le hg1
              have hst : AX ++ [(k : Int) :: l] = A ++ (X.take (t + 1)).map g := by rw [← hAX.out, List.take_add_one, hXt, List.map_append, ← List.append_assoc, hg.out]; rfl
              rw [hst] at hLR7
              clear hown1 hg1 hat1 hlr5 hrow6 hnX hrr7 hst
              go_wp2_with (fail)
              go_roundw
              case rel => exact ⟨t + 1, _, by omega, by go_num, hLR7, hvo7, hk7, hN7, by omega⟩
              case measure => simp [intOf]; omega
          · have htX : t = X.length := by omega
            have hfin : LR wr W.heap.size (.slice x5 AX.length y5) vsA ((List.range (i + 1)).flatMap fun i => (chL m (c + i + 1) n).map fun l => ((c + i : Nat) : Int) :: l) := by
              have e : AX = (List.range (i + 1)).flatMap fun i => (chL m (c + i + 1) n).map fun l => ((c + i : Nat) : Int) :: l := by
                rw [← hAX.out, htX, List.take_length, List.range_succ, List.flatMap_append, hAe'.out, hg.out, ← hXe.out, hki.out]
                simp
              rw [← e]
              exact hlr
            clear htX hlr
            go_wp2_with (fail)
            go_roundw
            case rel => exact ⟨i + 1, k + 1, vsA, by have := hki.out; omega, by show _ = _; have := hki.out; omega, by go_num, hfin, hnW, by omega⟩
            case measure => simp [intOf]; omega
      · have hie : i = n + 1 - c := by have := hki.out; omega
        have hAe2 : Hid (A = chL (m + 1) c n) := by show _ = _; rw [← hAe, hie]; rfl
        clear hAe hie
        go_wp2_with (fail)
        go_ret
        exact ⟨_, vs, rfl, by rw [← hAe2.out]; exact hlr, hnw⟩
end Go.Proofs.Ytpphckfalgapdaa
/- Tones that are the best: what the program returns, walked; no condition. -/
set_option linter.unusedVariables false
namespace Go.Proofs.Ytpphckfalgapdaa
open Go.BigFrame
open Go.RowKit Go.Arr
set_option maxHeartbeats 8000000 in
set_option maxRecDepth 100000 in
theorem best_impl (a b : Int) (fm : Nat → Int) (ha : -128 ≤ a ∧ a ≤ 127) (hb : -128 ≤ b ∧ b ≤ 127) (hfm : ∀ i, 0 ≤ fm i ∧ fm i ≤ 255) (ad : Option Addr) (n cp : Nat) (fp : Nat → Int) (hfp : ∀ i, 0 ≤ fp i ∧ fp i ≤ 255) (hn : n ≤ 1048576) (hcp : n ≤ cp) (count : Int) (W : World) (hs : Sl W (.slice ad n cp) n 3 .u8 fp) :
    Calls Try.prog 8 #[.agg (pic 432 a b fm), .slice ad n cp, .int .i64 count] W fun e w' => ∃ v, e = .returned (.tuple #[v, .int .i64 (btV a b fm n fp count), .int .i64 (btC a b fm n fp count)]) ∧ Row w' W.heap.size v (btN a b fm n fp count) (btL a b fm n fp count) ∧ New W w' := by
  go_enter Try.func8, Try.ntmps8
  go_wp2_with (fail)
  generalize hw0 : W.alloc (Obj.cells (pic 432 a b fm) 29) = w0
  have b1 : obj w0 W.heap.size = some (.cells (pic 432 a b fm) 29) := by subst hw0; go_simp
  have hn0 : New W w0 := by subst hw0; exact (New.refl W).alloc _
  have hs0 := hs.new hn0
  clear hw0 hs
  refine (validImage_impl a b fm ha hb _).mono ?_
  rintro e w1 ⟨rfl, hn1⟩
  have c1 := (hn1.objs _ (obj_lt b1)).trans b1
  have hs1 := hs0.new hn1
  have hN1 := hn0.trans hn1
  clear b1 hs0 hn0 hn1
  cases h1 : okImg a b fm
  · have hC : Hid (btC a b fm n fp count = 1) := btC_k (cntC_1 (by unfold askOk; rw [h1]; rfl)) (by omega)
    clear h1
    go_wp2_with (go_at_call 28; refine (within_any _ _ _ _).mono ?_; rintro e w' ⟨rfl, rfl⟩)
    refine (codeOf_any _ _ _).mono ?_
    rintro e w9 ⟨rfl, rfl⟩
    simp only [codeB]
    go_wp2_with (fail)
    go_ret3
    exact ⟨_, by rw [btV_z hC.out (by omega), hC.out]; rfl, by rw [btN_z hC.out (by omega)]; exact Row.nil, hN1⟩
  go_wp2_with (fail)
  refine (validPal_impl _ n _ fp hn hcp _ hs1).mono ?_
  rintro e w2 ⟨rfl, hn2⟩
  have d1 := (hn2.objs _ (obj_lt c1)).trans c1
  have hs2 := hs1.new hn2
  have hN2 := hN1.trans hn2
  clear c1 hs1 hN1 hn2
  cases h2 : okPal n fp
  · have hC : Hid (btC a b fm n fp count = 1) := btC_k (cntC_1 (by unfold askOk; rw [h2, Bool.and_false])) (by omega)
    clear h1 h2
    go_wp2_with (go_at_call 28; refine (within_any _ _ _ _).mono ?_; rintro e w' ⟨rfl, rfl⟩)
    refine (codeOf_any _ _ _).mono ?_
    rintro e w9 ⟨rfl, rfl⟩
    simp only [codeB]
    go_wp2_with (fail)
    go_ret3
    exact ⟨_, by rw [btV_z hC.out (by omega), hC.out]; rfl, by rw [btN_z hC.out (by omega)]; exact Row.nil, hN2⟩
  have hok : askOk a b fm n fp = true := by unfold askOk; rw [h1, h2]; rfl
  have hp := okPal_pos h2
  clear h1 h2
  cases hib : inB count 1 n
  · have hC : Hid (btC a b fm n fp count = 2) := btC_k (cntC_2 hok hib) (by omega)
    clear hok
    go_wp2_with (go_at_call 28; refine (within_any _ _ _ _).mono ?_; rintro e w' ⟨rfl, rfl⟩; rw [hib])
    refine (codeOf_any _ _ _).mono ?_
    rintro e w9 ⟨rfl, rfl⟩
    simp only [codeB]
    go_wp2_with (fail)
    go_ret3
    exact ⟨_, by rw [btV_z hC.out (by omega), hC.out]; rfl, by rw [btN_z hC.out (by omega)]; exact Row.nil, hN2⟩
  have hC0 := hide (cntC_0 hok hib)
  have hcc := inB_t.1 hib
  obtain ⟨K, rfl⟩ : ∃ K : Nat, count = K := ⟨count.toNat, by omega⟩
  have r1 := obj_lt d1
  have hWl := hN2.le
  clear hok
  go_wp2_with (go_at_call 28; refine (within_any _ _ _ _).mono ?_; rintro e w' ⟨rfl, hw'⟩; subst hw'; rw [hib])
  refine (codeOf_any _ _ _).mono ?_
  rintro e w9 ⟨rfl, hw'⟩
  subst hw'
  simp only [codeB]
  clear hib
  by_cases hbig : 10 < n
  · have hC := hide (btC_3 hC0.out hbig)
    go_wp2_with (fail)
    go_ret3
    exact ⟨_, by rw [btV_z hC.out (by omega), hC.out]; rfl, by rw [btN_z hC.out (by omega)]; exact Row.nil, hN2⟩
  have hC := hide (btC_0 hC0.out hbig)
  obtain ⟨C, hCe⟩ : ∃ C : (Nat → Int) → Int, Hid (C = fun L => cosS K (subP fp L) fm a b 144) := ⟨_, rfl⟩
  have hCb : ∀ L, 0 ≤ C L ∧ C L ≤ 144000000 := fun L => by rw [hCe.out]; show 0 ≤ cosS K (subP fp L) fm a b 144 ∧ cosS K (subP fp L) fm a b 144 ≤ 144000000; have := cosS_b (fs := subP fp L) (fun i => hfp _) hfm K a b 144; omega
  go_wp2_with (fail)
  refine (choices_any n (by omega) K 1 (by omega) (by omega) w2).mono ?_
  rintro e w3 ⟨v3, vs3, rfl, hX, hn3⟩
  have d3 := (hn3.objs _ r1).trans d1
  have r3 := obj_lt d3
  have hs3 := hs2.new hn3
  have hN3 := hN2.trans hn3
  have hXm := hide (chL_mem K 1 n)
  have hXa : Hid (∀ l, l ∈ chL K 1 n → asc K n (fn l)) := fun l hl => chL_asc hl
  have hX0 := chL_len K 1 n
  have hX1 := pow_le10 (x := n + 1 - 1) (by omega)
  obtain ⟨x4, y4, rfl⟩ := hX.form
  have hI0 : ∀ L, CI C K n (chL K 1 n) 0 L (-1) := fun L => CI_0
  have hIt := hide (fun (t : Nat) (L : Nat → Int) (c : Int) (ht : t < (chL K 1 n).length) (h : CI C K n (chL K 1 n) t L c) (hb : c < 0 ∨ C (fn (chL K 1 n)[t]) < c) => CI_take (fun L => (hCb L).1) ht h hb)
  have hIk := hide (fun (t : Nat) (L : Nat → Int) (c : Int) (ht : t < (chL K 1 n).length) (h : CI C K n (chL K 1 n) t L c) (h0 : ¬ c < 0) (hb : ¬ C (fn (chL K 1 n)[t]) < c) => CI_keep ht h h0 hb)
  have hIe := hide (fun (L : Nat → Int) (c : Int) (h : CI C K n (chL K 1 n) (chL K 1 n).length L c) => CI_end h (by omega))
  have hXp : 0 < (chL K 1 n).length := by
    obtain ⟨l, hl, _⟩ := chL_onto K 1 n (fun j => if j < K then (j : Int) + 1 else 0) (fun j hj => by rw [if_pos hj]; omega) (fun j hj => by rw [if_pos (by omega), if_pos hj]; omega) (fun j hj => if_neg (by omega))
    exact List.length_pos_of_mem hl
  generalize chL K 1 n = X at hX hXm hXa hX0 hI0 hIt hIk hIe hXp ⊢
  clear hn3 d1 hs2 r1
  go_wp2_with (fail)
  go_loopw [37, 10, 11] (fun x v l wr => ∃ (t : Nat) (L : Nat → Int) (c : Int), t ≤ X.length ∧ x = .int .i64 (t : Nat) ∧ l = .int .i64 c ∧ (-1 ≤ c ∧ c ≤ 144000000) ∧ Hid (CI C K n X t L c) ∧ Hid (0 < t → Row wr W.heap.size v K L) ∧ New w3 wr) (fun x _ _ _ => X.length - (intOf x).toNat)
  case atStart => exact ⟨0, fun _ => 0, -1, by omega, rfl, rfl, by omega, hI0 _, fun h => absurd h (by omega), New.refl _⟩
  case round =>
    obtain ⟨t, L, c, ht, rfl, rfl, hcb, hI, hrow, hnw⟩ := hrel
    by_cases hlt : t < X.length
    · have hl0 := hXa.out X[t] (List.getElem_mem hlt)
      have hlm := (hXm.out X[t] (List.getElem_mem hlt)).1
      have hr := hX.row hlt
      have hgd : X.getD t [] = X[t] := by rw [List.getD_eq_getElem?_getD, List.getElem?_eq_getElem hlt]; rfl
      rw [hgd, hlm] at hr
      obtain ⟨gs, cur, rfl, os, ls, es⟩ := RR.slot hX hlt
      have os2 := (hnw.objs _ (obj_lt os)).trans os
      have lgs := obj_lt os2
      have hr2 := hr.new hnw
      have d4 := (hnw.objs _ r3).trans d3
      have r4 := obj_lt d4
      have hs4 := hs3.new hnw
      have hIt1 := hide (hIt.out t L c hlt)
      have hIk1 := hide (hIk.out t L c hlt)
      have hlb := hl0.1
      generalize hl : X[t] = l at hlm hr2 hIt1 hIk1 hlb
      obtain ⟨x6, y6, hv6, hrd⟩ := hr2.reads
      rw [hv6] at es hr2
      clear hgd hr os hl hl0
      go_wp2_with (fail)
      refine (costWith_any a b fm ha hb hfm ad n cp fp hfp (by omega) x6 K y6 (fn l) (by omega) hlb _ hs4 hr2.sl).mono ?_
      rintro e w6 ⟨rfl, hn6⟩
      rw [show cosS K (subP fp (fn l)) fm a b 144 = C (fn l) by rw [hCe.out]]
      have hcl := hCb (fn l)
      have hnw6 := hnw.trans hn6
      have hr6 : Row w6 W.heap.size (.slice x6 K y6) K (fn l) := (hr2.new hn6).lower (by omega)
      have hrow6 : Hid (0 < t → Row w6 W.heap.size _ K L) := fun h => (hrow.out h).new hn6
      generalize C (fn l) = cl at hcl hIt1 hIk1 ⊢
      clear hr2 hrow
      by_cases h0 : c < 0
      · have hI2 := hide (hIt1.out hI.out (Or.inl h0))
        have m0 : decide (c < 0) = true := decide_eq_true h0
        go_wp2_with (fail)
        go_roundw
        case rel => exact ⟨t + 1, fn l, cl, by omega, by go_num, rfl, by omega, hI2, fun _ => hr6, hnw6⟩
        case measure => simp [intOf]; omega
      · have m0 : decide (c < 0) = false := decide_eq_false h0
        by_cases h1 : cl < c
        · have hI2 := hide (hIt1.out hI.out (Or.inr h1))
          go_wp2_with (fail)
          go_roundw
          case rel => exact ⟨t + 1, fn l, cl, by omega, by go_num, rfl, by omega, hI2, fun _ => hr6, hnw6⟩
          case measure => simp [intOf]; omega
        · have hI2 := hide (hIk1.out hI.out (by omega) (by omega))
          have htp : 0 < t := by
            rcases hI.out with ⟨h2, h3⟩ | ⟨h2, _⟩
            · omega
            · exact h2
          have hrow7 := hrow6.out htp
          clear hrow6
          go_wp2_with (fail)
          go_roundw
          case rel => exact ⟨t + 1, L, c, by omega, by go_num, rfl, by omega, hI2, fun _ => hrow7, hnw6⟩
          case measure => simp [intOf]; omega
    · have hte : t = X.length := by omega
      have hI2 := hI.out
      rw [hte] at hI2
      obtain ⟨e1, e2⟩ := hIe.out L c hI2
      have hV := hide (btV_s hC.out hCe.out)
      have hNn := hide (btN_s hC.out)
      have hL := hide (btL_s (n := n) hCe.out)
      have e1 := hide e1
      have e2 := hide e2
      have hrow7 := hrow.out (by omega)
      clear hI hI2 hte hrow
      go_wp2_with (fail)
      go_ret3
      exact ⟨_, by rw [hV.out, hC.out, ← e2.out]; rfl, by rw [hNn.out, hL.out, ← e1.out]; exact hrow7, hN3.trans hnw⟩
end Go.Proofs.Ytpphckfalgapdaa
