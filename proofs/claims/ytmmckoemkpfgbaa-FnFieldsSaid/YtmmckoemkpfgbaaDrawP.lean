/- The picture that is drawn is valid; no condition. -/
import Derived.Test.YtmmckoemkpfgbaaSrc
import Derived.Test.YtmmckoemkpfgbaaSel
import Derived.Test.YtmmckoemkpfgbaaSpecB
import Derived.Test.YtmmckoemkpfgbaaFldC
set_option linter.unusedVariables false
namespace Go.Proofs.Ytmmckoemkpfgbaa
open Go.BigFrame
open Go.RowKit Go.Arr
/-- colours that fit, and none beside the cells -/
def GoodQ (a b : Int) (q : Nat → Int) : Prop := ∀ j, 0 ≤ q j ∧ q j < 16 ∧ (cellN a b j = false → q j = 0)
theorem GoodQ.ok {a b : Int} {q : Nat → Int} (ha : 1 ≤ a ∧ a ≤ 12) (hb : 1 ≤ b ∧ b ≤ 12) (h : GoodQ a b q) : okPic a b q = true := by
  refine okPic_of a b q ?_ fun j hj => ?_
  · unfold isSizeB
    rw [inB_t.2 ha, inB_t.2 hb]
    rfl
  · obtain ⟨h1, h2, h3⟩ := h j
    unfold goodAt
    cases hc : cellB (j : Int) a b
    · rw [h3 hc]; decide
    · simp; omega
theorem GoodQ.put {a b : Int} {q : Nat → Int} {i : Nat} {x : Int} (h : GoodQ a b q) (hi : cellN a b i = true) (hx : 0 ≤ x ∧ x < 16) : GoodQ a b (upd q i x) := by
  intro j
  unfold upd
  by_cases e : j = i
  · subst e; rw [if_pos rfl]; exact ⟨hx.1, hx.2, fun h2 => by rw [hi] at h2; cases h2⟩
  · rw [if_neg e]; exact h j
theorem Src.grown2 {W w : World} {g : Nat} {ad : Option Addr} {n c A q : Nat} {f : Nat → Int} (h : Src W g ad n c f A) (hg : W.grownBy w (some q)) (hq : q ≠ g) (hq2 : ∀ a, ad = some a → a.block ≠ q ∨ n = 0) : Src w g ad n c f A := by
  obtain ⟨⟨t, s, h1, h2, h3⟩, h4, h5⟩ := h
  refine ⟨⟨t, s, (grown_obj hg g (obj_lt h1) fun e => hq (Option.some.inj e).symm).trans h1, h2, h3⟩, ?_, h5⟩
  by_cases h0 : n = 0
  · exact ⟨ad, c, rfl, fun hp => absurd hp (by omega)⟩
  · exact h4.grown hg fun a' c' e => by
      simp only [Value.slice.injEq] at e
      intro e2
      rcases hq2 a' e.1 with h6 | h6
      · exact h6 (Option.some.inj e2)
      · exact h0 h6
theorem set_pic_h {n : Nat} {a b b2 : Int} {f : Nat → Int} : (pic n a b f).setIfInBounds 1 (.int .i8 b2) = pic n a b2 f := by simp [pic]
theorem l01Least_any (x y : Int) (w : World) : Calls Try.prog 46 #[.int .i8 x, .int .i8 y] w fun e w' => e = .returned (.int .i8 (if x < y then x else y)) ∧ w = w' := by
  by_cases h : x < y
  · rw [if_pos h]
    go_enter Try.func46, Try.ntmps46
    go_wp2_with (fail)
    go_ret
    exact ⟨rfl, rfl⟩
  · rw [if_neg h]
    go_enter Try.func46, Try.ntmps46
    go_wp2_with (fail)
    go_ret
    exact ⟨rfl, rfl⟩
set_option maxHeartbeats 8000000 in
set_option maxRecDepth 100000 in
theorem l01Drawn_any (g : Nat) (ad : Option Addr) (n c A : Nat) (f : Nat → Int) (hA : A ≤ 500000) (hn : n ≤ 1000000) (hf : ∀ i, 0 ≤ f i ∧ f i ≤ 255) (W : World) (hs : Src W g ad n c f A) :
    Calls Try.prog 23 #[.pointer (some ⟨g, 0, none⟩)] W fun e w' => ∃ (a b : Int) (q : Nat → Int), e = .returned (.agg (pic 144 a b q)) ∧ (1 ≤ a ∧ a ≤ 6) ∧ (1 ≤ b ∧ b ≤ 6) ∧ GoodQ a b q ∧ Src w' g ad n c f (A + 300) ∧ W.grownBy w' (some g) := by
  have hgl := hs.lt
  have hadl : Hid (∀ a, ad = some a → a.block < W.heap.size ∨ n = 0) := fun a e => by
    subst e
    by_cases h0 : n = 0
    · exact Or.inr h0
    · obtain ⟨gq, offq, curq, tq, frq, he, oq, _⟩ := elBytes hs.2.1 (by omega)
      cases he
      exact Or.inl (obj_lt oq)
  have hf := hide hf
  go_enter Try.func23, Try.ntmps23
  go_wp2_with (fail)
  refine (pick_any g ad n c A f 6 (by omega) (by omega) hn hf.out _ (hs.new ((New.refl _).alloc _))).mono ?_
  rintro e w1 ⟨x, rfl, hx, hs1, hg1⟩
  go_wp2_with (fail)
  refine (pick_any g ad n c (A + 2) f 6 (by omega) (by omega) hn hf.out _ hs1).mono ?_
  rintro e w2 ⟨y, rfl, hy, hs2, hg2⟩
  obtain ⟨a, ha0, ha⟩ : ∃ a : Int, 1 + x = a ∧ 1 ≤ a ∧ a ≤ 6 := ⟨_, rfl, by omega, by omega⟩
  obtain ⟨b, hb0, hb⟩ : ∃ b : Int, 1 + y = b ∧ 1 ≤ b ∧ b ≤ 6 := ⟨_, rfl, by omega, by omega⟩
  go_wp2_with (fail)
  obtain ⟨P, hP⟩ : ∃ P, w2.heap.size = P := ⟨_, rfl⟩
  have hl1 := hg1.size
  have hl2 := hg2.size
  simp at hl1
  refine (pick_any g ad n c (A + 2 + 2) f 4 (by omega) (by omega) hn hf.out _ (hs2.new ((New.refl _).alloc _))).mono ?_
  rintro e w3 ⟨z, rfl, hz, hs3, hg3⟩
  have hg3' : W.grownBy w3 (some g) := ((grown_over (grown_over (new_grown ((New.refl _).alloc _)) hg1 fun q hq => Or.inr (Option.some.inj hq).symm) hg2 fun q hq => Or.inr (Option.some.inj hq).symm).trans (new_grown ((New.refl _).alloc _))).trans hg3
  have hR : obj w3 W.heap.size = some (.cells (pic 144 0 0 fun _ => 0) 27) := (grown_step hg3 (by simp; omega) (by omega)).trans ((obj_alloc_past _ _ _ (by omega)).trans ((grown_step hg2 (by omega) (by omega)).trans ((grown_step hg1 (by simp) (by omega)).trans (obj_alloc_at _ _ _ rfl))))
  have hPo : obj w3 P = some (.cells (pic 144 a b fun _ => 0) 27) := (grown_step hg3 (by simp; omega) (by omega)).trans (obj_alloc_at _ _ _ hP.symm)
  have hPl := obj_lt hPo
  have hq0 : GoodQ a b fun _ => 0 := fun j => ⟨Int.le_refl 0, by show (0 : Int) < 16; omega, fun _ => rfl⟩
  clear hs hs1 hs2 hg1 hg2 hg3
  go_wp2_with (fail)
  go_loopw [5] (fun x wr => ∃ (i : Nat) (q : Nat → Int), i ≤ 144 ∧ x = .int .i64 i ∧ GoodQ a b q ∧ Hid (obj wr P = some (.cells (pic 144 a b q) 27)) ∧ Hid (obj wr W.heap.size = some (.cells (pic 144 0 0 fun _ => 0) 27)) ∧ Src wr g ad n c f (A + 6 + 2 * i) ∧ W.grownBy wr (some g)) (fun x _ => 144 - (intOf x).toNat)
  case atStart => exact ⟨0, fun _ => 0, by omega, rfl, hq0, hPo, hR, hs3.more (by omega), hg3'⟩
  case round =>
    clear hR hPo hq0 hs3 hg3'
    obtain ⟨i, q, hi, rfl, hq, hPo, hR, hsr, hgr⟩ := hrel
    have p1 := hPo.out
    have l1 := obj_lt p1
    by_cases hlt : i < 144
    · cases hc : cellN a b i
      · have hc' : cellB (i : Int) a b = false := hc
        clear hc
        go_wp2_with (fail)
        refine (l01Is_any P 27 a b q i (by omega) (by omega) _ p1).mono ?_
        rintro e w9 ⟨rfl, rfl⟩
        rw [hc']
        go_wp2_with (fail)
        go_roundw
        case rel => exact ⟨i + 1, q, by omega, by go_num, hq, hPo, hR, hsr.more (by omega), hgr⟩
        case measure => simp [intOf]; omega
      · have hc' : cellB (i : Int) a b = true := hc
        have hcH := hide hc
        clear hc
        go_wp2_with (fail)
        refine (l01Is_any P 27 a b q i (by omega) (by omega) _ p1).mono ?_
        rintro e w9 ⟨rfl, rfl⟩
        rw [hc']
        go_wp2_with (fail)
        refine (pick_any g ad n c (A + 6 + 2 * i) f (1 + z) (by omega) (by omega) hn hf.out _ hsr).mono ?_
        rintro e w5 ⟨y5, rfl, hy5, hs5, hg5⟩
        have p5 := (grown_step hg5 l1 (by omega)).trans p1
        have r5 := (grown_step hg5 (obj_lt hR.out) (by omega)).trans hR.out
        have g5 := hgr.trans hg5
        have l5 := obj_lt p5
        clear p1 hPo hR hsr hgr hg5 l1
        go_wp2_with (fail)
        go_roundw
        case rel =>
          refine ⟨i + 1, upd q i y5, by omega, by go_num, hq.put hcH.out (by omega), ?_, ?_, (hs5.grown2 (setCell_grown (grown_refl _ _) _ _) (by omega) fun a' e => (hadl.out a' e).imp (fun h => by omega) id).more (by omega), ?_⟩
          · show _ = _
            exact obj_set_pic p5 _ i _ rfl
          · show _ = _
            rw [obj_setCell_other _ _ _ _ _ (by omega)]
            exact r5
          · exact grown_over g5 (setCell_grown (grown_refl _ (some P)) _ _) fun q hq => Or.inl (by have := Option.some.inj hq; omega)
        case measure => simp [intOf]; omega
    · obtain rfl : i = 144 := by omega
      have r1 := hR.out
      have lr := obj_lt r1
      clear hPo hR
      go_wp2_with (fail)
      refine (pick_any g ad n c _ f 5 (by omega) (by omega) hn hf.out _ hsr).mono ?_
      rintro e w5 ⟨y5, rfl, hy5, hs5, hg5⟩
      have p5 := (grown_step hg5 l1 (by omega)).trans p1
      have r5 := (grown_step hg5 lr (by omega)).trans r1
      have g5 := hgr.trans hg5
      have l5 := obj_lt p5
      have lr5 := obj_lt r5
      clear p1 r1 hsr hgr hg5 l1 lr
      by_cases h0 : y5 = 0
      · subst h0
        go_wp2_with (fail)
        go_loopw [6] (fun x wr => ∃ (i : Nat) (q : Nat → Int), i ≤ 144 ∧ x = .int .i64 i ∧ GoodQ a b q ∧ Hid (obj wr P = some (.cells (pic 144 a b q) 27)) ∧ Hid (obj wr W.heap.size = some (.cells (pic 144 0 0 fun _ => 0) 27)) ∧ Src wr g ad n c f (A + 300) ∧ W.grownBy wr (some g)) (fun x _ => 144 - (intOf x).toNat)
        case atStart => exact ⟨0, q, by omega, rfl, hq, p5, r5, hs5.more (by omega), g5⟩
        case round =>
          clear hq p5 r5 hs5 g5
          obtain ⟨i, q, hi, rfl, hq, hPo, hR, hsr, hgr⟩ := hrel
          have p1 := hPo.out
          have l1 := obj_lt p1
          by_cases hlt : i < 144
          · cases hc : cellN a b i
            · have hc' : cellB (i : Int) a b = false := hc
              clear hc
              go_wp2_with (fail)
              refine (l01Is_any P 27 a b q i (by omega) (by omega) _ p1).mono ?_
              rintro e w9 ⟨rfl, rfl⟩
              rw [hc']
              go_wp2_with (fail)
              go_roundw
              case rel => exact ⟨i + 1, q, by omega, by go_num, hq, hPo, hR, hsr, hgr⟩
              case measure => simp [intOf]; omega
            · have hc' : cellB (i : Int) a b = true := hc
              have hcH := hide hc
              have hin := cellN_e.1 hc
              obtain ⟨m, hm⟩ : ∃ m : Nat, (i : Int) - 2 * ((i : Int) % 12) + a - 1 = m := ⟨((i : Int) - 2 * ((i : Int) % 12) + a - 1).toNat, by omega⟩
              have hml : m < 144 := by omega
              have q1 : 0 ≤ (i : Int) - 2 * ((i : Int) % 12) + a - 1 := by omega
              have q2 : (i : Int) - 2 * ((i : Int) % 12) + a - 1 < 144 := by omega
              have hqm := hq m
              clear hc hin
              go_wp2_with (fail)
              refine (l01Is_any P 27 a b q i (by omega) (by omega) _ p1).mono ?_
              rintro e w9 ⟨rfl, rfl⟩
              rw [hc']
              go_wp2_with (fail)
              go_roundw
              case rel =>
                refine ⟨i + 1, upd q i (q m), by omega, by go_num, hq.put hcH.out ⟨hqm.1, hqm.2.1⟩, ?_, ?_, hsr.grown2 (setCell_grown (grown_refl _ _) _ _) (by omega) fun a' e => (hadl.out a' e).imp (fun h => by omega) id, ?_⟩
                · show _ = _
                  exact obj_set_pic p1 _ i _ rfl
                · show _ = _
                  rw [obj_setCell_other _ _ _ _ _ (by omega)]
                  exact hR.out
                · exact grown_over hgr (setCell_grown (grown_refl _ (some P)) _ _) fun q hq => Or.inl (by have := Option.some.inj hq; omega)
              case measure => simp [intOf]; omega
          · obtain rfl : i = 144 := by omega
            have r1 := hR.out
            have lr := obj_lt r1
            clear hPo hR
            go_wp2_with (fail)
            refine ret_cell agg27 rfl rfl (c := pic 144 a b q) (t := 27) (fr := (0, 0)) (by rw [obj_setRow_same, r1]; simp only [Option.map_some, reCells_cells]) size_pic rfl ⟨a, b, q, rfl, ha, hb, hq, hsr.grown2 (setRow_grown (grown_refl _ _) _) (by omega) (fun a' e => (hadl.out a' e).imp (fun h => by omega) id), grown_over hgr (setRow_grown (grown_refl _ (some W.heap.size)) _) fun q hq => Or.inl (by have := Option.some.inj hq; omega)⟩
      · by_cases h1 : y5 = 1
        · subst h1
          have hqc : Hid (∀ j, 0 ≤ q j ∧ q j < 16) := fun j => ⟨(hq j).1, (hq j).2.1⟩
          obtain ⟨b2, hb2, hb2r⟩ : ∃ b2 : Int, (if b < a then b else a) = b2 ∧ (1 ≤ b2 ∧ b2 ≤ 6) := ⟨_, rfl, by split <;> omega⟩
          go_wp2_with (fail)
          refine (l01Least_any b a _).mono ?_
          rintro e w9 ⟨rfl, rfl⟩
          rw [hb2]
          go_wp2_with (fail)
          go_loopw [7] (fun x wr => ∃ (i : Nat) (q : Nat → Int), i ≤ 144 ∧ x = .int .i64 i ∧ Hid (∀ j, 0 ≤ q j ∧ q j < 16) ∧ Hid (∀ j, j < i → cellN a b2 j = false → q j = 0) ∧ Hid (obj wr P = some (.cells (pic 144 a b2 q) 27)) ∧ Hid (obj wr W.heap.size = some (.cells (pic 144 0 0 fun _ => 0) 27)) ∧ Src wr g ad n c f (A + 300) ∧ W.grownBy wr (some g)) (fun x _ => 144 - (intOf x).toNat)
          case atStart =>
            refine ⟨0, q, by omega, rfl, hqc, fun j hj => absurd hj (by omega), ?_, ?_, (hs5.grown2 (setCell_grown (grown_refl _ _) _ _) (by omega) fun a' e => (hadl.out a' e).imp (fun h => by omega) id).more (by omega), grown_over g5 (setCell_grown (grown_refl _ (some P)) _ _) fun q hq => Or.inl (by have := Option.some.inj hq; omega)⟩
            · show _ = _
              rw [obj_setCell_same, p5]
              simp only [Option.map_some, reCell_cells, set_pic_h]
            · show _ = _
              rw [obj_setCell_other _ _ _ _ _ (by omega)]
              exact r5
          case round =>
            clear hq p5 r5 hs5 g5 hqc
            obtain ⟨i, q, hi, rfl, hq, hqz, hPo, hR, hsr, hgr⟩ := hrel
            have p1 := hPo.out
            have l1 := obj_lt p1
            by_cases hlt : i < 144
            · cases hc : cellN a b2 i
              · have hc' : cellB (i : Int) a b2 = false := hc
                clear hc
                go_wp2_with (fail)
                refine (l01Is_any P 27 a b2 q i (by omega) (by omega) _ p1).mono ?_
                rintro e w9 ⟨rfl, rfl⟩
                rw [hc']
                go_wp2_with (fail)
                go_roundw
                case rel =>
                  refine ⟨i + 1, upd q i 0, by omega, by go_num, fun j => ?_, fun j hj hcj => ?_, ?_, ?_, hsr.grown2 (setCell_grown (grown_refl _ _) _ _) (by omega) fun a' e => (hadl.out a' e).imp (fun h => by omega) id, ?_⟩
                  · unfold upd
                    by_cases e : j = i
                    · rw [if_pos e]; omega
                    · rw [if_neg e]; exact hq.out j
                  · unfold upd
                    by_cases e : j = i
                    · rw [if_pos e]
                    · rw [if_neg e]; exact hqz.out j (by omega) hcj
                  · show _ = _
                    exact obj_set_pic p1 _ i _ rfl
                  · show _ = _
                    rw [obj_setCell_other _ _ _ _ _ (by omega)]
                    exact hR.out
                  · exact grown_over hgr (setCell_grown (grown_refl _ (some P)) _ _) fun q hq => Or.inl (by have := Option.some.inj hq; omega)
                case measure => simp [intOf]; omega
              · have hc' : cellB (i : Int) a b2 = true := hc
                have hcH := hide hc
                clear hc
                go_wp2_with (fail)
                refine (l01Is_any P 27 a b2 q i (by omega) (by omega) _ p1).mono ?_
                rintro e w9 ⟨rfl, rfl⟩
                rw [hc']
                go_wp2_with (fail)
                go_roundw
                case rel =>
                  refine ⟨i + 1, q, by omega, by go_num, hq, fun j hj hcj => ?_, hPo, hR, hsr, hgr⟩
                  by_cases e : j = i
                  · subst e; rw [hcH.out] at hcj; cases hcj
                  · exact hqz.out j (by omega) hcj
                case measure => simp [intOf]; omega
            · obtain rfl : i = 144 := by omega
              have r1 := hR.out
              have lr := obj_lt r1
              have hGd : GoodQ a b2 (fun j => if j < 144 then q j else 0) := fun j => by
                dsimp only
                by_cases e : j < 144
                · rw [if_pos e]; exact ⟨(hq.out j).1, (hq.out j).2, hqz.out j e⟩
                · rw [if_neg e]; exact ⟨by omega, by omega, fun _ => rfl⟩
              have hpc : Hid (pic 144 a b2 q = pic 144 a b2 (fun j => if j < 144 then q j else 0)) := pic_congr fun j hj => by rw [if_pos hj]
              clear hPo hR
              go_wp2_with (fail)
              refine ret_cell agg27 rfl rfl (c := pic 144 a b2 q) (t := 27) (fr := (0, 0)) (by rw [obj_setRow_same, r1]; simp only [Option.map_some, reCells_cells]) size_pic rfl ⟨a, b2, _, by rw [hpc.out], ha, hb2r, hGd, hsr.grown2 (setRow_grown (grown_refl _ _) _) (by omega) (fun a' e => (hadl.out a' e).imp (fun h => by omega) id), grown_over hgr (setRow_grown (grown_refl _ (some W.heap.size)) _) fun q hq => Or.inl (by have := Option.some.inj hq; omega)⟩
        · have e0 : (y5 == 0) = false := by simp [h0]
          have e1 : (y5 == 1) = false := by simp [h1]
          clear h0 h1
          go_wp2_with (fail)
          refine ret_cell agg27 rfl rfl (c := pic 144 a b q) (t := 27) (fr := (0, 0)) (by rw [obj_setRow_same, r5]; simp only [Option.map_some, reCells_cells]) size_pic rfl ⟨a, b, q, rfl, ha, hb, hq, hs5.grown2 (setRow_grown (grown_refl _ _) _) (by omega) (fun a' e => (hadl.out a' e).imp (fun h => by omega) id) |>.more (by omega), grown_over g5 (setRow_grown (grown_refl _ (some W.heap.size)) _) fun q hq => Or.inl (by have := Option.some.inj hq; omega)⟩
theorem l00From_any (ad : Option Addr) (n c : Nat) (f : Nat → Int) (W : World) (hs : Sl W (.slice ad n c) n 1 .u8 f) (had : ∀ a, ad = some a → a.block < W.heap.size) :
    Calls Try.prog 24 #[.slice ad n c] W fun e w' => e = .returned (.pointer (some ⟨W.heap.size, 0, none⟩)) ∧ Src w' W.heap.size ad n c f 0 ∧ New W w' := by
  go_enter Try.func24, Try.ntmps24
  go_wp2_with (fail)
  go_ret
  refine ⟨rfl, ⟨⟨0, 0, ?_, Nat.le_refl _, by omega, by omega⟩, hs.new ((New.refl _).alloc _), fun a e => ?_⟩, (New.refl _).alloc _⟩
  · exact obj_alloc_at _ _ _ rfl
  · have := had a e; omega
set_option maxHeartbeats 2000000 in
set_option maxRecDepth 100000 in
theorem a2Picture_any (ad : Option Addr) (n c : Nat) (f : Nat → Int) (hn : n ≤ 1000000) (hf : ∀ i, 0 ≤ f i ∧ f i ≤ 255) (W : World) (hs : Sl W (.slice ad n c) n 1 .u8 f) (had : ∀ a, ad = some a → a.block < W.heap.size) :
    Calls Try.prog 5 #[.slice ad n c] W fun e w' => ∃ (a b : Int) (q : Nat → Int), e = .returned (.agg (pic 144 a b q)) ∧ (1 ≤ a ∧ a ≤ 6) ∧ (1 ≤ b ∧ b ≤ 6) ∧ GoodQ a b q ∧ New W w' := by
  have had := hide had
  go_enter Try.func5, Try.ntmps5
  go_wp2_with (fail)
  refine (l00From_any ad n c f _ (hs.new ((New.refl _).alloc _)) fun a e => by have := had.out a e; simp; omega).mono ?_
  rintro e w1 ⟨rfl, hs1, hn1⟩
  have hz := hn1.le
  simp at hz
  have hR : obj w1 W.heap.size = some (.cells (pic 144 0 0 fun _ => 0) 27) := (hn1.objs _ (by simp)).trans (obj_alloc_at _ _ _ rfl)
  have hl := obj_lt hR
  have hsz : (W.alloc (Obj.cells (pic 144 0 0 fun _ => 0) 27)).heap.size = W.heap.size + 1 := by simp
  rw [hsz] at hs1
  clear hsz hs
  go_wp2_with (fail)
  refine (l01Drawn_any (W.heap.size + 1) ad n c 0 f (by omega) hn hf _ hs1).mono ?_
  rintro e w2 ⟨a, b, q, rfl, ha, hb, hq, hs2, hg2⟩
  have r2 := (grown_step hg2 hl (by simp)).trans hR
  have hN : New W w2 := grown_new (((New.refl _).alloc _).trans hn1) hg2 fun q hq => by simp at hq; omega
  have l2 := obj_lt r2
  go_wp2_with (fail)
  refine ret_cell agg27 rfl rfl (c := pic 144 a b q) (t := 27) (fr := (0, 0)) (by rw [obj_setRow_same, r2]; simp only [Option.map_some, reCells_cells]) size_pic rfl ⟨a, b, q, rfl, ha, hb, hq, hN.setRow (Nat.le_refl _) _⟩
end Go.Proofs.Ytmmckoemkpfgbaa
