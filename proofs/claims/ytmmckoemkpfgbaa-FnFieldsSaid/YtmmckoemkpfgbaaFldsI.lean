/- All fields of a picture, by the program; no condition. -/
import Derived.Test.YtmmckoemkpfgbaaFlds
set_option linter.unusedVariables false
namespace Go.Proofs.Ytmmckoemkpfgbaa
open Go.BigFrame
open Go.RowKit Go.Arr
def markUp (D : Nat → Bool) (G : Nat → Nat) : Nat → Nat → Bool
  | 0 => D
  | j + 1 => updB (markUp D G j) (G j) true
theorem markUp_e (D : Nat → Bool) (G : Nat → Nat) (n c : Nat) : markUp D G n c = true ↔ D c = true ∨ ∃ l, l < n ∧ G l = c := by
  induction n with
  | zero => simp [markUp]
  | succ n ih =>
    unfold markUp updB
    by_cases e : c = G n
    · rw [if_pos e]
      simp only [true_iff]
      exact Or.inr ⟨n, by omega, e.symm⟩
    · rw [if_neg e, ih]
      constructor
      · rintro (h | ⟨l, h1, h2⟩)
        · exact Or.inl h
        · exact Or.inr ⟨l, by omega, h2⟩
      · rintro (h | ⟨l, h1, h2⟩)
        · exact Or.inl h
        · refine Or.inr ⟨l, ?_, h2⟩
          by_cases e2 : l = n
          · subst e2; exact absurd h2.symm e
          · omega
theorem brr_markUp (D Q : Nat → Bool) : brr 144 (markUp D (selG Q 144) (selN Q 144)) = brr 144 fun k => D k || Q k := brr_congr fun c hc => by
  rw [Bool.eq_iff_iff, markUp_e, Bool.or_eq_true]
  refine or_congr Iff.rfl ⟨?_, ?_⟩
  · rintro ⟨l, h1, rfl⟩; exact (selG_lt 144 l h1).2
  · intro h; exact selG_onto hc h
set_option maxHeartbeats 4000000 in
set_option maxRecDepth 100000 in
theorem fields_any (a b : Int) (f : Nat → Int) (ha : -128 ≤ a ∧ a ≤ 12) (hb : -128 ≤ b ∧ b ≤ 12) (hf : ∀ i, 0 ≤ f i ∧ f i ≤ 255) (w : World) :
    Calls Try.prog 26 #[.agg (pic 144 a b f)] w fun e w' => ∃ v vs, e = .returned v ∧ RR w' w.heap.size v (fsN a b f 144) vs (fsM a b f 144) (fsF a b f 144) ∧ New w w' := by
  go_enter Try.func26, Try.ntmps26
  go_wp2_with (fail)
  generalize hw0 : (((w.alloc (Obj.cells (pic 144 a b f) 27)).alloc (Obj.cells #[] 34)).alloc (Obj.cells (brr 144 fun _ => false) 62)) = w0
  have ho : obj w0 w.heap.size = some (.cells (pic 144 a b f) 27) := by subst hw0; go_simp
  have b1 : obj w0 (w.heap.size + 1) = some (.cells #[] 34) := by subst hw0; go_simp
  have b2 : obj w0 (w.heap.size + 2) = some (.cells (brr 144 (fsD a b f 0)) 62) := by subst hw0; show _ = some (Obj.cells (brr 144 fun _ => false) 62); go_simp
  have hn0 : New w w0 := by subst hw0; exact (((New.refl w).alloc _).alloc _).alloc _
  have hz0 : w0.heap.size = w.heap.size + 3 := by subst hw0; simp
  clear hw0
  go_loopw [3, 11] (fun v x wr => ∃ (i : Nat) (vs : Nat → Value), i ≤ 144 ∧ x = .int .i64 i ∧ RR wr (w.heap.size + 1) v (fsN a b f i) vs (fsM a b f i) (fsF a b f i) ∧ Hid (∀ q : Nat, v.ownBlock = some q → q ≠ w.heap.size + 2) ∧ Hid (∀ (j q : Nat), j < fsN a b f i → (vs j).ownBlock = some q → q ≠ w.heap.size + 2) ∧ Hid (obj wr (w.heap.size + 2) = some (.cells (brr 144 (fsD a b f i)) 62)) ∧ Hid (obj wr w.heap.size = some (.cells (pic 144 a b f) 27)) ∧ New w wr ∧ w.heap.size + 3 ≤ wr.heap.size) (fun _ x _ => 144 - (intOf x).toNat)
  case atStart => exact ⟨0, fun _ => .slice none 0 0, by omega, rfl, RR.empty b1 (Nat.le_refl _), fun q hq => by simp [Value.ownBlock] at hq; omega, fun j q hj => absurd hj (by simp [fsN, selN]), b2, ho, hn0, by omega⟩
  case round =>
    obtain ⟨i, vs, hi, rfl, hrr, hv1, hv2, hs1, hs2, hnw, hlw⟩ := hrel
    have p1 := hs1.out
    have pm := hs2.out
    have lm := obj_lt pm
    have hx := fsN_le a b f i
    obtain ⟨x3, y3, rfl⟩ := hrr.form
    clear hs1 hs2 ho b1 b2
    by_cases hlt : i < 144
    · have hcc0 := cell_isCell i hlt a b
      cases hc : cellN a b i
      · have hc' : isCellB ((i : Int) % 12) ((i : Int) / 12) a b = false := hcc0.trans hc
        have hcc := hide hc
        clear hc hcc0
        go_wp2_with (fail)
        refine (has_any a b f _ _ (by omega) (by omega) _).mono ?_
        rintro e w1 ⟨rfl, hn1⟩
        rw [hc']
        clear hc'
        have p2 := (hn1.objs _ (obj_lt p1)).trans p1
        have pm2 := (hn1.objs _ lm).trans pm
        have hrr2 := hrr.new hn1
        have hN2 := hnw.trans hn1
        have hz2 := hn1.le
        clear p1 pm hrr hnw hn1
        go_wp2_with (fail)
        have hp : fsP a b f i = false := by unfold fsP; rw [hcc.out]; rfl
        go_roundw
        case rel => exact ⟨i + 1, vs, by omega, by go_num, by rw [fsN_f hp, fsM_f hp, fsF_f hp]; exact hrr2, hv1, by rw [fsN_f hp]; exact hv2, by rw [fsD_f hp]; exact p2, pm2, hN2, by omega⟩
        case measure => simp [intOf]; omega
      · have hc' : isCellB ((i : Int) % 12) ((i : Int) / 12) a b = true := hcc0.trans hc
        have hcc := hide hc
        clear hc hcc0
        cases hd : fsD a b f i i
        · have hdd := hide hd
          go_wp2_with (fail)
          refine (has_any a b f _ _ (by omega) (by omega) _).mono ?_
          rintro e w1 ⟨rfl, hn1⟩
          rw [hc']
          clear hc'
          have p2 := (hn1.objs _ (obj_lt p1)).trans p1
          have pm2 := (hn1.objs _ lm).trans pm
          have hrr2 := hrr.new hn1
          have hN2 := hnw.trans hn1
          have hz2 := hn1.le
          clear p1 pm hrr hnw hn1
          go_wp2_with (fail)
          refine (field_any a b f ha hb hf i _ _ (by omega) (by omega) (by omega) hcc.out _).mono ?_
          rintro e w2 ⟨rv, rfl, hrow, hn2⟩
          generalize hQe : inF (fldQ a b f i) = Q at hrow
          have hQ := hide hQe
          clear hQe
          generalize hDe : fsD a b f i = D at p2 hd
          have hD := hide hDe
          clear hDe hd
          have p3 : obj w2 (w.heap.size + 2) = some (.cells (brr 144 (markUp D (selG Q 144) 0)) 62) := (hn2.objs _ (obj_lt p2)).trans p2
          have pm3 := (hn2.objs _ (obj_lt pm2)).trans pm2
          have hrr3 := hrr2.new hn2
          have hN3 := hN2.trans hn2
          have hz3 := hn2.le
          have hdis : Hid (∀ q : Nat, rv.ownBlock = some q → w1.heap.size ≤ q) := fun q hq => (hrow.block q hq).1
          have hvb : Hid (∀ q : Nat, (Value.slice x3 (fsN a b f i) y3).ownBlock = some q → q < w1.heap.size) := fun q hq => (hrr2.block q hq).2
          have hvj : Hid (∀ (j q : Nat), j < fsN a b f i → (vs j).ownBlock = some q → q < w1.heap.size) := fun j q hj hq => ((hrr2.row hj).block q hq).2
          obtain ⟨x5, y5, rfl, _⟩ := hrow.reads
          have hQn : selN Q 144 ≤ 144 := selN_le 144
          clear p2 pm2 hrr2 hN2 hn2
          generalize hM : selN Q 144 = M at hrow hdis hQn
          have hMh := hide hM
          clear hM
          go_wp2_with (fail)
          have t1 := obj_lt p3
          have t2 := obj_lt pm3
          go_loopw [34] (fun x wq => ∃ j : Nat, j ≤ M ∧ x = .int .i64 j ∧ Hid (obj wq (w.heap.size + 2) = some (.cells (brr 144 (markUp D (selG Q 144) j)) 62)) ∧ w2.grownBy wq (some (w.heap.size + 2))) (fun x _ => 144 - (intOf x).toNat)
          case atStart => exact ⟨0, by omega, rfl, p3, grown_refl _ _⟩
          case round =>
            obtain ⟨j, hj, rfl, hq, hg⟩ := hrel
            have q1 := hq.out
            have l1 := obj_lt q1
            by_cases hjl : j < M
            · obtain ⟨gq, offq, curq, tq, frq, rfl, oq, helq⟩ := elInts hrow.sl (by omega)
              have hgq := hdis.out gq rfl
              have oq2 := (grown_step hg (obj_lt oq) (by omega)).trans oq
              have lq := obj_lt oq2
              obtain ⟨lqq, eqq⟩ := helq j hjl
              have hsel := (selG_lt (p := Q) 144 j (by rw [hMh.out]; exact hjl)).1
              have hst : Hid (markUp D (selG Q 144) (j + 1) = updB (markUp D (selG Q 144) j) (selG Q 144 j) true) := rfl
              generalize selG Q 144 j = c at hsel hst eqq
              clear helq oq p3 hgq
              go_wp2_with (fail)
              go_roundw
              case rel => exact ⟨j + 1, by omega, by go_num, by rw [hst.out]; exact obj_set_brr q1 _ _ _ rfl, setCell_grown hg _ _⟩
              case measure => simp [intOf]; omega
            · obtain rfl : M = j := by omega
              have hrq : RR wr (w.heap.size + 1) (.slice x3 (fsN a b f i) y3) (fsN a b f i) vs (fsM a b f i) (fsF a b f i) := hrr3.same (fun q hq => grown_step hg (by have := (hrr3.block q hq).2; omega) (hv1.out q hq)) (fun j q hj hq => grown_step hg (((hrr3.row hj).block q hq).2) (hv2.out j q hj hq))
              have hNq : New w wr := grown_new hN3 hg fun q hq => by simp at hq; omega
              have hrowq : Row wr w1.heap.size (.slice x5 M y5) M (fun j => (selG Q 144 j : Int)) := hrow.same fun q hq => grown_step hg (hrow.block q hq).2 (by have := hdis.out q hq; omega)
              have pmq := (grown_step hg t2 (by omega)).trans pm3
              have hle := hg.size
              have hrr5 := hrq.new ((New.refl _).alloc (Obj.cells #[.slice x5 M y5] 34))
              have hrow6 : Row (wr.alloc (Obj.cells #[.slice x5 M y5] 34)) (w.heap.size + 1) (.slice x5 M y5) M fun j => (selG Q 144 j : Int) := (hrowq.new ((New.refl _).alloc _)).lower (by omega)
              have hN6 : New w (wr.alloc (Obj.cells #[.slice x5 M y5] 34)) := hNq.alloc _
              have p6 : obj (wr.alloc (Obj.cells #[.slice x5 M y5] 34)) (w.heap.size + 2) = _ := (obj_alloc_past _ _ _ l1).trans q1
              have pm6 : obj (wr.alloc (Obj.cells #[.slice x5 M y5] 34)) w.heap.size = _ := (obj_alloc_past _ _ _ (obj_lt pmq)).trans pmq
              have lm6 := obj_lt pm6
              clear p3 pm3 hg hrr3 hN3 t1 t2 hrow hrowq hrq hNq pmq q1 l1
              go_wp2_with (at_builtin; refine wpList_app slRows rfl _ _ rfl (w.heap.size + 1) _ _ _ rfl hrr5.1 ⟨wr.heap.size, 0, none⟩ 1 1 [.slice x5 M y5] rfl rfl (news_new _ _ _ _ _ rfl) (by simp [Value.oneCell']) (by omega) (by unfold maxLen; omega) (by omega) (by simp; omega) ?_)
              intro g1 cap1 w7 hown1 hg1 hat1 hlt1
              have hrr7 := RR.app hrr5 hrow6 (fun j q hj hq h2 => by have h3 := hvj.out j q hj hq; have h4 := hdis.out q h2; omega) (fun q hq h2 => by have h3 := hvb.out q h2; have h4 := hdis.out q hq; omega) hown1 hg1 (hat1.imp id fun h => by first | exact Nat.le_of_eq h.symm | (simp; omega))
              have hN7 : New w w7 := grown_new hN6 hg1 fun q hq => by have := (hrr5.block q hq).1; omega
              have p7 : obj w7 (w.heap.size + 2) = _ := (grown_obj hg1 _ (by simp; omega) fun e => hv1.out _ e.symm rfl).trans p6
              have pm7 : obj w7 w.heap.size = _ := (grown_obj hg1 _ lm6 fun e => by have := (hrr5.block _ e.symm).1; omega).trans pm6
              have hz7 := grown_le hg1
              simp at hz7
              have hv1' : Hid (∀ q : Nat, (Value.slice (some ⟨g1, 0, none⟩) (fsN a b f i + 1) cap1).ownBlock = some q → q ≠ w.heap.size + 2) := fun q hq => by
                simp [Value.ownBlock] at hq
                subst hq
                rcases hat1 with h | h
                · exact hv1.out _ h
                · (try simp at h); omega
              have hv2' : Hid (∀ (j q : Nat), j < fsN a b f i + 1 → ((fun j => if j = fsN a b f i then Value.slice x5 M y5 else vs j) j).ownBlock = some q → q ≠ w.heap.size + 2) := fun j q hj hq => by
                by_cases e : j = fsN a b f i
                · simp only [if_pos e] at hq; have := hdis.out q hq; omega
                · simp only [if_neg e] at hq; exact hv2.out j q (by omega) hq
              clear hown1 hg1 hat1 hrr5 hrow6 hN6 p6 pm6
              go_wp2_with (fail)
              have hp : fsP a b f i = true := by unfold fsP; rw [hcc.out, hdd.out]; rfl
              have e1 := fsN_t hp
              have e4 : fsD a b f (i + 1) = fun k => D k || Q k := by rw [fsD_t hp, hD.out, hQ.out]
              go_roundw
              case rel => exact ⟨i + 1, _, by omega, by go_num, by rw [e1, ← fsM_t hp, ← fsF_t hp]; unfold fldM fldF; rw [hQ.out, hMh.out]; exact hrr7, hv1', by rw [e1]; exact hv2', by rw [e4, ← brr_markUp, hMh.out]; exact p7, pm7, hN7, by omega⟩
              case measure => simp [intOf]; omega
        · have hdd := hide hd
          go_wp2_with (fail)
          refine (has_any a b f _ _ (by omega) (by omega) _).mono ?_
          rintro e w1 ⟨rfl, hn1⟩
          rw [hc']
          clear hc'
          have p2 := (hn1.objs _ (obj_lt p1)).trans p1
          have pm2 := (hn1.objs _ lm).trans pm
          have hrr2 := hrr.new hn1
          have hN2 := hnw.trans hn1
          have hz2 := hn1.le
          clear p1 pm hrr hnw hn1
          go_wp2_with (fail)
          have hp : fsP a b f i = false := by unfold fsP; rw [hcc.out, hdd.out]; rfl
          go_roundw
          case rel => exact ⟨i + 1, vs, by omega, by go_num, by rw [fsN_f hp, fsM_f hp, fsF_f hp]; exact hrr2, hv1, by rw [fsN_f hp]; exact hv2, by rw [fsD_f hp]; exact p2, pm2, hN2, by omega⟩
          case measure => simp [intOf]; omega
    · obtain rfl : i = 144 := by omega
      go_wp2_with (fail)
      go_ret
      exact ⟨_, vs, rfl, hrr.lower (by omega), hnw⟩
end Go.Proofs.Ytmmckoemkpfgbaa
