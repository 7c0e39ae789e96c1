/- All fields of a picture: the reference and the program answer alike; no condition. -/
import Derived.Test.YtmmckoemkpfgbaaFldD
import Derived.Test.YtmmckoemkpfgbaaFldP
import Derived.Test.YtmmckoemkpfgbaaRRow
import Derived.Test.YtmmckoemkpfgbaaGrw
set_option linter.unusedVariables false
namespace Go.Proofs.Ytmmckoemkpfgbaa
open Go.BigFrame
open Go.RowKit Go.Arr
def fldM (a b : Int) (f : Nat → Int) (c : Nat) : Nat := selN (inF (fldQ a b f c)) 144
def fldF (a b : Int) (f : Nat → Int) (c : Nat) : Nat → Int := fun j => (selG (inF (fldQ a b f c)) 144 j : Int)
theorem fldM_le (a b : Int) (f : Nat → Int) (c : Nat) : fldM a b f c ≤ 144 := selN_le 144
/-- the rows so far -/
def fsN (a b : Int) (f : Nat → Int) (i : Nat) : Nat := selN (fsP a b f) i
def fsM (a b : Int) (f : Nat → Int) (i : Nat) : Nat → Nat := fun j => fldM a b f (selG (fsP a b f) i j)
def fsF (a b : Int) (f : Nat → Int) (i : Nat) : Nat → Nat → Int := fun j => fldF a b f (selG (fsP a b f) i j)
theorem RR.grow {W : World} {base n : Nat} {v : Value} {vs vs' : Nat → Value} {m m' : Nat → Nat} {F F' : Nat → Nat → Int} (h : RR W base v n vs m F) (hm : m = m') (hF : F = F') : RR W base v n vs m' F' := by subst hm; subst hF; exact h
theorem fsM_t {a b : Int} {f : Nat → Int} {i : Nat} (h : fsP a b f i = true) : (fun j => if j = fsN a b f i then fldM a b f i else fsM a b f i j) = fsM a b f (i + 1) := by
  funext j
  unfold fsM fsN
  rw [selG_t h]
  by_cases e : j = selN (fsP a b f) i
  · rw [if_pos e]; dsimp only; rw [if_pos e]
  · rw [if_neg e]; dsimp only; rw [if_neg e]
theorem fsF_t {a b : Int} {f : Nat → Int} {i : Nat} (h : fsP a b f i = true) : (fun j => if j = fsN a b f i then fldF a b f i else fsF a b f i j) = fsF a b f (i + 1) := by
  funext j
  unfold fsF fsN
  rw [selG_t h]
  by_cases e : j = selN (fsP a b f) i
  · rw [if_pos e]; dsimp only; rw [if_pos e]
  · rw [if_neg e]; dsimp only; rw [if_neg e]
theorem fsM_f {a b : Int} {f : Nat → Int} {i : Nat} (h : fsP a b f i = false) : fsM a b f (i + 1) = fsM a b f i := by unfold fsM; rw [selG_f h]
theorem fsF_f {a b : Int} {f : Nat → Int} {i : Nat} (h : fsP a b f i = false) : fsF a b f (i + 1) = fsF a b f i := by unfold fsF; rw [selG_f h]
theorem fsN_t {a b : Int} {f : Nat → Int} {i : Nat} (h : fsP a b f i = true) : fsN a b f (i + 1) = fsN a b f i + 1 := selN_t h
theorem fsN_f {a b : Int} {f : Nat → Int} {i : Nat} (h : fsP a b f i = false) : fsN a b f (i + 1) = fsN a b f i := selN_f h
theorem fsN_le (a b : Int) (f : Nat → Int) (i : Nat) : fsN a b f i ≤ i := selN_le i
/-- those that a second loop has marked -/
def orUp (D : Nat → Bool) (p : Nat → Bool) (k : Nat) : Nat → Bool := fun j => D j || (decide (j < k) && p j)
theorem orUp_0 (D p : Nat → Bool) : orUp D p 0 = D := by funext j; simp [orUp]
theorem orUp_s (D p : Nat → Bool) (k : Nat) : updB (orUp D p k) k (D k || p k) = orUp D p (k + 1) := by
  funext j
  unfold updB orUp
  by_cases e : j = k
  · subst e; rw [if_pos rfl]; simp
  · rw [if_neg e]
    have : decide (j < k + 1) = decide (j < k) := by rw [decide_eq_decide]; omega
    rw [this]
theorem orUp_k (D p : Nat → Bool) (k : Nat) : orUp D p k k = D k := by simp [orUp]
theorem brr_orUp (D p : Nat → Bool) : brr 144 (orUp D p 144) = brr 144 fun k => D k || p k := brr_congr fun i hi => by simp [orUp, hi]
theorem updB_same {D : Nat → Bool} {k : Nat} {v : Bool} (h : D k = v) : updB D k v = D := by
  funext j
  unfold updB
  by_cases e : j = k
  · subst e; rw [if_pos rfl, h]
  · rw [if_neg e]
set_option maxHeartbeats 4000000 in
set_option maxRecDepth 100000 in
theorem l01Fields_any (gm : Nat) (t0 : TypeId) (a b : Int) (f : Nat → Int) (ha : -128 ≤ a ∧ a ≤ 12) (hb : -128 ≤ b ∧ b ≤ 12) (hf : ∀ i, 0 ≤ f i ∧ f i ≤ 255) (w : World) (ho : obj w gm = some (.cells (pic 144 a b f) t0)) :
    Calls Try.prog 28 #[.pointer (some ⟨gm, 0, none⟩)] w fun e w' => ∃ v vs, e = .returned v ∧ RR w' w.heap.size v (fsN a b f 144) vs (fsM a b f 144) (fsF a b f 144) ∧ New w w' := by
  have r1 := obj_lt ho
  go_enter Try.func28, Try.ntmps28
  go_wp2_with (fail)
  generalize hw0 : ((w.alloc (Obj.cells #[] 34)).alloc (Obj.cells (brr 144 fun _ => false) 62)) = w0
  have b1 : obj w0 w.heap.size = some (.cells #[] 34) := by subst hw0; go_simp
  have b2 : obj w0 (w.heap.size + 1) = some (.cells (brr 144 (fsD a b f 0)) 62) := by subst hw0; show _ = some (Obj.cells (brr 144 fun _ => false) 62); go_simp
  have hn0 : New w w0 := by subst hw0; exact ((New.refl w).alloc _).alloc _
  have hz0 : w0.heap.size = w.heap.size + 2 := by subst hw0; simp
  clear hw0
  go_loopw [3, 5] (fun v x wr => ∃ (i : Nat) (vs : Nat → Value), i ≤ 144 ∧ x = .int .i64 i ∧ RR wr w.heap.size v (fsN a b f i) vs (fsM a b f i) (fsF a b f i) ∧ Hid (∀ q : Nat, v.ownBlock = some q → q ≠ w.heap.size + 1) ∧ Hid (∀ (j q : Nat), j < fsN a b f i → (vs j).ownBlock = some q → q ≠ w.heap.size + 1) ∧ Hid (obj wr (w.heap.size + 1) = some (.cells (brr 144 (fsD a b f i)) 62)) ∧ New w wr ∧ w.heap.size + 2 ≤ wr.heap.size) (fun _ x _ => 144 - (intOf x).toNat)
  case atStart => exact ⟨0, fun _ => .slice none 0 0, by omega, rfl, RR.empty b1 (Nat.le_refl _), fun q hq => by simp [Value.ownBlock] at hq; omega, fun j q hj => absurd hj (by simp [fsN, selN]), b2, hn0, by omega⟩
  case round =>
    obtain ⟨i, vs, hi, rfl, hrr, hv1, hv2, hs1, hnw, hlw⟩ := hrel
    have p1 := hs1.out
    have pm := (hnw.objs _ r1).trans ho
    have hx := fsN_le a b f i
    obtain ⟨x3, y3, rfl⟩ := hrr.form
    by_cases hlt : i < 144
    · cases hc : cellN a b i
      · have hp : fsP a b f i = false := by unfold fsP; rw [hc]; rfl
        have e1 := hide (fsN_f hp)
        have e2 := hide (fsM_f hp)
        have e3 := hide (fsF_f hp)
        have e4 := hide (fsD_f hp)
        clear hp
        go_wp2_with (fail)
        refine (l01Is_any gm t0 a b f i (by omega) (by omega) _ pm).mono ?_
        rintro e w1 ⟨rfl, rfl⟩
        have hc' : cellB (i : Int) a b = false := hc
        rw [hc']
        clear hc hc'
        go_wp2_with (fail)
        go_roundw
        case rel => exact ⟨i + 1, vs, by omega, by go_num, by rw [e1.out, e2.out, e3.out]; exact hrr, hv1, by rw [e1.out]; exact hv2, by rw [e4.out]; exact hs1, hnw, hlw⟩
        case measure => simp [intOf]; omega
      · cases hd : fsD a b f i i
        · have hp : fsP a b f i = true := by unfold fsP; rw [hc, hd]; rfl
          have e1 := hide (fsN_t hp)
          have e2 := hide (fsM_t hp)
          have e3 := hide (fsF_t hp)
          have e4 := hide (fsD_t hp)
          clear hp
          go_wp2_with (fail)
          refine (l01Is_any gm t0 a b f i (by omega) (by omega) _ pm).mono ?_
          rintro e w1 ⟨rfl, rfl⟩
          have hc' : cellB (i : Int) a b = true := hc
          rw [hc']
          clear hc'
          go_wp2_with (fail)
          refine (l01Field_any gm t0 a b f ha hb hf i hc _ pm).mono ?_
          rintro e w1 ⟨rfl, hn1⟩
          have hcc := hide hc
          have hdd := hide hd
          clear hc hd e1 e2 e3 e4
          generalize hQe : inF (fldQ a b f i) = Q
          have hQ := hide hQe
          clear hQe
          generalize hDe : fsD a b f i = D at p1
          have hD := hide hDe
          clear hDe hs1
          have p2 := (hn1.objs _ (obj_lt p1)).trans p1
          have hrr2 := hrr.new hn1
          have hN2 := hnw.trans hn1
          have hz1 := hn1.le
          have hbl := hide hrr.block
          clear p1 pm hrr hn1 hnw
          go_wp2_with (fail)
          generalize hw2 : w1.alloc (Obj.cells (brr 144 Q) 62) = w2
          have s2 : obj w2 w1.heap.size = some (.cells (brr 144 Q) 62) := by subst hw2; exact obj_alloc_at _ _ _ rfl
          have p3 : obj w2 (w.heap.size + 1) = some (.cells (brr 144 (orUp D Q 0)) 62) := by subst hw2; rw [orUp_0]; exact (obj_alloc_past _ _ _ (obj_lt p2)).trans p2
          have hN3 : New w w2 := by subst hw2; exact hN2.alloc _
          have hrr3 : RR w2 w.heap.size (.slice x3 (fsN a b f i) y3) (fsN a b f i) vs (fsM a b f i) (fsF a b f i) := by subst hw2; exact hrr2.new ((New.refl _).alloc _)
          have hz2 : w2.heap.size = w1.heap.size + 1 := by subst hw2; simp
          have hne : w1.heap.size ≠ w.heap.size + 1 := by omega
          clear hw2 p2 hrr2 hN2
          have t1 := obj_lt s2
          have t2 := obj_lt p3
          go_loopw [7] (fun x wq => ∃ k : Nat, k ≤ 144 ∧ x = .int .i64 k ∧ Hid (obj wq (w.heap.size + 1) = some (.cells (brr 144 (orUp D Q k)) 62)) ∧ w2.grownBy wq (some (w.heap.size + 1))) (fun x _ => 144 - (intOf x).toNat)
          case atStart => exact ⟨0, by omega, rfl, p3, grown_refl _ _⟩
          case round =>
            obtain ⟨k, hk, rfl, hq, hg⟩ := hrel
            have q1 := hq.out
            have q2 := (grown_step hg t1 hne).trans s2
            have l1 := obj_lt q1
            have l2 := obj_lt q2
            by_cases hkl : k < 144
            · have hu := hide (orUp_s D Q k)
              have hkk : orUp D Q k k = D k := orUp_k D Q k
              cases hDk : D k
              · cases hQk : Q k
                · have hu2 : Hid (updB (orUp D Q k) k false = orUp D Q (k + 1)) := by show _ = _; rw [← hu.out, hDk, hQk]; rfl
                  clear p3
                  go_wp2_with (fail)
                  go_roundw
                  case rel => exact ⟨k + 1, by omega, by go_num, by show _ = _; rw [← hu2.out]; exact obj_set_brr q1 _ _ _ rfl, setCell_grown hg _ _⟩
                  case measure => simp [intOf]; omega
                · have hu2 : Hid (updB (orUp D Q k) k true = orUp D Q (k + 1)) := by show _ = _; rw [← hu.out, hDk, hQk]; rfl
                  clear p3
                  go_wp2_with (fail)
                  go_roundw
                  case rel => exact ⟨k + 1, by omega, by go_num, by show _ = _; rw [← hu2.out]; exact obj_set_brr q1 _ _ _ rfl, setCell_grown hg _ _⟩
                  case measure => simp [intOf]; omega
              · have hu2 : Hid (updB (orUp D Q k) k true = orUp D Q (k + 1)) := by show _ = _; rw [← hu.out, hDk]; rfl
                clear p3
                go_wp2_with (fail)
                go_roundw
                case rel => exact ⟨k + 1, by omega, by go_num, by show _ = _; rw [← hu2.out]; exact obj_set_brr q1 _ _ _ rfl, setCell_grown hg _ _⟩
                case measure => simp [intOf]; omega
            · obtain rfl : k = 144 := by omega
              have hrq : RR wr w.heap.size (.slice x3 (fsN a b f i) y3) (fsN a b f i) vs (fsM a b f i) (fsF a b f i) := hrr3.same (fun q hq => grown_step hg (by have := (hrr3.block q hq).2; omega) (hv1.out q hq)) (fun j q hj hq => grown_step hg (((hrr3.row hj).block q hq).2) (hv2.out j q hj hq))
              have hNq : New w wr := grown_new hN3 hg fun q hq => by simp at hq; omega
              have hle := hg.size
              clear p3 s2 hg hrr3 hN3 t1 t2
              go_wp2_with (fail)
              refine (l01Listed_any _ Q 62 _ q2).mono ?_
              rintro e w5 ⟨rv, rfl, hrow5, hn5⟩
              have hrr5 := hrq.new (hn5.alloc (Obj.cells #[rv] 34))
              have hrow6 : Row (w5.alloc (Obj.cells #[rv] 34)) w.heap.size rv (selN Q 144) fun j => (selG Q 144 j : Int) := (hrow5.new ((New.refl _).alloc _)).lower (by omega)
              have hN6 : New w (w5.alloc (Obj.cells #[rv] 34)) := (hNq.trans hn5).alloc _
              have p6 : obj (w5.alloc (Obj.cells #[rv] 34)) (w.heap.size + 1) = _ := (((New.refl _).alloc _).objs _ (obj_lt ((hn5.objs _ l1).trans q1))).trans ((hn5.objs _ l1).trans q1)
              have hdis : Hid (∀ q : Nat, rv.ownBlock = some q → wr.heap.size ≤ q) := fun q hq => (hrow5.block q hq).1
              have hvb : Hid (∀ q : Nat, (Value.slice x3 (fsN a b f i) y3).ownBlock = some q → q < wr.heap.size) := fun q hq => (hrq.block q hq).2
              have hvj : Hid (∀ (j q : Nat), j < fsN a b f i → (vs j).ownBlock = some q → q < wr.heap.size) := fun j q hj hq => ((hrq.row hj).block q hq).2
              obtain ⟨x5, y5, rfl, _⟩ := hrow5.reads
              have hz5 := hn5.le
              clear hrow5 hrq hNq hn5 q1 q2 l1 l2
              go_wp2_with (at_builtin; refine wpList_app slRows rfl _ _ rfl w.heap.size _ _ _ rfl hrr5.1 ⟨w5.heap.size, 0, none⟩ 1 1 [.slice x5 (selN Q 144) y5] rfl rfl (news_new _ _ _ _ _ rfl) (by simp [Value.oneCell']) (by omega) (by unfold maxLen; omega) (by omega) (by simp; omega) ?_)
              intro g1 cap1 w7 hown1 hg1 hat1 hlt1
              have hrr7 := RR.app hrr5 hrow6 (fun j q hj hq h2 => by have h3 := hvj.out j q hj hq; have h4 := hdis.out q h2; omega) (fun q hq h2 => by have h3 := hvb.out q h2; have h4 := hdis.out q hq; omega) hown1 hg1 (hat1.imp id fun h => by first | exact Nat.le_of_eq h.symm | (simp; omega))
              have hN7 : New w w7 := grown_new hN6 hg1 fun q hq => (hrr5.block q hq).1
              have p7 : obj w7 (w.heap.size + 1) = _ := (grown_obj hg1 _ (by simp; omega) fun e => hv1.out _ e.symm rfl).trans p6
              have hz7 := grown_le hg1
              simp at hz7
              have hv1' : Hid (∀ q : Nat, (Value.slice (some ⟨g1, 0, none⟩) (fsN a b f i + 1) cap1).ownBlock = some q → q ≠ w.heap.size + 1) := fun q hq => by
                simp [Value.ownBlock] at hq
                subst hq
                rcases hat1 with h | h
                · exact hv1.out _ h
                · (try simp at h); omega
              have hv2' : Hid (∀ (j q : Nat), j < fsN a b f i + 1 → ((fun j => if j = fsN a b f i then Value.slice x5 (selN Q 144) y5 else vs j) j).ownBlock = some q → q ≠ w.heap.size + 1) := fun j q hj hq => by
                by_cases e : j = fsN a b f i
                · simp only [if_pos e] at hq; have := hdis.out q hq; omega
                · simp only [if_neg e] at hq; exact hv2.out j q (by omega) hq
              clear hown1 hg1 hat1 hrr5 hrow6 hN6 p6
              go_wp2_with (fail)
              have hp : fsP a b f i = true := by unfold fsP; rw [hcc.out, hdd.out]; rfl
              have e1 := fsN_t hp
              have e4 : fsD a b f (i + 1) = fun k => D k || Q k := by rw [fsD_t hp, hD.out, hQ.out]
              go_roundw
              case rel => exact ⟨i + 1, _, by omega, by go_num, by rw [e1, ← fsM_t hp, ← fsF_t hp]; unfold fldM fldF; rw [hQ.out]; exact hrr7, hv1', by rw [e1]; exact hv2', by rw [e4, ← brr_orUp]; exact p7, hN7, by omega⟩
              case measure => simp [intOf]; omega
        · have hp : fsP a b f i = false := by unfold fsP; rw [hc, hd]; rfl
          have e1 := hide (fsN_f hp)
          have e2 := hide (fsM_f hp)
          have e3 := hide (fsF_f hp)
          have e4 := hide (fsD_f hp)
          clear hp
          go_wp2_with (fail)
          refine (l01Is_any gm t0 a b f i (by omega) (by omega) _ pm).mono ?_
          rintro e w1 ⟨rfl, rfl⟩
          have hc' : cellB (i : Int) a b = true := hc
          rw [hc']
          clear hc hc'
          go_wp2_with (fail)
          go_roundw
          case rel => exact ⟨i + 1, vs, by omega, by go_num, by rw [e1.out, e2.out, e3.out]; exact hrr, hv1, by rw [e1.out]; exact hv2, by rw [e4.out]; exact hs1, hnw, hlw⟩
          case measure => simp [intOf]; omega
    · obtain rfl : i = 144 := by omega
      go_wp2_with (fail)
      go_ret
      exact ⟨_, vs, rfl, hrr, hnw⟩
end Go.Proofs.Ytmmckoemkpfgbaa
