/- The great law on pictures: what it holds, in plain words; no condition. -/
import Derived.Test.YtomfjicjejoakaaDoorU3
import Derived.Test.YtomfjicjejoakaaDoorU5
import Derived.Test.YtomfjicjejoakaaDoorU6
import Derived.Test.YtomfjicjejoakaaDoorU7
import Derived.Test.YtomfjicjejoakaaDoorU8
import Derived.Test.YtomfjicjejoakaaDoorU4
import Derived.Test.YtomfjicjejoakaaDoorU2
import Derived.Test.YtomfjicjejoakaaDoorU1
import Derived.Lib.Builder
import Derived.Lib.UnsafeStr
import Derived.Lib.Strings
import Derived.Lib.Walk
import Derived.WalkKit
import Derived.Laws.Externs
set_option linter.unusedVariables false
namespace Go.Proofs.YtomfjicjejoakaaDoor
open Go.BigFrame
open Go.RowKit Go.Arr
/-- an answer is a picture -/
structure Is (A : PicAns) (a b : Int) (G : Nat → Int) : Prop where
  hc : A.c = 0
  hw : A.w = a
  hh : A.h = b
  hf : ∀ j, j < 144 → A.f j = G j
theorem Is.val {A : PicAns} {a b : Int} {G : Nat → Int} (h : Is A a b G) : ((.tuple #[.agg (pic 144 (A).w (A).h (A).f), .int .i64 (A).c]) : Value) = Value.tuple #[.agg (pic 144 a b G), .int .i64 0] := by
  rw [h.hc, h.hw, h.hh, pic_congr h.hf]
theorem Is.calls {P : Program} {F : FuncId} {args : Array Value} {W : World} {A : PicAns} {a b : Int} {G : Nat → Int} (h : Is A a b G) (hc : Calls P F args W fun e w' => e = .returned (.tuple #[.agg (pic 144 (A).w (A).h (A).f), .int .i64 (A).c]) ∧ New W w') :
    Calls P F args W fun e w' => e = .returned (.tuple #[.agg (pic 144 a b G), .int .i64 0]) ∧ New W w' := by
  rw [h.val] at hc
  exact hc
theorem paint_at {a b : Int} {h : Int → Int → Int} {x y : Int} (hx : 0 ≤ x ∧ x < a) (hy : 0 ≤ y ∧ y < b) (ha : a ≤ 12) (hb : b ≤ 12) : paint a b h (x + 12 * y).toNat = h x y := by
  have e1 : (((x + 12 * y).toNat : Nat) : Int) % 12 = x := by omega
  have e2 : (((x + 12 * y).toNat : Nat) : Int) / 12 = y := by omega
  unfold paint
  rw [if_pos (by unfold inside; omega), e1, e2]
theorem paint_good {a b : Int} {h : Int → Int → Int} (hb : b ≤ 12) (hh : ∀ x y, 0 ≤ x → x < a → 0 ≤ y → y < b → 0 ≤ h x y ∧ h x y < 16) : GoodQ a b (paint a b h) := by
  intro j
  unfold paint
  by_cases hi : inside a b j
  · have hi2 := hi
    unfold inside at hi2
    rw [if_pos hi]
    have := hh ((j : Int) % 12) ((j : Int) / 12) (by omega) (by omega) (by omega) (by omega)
    refine ⟨this.1, this.2, fun hc => ?_⟩
    have : cellN a b j = true := by rw [cellN_e]; omega
    rw [hc] at this; cases this
  · rw [if_neg hi]; exact ⟨by omega, by omega, fun _ => rfl⟩
/-- a function of the place that gives the picture back -/
theorem paint_back {a b : Int} {q : Nat → Int} {h : Int → Int → Int} (hg : GoodQ a b q) (hh : ∀ x y, 0 ≤ x → x < a → 0 ≤ y → y < b → h x y = q (x + 12 * y).toNat) (j : Nat) (hj : j < 144) : paint a b h j = q j := by
  unfold paint
  by_cases hi : inside a b j
  · have hi2 := hi
    unfold inside at hi2
    rw [if_pos hi, hh _ _ (by omega) (by omega) (by omega) (by omega)]
    congr 1
    omega
  · rw [if_neg hi]
    refine ((hg j).2.2 ?_).symm
    cases hc : cellN a b j
    · rfl
    · rw [cellN_e] at hc
      exact absurd (show inside a b j by unfold inside; omega) hi
section
variable {a b : Int} {q : Nat → Int}
theorem mir_is (hok : okPic a b q = true) : Is (mirA a b q) a b (paint a b (mirH a q)) := by unfold mirA; rw [if_pos hok]; exact ⟨rfl, rfl, rfl, fun _ _ => rfl⟩
theorem flip_is (hok : okPic a b q = true) : Is (flipA a b q) a b (paint a b (flipH b q)) := by unfold flipA; rw [if_pos hok]; exact ⟨rfl, rfl, rfl, fun _ _ => rfl⟩
theorem turn_is (hok : okPic a b q = true) : Is (turnA a b q) b a (paint b a (turnH b q)) := by unfold turnA; rw [if_pos hok]; exact ⟨rfl, rfl, rfl, fun _ _ => rfl⟩
theorem Is.to {A : PicAns} {G G' : Nat → Int} (h : Is A a b G) (hG : ∀ j, j < 144 → G j = G' j) : Is A a b G' := ⟨h.hc, h.hw, h.hh, fun j hj => (h.hf j hj).trans (hG j hj)⟩
theorem mir_at (ha : a ≤ 12) (hb : b ≤ 12) {x y : Int} (hx : 0 ≤ x ∧ x < a) (hy : 0 ≤ y ∧ y < b) : paint a b (mirH a q) (x + 12 * y).toNat = q (a - 1 - x + 12 * y).toNat := paint_at hx hy ha hb
theorem flip_at (ha : a ≤ 12) (hb : b ≤ 12) {x y : Int} (hx : 0 ≤ x ∧ x < a) (hy : 0 ≤ y ∧ y < b) : paint a b (flipH b q) (x + 12 * y).toNat = q (x + 12 * (b - 1 - y)).toNat := paint_at hx hy ha hb
theorem turn_at (ha : a ≤ 12) (hb : b ≤ 12) {x y : Int} (hx : 0 ≤ x ∧ x < b) (hy : 0 ≤ y ∧ y < a) : paint b a (turnH b q) (x + 12 * y).toNat = q (y + 12 * (b - 1 - x)).toNat := paint_at hx hy hb ha
theorem good_at (hg : GoodQ a b q) (i : Nat) : 0 ≤ q i ∧ q i < 16 := ⟨(hg i).1, (hg i).2.1⟩
structure PpSym (a b : Int) (q M F T1 T2 T3 : Nat → Int) : Prop where
  gM : GoodQ a b M
  gF : GoodQ a b F
  g1 : GoodQ b a T1
  g2 : GoodQ a b T2
  g3 : GoodQ b a T3
  m1 : Is (mirA a b q) a b M
  m2 : Is (mirA a b M) a b q
  f1 : Is (flipA a b q) a b F
  f2 : Is (flipA a b F) a b q
  t1 : Is (turnA a b q) b a T1
  t2 : Is (turnA b a T1) a b T2
  t3 : Is (turnA a b T2) b a T3
  t4 : Is (turnA b a T3) a b q
  fm : Is (flipA a b M) a b T2
  sc : symC a b q = 0
  sv : symV a b q = sumB (eqPic 144 a b M a b q) (eqPic 144 a b F a b q) (eqPic 144 a b T2 a b q) (eqPic 144 b a T1 a b q)
theorem pp_sym (ha : 1 ≤ a ∧ a ≤ 12) (hb : 1 ≤ b ∧ b ≤ 12) (hg : GoodQ a b q) :
    PpSym a b q (paint a b (mirH a q)) (paint a b (flipH b q)) (paint b a (turnH b q)) (paint a b (turnH a (paint b a (turnH b q)))) (paint b a (turnH b (paint a b (turnH a (paint b a (turnH b q)))))) := by
  have hok := hg.ok ha hb
  have gM : GoodQ a b (paint a b (mirH a q)) := paint_good hb.2 fun _ _ _ _ _ _ => good_at hg _
  have gF : GoodQ a b (paint a b (flipH b q)) := paint_good hb.2 fun _ _ _ _ _ _ => good_at hg _
  have g1 : GoodQ b a (paint b a (turnH b q)) := paint_good ha.2 fun _ _ _ _ _ _ => good_at hg _
  have g2 : GoodQ a b (paint a b (turnH a (paint b a (turnH b q)))) := paint_good hb.2 fun _ _ _ _ _ _ => good_at g1 _
  have g3 : GoodQ b a (paint b a (turnH b (paint a b (turnH a (paint b a (turnH b q)))))) := paint_good ha.2 fun _ _ _ _ _ _ => good_at g2 _
  have e2 : ∀ x y, 0 ≤ x → x < a → 0 ≤ y → y < b → paint a b (turnH a (paint b a (turnH b q))) (x + 12 * y).toNat = q (a - 1 - x + 12 * (b - 1 - y)).toNat := fun x y h1 h2 h3 h4 => by
    rw [turn_at hb.2 ha.2 ⟨h1, h2⟩ ⟨h3, h4⟩, turn_at ha.2 hb.2 ⟨h3, h4⟩ ⟨by omega, by omega⟩]
  refine ⟨gM, gF, g1, g2, g3, mir_is hok, (mir_is (gM.ok ha hb)).to (paint_back hg fun x y h1 h2 h3 h4 => ?_), flip_is hok, (flip_is (gF.ok ha hb)).to (paint_back hg fun x y h1 h2 h3 h4 => ?_), turn_is hok, turn_is (g1.ok hb ha), turn_is (g2.ok ha hb), (turn_is (g3.ok hb ha)).to (paint_back hg fun x y h1 h2 h3 h4 => ?_), (flip_is (gM.ok ha hb)).to (paint_back g2 fun x y h1 h2 h3 h4 => ?_), if_pos hok, ?_⟩
  · show paint a b (mirH a q) (a - 1 - x + 12 * y).toNat = _
    rw [mir_at ha.2 hb.2 ⟨by omega, by omega⟩ ⟨h3, h4⟩, show a - 1 - (a - 1 - x) = x by omega]
  · show paint a b (flipH b q) (x + 12 * (b - 1 - y)).toNat = _
    rw [flip_at ha.2 hb.2 ⟨h1, h2⟩ ⟨by omega, by omega⟩, show b - 1 - (b - 1 - y) = y by omega]
  · show paint b a (turnH b _) (y + 12 * (a - 1 - x)).toNat = _
    rw [turn_at ha.2 hb.2 ⟨h3, h4⟩ ⟨by omega, by omega⟩, e2 _ _ (by omega) (by omega) (by omega) (by omega)]
    congr 2
    omega
  · show paint a b (mirH a q) (x + 12 * (b - 1 - y)).toNat = _
    rw [mir_at ha.2 hb.2 ⟨h1, h2⟩ ⟨by omega, by omega⟩, e2 x y h1 h2 h3 h4]
  · unfold symV
    rw [if_pos hok, symU_4]
    rfl
/-- parts -/
structure PpCut (a b : Int) (q : Nat → Int) (x y : Int) (P : Nat → Int) : Prop where
  gP : GoodQ (a - x) (b - y) P
  cut : Is (cutA a b q x y (a - x) (b - y)) (a - x) (b - y) P
  pas : Is (pasA a b q (a - x) (b - y) P x y) a b q
theorem isCell_mk {x y : Int} (hx : 0 ≤ x ∧ x < a) (hy : 0 ≤ y ∧ y < b) : isCellB x y a b = true := by
  unfold isCellB
  rw [Bool.and_eq_true, inB_t, inB_t]
  omega
theorem code_0 {u v : Bool} (hu : u = true) (hv : v = true) : codeB u v = 0 := by rw [hu, hv]; rfl
theorem pp_cut (ha : 1 ≤ a ∧ a ≤ 12) (hb : 1 ≤ b ∧ b ≤ 12) (hg : GoodQ a b q) {x y : Int} (hx : 0 ≤ x ∧ x < a) (hy : 0 ≤ y ∧ y < b) : PpCut a b q x y (paint (a - x) (b - y) (cutH q x y)) := by
  have hok := hg.ok ha hb
  have gP : GoodQ (a - x) (b - y) (paint (a - x) (b - y) (cutH q x y)) := paint_good (by omega) fun _ _ _ _ _ _ => good_at hg _
  have hq : codeB (okPic a b q) (cutQ a b x y (a - x) (b - y)) = 0 := code_0 hok (by unfold cutQ; rw [isCell_mk hx hy, inB_t.2 ⟨by omega, by omega⟩, inB_t.2 ⟨by omega, by omega⟩]; rfl)
  have hp : codeB (okPic a b q && okPic (a - x) (b - y) (paint (a - x) (b - y) (cutH q x y))) (pasQ x y) = 0 := code_0 (by rw [hok, gP.ok ⟨by omega, by omega⟩ ⟨by omega, by omega⟩]; rfl) (by unfold pasQ; rw [inB_t.2 ⟨by omega, by omega⟩, inB_t.2 ⟨by omega, by omega⟩]; rfl)
  refine ⟨gP, ?_, ?_⟩
  · unfold cutA; rw [if_pos hq]; exact ⟨rfl, rfl, rfl, fun _ _ => rfl⟩
  · unfold pasA; rw [if_pos hp]
    refine ⟨rfl, rfl, rfl, paint_back hg fun u v h1 h2 h3 h4 => ?_⟩
    unfold pasH
    split
    · rename_i h
      obtain ⟨k1, k2⟩ := isCellB_t h.1
      rw [paint_at k1 k2 (by omega) (by omega)]
      unfold cutH
      congr 2
      omega
    · rfl
theorem pp_over (ha : 1 ≤ a ∧ a ≤ 12) (hb : 1 ≤ b ∧ b ≤ 12) (hg : GoodQ a b q) {c d : Int} {g : Nat → Int} (hc : 1 ≤ c ∧ c ≤ 12) (hd : 1 ≤ d ∧ d ≤ 12) (hg2 : GoodQ c d g) {x y : Int} (hx : -12 ≤ x ∧ x ≤ 12) (hy : -12 ≤ y ∧ y ≤ 12) :
    ∃ O, Is (pasA a b q c d g x y) a b O := by
  have hp : codeB (okPic a b q && okPic c d g) (pasQ x y) = 0 := code_0 (by rw [hg.ok ha hb, hg2.ok hc hd]; rfl) (by unfold pasQ; rw [inB_t.2 hx, inB_t.2 hy]; rfl)
  refine ⟨paint a b (pasH q c d g x y), ?_⟩
  unfold pasA; rw [if_pos hp]; exact ⟨rfl, rfl, rfl, fun _ _ => rfl⟩
structure PpBor (a b : Int) (q : Nat → Int) (W : Nat → Int) : Prop where
  gW : GoodQ (a + 2) (b + 2) W
  bor : Is (borA a b q 3) (a + 2) (b + 2) W
  inn : Is (cutA (a + 2) (b + 2) W 1 1 a b) a b q
theorem pp_bor (ha : 1 ≤ a ∧ a ≤ 10) (hb : 1 ≤ b ∧ b ≤ 10) (hg : GoodQ a b q) : PpBor a b q (paint (a + 2) (b + 2) (borH a b q 3)) := by
  have hok := hg.ok ⟨ha.1, by omega⟩ ⟨hb.1, by omega⟩
  have gW : GoodQ (a + 2) (b + 2) (paint (a + 2) (b + 2) (borH a b q 3)) := paint_good (by omega) fun x y _ _ _ _ => by
    unfold borH
    split
    · exact good_at hg _
    · omega
  refine ⟨gW, ?_, ?_⟩
  · unfold borA
    rw [if_pos (code_0 hok (by decide)), if_pos (by unfold isSizeB; rw [inB_t.2 ⟨by omega, by omega⟩, inB_t.2 ⟨by omega, by omega⟩]; rfl)]
    exact ⟨rfl, rfl, rfl, fun _ _ => rfl⟩
  · have hq : codeB (okPic (a + 2) (b + 2) (paint (a + 2) (b + 2) (borH a b q 3))) (cutQ (a + 2) (b + 2) 1 1 a b) = 0 := code_0 (gW.ok ⟨by omega, by omega⟩ ⟨by omega, by omega⟩) (by unfold cutQ; rw [isCell_mk ⟨by omega, by omega⟩ ⟨by omega, by omega⟩, inB_t.2 ⟨by omega, by omega⟩, inB_t.2 ⟨by omega, by omega⟩]; rfl)
    unfold cutA
    rw [if_pos hq]
    refine ⟨rfl, rfl, rfl, paint_back hg fun x y h1 h2 h3 h4 => ?_⟩
    show paint (a + 2) (b + 2) (borH a b q 3) (1 + x + 12 * (1 + y)).toNat = _
    rw [paint_at ⟨by omega, by omega⟩ ⟨by omega, by omega⟩ (by omega) (by omega)]
    unfold borH
    rw [show 1 + x - 1 = x by omega, show 1 + y - 1 = y by omega, if_pos (isCell_mk ⟨h1, h2⟩ ⟨h3, h4⟩)]
/-- counts -/
def clS (a b : Int) (f : Nat → Int) (v n : Nat) : List Nat := (List.range n).filter fun i => cellN a b i && decide ((f i).toNat = v)
theorem cnt_len (a b : Int) (f : Nat → Int) (v k : Nat) : cntF a b f k v = ((clS a b f v k).length : Nat) := by
  induction k with
  | zero => rfl
  | succ k ih =>
    unfold clS
    rw [List.range_succ, List.filter_append, List.length_append]
    show cntU (fun i => cellB i a b) (fun i => (f i).toNat) (k + 1) v = _
    unfold cntU
    have ih2 : cntU (fun i => cellB (i : Int) a b) (fun i => (f i).toNat) k v = ((clS a b f v k).length : Nat) := ih
    unfold clS at ih2
    cases hc : cellN a b k
    · have hc' : cellB (k : Int) a b = false := hc
      rw [if_neg (by rw [hc']; simp), ih2]
      simp [hc]
    · have hc' : cellB (k : Int) a b = true := hc
      rw [if_pos hc']
      unfold upd
      by_cases e : v = (f k).toNat
      · rw [if_pos e, ← e, ih2]
        simp [hc, ← e]
      · have hk : List.filter (fun i => cellN a b i && decide ((f i).toNat = v)) [k] = [] := by
          rw [List.filter_cons_of_neg (by simp only [Bool.and_eq_true, decide_eq_true_eq]; exact fun h => e h.2.symm)]
          rfl
        rw [if_neg e, ih2, hk]
        simp
theorem cls_mem {f : Nat → Int} {v i : Nat} : i ∈ clS a b f v 144 ↔ cellN a b i = true ∧ (f i).toNat = v := by
  unfold clS
  simp only [List.mem_filter, List.mem_range, Bool.and_eq_true, decide_eq_true_eq]
  exact ⟨fun h => h.2, fun h => ⟨(cellN_e.1 h.1).1, h⟩⟩
theorem cls_nodup (f : Nat → Int) (v : Nat) : (clS a b f v 144).Nodup := List.Pairwise.filter _ List.nodup_range
theorem cnt_turn_le (ha : 1 ≤ a ∧ a ≤ 12) (hb : 1 ≤ b ∧ b ≤ 12) (v : Nat) : cntF a b q 144 v ≤ cntF b a (paint b a (turnH b q)) 144 v := by
  rw [cnt_len, cnt_len]
  have h1 : ((clS a b q v 144).map fun i : Nat => ((b - 1 - (i : Int) / 12) + 12 * ((i : Int) % 12)).toNat).Nodup := by
    refine List.pairwise_map.2 (List.Pairwise.imp_of_mem (fun {i j} hi hj hne e => hne ?_) (cls_nodup q v))
    have hi := cellN_e.1 (cls_mem.1 hi).1
    have hj := cellN_e.1 (cls_mem.1 hj).1
    omega
  have h2 := List.Nodup.length_le_of_subset h1 (l₂ := clS b a (paint b a (turnH b q)) v 144) fun t ht => by
    obtain ⟨i, hi, rfl⟩ := List.mem_map.1 ht
    obtain ⟨hc, hv⟩ := cls_mem.1 hi
    have hc := cellN_e.1 hc
    refine cls_mem.2 ⟨?_, ?_⟩
    · rw [cellN_e]; omega
    · rw [turn_at ha.2 hb.2 ⟨by omega, by omega⟩ ⟨by omega, by omega⟩, show ((i : Int) % 12 + 12 * (b - 1 - (b - 1 - (i : Int) / 12))).toNat = i by omega]
      exact hv
  rw [List.length_map] at h2
  omega
theorem cnt_congr {f g : Nat → Int} (h : ∀ j, j < 144 → f j = g j) (v : Nat) : cntF a b f 144 v = cntF a b g 144 v := by
  rw [cnt_len, cnt_len]
  unfold clS
  congr 2
  refine List.filter_congr fun i hi => ?_
  rw [h i (by simpa using hi)]
theorem cnt_turn (ha : 1 ≤ a ∧ a ≤ 12) (hb : 1 ≤ b ∧ b ≤ 12) (hg : GoodQ a b q) (v : Nat) : cntF b a (paint b a (turnH b q)) 144 v = cntF a b q 144 v := by
  have h1 := cnt_turn_le (q := q) ha hb v
  have h2 := cnt_turn_le (q := paint b a (turnH b q)) hb ha v
  have h3 := cnt_turn_le (q := paint a b (turnH a (paint b a (turnH b q)))) ha hb v
  have h4 := cnt_turn_le (q := paint b a (turnH b (paint a b (turnH a (paint b a (turnH b q)))))) hb ha v
  have E := pp_sym ha hb hg
  have ht := turn_is (E.g3.ok hb ha)
  have h5 := cnt_congr (a := a) (b := b) (fun j hj => (ht.hf j hj).symm.trans (E.t4.hf j hj)) v
  omega
structure PpCnt (a b : Int) (q : Nat → Int) (T1 : Nat → Int) (z : Nat) (R : Nat → Int) (C D : Nat → Int) : Prop where
  c1 : cntA a b q = .tuple #[.agg (arr 16 .i64 C), .int .i64 0]
  c2 : cntA b a T1 = .tuple #[.agg (arr 16 .i64 C), .int .i64 0]
  reco : Is (recA a b q z 9) a b R
  gR : GoodQ a b R
  c3 : cntA a b R = .tuple #[.agg (arr 16 .i64 D), .int .i64 0]
  none : D z = 0
  sum : D 9 = C 9 + C z
  bd : ∀ j, (0 ≤ C j ∧ C j ≤ 144) ∧ (0 ≤ D j ∧ D j ≤ 144)
theorem cntF_b (a b : Int) (f : Nat → Int) (j : Nat) : 0 ≤ cntF a b f 144 j ∧ cntF a b f 144 j ≤ 144 := cntU_le _ _ 144 j
theorem cntU_rec {T : Nat → Bool} {v v' : Nat → Nat} {z : Nat} (hz : z ≠ 9) (k : Nat) (h : ∀ i, i < k → T i = true → v' i = if v i = z then 9 else v i) : cntU T v' k z = 0 ∧ cntU T v' k 9 = cntU T v k 9 + cntU T v k z := by
  induction k with
  | zero => exact ⟨rfl, rfl⟩
  | succ k ih =>
    obtain ⟨h1, h2⟩ := ih fun i hi => h i (by omega)
    unfold cntU
    by_cases ht : T k = true
    · have hk := h k (by omega) ht
      rw [if_pos ht, if_pos ht]
      unfold upd
      by_cases e : v k = z
      · rw [if_pos e] at hk
        rw [hk, if_neg hz, if_pos rfl, e, if_neg (fun h => hz h.symm), if_pos rfl]
        exact ⟨h1, by omega⟩
      · rw [if_neg e] at hk
        have hz2 : ¬ z = v k := fun h => e h.symm
        rw [hk, if_neg hz2, if_neg hz2]
        refine ⟨h1, ?_⟩
        by_cases e9 : 9 = v k
        · rw [if_pos e9, if_pos e9, ← e9]; omega
        · rw [if_neg e9, if_neg e9]; exact h2
    · rw [if_neg ht, if_neg ht]; exact ⟨h1, h2⟩
theorem pp_cnt (ha : 1 ≤ a ∧ a ≤ 12) (hb : 1 ≤ b ∧ b ≤ 12) (hg : GoodQ a b q) {z : Nat} (hz : z < 9) : PpCnt a b q (paint b a (turnH b q)) z (paint a b (recH q z 9)) (cntF a b q 144) (cntF a b (paint a b (recH q z 9)) 144) := by
  have hok := hg.ok ha hb
  have E := pp_sym ha hb hg
  have gR : GoodQ a b (paint a b (recH q z 9)) := paint_good hb.2 fun x y _ _ _ _ => by
    unfold recH
    split
    · omega
    · exact good_at hg _
  have hr : codeB (okPic a b q) (recQ z 9) = 0 := code_0 hok (by unfold recQ; rw [inB_t.2 ⟨by omega, by omega⟩]; rfl)
  have hrec := cntU_rec (T := fun i => cellB (i : Int) a b) (v := fun i => (q i).toNat) (v' := fun i => (paint a b (recH q z 9) i).toNat) (z := z) (by omega) 144 fun i hi ht => by
    have hc := cellN_e.1 (show cellN a b i = true from ht)
    have e : paint a b (recH q z 9) i = recH q z 9 ((i : Int) % 12) ((i : Int) / 12) := by unfold paint; exact if_pos (by unfold inside; omega)
    have h0 := (good_at hg i).1
    rw [e]
    unfold recH
    rw [show ((i : Int) % 12 + 12 * ((i : Int) / 12)).toNat = i by omega]
    by_cases e2 : q i = z
    · rw [if_pos e2, if_pos (by omega)]; rfl
    · rw [if_neg e2, if_neg (by omega)]
  refine ⟨if_pos hok, ?_, ?_, gR, if_pos (gR.ok ha hb), hrec.1, hrec.2, fun j => ⟨cntF_b a b q j, cntF_b _ _ _ j⟩⟩
  · unfold cntA
    rw [if_pos (E.g1.ok hb ha), arr_congr fun j _ => cnt_turn ha hb hg j]
  · unfold recA; rw [if_pos hr]; exact ⟨rfl, rfl, rfl, fun _ _ => rfl⟩
end
end Go.Proofs.YtomfjicjejoakaaDoor
/- The great law on pictures: a picture is read from its text, in plain words; no condition. -/
set_option linter.unusedVariables false
namespace Go.Proofs.YtomfjicjejoakaaDoor
open Go.BigFrame
open Go.RowKit Go.Arr
theorem letV_letB {x : Int} (h : 0 ≤ x ∧ x < 16) : letV (letB x) = x := by
  unfold letB letV
  split
  · rw [if_pos rfl]; omega
  · rw [if_neg (by omega), if_pos (by omega)]; omega
theorem letB_in {x : Int} (h : 0 ≤ x ∧ x < 16) : letB x = 46 ∨ (97 ≤ letB x ∧ letB x ≤ 111) := by
  unfold letB
  split
  · exact Or.inl rfl
  · exact Or.inr (by omega)
theorem u8_of {z : Int} (h : 0 ≤ z ∧ z ≤ 255) : (((UInt8.ofNat z.toNat).toNat : Nat) : Int) = z := by
  rw [UInt8.toNat_ofNat']
  omega
/-- a row's bytes -/
def rowB (q : Nat → Int) (A y : Nat) : List UInt8 := bytesOf (txtRow q y A)
theorem rowB_len (q : Nat → Int) (A y : Nat) : (rowB q A y).length = A := by unfold rowB bytesOf; rw [List.length_map, length_txtRow]
theorem txtRow_get (q : Nat → Int) (y A : Nat) {x : Nat} (hx : x < A) : (txtRow q y A)[x]? = some (letB (q (x + 12 * y))) := by
  induction A with
  | zero => omega
  | succ A ih =>
    unfold txtRow
    by_cases e : x < A
    · rw [List.getElem?_append_left (by rw [length_txtRow]; exact e)]; exact ih e
    · have e2 : x = A := by omega
      rw [List.getElem?_append_right (by rw [length_txtRow]; omega), length_txtRow, e2, Nat.sub_self]
      rfl
theorem rowB_get (q : Nat → Int) (A y : Nat) {x : Nat} (hx : x < A) : (rowB q A y)[x]? = some (UInt8.ofNat (letB (q (x + 12 * y))).toNat) := by
  unfold rowB bytesOf
  rw [List.getElem?_map, txtRow_get q y A hx]
  rfl
section
variable {q : Nat → Int} (hq : ∀ i, 0 ≤ q i ∧ q i < 16)
include hq
theorem rowB_no (A y : Nat) : (10 : UInt8) ∉ rowB q A y := by
  intro h
  obtain ⟨x, hx, e⟩ := List.getElem_of_mem h
  have hx2 : x < A := by rw [rowB_len] at hx; exact hx
  have e2 := rowB_get q A y hx2
  rw [List.getElem?_eq_getElem hx, e] at e2
  have e3 := Option.some.inj e2
  have hl := letB_in (hq (x + 12 * y))
  have e4 : (((10 : UInt8).toNat : Nat) : Int) = letB (q (x + 12 * y)) := by rw [e3]; exact u8_of (by omega)
  have : ((10 : UInt8).toNat : Nat) = 10 := rfl
  omega
theorem txt_rows (A y : Nat) : ∃ X, bytesOf (txtR q A (y + 1)) = X ++ [10] ∧ pcs 10 X = (List.range (y + 1)).map (rowB q A) := by
  induction y with
  | zero =>
    refine ⟨rowB q A 0, ?_, ?_⟩
    · show bytesOf ([] ++ txtRow q 0 A ++ [10]) = _
      unfold rowB bytesOf
      simp
    · rw [pcs_none (rowB_no hq A 0)]; rfl
  | succ y ih =>
    obtain ⟨X, h1, h2⟩ := ih
    refine ⟨X ++ 10 :: rowB q A (y + 1), ?_, ?_⟩
    · show bytesOf (txtR q A (y + 1) ++ txtRow q (y + 1) A ++ [10]) = _
      unfold bytesOf at h1 ⊢
      rw [List.map_append, List.map_append, h1]
      unfold rowB bytesOf
      simp
    · rw [pcs_snoc (rowB_no hq A (y + 1)), h2, List.range_succ (n := y + 1), List.map_append]
      rfl
theorem rd_rows {A B : Nat} (hB : 0 < B) : rwS (bstr (txtR q A B)) = (List.range B).map (rowB q A) ∧ endB (bstr (txtR q A B)) = true := by
  obtain ⟨y, rfl⟩ : ∃ y, B = y + 1 := ⟨B - 1, by omega⟩
  obtain ⟨X, h1, h2⟩ := txt_rows hq A y
  have hd : (bstr (txtR q A (y + 1))).data.toList = X ++ [10] := h1
  unfold rwS endB
  rw [hd, List.dropLast_concat, h2]
  refine ⟨rfl, ?_⟩
  rw [List.getLast?_append]
  rfl
omit hq in
theorem rows_get {A B y : Nat} (hy : y < B) : (((List.range B).map (rowB q A)).getD y []) = rowB q A y := by
  rw [List.getD_eq_getElem?_getD, List.getElem?_map, List.getElem?_range hy]
  rfl
theorem rbt_at {A B : Nat} {j : Nat} (hy : j / 12 < B) (hx : j % 12 < A) : rbt ((List.range B).map (rowB q A)) j = letB (q j) := by
  unfold rbt
  rw [rows_get hy]
  unfold bAt
  have h := rowB_get q A (j / 12) hx
  rw [show j % 12 + 12 * (j / 12) = j by omega] at h
  have hl := letB_in (hq j)
  rw [Array.getD_eq_getD_getElem?]
  show (((((rowB q A (j / 12)).toArray[j % 12]?).getD 0).toNat : Nat) : Int) = _
  rw [List.getElem?_toArray, h]
  exact u8_of (by omega)
end
structure PpTxt (a b : Int) (q : Nat → Int) (s : ByteArray) : Prop where
  txt : txtA a b q = s
  size : s.size ≤ 1048576
  pict : rdA s = pic 144 a b q
  code : rdC s = 0
theorem pp_txt {a b : Int} {q : Nat → Int} (ha : 1 ≤ a ∧ a ≤ 12) (hb : 1 ≤ b ∧ b ≤ 12) (hg : GoodQ a b q) : PpTxt a b q (bstr (txtR q a.toNat b.toNat)) := by
  have hq := good_at hg
  obtain ⟨A, rfl⟩ : ∃ A : Nat, a = A := ⟨a.toNat, by omega⟩
  obtain ⟨B, rfl⟩ : ∃ B : Nat, b = B := ⟨b.toNat, by omega⟩
  rw [Int.toNat_natCast, Int.toNat_natCast]
  obtain ⟨h1, h2⟩ := rd_rows hq (A := A) (B := B) (by omega)
  have hl : (rwS (bstr (txtR q A B))).length = B := by rw [h1]; simp
  have hw : widN (bstr (txtR q A B)) = A := by
    unfold widN
    rw [h1, rows_get (by omega), rowB_len]
  have ho : rdO (bstr (txtR q A B)) = true := by
    unfold rdO
    rw [h2, hl, hw, h1]
    simp only [Bool.true_and, Bool.and_eq_true, List.all_eq_true, List.mem_range]
    refine ⟨?_, fun y hy => ?_⟩
    · unfold isSizeB
      rw [inB_t.2 ha, inB_t.2 hb]
      rfl
    · unfold okRow
      rw [rows_get hy, rowB_len]
      simp only [decide_true, Bool.true_and, List.all_eq_true, List.mem_range, decide_eq_true_eq]
      intro x hx
      rw [rbt_at hq (by omega) (by omega), letV_letB (hq _)]
      exact (hq _).1
  refine ⟨?_, ?_, ?_, if_pos ho⟩
  · unfold txtA
    rw [if_pos (hg.ok ha hb), Int.toNat_natCast, Int.toNat_natCast]
  · rw [size_bstr, length_txtR]
    have : (A + 1) * B ≤ 13 * 12 := Nat.mul_le_mul (by omega) (by omega)
    omega
  · unfold rdA
    rw [if_pos ho, hl, hw, h1]
    refine pic_congr fun j hj => ?_
    unfold rdU
    by_cases hc : (j / 12 < B ∧ j % 12 < A) ∨ (j / 12 = B ∧ j % 12 < 0)
    · rw [if_pos hc, rbt_at hq (by omega) (by omega), letV_letB (hq _)]
    · rw [if_neg hc]
      refine ((hg j).2.2 ?_).symm
      cases hn : cellN (A : Int) B j
      · rfl
      · have := cellN_e.1 hn
        omega
end Go.Proofs.YtomfjicjejoakaaDoor
/- A strings.Builder that a call has made itself: a byte written, the string read; no condition. -/
set_option linter.unusedVariables false
namespace Go.Proofs.YtomfjicjejoakaaDoor
open Go.BigFrame
open Go.RowKit Go.Arr
theorem shape_of {w : World} {b : Nat} {cs : Array Value} {T : TypeId} (h : obj w b = some (.cells cs T)) : w.shape? b = some (T, cs.size) := by
  unfold obj at h
  simp [World.shape?, h]
set_option maxHeartbeats 1000000 in
set_option maxRecDepth 100000 in
theorem copyCheck_used (b : Nat) (v : Value) (w : World) (hb : obj w b = some (.cells #[.pointer (some ⟨b, 0, none⟩), v] 56)) :
    Calls Tryd.prog 64 #[.pointer (some ⟨b, 0, none⟩)] w fun e w' => e = .returned (.tuple #[]) ∧ w' = w := by
  obtain ⟨j, hj, _⟩ := Option.map_eq_some_iff.1 (show (Tryd.prog.info? 56).map (·.size) = some 2 by kernel_rfl)
  have hl := obj_lt hb
  have hne := fun w' : World => Lib.run_neq_ptr_same (P := Tryd.prog) w' (tp := 54) ⟨b, 0, none⟩ Tryd.underlying54 hj
  go_enter Tryd.func64, Tryd.ntmps64
  go_wp2_with (fail)
  go_end0
  exact ⟨rfl, rfl⟩
set_option maxHeartbeats 1000000 in
set_option maxRecDepth 100000 in
theorem copyCheck_fresh (b : Nat) (v : Value) (w : World) (hb : obj w b = some (.cells #[.pointer none, v] 56)) :
    Calls Tryd.prog 64 #[.pointer (some ⟨b, 0, none⟩)] w fun e w' => e = .returned (.tuple #[]) ∧ w' = w.setCell ⟨b, 0, none⟩ (.pointer (some ⟨b, 0, none⟩)) := by
  obtain ⟨j, hj, hjs⟩ := Option.map_eq_some_iff.1 (show (Tryd.prog.info? 56).map (·.size) = some 2 by kernel_rfl)
  have hl := obj_lt hb
  have hsh := shape_of hb
  have hto := Lib.run_to_unsafe (P := Tryd.prog) w (src := 54) (dst := 92) ⟨b, 0, none⟩ Tryd.underlying54 Tryd.underlying92 hj (by rw [hjs]; decide) hsh (Nat.zero_lt_succ 1)
  have hfrom := Lib.run_from_unsafe (P := Tryd.prog) w (src := 92) (dst := 54) ⟨b, 0, none⟩ Tryd.underlying92 Tryd.underlying54 hj hsh (by kernel_rfl)
  go_enter Tryd.func64, Tryd.ntmps64
  go_wp2_with (fail)
  rw [run_callFunc_extern Tryd.func74 (by kernel_rfl) (by kernel_rfl) (by kernel_rfl) (e := Extern.AbiNoEscape.same) (by kernel_rfl)]
  rw [Lib.run_noEscape]
  simp only [Result.andThen]
  rw [Oper.upon_value]
  go_wp2_with (fail)
  go_end0
  exact ⟨rfl, rfl⟩
theorem copyCheck_any (B b : Nat) (bs : List Value) (w : World) (h : Lib.IsBuilder 56 5 B b bs w) :
    Calls Tryd.prog 64 #[.pointer (some ⟨b, 0, none⟩)] w fun e w' => e = .returned (.tuple #[]) ∧ (Lib.BuilderAt 56 5 B b (.pointer (some ⟨b, 0, none⟩)) bs w' ∧ Below B w w') := by
  rcases h with h | h
  · obtain ⟨hB, v, hb, hown, hne⟩ := id h
    refine (copyCheck_fresh b v w hb).mono ?_
    rintro e w' ⟨rfl, rfl⟩
    exact ⟨rfl, h.used _, (Below.refl B w).setCell (p := ⟨b, 0, none⟩) h.1 _⟩
  · obtain ⟨hB, v, hb, hown, hne⟩ := id h
    refine (copyCheck_used b v w hb).mono ?_
    rintro e w' ⟨rfl, rfl⟩
    exact ⟨rfl, h, Below.refl B _⟩
theorem slBytes3 : SlTy Tryd.prog 22 5 (.int .u8 0) 1 1 := ⟨Tryd.underlying22, by kernel_rfl, rfl, by omega⟩
set_option maxHeartbeats 2000000 in
set_option maxRecDepth 100000 in
theorem writeByte_any (B b : Nat) (bs : List Value) (c : Int) (w : World) (h : Lib.IsBuilder 56 5 B b bs w) (hlen : bs.length + 1 ≤ 100000) (hBw : B ≤ w.heap.size) :
    Calls Tryd.prog 32 #[.pointer (some ⟨b, 0, none⟩), .int .u8 c] w fun e w' => e = .returned .nilIface ∧ (Lib.BuilderAt 56 5 B b (.pointer (some ⟨b, 0, none⟩)) (bs ++ [.int .u8 c]) w' ∧ Below B w w') := by
  go_enter Tryd.func32, Tryd.ntmps32
  go_wp2_with (fail)
  refine (copyCheck_any B b bs _ h).mono ?_
  rintro e w1 ⟨rfl, h1, hb1⟩
  obtain ⟨hB, v, hbk, hown, hne⟩ := h1
  have hb : obj w1 b = some (.cells #[.pointer (some ⟨b, 0, none⟩), v] 56) := hbk
  have hlt := obj_lt hb
  have hz1 := hb1.size
  go_wp2_with (at_builtin; refine wpList_app slBytes3 rfl _ _ rfl B _ _ _ rfl (hown.alloc _) ⟨w1.heap.size, 0, none⟩ 1 1 [.int .u8 c] rfl rfl (news_new _ _ _ _ _ rfl) (by simp [Value.oneCell']) (by omega) (by unfold maxLen; omega) (by omega) (by simp; omega) ?_)
  intro g cap w2 hown' hgrow hat hlt2
  have hb2 : obj w2 b = some (.cells #[.pointer (some ⟨b, 0, none⟩), v] 56) := (grown_obj hgrow b (by simp; omega) (fun e => hne e.symm)).trans ((obj_alloc_past _ _ _ hlt).trans hb)
  have hput := Lib.BuilderAt.put (T := 56) (e := 5) hB hb2 (bs' := bs ++ [.int .u8 c]) (by simpa using hown') (by decide)
  have hbel := ((hb1.alloc (by omega) (.cells #[.int .u8 c] 5)).grown hgrow (by simp; omega) (fun k hk => (hown.lt k hk).1)).setCell (p := ⟨b, 1, none⟩) hB (.slice (some ⟨g, 0, none⟩) (bs.length + 1) cap)
  clear hown' hgrow hat hown hbk hb1
  go_wp2_with (fail)
  go_ret
  exact ⟨rfl, by simpa using hput, hbel⟩
end Go.Proofs.YtomfjicjejoakaaDoor
