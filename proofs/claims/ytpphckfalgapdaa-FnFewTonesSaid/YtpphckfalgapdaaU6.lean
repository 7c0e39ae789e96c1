/- A picture from a stock of tones: what the reference returns; no condition. -/
import Derived.Test.YtpphckfalgapdaaU5
import Derived.Test.YtpphckfalgapdaaU1
import Derived.Deep.RegionHeld3
import Derived.Deep.DeepCutAuto
set_option linter.unusedVariables false
namespace Go.Proofs.Ytpphckfalgapdaa
open Go.BigFrame
open Go.RowKit Go.Arr
def farC (fm fp : Nat → Int) (i c : Nat) : Int := far (fp (c * 3)) (fp (c * 3 + 1)) (fp (c * 3 + 2)) (fm (i * 3)) (fm (i * 3 + 1)) (fm (i * 3 + 2))
def pick (fm fp : Nat → Int) (L : Nat → Int) (i : Nat) : Nat → Int
  | 0 => -1
  | c + 1 => if 0 < L c ∧ (pick fm fp L i c < 0 ∨ farC fm fp i c < farC fm fp i (pick fm fp L i c).toNat) then c else pick fm fp L i c
section
variable {fm fp L : Nat → Int} {i : Nat}
theorem pick_b (c : Nat) : -1 ≤ pick fm fp L i c ∧ pick fm fp L i c < c ∧ (0 ≤ pick fm fp L i c → 0 < L (pick fm fp L i c).toNat) := by
  induction c with
  | zero => simp [pick]
  | succ c ih =>
    unfold pick
    split
    · rename_i h
      refine ⟨by omega, by omega, fun _ => ?_⟩
      simpa using h.1
    · exact ⟨ih.1, by omega, ih.2.2⟩
theorem pick_t {c : Nat} (h1 : 0 < L c) (h2 : pick fm fp L i c < 0 ∨ farC fm fp i c < farC fm fp i (pick fm fp L i c).toNat) : pick fm fp L i (c + 1) = c := if_pos ⟨h1, h2⟩
theorem pick_f {c : Nat} (h : ¬ (0 < L c ∧ (pick fm fp L i c < 0 ∨ farC fm fp i c < farC fm fp i (pick fm fp L i c).toNat))) : pick fm fp L i (c + 1) = pick fm fp L i c := if_neg h
end
abbrev St := Option ((Nat → Int) × (Nat → Int))
def stepF (fm fp : Nat → Int) (n : Nat) (s : St) (i : Nat) : St := s.bind fun x => if pick fm fp x.2 i n < 0 then none else some (upd x.1 i (pick fm fp x.2 i n + 1), upd x.2 (pick fm fp x.2 i n).toNat (x.2 (pick fm fp x.2 i n).toNat - 1))
theorem stepF_n {fm fp : Nat → Int} {n : Nat} {q L : Nat → Int} {i : Nat} (h : pick fm fp L i n < 0) : stepF fm fp n (some (q, L)) i = none := if_pos h
theorem stepF_s {fm fp : Nat → Int} {n : Nat} {q L : Nat → Int} {i t : Nat} (h : pick fm fp L i n = t) : stepF fm fp n (some (q, L)) i = some (upd q i (t + 1), upd L t (L t - 1)) := by
  show (if pick fm fp L i n < 0 then none else some (upd q i (pick fm fp L i n + 1), upd L (pick fm fp L i n).toNat (L (pick fm fp L i n).toNat - 1))) = _
  rw [h, if_neg (by omega), Int.toNat_natCast]
def fsS (fm fp : Nat → Int) (n : Nat) (st : Nat → Int) (a b : Int) : Nat → St := recS (stepF fm fp n) (some (fun _ => 0, st)) (cellN a b)
theorem recS_none {fm fp : Nat → Int} {n : Nat} {s0 : St} {p : Nat → Bool} {k : Nat} (h : recS (stepF fm fp n) s0 p k = none) (m : Nat) : recS (stepF fm fp n) s0 p (k + m) = none := by
  induction m with
  | zero => exact h
  | succ m ih =>
    rw [← Nat.add_assoc]
    cases hp : p (k + m)
    · rw [recS_f hp]; exact ih
    · rw [recS_t hp, ih]; rfl
theorem recT_none {fm fp : Nat → Int} {n : Nat} {s0 : St} {G : Nat → Nat} {k : Nat} (h : recT (stepF fm fp n) s0 G k = none) (m : Nat) : recT (stepF fm fp n) s0 G (k + m) = none := by
  induction m with
  | zero => exact h
  | succ m ih => rw [← Nat.add_assoc, recT, ih]; rfl
def inStock (s : Nat) (st : Nat → Int) : Bool := (List.range s).all fun i => inB (st i) 0 1000000
theorem inStock_e {s : Nat} {st : Nat → Int} (h : inStock s st = true) (i : Nat) (hi : i < s) : 0 ≤ st i ∧ st i ≤ 1000000 := inB_t.1 (List.all_eq_true.1 h i (by simpa using hi))
def fsC (a b : Int) (fm : Nat → Int) (n : Nat) (fp : Nat → Int) (s : Nat) (st : Nat → Int) : Int := if askOk a b fm n fp = false then 1 else if ¬ s = n ∨ inStock s st = false then 2 else if fsS fm fp n st a b 144 = none then 6 else 0
def fsA (a b : Int) (fm : Nat → Int) (n : Nat) (fp : Nat → Int) (s : Nat) (st : Nat → Int) : Array Value := if fsC a b fm n fp s st = 0 then pic 144 a b (((fsS fm fp n st a b 144).getD (fun _ => 0, st)).1) else pic 144 0 0 fun _ => 0
section
variable {a b : Int} {fm : Nat → Int} {n : Nat} {fp : Nat → Int} {s : Nat} {st : Nat → Int}
theorem fsC_1 (h : askOk a b fm n fp = false) : fsC a b fm n fp s st = 1 := if_pos h
theorem fsC_2 (h : askOk a b fm n fp = true) (h2 : ¬ s = n ∨ inStock s st = false) : fsC a b fm n fp s st = 2 := by unfold fsC; rw [if_neg (by rw [h]; simp), if_pos h2]
theorem fsC_6 (h : askOk a b fm n fp = true) (h2 : s = n) (h3 : inStock s st = true) (h4 : fsS fm fp n st a b 144 = none) : fsC a b fm n fp s st = 6 := by
  unfold fsC
  rw [if_neg (by rw [h]; simp), if_neg (by rintro (h5 | h5); · exact h5 h2
                                           · rw [h3] at h5; cases h5), if_pos h4]
theorem fsC_0 {x : (Nat → Int) × (Nat → Int)} (h : askOk a b fm n fp = true) (h2 : s = n) (h3 : inStock s st = true) (h4 : fsS fm fp n st a b 144 = some x) : fsC a b fm n fp s st = 0 := by
  unfold fsC
  rw [if_neg (by rw [h]; simp), if_neg (by rintro (h5 | h5); · exact h5 h2
                                           · rw [h3] at h5; cases h5), if_neg (by rw [h4]; simp)]
theorem fsA_z {k : Int} (h : fsC a b fm n fp s st = k) (hk : k ≠ 0) : fsA a b fm n fp s st = pic 144 0 0 fun _ => 0 := if_neg (by rw [h]; exact hk)
theorem fsA_s {x : (Nat → Int) × (Nat → Int)} (h : fsC a b fm n fp s st = 0) (h4 : fsS fm fp n st a b 144 = some x) : fsA a b fm n fp s st = pic 144 a b x.1 := by unfold fsA; rw [if_pos h, h4]; rfl
end
/-- the numbers of a row that is written -/
def Own (W : World) (g n : Nat) (L : Nat → Int) : Prop := ∃ cur, obj W g = some (.cells cur 2) ∧ n ≤ cur.size ∧ ∀ j, j < n → cur[j]? = some (.int .i64 (L j))
theorem Own.new {W W' : World} {g n : Nat} {L : Nat → Int} (h : Own W g n L) (hn : New W W') : Own W' g n L := by
  obtain ⟨cur, ho, h2⟩ := h
  exact ⟨cur, (hn.objs _ (obj_lt ho)).trans ho, h2⟩
theorem Own.lt {W : World} {g n : Nat} {L : Nat → Int} (h : Own W g n L) : g < W.heap.size := by
  obtain ⟨cur, ho, h2⟩ := h
  exact obj_lt ho
theorem Own.same {W W' : World} {g n : Nat} {L : Nat → Int} (h : Own W g n L) (hs : obj W' g = obj W g) : Own W' g n L := by
  obtain ⟨cur, ho, h2⟩ := h
  exact ⟨cur, hs.trans ho, h2⟩
theorem Own.set {W : World} {g n t : Nat} {L : Nat → Int} (h : Own W g n L) (ht : t < n) (z : Int) : Own (W.setCell ⟨g, t, none⟩ (.int .i64 z)) g n (upd L t z) := by
  obtain ⟨cur, ho, hsz, hc⟩ := h
  refine ⟨cur.setIfInBounds t (.int .i64 z), ?_, by simpa using hsz, fun j hj => ?_⟩
  · rw [obj_setCell_same, ho]
    simp only [Option.map_some, reCell_cells]
  · rw [Array.getElem?_setIfInBounds]
    unfold upd
    by_cases e : t = j
    · subst e; rw [if_pos rfl, if_pos (by omega), if_pos rfl]
    · rw [if_neg e, if_neg (fun e2 => e e2.symm), hc j hj]
theorem Row.own {W : World} {base : Nat} {v : Value} {n : Nat} {f : Nat → Int} (h : Row W base v n f) (hp : 0 < n) : ∃ g cap, v = .slice (some ⟨g, 0, none⟩) n cap ∧ base ≤ g ∧ Own W g n f := by
  rcases h.shape with ⟨_, rfl⟩ | ⟨g, cap, cur, rfl, hb, _, ho, h4, _, h6, hc⟩
  · omega
  · exact ⟨g, cap, rfl, hb, cur, ho, by omega, hc⟩
/-- a whole row of numbers appended to an empty one -/
theorem news_sl {W : World} {g off : Nat} {cur : Array Value} {t : TypeId} {fr : Nat × Nat} {n : Nat} {f : Nat → Int} (ho : obj W g = some (.cells cur t fr)) (hc : ∀ j, j < n → ∃ l : off + j < cur.size, cur[off + j] = .int .i64 (f j)) : ∀ j u, (irow n .i64 f)[j]? = some u → W.cell? ((⟨g, off, none⟩ : Addr).add j) = some u := by
  intro j u hu
  have hj : j < n := by
    have := (List.getElem?_eq_some_iff.1 hu).1
    simpa using this
  rw [get_irow j hj] at hu
  obtain ⟨l, e⟩ := hc j hj
  rw [addr_add, cell_obj, ho, cellOf_cells, Array.getElem?_eq_getElem l, e]
  exact hu
end Go.Proofs.Ytpphckfalgapdaa
/- The image of a picture with the tones of a palette: the reference and the program answer alike; no condition. -/
set_option linter.unusedVariables false
namespace Go.Proofs.Ytpphckfalgapdaa
open Go.BigFrame
open Go.RowKit Go.Arr
theorem seg_pic3 (N o : Nat) (a b : Int) (F G : Nat → Int) (x y z : Int) (h : o + 3 ≤ N) (h0 : G o = x) (h1 : G (o + 1) = y) (h2 : G (o + 2) = z) (hG : ∀ i, i < N → i < o ∨ o + 3 ≤ i → G i = F i) : seg (pic N a b F) (2 + o) #[.int .u8 x, .int .u8 y, .int .u8 z] = pic N a b G := by
  apply Array.ext_getElem?
  intro i
  rw [get_seg _ _ _ _ (by simp; omega)]
  simp only [List.size_toArray, List.length_cons, List.length_nil]
  match i with
  | 0 => rw [if_neg (by omega), get_pic_0, get_pic_0]
  | 1 => rw [if_neg (by omega), get_pic_1, get_pic_1]
  | i + 2 =>
    rw [get_pic, get_pic]
    by_cases hi : 2 + o ≤ i + 2 ∧ i + 2 < 2 + o + (0 + 1 + 1 + 1)
    · rw [if_pos hi, if_pos (show i < N by omega)]
      obtain ⟨j, rfl⟩ : ∃ j, i = o + j := ⟨i - o, by omega⟩
      have hj : j < 3 := by omega
      rw [show o + j + 2 - (2 + o) = j by omega]
      match j, hj with
      | 0, _ => simp [h0]
      | 1, _ => simp [h1]
      | 2, _ => simp [h2]
    · rw [if_neg hi]
      by_cases hN : i < N
      · rw [if_pos hN, if_pos hN, hG i hN (by omega)]
      · rw [if_neg hN, if_neg hN]
def put3 (q : Nat → Int) (i : Nat) (x y z : Int) : Nat → Int := fun j => if j = i * 3 then x else if j = i * 3 + 1 then y else if j = i * 3 + 2 then z else q j
theorem seg_put3 {a b : Int} (q : Nat → Int) (i : Nat) (hi : i < 144) (x y z : Int) : seg (pic 432 a b q) (2 + i * 3) #[.int .u8 x, .int .u8 y, .int .u8 z] = pic 432 a b (put3 q i x y z) := by
  rw [seg_pic3 432 (i * 3) a b q (put3 q i x y z) x y z (by omega) (by simp [put3]) (by simp [put3]) (by simp [put3])]
  intro j hj h2
  unfold put3
  rw [if_neg (by omega), if_neg (by omega), if_neg (by omega)]
theorem put3_twice (q : Nat → Int) (i : Nat) (x y z x' y' z' : Int) : put3 (put3 q i x y z) i x' y' z' = put3 q i x' y' z' := by
  funext j
  unfold put3
  split
  · rfl
  · split
    · rfl
    · split <;> rfl
/-- the step at one cell -/
def imStep (f fp : Nat → Int) (x y z : Int) (q : Nat → Int) (i : Nat) : Nat → Int := if 0 < f i then put3 q i (fp (((f i).toNat - 1) * 3)) (fp (((f i).toNat - 1) * 3 + 1)) (fp (((f i).toNat - 1) * 3 + 2)) else put3 q i x y z
def imS (f fp : Nat → Int) (x y z : Int) (a b : Int) : Nat → Nat → Int := recS (imStep f fp x y z) (fun _ => 0) (cellN a b)
def iofA (a b : Int) (f : Nat → Int) (n : Nat) (fp : Nat → Int) (x y z : Int) : Array Value := if hasV a b f n fp = 0 then pic 432 a b (imS f fp x y z a b 144) else pic 432 0 0 fun _ => 0
theorem iof_t {a b : Int} {f : Nat → Int} {n : Nat} {fp : Nat → Int} {x y z : Int} (h : hasV a b f n fp = 0) : iofA a b f n fp x y z = pic 432 a b (imS f fp x y z a b 144) := if_pos h
theorem iof_f {a b : Int} {f : Nat → Int} {n : Nat} {fp : Nat → Int} {x y z k : Int} (h : hasV a b f n fp = k) (hk : k ≠ 0) : iofA a b f n fp x y z = pic 432 0 0 fun _ => 0 := if_neg (by rw [h]; exact hk)
theorem hasV_cases2 (a b : Int) (f : Nat → Int) (n : Nat) (fp : Nat → Int) : (hasV a b f n fp = 1 ∧ (okPic a b f && okPal n fp) = false) ∨ (hasV a b f n fp = 2 ∧ (okPic a b f = true ∧ okPal n fp = true) ∧ hasC n f = false) ∨ (hasV a b f n fp = 0 ∧ (okPic a b f = true ∧ okPal n fp = true) ∧ hasC n f = true) := by
  unfold hasV
  cases h1 : okPic a b f <;> cases h2 : okPal n fp <;> cases h3 : hasC n f <;> simp
theorem codeOf_new (a b : Bool) (w : World) : Calls Try.prog 25 #[.bool a, .bool b] w fun e w' => e = .returned (.int .i64 (codeB a b)) ∧ New w w' :=
  (codeOf_any a b w).mono fun _ _ ⟨he, hw⟩ => ⟨he, by rw [← hw]; exact New.refl _⟩
theorem validP_k {k : Bool} (a b : Int) (f : Nat → Int) (ha : -128 ≤ a ∧ a ≤ 127) (hb : -128 ≤ b ∧ b ≤ 127) (hf : ∀ i, 0 ≤ f i ∧ f i ≤ 255) (h : okPic a b f = k) (w : World) : Calls Try.prog 40 #[.agg (pic 144 a b f)] w fun e w' => e = .returned (.bool k) ∧ New w w' := by
  rw [← h]; exact validPicture_impl a b f ha hb hf w
theorem validPal_k {k : Bool} (a : Option Addr) (n c : Nat) (f : Nat → Int) (hn : n ≤ 1048576) (hc : n ≤ c) (h : okPal n f = k) (W : World) (hs : Sl W (.slice a n c) n 3 .u8 f) : Calls Try.prog 27 #[.slice a n c] W fun e w' => e = .returned (.bool k) ∧ New W w' := by
  rw [← h]; exact validPal_impl a n c f hn hc W hs
theorem hasCol_k {k : Bool} (a b : Int) (f : Nat → Int) (hf : ∀ i, 0 ≤ f i ∧ f i ≤ 255) (ad : Option Addr) (n c : Nat) (h : hasC n f = k) (W : World) : Calls Try.prog 41 #[.agg (pic 144 a b f), .slice ad n c] W fun e w' => e = .returned (.bool k) ∧ New W w' := by
  rw [← h]; exact hasColours_any a b f hf ad n c W
theorem codeOf_k {k : Int} (a b : Bool) (h : codeB a b = k) (w : World) : Calls Try.prog 25 #[.bool a, .bool b] w fun e w' => e = .returned (.int .i64 k) ∧ New w w' := by
  rw [← h]; exact codeOf_new a b w
theorem imT (f fp : Nat → Int) (x y z : Int) (a b : Int) : recT (imStep f fp x y z) (fun _ => 0) (selG (cellN a b) 144) (selN (cellN a b) 144) = imS f fp x y z a b 144 := rec_eq (Nat.le_refl _)
end Go.Proofs.Ytpphckfalgapdaa
/- Statements that draw their order, hold calls that make memory, and lay what comes out in a variable of their own; no condition. -/
set_option linter.unusedVariables false
namespace Go.Arr
open Go.RowKit
section
variable {v W W' : World} {g1 g2 : Nat} {A B : Option Obj}
theorem held_begin (h1 : obj W g1 = A) (h2 : obj W g2 = B) : obj W.drew g1 = A ∧ obj W.drew g2 = B ∧ New W W.drew :=
  ⟨h1, h2, (New.refl W).drew⟩
theorem held_new (l1 : g1 < v.heap.size) (l2 : g2 < v.heap.size) (h : obj W g1 = A ∧ obj W g2 = B ∧ New v W) (hn : New W W') : obj W' g1 = A ∧ obj W' g2 = B ∧ New v W' := by
  have hv := h.2.2.le
  exact ⟨by rw [hn.objs _ (by omega), h.1], by rw [hn.objs _ (by omega), h.2.1], h.2.2.trans hn⟩
theorem held_row (l1 : g1 < v.heap.size) (l2 : g2 < v.heap.size) (h : obj W g1 = A ∧ obj W g2 = B ∧ New v W) {g : Nat} (hg : v.heap.size ≤ g) (c : Array Value) : obj (W.setRow g c) g1 = A ∧ obj (W.setRow g c) g2 = B ∧ New v (W.setRow g c) :=
  ⟨by rw [← h.1]; exact setRow_other W g _ c (by omega), by rw [← h.2.1]; exact setRow_other W g _ c (by omega), h.2.2.setRow (by omega) c⟩
theorem held_re (l1 : g1 < v.heap.size) (l2 : g2 < v.heap.size) {o : Obj} (h : obj (W.alloc o) g1 = A ∧ obj (W.alloc o) g2 = B ∧ New v (W.alloc o)) (hz : v.heap.size ≤ W.heap.size) (o' : Obj) : obj (W.alloc o') g1 = A ∧ obj (W.alloc o') g2 = B ∧ New v (W.alloc o') := by
  have e : ∀ b, b < W.heap.size → obj (W.alloc o') b = obj (W.alloc o) b := fun b hb => by rw [obj_alloc_past _ _ _ hb, obj_alloc_past _ _ _ hb]
  refine ⟨by rw [e _ (by omega), h.1], by rw [e _ (by omega), h.2.1], ?_⟩
  have hn := h.2.2
  refine ⟨hn.os, hn.tape, hn.output, by simp; omega, fun k hk => ?_⟩
  have := hn.block k hk
  have e2 := e k (by omega)
  unfold obj at e2
  rw [e2]
  exact this
theorem obj_made {o : Obj} (hn : New (W.alloc o) W') : obj W' W.heap.size = some o := (hn.objs _ (by simp)).trans (obj_alloc_at _ _ _ rfl)
theorem obj_made2 {o : Obj} (hn : New (W.alloc o).drew W') : obj W' W.heap.size = some o := (hn.objs _ (by simp)).trans ((obj_drew _ _).trans (obj_alloc_at _ _ _ rfl))
theorem lt_new (hn : New W W') : ∀ n, n < W.heap.size → n < W'.heap.size := fun n h => Nat.lt_of_lt_of_le h hn.le
end
end Go.Arr
/- A picture from a stock of tones: what the program returns; no condition. -/
set_option linter.unusedVariables false
namespace Go.Proofs.Ytpphckfalgapdaa
open Go.BigFrame
open Go.RowKit Go.Arr
set_option maxHeartbeats 1000000 in
set_option maxRecDepth 100000 in
theorem clone_any (ad : Option Addr) (n c : Nat) (z : Nat → Int) (hp : 0 < n) (hn : n ≤ 1048576) (W : World) (hs : Sl W (.slice ad n c) n 1 .i64 z) :
    Calls Try.prog 35 #[.slice ad n c] W fun e w' => ∃ g cap, e = .returned (.slice (some ⟨g, 0, none⟩) n cap) ∧ Own w' g n z ∧ W.heap.size ≤ g ∧ New W w' := by
  obtain ⟨gs, offs, curs, ts, frs, rfl, o5, hel5⟩ := elInts hs hp
  have r5 := obj_lt o5
  have heq := fun w' : World => Lib.run_eql_slice_nil (P := Try.prog) w' 35 2 (some ⟨gs, offs, none⟩) n c 0 0 Try.underlying35
  go_enter Try.func35, Try.ntmps35
  go_wp2_with (at_builtin; refine wpList_app slInts rfl _ _ rfl W.heap.size (.slice (some ⟨W.heap.size, 0, none⟩) 0 0) 0 [] rfl (row_empty2 (f := z) (obj_alloc_at _ _ _ rfl) (Nat.le_refl _)) ⟨gs, offs, none⟩ n c (irow n .i64 z) rfl (by simp) (news_sl ((obj_alloc_past _ _ _ r5).trans o5) hel5) irow_one (by omega) (by unfold maxLen; omega) (by omega) (by simp) ?_)
  intro g1 cap1 w2 hown hg2 hat hlt2
  try simp only [Nat.zero_add, List.nil_append] at hown
  try simp only [Nat.zero_add]
  have hrow : Row w2 W.heap.size (.slice (some ⟨g1, 0, none⟩) n cap1) n z := hown
  obtain ⟨g2, cap2, he2, hg2b, hOwn⟩ := hrow.own hp
  simp only [Value.slice.injEq, Option.some.injEq, Addr.mk.injEq, and_true] at he2
  obtain ⟨rfl, _, rfl⟩ := he2
  have hn2 : New W w2 := grown_new ((New.refl W).alloc _) hg2 fun b hb => by simp [Value.ownBlock] at hb; omega
  clear hown hg2 hat hrow
  go_wp2_with (fail)
  go_ret
  exact ⟨g1, cap1, rfl, hOwn, hg2b, hn2⟩
def badB (s n : Nat) (st : Nat → Int) : Bool := !(decide (s = n) && inStock s st)
theorem badB_t {s n : Nat} {st : Nat → Int} (h : badB s n st = true) : ¬ s = n ∨ inStock s st = false := by
  unfold badB at h
  by_cases h1 : s = n <;> cases h2 : inStock s st <;> simp_all
theorem badB_f {s n : Nat} {st : Nat → Int} (h : badB s n st = false) : s = n ∧ inStock s st = true := by
  unfold badB at h
  by_cases h1 : s = n <;> cases h2 : inStock s st <;> simp_all
theorem fsT (fm fp : Nat → Int) (n : Nat) (st : Nat → Int) (a b : Int) : recT (stepF fm fp n) (some (fun _ => 0, st)) (selG (cellN a b) 144) (selN (cellN a b) 144) = fsS fm fp n st a b 144 := rec_eq (Nat.le_refl _)
end Go.Proofs.Ytpphckfalgapdaa
/- The cost of an image for some colours of a palette: the reference and the program answer alike; no condition. -/
set_option linter.unusedVariables false
namespace Go.Proofs.Ytpphckfalgapdaa
open Go.BigFrame
open Go.RowKit Go.Arr
theorem slTones : SlTy Try.prog 32 26 (.agg #[.int .u8 0, .int .u8 0, .int .u8 0]) 3 3 := ⟨Try.underlying32, by kernel_rfl, rfl, by omega⟩
theorem slTones2 : SlTy Try.prog 31 26 (.agg #[.int .u8 0, .int .u8 0, .int .u8 0]) 3 3 := ⟨Try.underlying31, by kernel_rfl, rfl, by omega⟩
/-- a row of tones of the call's own -/
def PRow (W : World) (base : Nat) (v : Value) (n : Nat) (f : Nat → Int) : Prop := W.ownsRow base 26 3 v n (irow (n * 3) .u8 f)
section
variable {W W' : World} {base : Nat} {v : Value} {n : Nat} {f f' : Nat → Int}
theorem PRow.new (h : PRow W base v n f) (hn : New W W') : PRow W' base v n f := own_new h hn
theorem PRow.lower {b : Nat} (h : PRow W base v n f) (hb : b ≤ base) : PRow W b v n f := own_lower h hb
theorem PRow.shape (h : PRow W base v n f) : (v = .slice none 0 0 ∧ n = 0) ∨ ∃ g cap cur, v = .slice (some ⟨g, 0, none⟩) n cap ∧ base ≤ g ∧ g < W.heap.size ∧ obj W g = some (.cells cur 26) ∧ n ≤ cap ∧ cap ≤ maxLen ∧ cur.size = cap * 3 ∧ ∀ j, j < n * 3 → cur[j]? = some (.int .u8 (f j)) := by
  obtain ⟨hl, h | ⟨g, cap, cur, h1, h2, h3, h4, h5, h6, h7⟩⟩ := h
  · exact .inl h
  · refine .inr ⟨g, cap, cur, h1, h2, obj_lt h3, h3, h4, h5, by omega, fun j hj => ?_⟩
    have h8 := congrArg (fun l => l[j]?) h7
    try dsimp only at h8
    rw [List.getElem?_take, if_pos hj, Array.getElem?_toList, get_irow j hj] at h8
    exact h8
theorem PRow.of {g cap : Nat} {cur : Array Value} (h : obj W g = some (.cells cur 26)) (hb : base ≤ g) (hn : n ≤ cap) (hc : cap ≤ maxLen) (hs : cur.size = cap * 3) (hf : ∀ j, j < n * 3 → cur[j]? = some (.int .u8 (f j))) : PRow W base (.slice (some ⟨g, 0, none⟩) n cap) n f := by
  refine ⟨by simp, .inr ⟨g, cap, cur, rfl, hb, h, hn, hc, by omega, ?_⟩⟩
  apply List.ext_getElem?
  intro j
  rw [List.getElem?_take]
  by_cases hj : j < n * 3
  · rw [if_pos hj, Array.getElem?_toList, get_irow j hj]; exact hf j hj
  · rw [if_neg hj, List.getElem?_eq_none (by simp; omega)]
theorem PRow.same (h : PRow W base v n f) (hs : ∀ b, v.ownBlock = some b → obj W' b = obj W b) : PRow W' base v n f := by
  rcases h.shape with ⟨rfl, rfl⟩ | ⟨g, cap, cur, rfl, hb, _, ho, h4, h5, h6, hc⟩
  · exact ⟨by simp, .inl ⟨rfl, rfl⟩⟩
  · exact PRow.of ((hs g rfl).trans ho) hb h4 h5 h6 hc
theorem PRow.block (h : PRow W base v n f) : ∀ b, v.ownBlock = some b → base ≤ b ∧ b < W.heap.size := by
  rcases h.shape with ⟨rfl, rfl⟩ | ⟨g, cap, cur, rfl, hb, hl, _⟩
  · intro b hb; simp [Value.ownBlock] at hb
  · intro b hb2; simp [Value.ownBlock] at hb2; omega
theorem PRow.sl (h : PRow W base v n f) : Sl W v n 3 .u8 f := by
  rcases h.shape with ⟨rfl, rfl⟩ | ⟨g, cap, cur, rfl, _, _, ho, _, _, _, hc⟩
  · exact ⟨none, 0, rfl, fun h => absurd h (by omega)⟩
  · exact Sl.of ho fun i hi => by rw [Nat.zero_add]; exact hc i (by omega)
theorem PRow.congr (h : PRow W base v n f) (hf : ∀ j, j < n * 3 → f j = f' j) : PRow W base v n f' := by
  unfold PRow at *
  rw [← irow_congr hf]
  exact h
theorem irow3_snoc {x y z : Int} (hx : f (n * 3) = x) (hy : f (n * 3 + 1) = y) (hz : f (n * 3 + 2) = z) : irow (n * 3) .u8 f ++ [.int .u8 x, .int .u8 y, .int .u8 z] = irow ((n + 1) * 3) .u8 f := by
  subst hx hy hz
  unfold irow
  rw [show (n + 1) * 3 = n * 3 + 1 + 1 + 1 by omega, List.range_succ, List.range_succ, List.range_succ]
  simp [List.map_append, List.append_assoc]
theorem prow_app {g cap : Nat} {x y z : Int} (h : W.ownsRow base 26 3 (.slice (some ⟨g, 0, none⟩) (n + 1) cap) (n + 1) (irow (n * 3) .u8 f ++ [.int .u8 x, .int .u8 y, .int .u8 z])) (hx : f (n * 3) = x) (hy : f (n * 3 + 1) = y) (hz : f (n * 3 + 2) = z) : PRow W base (.slice (some ⟨g, 0, none⟩) (n + 1) cap) (n + 1) f := by
  unfold PRow
  rw [← irow3_snoc hx hy hz]
  exact h
theorem prow_empty {g : Nat} (h : obj W g = some (.cells #[] 26)) (hb : base ≤ g) : PRow W base (.slice (some ⟨g, 0, none⟩) 0 0) 0 f :=
  PRow.of h hb (Nat.le_refl _) (by unfold maxLen; omega) rfl fun j hj => absurd hj (by omega)
end
/-- the tones of some colours -/
def subP (fp L : Nat → Int) : Nat → Int := fun j => fp (((L (j / 3)).toNat - 1) * 3 + j % 3)
theorem subP_0 (fp L : Nat → Int) (i : Nat) : subP fp L (i * 3) = fp (((L i).toNat - 1) * 3) := by
  unfold subP
  rw [show i * 3 / 3 = i by omega, show i * 3 % 3 = 0 by omega, Nat.add_zero]
theorem subP_1 (fp L : Nat → Int) (i : Nat) : subP fp L (i * 3 + 1) = fp (((L i).toNat - 1) * 3 + 1) := by
  unfold subP
  rw [show (i * 3 + 1) / 3 = i by omega, show (i * 3 + 1) % 3 = 1 by omega]
theorem subP_2 (fp L : Nat → Int) (i : Nat) : subP fp L (i * 3 + 2) = fp (((L i).toNat - 1) * 3 + 2) := by
  unfold subP
  rw [show (i * 3 + 2) / 3 = i by omega, show (i * 3 + 2) % 3 = 2 by omega]
theorem subP_congr {fp L L' : Nat → Int} {m : Nat} (h : ∀ j, j < m → L j = L' j) (j : Nat) (hj : j < m * 3) : subP fp L j = subP fp L' j := by
  unfold subP
  rw [h _ (by omega)]
theorem nearK_congr {f f' : Nat → Int} {x y z : Int} {k : Nat} (h : ∀ j, j < k * 3 → f j = f' j) (hk : 0 < k) : nearK f x y z k = nearK f' x y z k := by
  induction k with
  | zero => omega
  | succ k ih =>
    have h0 : ∀ i, i < k + 1 → farE f x y z i = farE f' x y z i := by
      intro i hi
      unfold farE
      rw [h _ (by omega), h _ (by omega), h _ (by omega)]
    unfold nearK
    by_cases hk : k = 0
    · subst hk
      simp [nearK, h0 0 (by omega)]
    · rw [ih (fun j hj => h j (by omega)) (by omega), h0 k (by omega)]
theorem nearK_b {f : Nat → Int} {x y z : Int} (hx : 0 ≤ x ∧ x ≤ 255) (hy : 0 ≤ y ∧ y ≤ 255) (hz : 0 ≤ z ∧ z ≤ 255) (hf : ∀ i, 0 ≤ f i ∧ f i ≤ 255) (k : Nat) : 0 ≤ (nearK f x y z k).2 ∧ (nearK f x y z k).2 ≤ 1000000 := by
  have hb : ∀ i, 0 ≤ farE f x y z i ∧ farE f x y z i ≤ 1000000 := fun i => far_b (hf _) (hf _) (hf _) hx hy hz
  induction k with
  | zero => exact hb 0
  | succ k ih =>
    unfold nearK
    split
    · exact hb k
    · exact ih
def farN (m : Nat) (fs fm : Nat → Int) (i : Nat) : Int := (nearK fs (fm (i * 3)) (fm (i * 3 + 1)) (fm (i * 3 + 2)) m).2
def cosStep (m : Nat) (fs fm : Nat → Int) (s : Int) (i : Nat) : Int := s + farN m fs fm i
def cosS (m : Nat) (fs fm : Nat → Int) (a b : Int) : Nat → Int := recS (cosStep m fs fm) 0 (cellN a b)
theorem farN_b {fs fm : Nat → Int} (hs : ∀ i, 0 ≤ fs i ∧ fs i ≤ 255) (hm : ∀ i, 0 ≤ fm i ∧ fm i ≤ 255) (m i : Nat) : 0 ≤ farN m fs fm i ∧ farN m fs fm i ≤ 1000000 := nearK_b (hm _) (hm _) (hm _) hs m
theorem cosS_b {fs fm : Nat → Int} (hs : ∀ i, 0 ≤ fs i ∧ fs i ≤ 255) (hm : ∀ i, 0 ≤ fm i ∧ fm i ≤ 255) (m : Nat) (a b : Int) (k : Nat) : 0 ≤ cosS m fs fm a b k ∧ cosS m fs fm a b k ≤ 1000000 * k := by
  induction k with
  | zero => simp [cosS, recS]
  | succ k ih =>
    have h := farN_b hs hm m k
    cases hc : cellN a b k
    · have e : cosS m fs fm a b (k + 1) = cosS m fs fm a b k := recS_f hc
      omega
    · have e : cosS m fs fm a b (k + 1) = cosS m fs fm a b k + farN m fs fm k := recS_t hc
      omega
theorem cosT_b {fs fm : Nat → Int} (hs : ∀ i, 0 ≤ fs i ∧ fs i ≤ 255) (hm : ∀ i, 0 ≤ fm i ∧ fm i ≤ 255) (m : Nat) (G : Nat → Nat) (j : Nat) : 0 ≤ recT (cosStep m fs fm) 0 G j ∧ recT (cosStep m fs fm) 0 G j ≤ 1000000 * j := by
  induction j with
  | zero => simp [recT]
  | succ j ih =>
    have h := farN_b hs hm m (G j)
    have e : recT (cosStep m fs fm) 0 G (j + 1) = recT (cosStep m fs fm) 0 G j + farN m fs fm (G j) := rfl
    omega
theorem cosS_congr {fs fs' fm : Nat → Int} {m : Nat} {a b : Int} (h : ∀ j, j < m * 3 → fs j = fs' j) (hm : 0 < m) (k : Nat) : cosS m fs fm a b k = cosS m fs' fm a b k := by
  induction k with
  | zero => rfl
  | succ k ih =>
    cases hc : cellN a b k
    · have e : cosS m fs fm a b (k + 1) = cosS m fs fm a b k := recS_f hc
      have e' : cosS m fs' fm a b (k + 1) = cosS m fs' fm a b k := recS_f hc
      rw [e, e', ih]
    · have e : cosS m fs fm a b (k + 1) = cosS m fs fm a b k + farN m fs fm k := recS_t hc
      have e' : cosS m fs' fm a b (k + 1) = cosS m fs' fm a b k + farN m fs' fm k := recS_t hc
      have e2 : farN m fs fm k = farN m fs' fm k := by unfold farN; rw [nearK_congr h hm]
      rw [e, e', ih, e2]
theorem cosTe (m : Nat) (fs fm : Nat → Int) (a b : Int) : recT (cosStep m fs fm) 0 (selG (cellN a b) 144) (selN (cellN a b) 144) = cosS m fs fm a b 144 := rec_eq (Nat.le_refl _)
set_option maxHeartbeats 4000000 in
set_option maxRecDepth 100000 in
theorem l02Cost_any (gm : Nat) (t0 : TypeId) (a b : Int) (fm : Nat → Int) (ha : -128 ≤ a ∧ a ≤ 127) (hb : -128 ≤ b ∧ b ≤ 127) (hfm : ∀ i, 0 ≤ fm i ∧ fm i ≤ 255) (ad : Option Addr) (n cp : Nat) (fp : Nat → Int) (hfp : ∀ i, 0 ≤ fp i ∧ fp i ≤ 255) (hn : n ≤ 15) (la : Option Addr) (m lc : Nat) (L : Nat → Int) (hm : 0 < m ∧ m ≤ 15) (hL : ∀ j, j < m → 1 ≤ L j ∧ L j ≤ n) (W : World) (om : obj W gm = some (.cells (pic 432 a b fm) t0)) (hs : Sl W (.slice ad n cp) n 3 .u8 fp) (ht : Sl W (.slice la m lc) m 1 .i64 L) :
    Calls Try.prog 32 #[.pointer (some ⟨gm, 0, none⟩), .slice ad n cp, .slice la m lc] W fun e w' => e = .returned (.int .i64 (cosS m (subP fp L) fm a b 144)) ∧ New W w' := by
  have hL0 := hL 0 hm.1
  obtain ⟨gs, offs, curs, ts, frs, rfl, o5, hel5⟩ := elInts ht hm.1
  obtain ⟨gp, offp, curp, tp, frp, rfl, o6, hel6⟩ := elsPal hs (by omega)
  have hE5 := hide hel5
  have hE6 := hide hel6
  have hL' := hide hL
  have r1 := obj_lt om
  have r5 := obj_lt o5
  have r6 := obj_lt o6
  have hfs : ∀ i, 0 ≤ subP fp L i ∧ subP fp L i ≤ 255 := fun i => hfp _
  clear hel5 hel6 ht hs hL hL0
  go_enter Try.func32, Try.ntmps32
  go_wp2_with (fail)
  go_loopw [7, 8] (fun v i wr => ∃ k : Nat, k ≤ m ∧ i = .int .i64 k ∧ PRow wr W.heap.size v k (subP fp L) ∧ New W wr ∧ W.heap.size ≤ wr.heap.size) (fun _ i _ => m - (intOf i).toNat)
  case atStart => exact ⟨0, by omega, rfl, prow_empty (obj_alloc_at _ _ _ rfl) (Nat.le_refl _), (New.refl W).alloc _, by simp⟩
  case round =>
    obtain ⟨k, hk, rfl, hrow, hnw, hlw⟩ := hrel
    by_cases hlt : k < m
    · obtain ⟨l5, e5⟩ := hE5.out k hlt
      have hLk := hL'.out k hlt
      obtain ⟨x6, l6⟩ := hE6.out ((L k).toNat - 1) (by omega)
      have p5 := (hnw.objs _ r5).trans o5
      have p6 := (hnw.objs _ r6).trans o6
      have y5 := obj_lt p5
      have y6 := obj_lt p6
      have hbk := hrow.block
      go_wp2_with (at_builtin; refine wpList_app slTones rfl _ _ rfl W.heap.size _ _ _ rfl (hrow.new ((New.refl _).alloc _)) ⟨wr.heap.size, 0, none⟩ 1 1 [.int .u8 (fp (((L k).toNat - 1) * 3)), .int .u8 (fp (((L k).toNat - 1) * 3 + 1)), .int .u8 (fp (((L k).toNat - 1) * 3 + 2))] rfl rfl (news_new _ _ _ _ _ rfl) (by simp [Value.oneCell']) (by omega) (by unfold maxLen; omega) (by omega) (by simp; omega) ?_)
      intro g1 cap1 w3 hown1 hg1 hat1 hlt1
      have hn1 : New W w3 := grown_new (hnw.alloc _) hg1 fun b hb => (hbk b hb).1
      have hr1 := prow_app hown1 (subP_0 fp L k) (subP_1 fp L k) (subP_2 fp L k)
      have hlw1 := hn1.le
      clear hown1 hg1 hat1 hrow hnw
      go_wp2_with (fail)
      go_roundw
      case rel => exact ⟨k + 1, by omega, by go_num, hr1, hn1, hlw1⟩
      case measure => simp [intOf]; omega
    · obtain rfl : k = m := by omega
      have hb2 := hrow.sl
      obtain ⟨xa, xc, rfl, _⟩ := hrow.sl
      have hnw0 := hide hnw
      go_wp2_with (fail)
      go_loopw [9, 10] (fun s i wq => ∃ j : Nat, j ≤ 144 ∧ i = .int .i64 j ∧ s = .int .i64 (cosS k (subP fp L) fm a b j) ∧ New wr wq) (fun _ i _ => 144 - (intOf i).toNat)
      case atStart => exact ⟨0, by omega, rfl, rfl, New.refl _⟩
      case round =>
        obtain ⟨j, hj, rfl, rfl, hnq⟩ := hrel
        by_cases hlj : j < 144
        · have p1 := (hnq.objs _ (obj_lt ((hnw.objs _ r1).trans om))).trans ((hnw.objs _ r1).trans om)
          have hcb := cosS_b hfs hfm k a b j
          cases hc : cellB j a b
          · have hq : Hid (cosS k (subP fp L) fm a b (j + 1) = cosS k (subP fp L) fm a b j) := recS_f hc
            go_wp2_with (go_at_call 56; refine (l02Cell_any _ t0 a b fm _ ha hb _ p1).mono ?_; rintro e w' ⟨rfl, rfl⟩; rw [hc])
            go_roundw
            case rel => exact ⟨j + 1, by omega, by go_num, by rw [hq.out], hnq⟩
            case measure => simp [intOf]; omega
          · have hq : Hid (cosS k (subP fp L) fm a b (j + 1) = cosS k (subP fp L) fm a b j + farN k (subP fp L) fm j) := recS_t hc
            have x1 : (pic 432 a b fm).extract (2 + j * 3) (2 + j * 3 + 3) = #[.int .u8 (fm (j * 3)), .int .u8 (fm (j * 3 + 1)), .int .u8 (fm (j * 3 + 2))] := pic3 (by omega) rfl
            have l1 : 2 + j * 3 + 3 ≤ 434 := by omega
            have hfb := farN_b hfs hfm k j
            have hfe : Hid ((nearK (subP fp L) (fm (j * 3)) (fm (j * 3 + 1)) (fm (j * 3 + 2)) k).2 = farN k (subP fp L) fm j) := rfl
            go_wp2_with (go_at_call 56; refine (l02Cell_any _ t0 a b fm _ ha hb _ p1).mono ?_; rintro e w' ⟨rfl, rfl⟩; rw [hc])
            refine (l02Nearest_any _ k _ (subP fp L) _ _ _ (hfm _) (hfm _) (hfm _) hfs (by omega) (by omega) _ (hb2.new hnq)).mono ?_
            rintro e w5 ⟨rfl, hn5⟩
            rw [hfe.out]
            go_wp2_with (fail)
            go_roundw
            case rel => exact ⟨j + 1, by omega, by go_num, by rw [hq.out], hnq.trans hn5⟩
            case measure => simp [intOf]; omega
        · obtain rfl : j = 144 := by omega
          go_wp2_with (fail)
          go_ret
          exact ⟨rfl, hnw0.out.trans hnq⟩
end Go.Proofs.Ytpphckfalgapdaa
