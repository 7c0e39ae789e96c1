/- The image of a picture with the tones of a palette: the reference and the program answer alike; no condition. -/
import Derived.Test.YtphjhegaplochaaGreatDoorU7
import Derived.Test.YtphjhegaplochaaGreatDoorU1
import Derived.Deep.RegionHeld3
import Derived.Deep.DeepCutAuto
set_option linter.unusedVariables false
namespace Go.Proofs.YtphjhegaplochaaGreatDoor
open Go.BigFrame
open Go.RowKit Go.Arr
theorem seg_pic3 (N o : Nat) (a b : Int) (F G : Nat → Int) (x y z : Int) (h : o + 3 ≤ N) (h0 : G o = x) (h1 : G (o + 1) = y) (h2 : G (o + 2) = z) (hG : ∀ i, i < N → i < o ∨ o + 3 ≤ i → G i = F i) : seg (pic N a b F) (2 + o) #[.int .u8 x, .int .u8 y, .int .u8 z] = pic N a b G := by
  apply Array.ext_getElem?
  intro i
  rw [get_seg _ _ _ _ (by simp; omega)]
  simp only [List.size_toArray, List.length_cons, List.length_nil]
  match i with
  | 0 => rw [if_neg (by omega), get_pic_0, get_pic_0]
  | 1 => rw [if_neg (by omega), get_pic_1, get_pic_1]
  | i + 2 =>
    rw [get_pic, get_pic]
    by_cases hi : 2 + o ≤ i + 2 ∧ i + 2 < 2 + o + (0 + 1 + 1 + 1)
    · rw [if_pos hi, if_pos (show i < N by omega)]
      obtain ⟨j, rfl⟩ : ∃ j, i = o + j := ⟨i - o, by omega⟩
      have hj : j < 3 := by omega
      rw [show o + j + 2 - (2 + o) = j by omega]
      match j, hj with
      | 0, _ => simp [h0]
      | 1, _ => simp [h1]
      | 2, _ => simp [h2]
    · rw [if_neg hi]
      by_cases hN : i < N
      · rw [if_pos hN, if_pos hN, hG i hN (by omega)]
      · rw [if_neg hN, if_neg hN]
def put3 (q : Nat → Int) (i : Nat) (x y z : Int) : Nat → Int := fun j => if j = i * 3 then x else if j = i * 3 + 1 then y else if j = i * 3 + 2 then z else q j
theorem seg_put3 {a b : Int} (q : Nat → Int) (i : Nat) (hi : i < 144) (x y z : Int) : seg (pic 432 a b q) (2 + i * 3) #[.int .u8 x, .int .u8 y, .int .u8 z] = pic 432 a b (put3 q i x y z) := by
  rw [seg_pic3 432 (i * 3) a b q (put3 q i x y z) x y z (by omega) (by simp [put3]) (by simp [put3]) (by simp [put3])]
  intro j hj h2
  unfold put3
  rw [if_neg (by omega), if_neg (by omega), if_neg (by omega)]
theorem put3_twice (q : Nat → Int) (i : Nat) (x y z x' y' z' : Int) : put3 (put3 q i x y z) i x' y' z' = put3 q i x' y' z' := by
  funext j
  unfold put3
  split
  · rfl
  · split
    · rfl
    · split <;> rfl
/-- the step at one cell -/
def imStep (f fp : Nat → Int) (x y z : Int) (q : Nat → Int) (i : Nat) : Nat → Int := if 0 < f i then put3 q i (fp (((f i).toNat - 1) * 3)) (fp (((f i).toNat - 1) * 3 + 1)) (fp (((f i).toNat - 1) * 3 + 2)) else put3 q i x y z
def imS (f fp : Nat → Int) (x y z : Int) (a b : Int) : Nat → Nat → Int := recS (imStep f fp x y z) (fun _ => 0) (cellN a b)
def iofA (a b : Int) (f : Nat → Int) (n : Nat) (fp : Nat → Int) (x y z : Int) : Array Value := if hasV a b f n fp = 0 then pic 432 a b (imS f fp x y z a b 144) else pic 432 0 0 fun _ => 0
theorem iof_t {a b : Int} {f : Nat → Int} {n : Nat} {fp : Nat → Int} {x y z : Int} (h : hasV a b f n fp = 0) : iofA a b f n fp x y z = pic 432 a b (imS f fp x y z a b 144) := if_pos h
theorem iof_f {a b : Int} {f : Nat → Int} {n : Nat} {fp : Nat → Int} {x y z k : Int} (h : hasV a b f n fp = k) (hk : k ≠ 0) : iofA a b f n fp x y z = pic 432 0 0 fun _ => 0 := if_neg (by rw [h]; exact hk)
theorem hasV_cases2 (a b : Int) (f : Nat → Int) (n : Nat) (fp : Nat → Int) : (hasV a b f n fp = 1 ∧ (okPic a b f && okPal n fp) = false) ∨ (hasV a b f n fp = 2 ∧ (okPic a b f = true ∧ okPal n fp = true) ∧ hasC n f = false) ∨ (hasV a b f n fp = 0 ∧ (okPic a b f = true ∧ okPal n fp = true) ∧ hasC n f = true) := by
  unfold hasV
  cases h1 : okPic a b f <;> cases h2 : okPal n fp <;> cases h3 : hasC n f <;> simp
set_option maxHeartbeats 4000000 in
set_option maxRecDepth 100000 in
theorem imageOf_spec (a b : Int) (f : Nat → Int) (ha : -128 ≤ a ∧ a ≤ 127) (hb : -128 ≤ b ∧ b ≤ 127) (hf : ∀ i, 0 ≤ f i ∧ f i ≤ 255) (ad : Option Addr) (n cp : Nat) (fp : Nat → Int) (hfp : ∀ i, 0 ≤ fp i ∧ fp i ≤ 255) (hn : n ≤ 1048576) (x y z : Int) (W : World) (hs : Sl W (.slice ad n cp) n 3 .u8 fp) :
    Calls Tryz.prog 25 #[.agg (pic 144 a b f), .slice ad n cp, .agg #[.int .u8 x, .int .u8 y, .int .u8 z]] W fun e w' => e = .returned (.tuple #[.agg (iofA a b f n fp x y z), .int .i64 (hasV a b f n fp)]) ∧ New W w' := by
  have hcs := hasV_cases2 a b f n fp
  have hvr : Hid (∀ k, hasV a b f n fp = k → hasV a b f n fp = k) := fun _ h => h
  go_enter Tryz.func25, Tryz.ntmps25
  go_wp2_with (fail)
  generalize hw0 : (((W.alloc (Obj.cells (pic 144 a b f) 39)).alloc (Obj.cells #[.int .u8 x, .int .u8 y, .int .u8 z] 26)).alloc (Obj.cells (pic 432 0 0 fun _ => 0) 29)) = w0
  have b1 : obj w0 W.heap.size = some (.cells (pic 144 a b f) 39) := by subst hw0; go_simp
  have b2 : obj w0 (W.heap.size + 1) = some (.cells #[.int .u8 x, .int .u8 y, .int .u8 z] 26) := by subst hw0; go_simp
  have b3 : obj w0 (W.heap.size + 1 + 1) = some (.cells (pic 432 0 0 fun _ => 0) 29) := by subst hw0; go_simp
  have hn0 : New W w0 := by subst hw0; exact (((New.refl W).alloc _).alloc _).alloc _
  have hs0 := hs.new hn0
  clear hw0 hs
  refine (l02Has_any _ 39 a b f ha hb hf ad n cp fp hn _ b1 hs0).mono ?_
  rintro e w1 ⟨rfl, hn1⟩
  have c1 := (hn1.objs _ (obj_lt b1)).trans b1
  have c2 := (hn1.objs _ (obj_lt b2)).trans b2
  have c3 := (hn1.objs _ (obj_lt b3)).trans b3
  have hs1 := hs0.new hn1
  have hN1 := hn0.trans hn1
  clear b1 b2 b3 hs0 hn0 hn1
  rcases hcs with ⟨hv, _⟩ | ⟨hv, _⟩ | ⟨hv, hoo, hhc⟩
  · have hC := hide hv
    rw [hv]
    clear hv
    go_wp2_with (fail)
    refine ret_cell_tmp agg29 rfl rfl (c := pic 432 0 0 fun _ => 0) (t := 29) (fr := (0, 0)) (by rw [obj_setRow_same, c3]; simp only [Option.map_some, reCells_cells]) size_pic rfl ⟨by rw [iof_f hC.out (by omega), hC.out]; rfl, hN1.setRow (by omega) _⟩
  · have hC := hide hv
    rw [hv]
    clear hv
    go_wp2_with (fail)
    refine ret_cell_tmp agg29 rfl rfl (c := pic 432 0 0 fun _ => 0) (t := 29) (fr := (0, 0)) (by rw [obj_setRow_same, c3]; simp only [Option.map_some, reCells_cells]) size_pic rfl ⟨by rw [iof_f hC.out (by omega), hC.out]; rfl, hN1.setRow (by omega) _⟩
  have hC := hide hv
  rw [hv]
  have hp := okPal_pos hoo.2
  have hhc' := hide (hasC_e hhc)
  have r1 := obj_lt c1
  have r2 := obj_lt c2
  have r3 := obj_lt c3
  have hWl := hN1.le
  clear hv hoo hhc
  go_wp2_with (fail)
  obtain ⟨gp, off, cur, t, fr, rfl, o1, hel⟩ := elsPal hs1 hp.1
  have hel' := hide hel
  have ro := obj_lt o1
  clear hel hs1
  go_loopw [10] (fun i wr => ∃ k : Nat, k ≤ 144 ∧ i = .int .i64 k ∧ Hid (obj wr w1.heap.size = some (.cells (pic 432 a b (imS f fp x y z a b k)) 29)) ∧ Hid (∀ b, b < w1.heap.size → obj wr b = obj w1 b) ∧ New W wr ∧ w1.heap.size < wr.heap.size) (fun i _ => 144 - (intOf i).toNat)
  case atStart =>
    refine ⟨0, by omega, rfl, ?_, fun b hb => obj_alloc_past _ _ _ hb, hN1.alloc _, by simp⟩
    show _ = _
    go_simp
    rfl
  case round =>
    obtain ⟨k, hk, rfl, ho1, hot, hnw, hlw⟩ := hrel
    have ho := ho1.out
    by_cases hlt : k < 144
    · have p1 := (hot.out _ r1).trans c1
      have p2 := (hot.out _ r2).trans c2
      have p4 := (hot.out _ ro).trans o1
      cases hc : cellB k a b
      · have hq : Hid (imS f fp x y z a b (k + 1) = imS f fp x y z a b k) := recS_f hc
        go_wp2_with (go_at_call 64; refine (l01Is_any _ 39 a b f _ ha hb _ p1).mono ?_; rintro e w' ⟨rfl, rfl⟩; rw [hc])
        go_roundw
        case rel => exact ⟨k + 1, by omega, by go_num, by rw [hq.out]; exact ho1, hot, hnw, hlw⟩
        case measure => simp [intOf]; omega
      · have l4 : 2 + k * 3 + 3 ≤ 434 := by omega
        have hfk := hf k
        have rk : W.heap.size < wr.heap.size := by omega
        have rk1 : W.heap.size + 1 < wr.heap.size := by omega
        have z1 : W.heap.size ≠ w1.heap.size := by omega
        have z2 : W.heap.size + 1 ≠ w1.heap.size := by omega
        have z3 : gp ≠ w1.heap.size := by omega
        have hseg := fun (q : Nat → Int) (x y z : Int) => seg_put3 (a := a) (b := b) q k hlt x y z
        by_cases hpos : 0 < f k
        · have hle := hhc'.out k hlt
          have ht : (f k).toNat - 1 < n := by omega
          obtain ⟨x2, l2⟩ := hel'.out _ ht
          have hq : Hid (imS f fp x y z a b (k + 1) = put3 (imS f fp x y z a b k) k (fp (((f k).toNat - 1) * 3)) (fp (((f k).toNat - 1) * 3 + 1)) (fp (((f k).toNat - 1) * 3 + 2))) := (recS_t hc).trans (if_pos hpos)
          clear hle
          go_wp2_with (go_at_call 64; refine (l01Is_any _ 39 a b f _ ha hb _ p1).mono ?_; rintro e w' ⟨rfl, rfl⟩; rw [hc])
          go_roundw
          case rel =>
            refine ⟨k + 1, by omega, by go_num, ?_, ?_, (hnw.setRow (by omega) _).setRow (by omega) _, by rw [size_setRow, size_setRow]; omega⟩
            · show _ = _
              rw [obj_setRow_same, obj_setRow_same, ho]
              simp only [Option.map_some, reCells_cells]
              rw [put3_twice, hq.out]
            · intro b hb
              rw [obj_setRow_other _ _ _ _ (by omega), obj_setRow_other _ _ _ _ (by omega), hot.out b hb]
          case measure => simp [intOf]; omega
        · have hq : Hid (imS f fp x y z a b (k + 1) = put3 (imS f fp x y z a b k) k x y z) := (recS_t hc).trans (if_neg hpos)
          go_wp2_with (go_at_call 64; refine (l01Is_any _ 39 a b f _ ha hb _ p1).mono ?_; rintro e w' ⟨rfl, rfl⟩; rw [hc])
          go_roundw
          case rel =>
            refine ⟨k + 1, by omega, by go_num, ?_, ?_, hnw.setRow (by omega) _, by rw [size_setRow]; omega⟩
            · show _ = _
              rw [obj_setRow_same, ho]
              simp only [Option.map_some, reCells_cells]
              rw [hq.out]
            · intro b hb
              rw [obj_setRow_other _ _ _ _ (by omega), hot.out b hb]
          case measure => simp [intOf]; omega
    · obtain rfl : k = 144 := by omega
      have u3 := (hot.out _ r3).trans c3
      go_wp2_with (fail)
      refine ret_cell_tmp agg29 rfl rfl (c := pic 432 a b (imS f fp x y z a b 144)) (t := 29) (fr := (0, 0)) (by rw [obj_setRow_same, u3]; simp only [Option.map_some, reCells_cells]) size_pic rfl ⟨by rw [iof_t hC.out, hC.out]; rfl, hnw.setRow (by omega) _⟩
theorem codeOf_new (a b : Bool) (w : World) : Calls Tryz.prog 65 #[.bool a, .bool b] w fun e w' => e = .returned (.int .i64 (codeB a b)) ∧ New w w' :=
  (codeOf_any a b w).mono fun _ _ ⟨he, hw⟩ => ⟨he, by rw [← hw]; exact New.refl _⟩
theorem validP_k {k : Bool} (a b : Int) (f : Nat → Int) (ha : -128 ≤ a ∧ a ≤ 127) (hb : -128 ≤ b ∧ b ≤ 127) (hf : ∀ i, 0 ≤ f i ∧ f i ≤ 255) (h : okPic a b f = k) (w : World) : Calls Tryz.prog 19 #[.agg (pic 144 a b f)] w fun e w' => e = .returned (.bool k) ∧ New w w' := by
  rw [← h]; exact validPicture_impl a b f ha hb hf w
theorem validPal_k {k : Bool} (a : Option Addr) (n c : Nat) (f : Nat → Int) (hn : n ≤ 1048576) (hc : n ≤ c) (h : okPal n f = k) (W : World) (hs : Sl W (.slice a n c) n 3 .u8 f) : Calls Tryz.prog 17 #[.slice a n c] W fun e w' => e = .returned (.bool k) ∧ New W w' := by
  rw [← h]; exact validPal_impl a n c f hn hc W hs
theorem hasCol_k {k : Bool} (a b : Int) (f : Nat → Int) (hf : ∀ i, 0 ≤ f i ∧ f i ≤ 255) (ad : Option Addr) (n c : Nat) (h : hasC n f = k) (W : World) : Calls Tryz.prog 46 #[.agg (pic 144 a b f), .slice ad n c] W fun e w' => e = .returned (.bool k) ∧ New W w' := by
  rw [← h]; exact hasColours_any a b f hf ad n c W
theorem codeOf_k {k : Int} (a b : Bool) (h : codeB a b = k) (w : World) : Calls Tryz.prog 65 #[.bool a, .bool b] w fun e w' => e = .returned (.int .i64 k) ∧ New w w' := by
  rw [← h]; exact codeOf_new a b w
theorem imT (f fp : Nat → Int) (x y z : Int) (a b : Int) : recT (imStep f fp x y z) (fun _ => 0) (selG (cellN a b) 144) (selN (cellN a b) 144) = imS f fp x y z a b 144 := rec_eq (Nat.le_refl _)
set_option maxHeartbeats 4000000 in
set_option maxRecDepth 100000 in
theorem imageOf_impl (a b : Int) (f : Nat → Int) (ha : -128 ≤ a ∧ a ≤ 127) (hb : -128 ≤ b ∧ b ≤ 127) (hf : ∀ i, 0 ≤ f i ∧ f i ≤ 255) (ad : Option Addr) (n cp : Nat) (fp : Nat → Int) (hfp : ∀ i, 0 ≤ fp i ∧ fp i ≤ 255) (hn : n ≤ 1048576) (hcp : n ≤ cp) (x y z : Int) (W : World) (hs : Sl W (.slice ad n cp) n 3 .u8 fp) :
    Calls Tryz.prog 24 #[.agg (pic 144 a b f), .slice ad n cp, .agg #[.int .u8 x, .int .u8 y, .int .u8 z]] W fun e w' => e = .returned (.tuple #[.agg (iofA a b f n fp x y z), .int .i64 (hasV a b f n fp)]) ∧ New W w' := by
  have bad : ∀ (w1 : World), True := fun _ => trivial
  clear bad
  cases h1 : okPic a b f
  · have hC : Hid (hasV a b f n fp = 1) := by show _ = _; unfold hasV; rw [h1]; exact if_pos rfl
    have hcb : codeB false (hasC n f) = 1 := rfl
    go_enter Tryz.func24, Tryz.ntmps24
    go_wp2_with (fail)
    generalize hw0 : (((W.alloc (Obj.cells (pic 144 a b f) 39)).alloc (Obj.cells #[.int .u8 x, .int .u8 y, .int .u8 z] 26)).alloc (Obj.cells (pic 432 0 0 fun _ => 0) 29)) = w0
    have b1 : obj w0 W.heap.size = some (.cells (pic 144 a b f) 39) := by subst hw0; go_simp
    have b2 : obj w0 (W.heap.size + 1) = some (.cells #[.int .u8 x, .int .u8 y, .int .u8 z] 26) := by subst hw0; go_simp
    have b3 : obj w0 (W.heap.size + 1 + 1) = some (.cells (pic 432 0 0 fun _ => 0) 29) := by subst hw0; go_simp
    have hn0 : New W w0 := by subst hw0; exact (((New.refl W).alloc _).alloc _).alloc _
    have hs0 := hs.new hn0
    have r1 := obj_lt b1
    clear hw0 hs
    go_wp2_with (fail)
    refine wp_region_new (by kernel_rfl) (by kernel_rfl) ?_
    repeat (go_big_quiet_step (first | fail | (go_at_call 19; with_reducible exact calls_new (validP_k a b f ha hb hf h1 _)) | (go_at_call 17; with_reducible exact calls_new (validPal_k _ n _ fp hn hcp rfl _ (hs0.new (NewW.is _)))) | (go_at_call 46; with_reducible exact calls_new (hasCol_k a b f hf _ n _ rfl _)) | (go_at_call 65; with_reducible exact calls_new (codeOf_k _ _ hcb _))))
    refine wpQuiet_nil ?_
    intro w1 hc1
    have hn1 := NewW.of hc1
    clear hc1
    have ho1 := hn1.objs
    have hz1 := hn1.le
    try simp at hz1
    have c3 := (hn1.objs _ (obj_lt b3)).trans b3
    clear ho1
    go_wp2_with (fail)
    refine ret_cell_tmp agg29 rfl rfl (c := pic 432 0 0 fun _ => 0) (t := 29) (fr := (0, 0)) (by rw [obj_setRow_same, c3]; simp only [Option.map_some, reCells_cells]) size_pic rfl ⟨by rw [iof_f hC.out (by omega), hC.out]; rfl, (hn0.trans hn1).setRow (by omega) _⟩
  cases h2 : okPal n fp
  · have hC : Hid (hasV a b f n fp = 1) := by show _ = _; unfold hasV; rw [h2, Bool.and_false]; exact if_pos rfl
    have hcb : codeB false (hasC n f) = 1 := rfl
    go_enter Tryz.func24, Tryz.ntmps24
    go_wp2_with (fail)
    generalize hw0 : (((W.alloc (Obj.cells (pic 144 a b f) 39)).alloc (Obj.cells #[.int .u8 x, .int .u8 y, .int .u8 z] 26)).alloc (Obj.cells (pic 432 0 0 fun _ => 0) 29)) = w0
    have b1 : obj w0 W.heap.size = some (.cells (pic 144 a b f) 39) := by subst hw0; go_simp
    have b2 : obj w0 (W.heap.size + 1) = some (.cells #[.int .u8 x, .int .u8 y, .int .u8 z] 26) := by subst hw0; go_simp
    have b3 : obj w0 (W.heap.size + 1 + 1) = some (.cells (pic 432 0 0 fun _ => 0) 29) := by subst hw0; go_simp
    have hn0 : New W w0 := by subst hw0; exact (((New.refl W).alloc _).alloc _).alloc _
    have hs0 := hs.new hn0
    have r1 := obj_lt b1
    clear hw0 hs
    go_wp2_with (fail)
    refine wp_region_new (by kernel_rfl) (by kernel_rfl) ?_
    repeat (go_big_quiet_step (first | fail | (go_at_call 19; with_reducible exact calls_new (validP_k a b f ha hb hf h1 _)) | (go_at_call 17; with_reducible exact calls_new (validPal_k _ n _ fp hn hcp h2 _ (hs0.new (NewW.is _)))) | (go_at_call 46; with_reducible exact calls_new (hasCol_k a b f hf _ n _ rfl _)) | (go_at_call 65; with_reducible exact calls_new (codeOf_k _ _ hcb _))))
    refine wpQuiet_nil ?_
    intro w2 hc2
    have hn2 := NewW.of hc2
    clear hc2
    have ho2 := hn2.objs
    have hz2 := hn2.le
    try simp at hz2
    have c3 := (hn2.objs _ (obj_lt b3)).trans b3
    clear ho2
    go_wp2_with (fail)
    refine ret_cell_tmp agg29 rfl rfl (c := pic 432 0 0 fun _ => 0) (t := 29) (fr := (0, 0)) (by rw [obj_setRow_same, c3]; simp only [Option.map_some, reCells_cells]) size_pic rfl ⟨by rw [iof_f hC.out (by omega), hC.out]; rfl, (hn0.trans hn2).setRow (by omega) _⟩
  cases h3 : hasC n f
  · have hC : Hid (hasV a b f n fp = 2) := by show _ = _; unfold hasV; rw [h1, h2, h3]; rfl
    have hcb : codeB true false = 2 := rfl
    go_enter Tryz.func24, Tryz.ntmps24
    go_wp2_with (fail)
    generalize hw0 : (((W.alloc (Obj.cells (pic 144 a b f) 39)).alloc (Obj.cells #[.int .u8 x, .int .u8 y, .int .u8 z] 26)).alloc (Obj.cells (pic 432 0 0 fun _ => 0) 29)) = w0
    have b1 : obj w0 W.heap.size = some (.cells (pic 144 a b f) 39) := by subst hw0; go_simp
    have b2 : obj w0 (W.heap.size + 1) = some (.cells #[.int .u8 x, .int .u8 y, .int .u8 z] 26) := by subst hw0; go_simp
    have b3 : obj w0 (W.heap.size + 1 + 1) = some (.cells (pic 432 0 0 fun _ => 0) 29) := by subst hw0; go_simp
    have hn0 : New W w0 := by subst hw0; exact (((New.refl W).alloc _).alloc _).alloc _
    have hs0 := hs.new hn0
    have r1 := obj_lt b1
    clear hw0 hs
    go_wp2_with (fail)
    refine wp_region_new (by kernel_rfl) (by kernel_rfl) ?_
    repeat (go_big_quiet_step (first | fail | (go_at_call 19; with_reducible exact calls_new (validP_k a b f ha hb hf h1 _)) | (go_at_call 17; with_reducible exact calls_new (validPal_k _ n _ fp hn hcp h2 _ (hs0.new (NewW.is _)))) | (go_at_call 46; with_reducible exact calls_new (hasCol_k a b f hf _ n _ h3 _)) | (go_at_call 65; with_reducible exact calls_new (codeOf_k _ _ hcb _))))
    refine wpQuiet_nil ?_
    intro w3 hc3
    have hn3 := NewW.of hc3
    clear hc3
    have ho3 := hn3.objs
    have hz3 := hn3.le
    try simp at hz3
    have c3 := (hn3.objs _ (obj_lt b3)).trans b3
    clear ho3
    go_wp2_with (fail)
    refine ret_cell_tmp agg29 rfl rfl (c := pic 432 0 0 fun _ => 0) (t := 29) (fr := (0, 0)) (by rw [obj_setRow_same, c3]; simp only [Option.map_some, reCells_cells]) size_pic rfl ⟨by rw [iof_f hC.out (by omega), hC.out]; rfl, (hn0.trans hn3).setRow (by omega) _⟩
  · have hC : Hid (hasV a b f n fp = 0) := by show _ = _; unfold hasV; rw [h1, h2, h3]; rfl
    have hcb : codeB true true = 0 := rfl
    have hp := okPal_pos h2
    have hhc' := hide (hasC_e h3)
    go_enter Tryz.func24, Tryz.ntmps24
    go_wp2_with (fail)
    generalize hw0 : (((W.alloc (Obj.cells (pic 144 a b f) 39)).alloc (Obj.cells #[.int .u8 x, .int .u8 y, .int .u8 z] 26)).alloc (Obj.cells (pic 432 0 0 fun _ => 0) 29)) = w0
    have b1 : obj w0 W.heap.size = some (.cells (pic 144 a b f) 39) := by subst hw0; go_simp
    have b2 : obj w0 (W.heap.size + 1) = some (.cells #[.int .u8 x, .int .u8 y, .int .u8 z] 26) := by subst hw0; go_simp
    have b3 : obj w0 (W.heap.size + 1 + 1) = some (.cells (pic 432 0 0 fun _ => 0) 29) := by subst hw0; go_simp
    have hn0 : New W w0 := by subst hw0; exact (((New.refl W).alloc _).alloc _).alloc _
    have hs0 := hs.new hn0
    have r1 := obj_lt b1
    clear hw0 hs
    go_wp2_with (fail)
    refine wp_region_new (by kernel_rfl) (by kernel_rfl) ?_
    repeat (go_big_quiet_step (first | fail | (go_at_call 19; with_reducible exact calls_new (validP_k a b f ha hb hf h1 _)) | (go_at_call 17; with_reducible exact calls_new (validPal_k _ n _ fp hn hcp h2 _ (hs0.new (NewW.is _)))) | (go_at_call 46; with_reducible exact calls_new (hasCol_k a b f hf _ n _ h3 _)) | (go_at_call 65; with_reducible exact calls_new (codeOf_k _ _ hcb _))))
    refine wpQuiet_nil ?_
    intro w4 hc4
    have hn4 := NewW.of hc4
    clear hc4
    have ho4 := hn4.objs
    have hz4 := hn4.le
    try simp at hz4
    have c1 := (hn4.objs _ (obj_lt b1)).trans b1
    have c2 := (hn4.objs _ (obj_lt b2)).trans b2
    have c3 := (hn4.objs _ (obj_lt b3)).trans b3
    have hs1 := hs0.new hn4
    have hN1 := hn0.trans hn4
    clear ho4 b1 b2 b3 hs0 hn0 hn4 h1 h2 h3 r1 hcb
    have r1 := obj_lt c1
    have r2 := obj_lt c2
    have r3 := obj_lt c3
    have hWl := hN1.le
    go_wp2_with (fail)
    generalize hw5 : w4.alloc (Obj.cells (pic 432 a b fun _ => 0) 29) = w5
    have t5 : obj w5 w4.heap.size = some (.cells (pic 432 a b fun _ => 0) 29) := by subst hw5; go_simp
    have hn5 : New w4 w5 := by subst hw5; exact (New.refl _).alloc _
    have hz5 : w5.heap.size = w4.heap.size + 1 := by subst hw5; simp
    clear hw5
    refine (cells_any a b (fun _ => 0) ha hb _).mono ?_
    rintro e w6 ⟨v, rfl, hrow, hn6⟩
    obtain ⟨x1, y1, rfl, _⟩ := hrow.reads
    obtain ⟨gp, off, cur, t, fr, rfl, o1, hel⟩ := elsPal hs1 hp.1
    have hel' := hide hel
    have ro := obj_lt o1
    have hN6 := (hN1.trans hn5).trans hn6
    have f3 := (hn6.objs _ (obj_lt t5)).trans t5
    have hot0 : ∀ b, b < w4.heap.size → obj w6 b = obj w4 b := fun b hb => (hn6.objs _ (by omega)).trans (hn5.objs _ hb)
    have hz6 := hn6.le
    have hle := selN_le (p := cellN a b) 144
    have hT := hide (imT f fp x y z a b)
    have hsel := hide (selG_lt (p := cellN a b) 144)
    clear hel hs1 t5 hn5 hn6
    go_wp2_with (fail)
    generalize selN (cellN a b) 144 = N at hrow hle hT hsel ⊢
    go_loopw [35] (fun i wr => ∃ j : Nat, j ≤ N ∧ i = .int .i64 j ∧ Hid (obj wr w4.heap.size = some (.cells (pic 432 a b (recT (imStep f fp x y z) (fun _ => 0) (selG (cellN a b) 144) j)) 29)) ∧ Hid (∀ b, b < w4.heap.size → obj wr b = obj w4 b) ∧ Row wr w5.heap.size (.slice x1 N y1) N (fun j => (selG (cellN a b) 144 j : Int)) ∧ New W wr ∧ w5.heap.size ≤ wr.heap.size) (fun i _ => N - (intOf i).toNat)
    case atStart => exact ⟨0, by omega, rfl, f3, hot0, hrow, hN6, hz6⟩
    case round =>
      obtain ⟨j, hj, rfl, ho1, hot, hrw, hnw, hlw⟩ := hrel
      have ho := ho1.out
      by_cases hlt : j < N
      · obtain ⟨hi1, hi2⟩ := hsel.out j hlt
        have hq0 : Hid (recT (imStep f fp x y z) (fun _ => 0) (selG (cellN a b) 144) (j + 1) = imStep f fp x y z (recT (imStep f fp x y z) (fun _ => 0) (selG (cellN a b) 144) j) (selG (cellN a b) 144 j)) := rfl
        obtain ⟨gl, offl, curl, tl, frl, rfl, ol, hel2⟩ := elInts hrw.sl (by omega)
        obtain ⟨ll, el⟩ := hel2 j hlt
        try dsimp only at el
        have hbk := hrw.block
        have hgl := hbk gl rfl
        generalize selG (cellN a b) 144 j = k at hi1 hi2 hq0 el
        generalize hS' : recT (imStep f fp x y z) (fun _ => 0) (selG (cellN a b) 144) (j + 1) = S' at hq0
        have hS2 := hide hS'
        clear hS'
        generalize recT (imStep f fp x y z) (fun _ => 0) (selG (cellN a b) 144) j = S at hq0 ho ho1 ⊢
        have p1 := (hot.out _ r1).trans c1
        have p2 := (hot.out _ r2).trans c2
        have p4 := (hot.out _ ro).trans o1
        have l4 : 2 + k * 3 + 3 ≤ 434 := by omega
        have hfk := hf k
        have rk : W.heap.size < wr.heap.size := by omega
        have rk1 : W.heap.size + 1 < wr.heap.size := by omega
        have z1 : W.heap.size ≠ w4.heap.size := by omega
        have z2 : W.heap.size + 1 ≠ w4.heap.size := by omega
        have z3 : gp ≠ w4.heap.size := by omega
        have z4 : gl ≠ w4.heap.size := by omega
        have hseg := fun (q : Nat → Int) (x y z : Int) => seg_put3 (a := a) (b := b) q k hi1 x y z
        clear hel2 ho1
        by_cases hpos : 0 < f k
        · have hle2 := hhc'.out k hi1
          have ht : (f k).toNat - 1 < n := by omega
          obtain ⟨x2, l2⟩ := hel'.out _ ht
          have hq : Hid (S' = put3 S k (fp (((f k).toNat - 1) * 3)) (fp (((f k).toNat - 1) * 3 + 1)) (fp (((f k).toNat - 1) * 3 + 2))) := hq0.out.trans (if_pos hpos)
          clear hle2 hq0
          go_wp2_with (fail)
          go_roundw
          case rel =>
            refine ⟨j + 1, by omega, by go_num, ?_, ?_, ?_, (hnw.setRow (by omega) _).setRow (by omega) _, by rw [size_setRow, size_setRow]; omega⟩
            · show _ = _
              rw [obj_setRow_same, obj_setRow_same, ho]
              simp only [Option.map_some, reCells_cells]
              rw [put3_twice, ← hq.out, hS2.out]
            · intro b hb
              rw [obj_setRow_other _ _ _ _ (by omega), obj_setRow_other _ _ _ _ (by omega), hot.out b hb]
            · refine hrw.same fun b hb => ?_
              have := hbk b hb
              rw [obj_setRow_other _ _ _ _ (by omega), obj_setRow_other _ _ _ _ (by omega)]
          case measure => simp [intOf]; omega
        · have hq : Hid (S' = put3 S k x y z) := hq0.out.trans (if_neg hpos)
          clear hq0
          go_wp2_with (fail)
          go_roundw
          case rel =>
            refine ⟨j + 1, by omega, by go_num, ?_, ?_, ?_, hnw.setRow (by omega) _, by rw [size_setRow]; omega⟩
            · show _ = _
              rw [obj_setRow_same, ho]
              simp only [Option.map_some, reCells_cells]
              rw [← hq.out, hS2.out]
            · intro b hb
              rw [obj_setRow_other _ _ _ _ (by omega), hot.out b hb]
            · refine hrw.same fun b hb => ?_
              have := hbk b hb
              rw [obj_setRow_other _ _ _ _ (by omega)]
          case measure => simp [intOf]; omega
      · obtain rfl : j = N := by omega
        rw [hT.out] at ho
        have u3 := (hot.out _ r3).trans c3
        go_wp2_with (fail)
        refine ret_cell_tmp agg29 rfl rfl (c := pic 432 a b (imS f fp x y z a b 144)) (t := 29) (fr := (0, 0)) (by rw [obj_setRow_same, u3]; simp only [Option.map_some, reCells_cells]) size_pic rfl ⟨by rw [iof_t hC.out, hC.out]; rfl, hnw.setRow (by omega) _⟩
end Go.Proofs.YtphjhegaplochaaGreatDoor
/- Statements that draw their order, hold calls that make memory, and lay what comes out in a variable of their own; no condition. -/
set_option linter.unusedVariables false
namespace Go.Arr
open Go.RowKit
section
variable {v W W' : World} {g1 g2 : Nat} {A B : Option Obj}
theorem held_begin (h1 : obj W g1 = A) (h2 : obj W g2 = B) : obj W.drew g1 = A ∧ obj W.drew g2 = B ∧ New W W.drew :=
  ⟨h1, h2, (New.refl W).drew⟩
theorem held_new (l1 : g1 < v.heap.size) (l2 : g2 < v.heap.size) (h : obj W g1 = A ∧ obj W g2 = B ∧ New v W) (hn : New W W') : obj W' g1 = A ∧ obj W' g2 = B ∧ New v W' := by
  have hv := h.2.2.le
  exact ⟨by rw [hn.objs _ (by omega), h.1], by rw [hn.objs _ (by omega), h.2.1], h.2.2.trans hn⟩
theorem held_row (l1 : g1 < v.heap.size) (l2 : g2 < v.heap.size) (h : obj W g1 = A ∧ obj W g2 = B ∧ New v W) {g : Nat} (hg : v.heap.size ≤ g) (c : Array Value) : obj (W.setRow g c) g1 = A ∧ obj (W.setRow g c) g2 = B ∧ New v (W.setRow g c) :=
  ⟨by rw [← h.1]; exact setRow_other W g _ c (by omega), by rw [← h.2.1]; exact setRow_other W g _ c (by omega), h.2.2.setRow (by omega) c⟩
theorem held_re (l1 : g1 < v.heap.size) (l2 : g2 < v.heap.size) {o : Obj} (h : obj (W.alloc o) g1 = A ∧ obj (W.alloc o) g2 = B ∧ New v (W.alloc o)) (hz : v.heap.size ≤ W.heap.size) (o' : Obj) : obj (W.alloc o') g1 = A ∧ obj (W.alloc o') g2 = B ∧ New v (W.alloc o') := by
  have e : ∀ b, b < W.heap.size → obj (W.alloc o') b = obj (W.alloc o) b := fun b hb => by rw [obj_alloc_past _ _ _ hb, obj_alloc_past _ _ _ hb]
  refine ⟨by rw [e _ (by omega), h.1], by rw [e _ (by omega), h.2.1], ?_⟩
  have hn := h.2.2
  refine ⟨hn.os, hn.tape, hn.output, by simp; omega, fun k hk => ?_⟩
  have := hn.block k hk
  have e2 := e k (by omega)
  unfold obj at e2
  rw [e2]
  exact this
theorem obj_made {o : Obj} (hn : New (W.alloc o) W') : obj W' W.heap.size = some o := (hn.objs _ (by simp)).trans (obj_alloc_at _ _ _ rfl)
theorem obj_made2 {o : Obj} (hn : New (W.alloc o).drew W') : obj W' W.heap.size = some o := (hn.objs _ (by simp)).trans ((obj_drew _ _).trans (obj_alloc_at _ _ _ rfl))
theorem lt_new (hn : New W W') : ∀ n, n < W.heap.size → n < W'.heap.size := fun n h => Nat.lt_of_lt_of_le h hn.le
end
end Go.Arr
