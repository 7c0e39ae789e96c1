/-
  No cell of these rows narrows 'for every input' (looked for: loops, veiled, ifaces, maps, wideKeys, modest, calm, conditions, laid).
  DERIVED. THE GIVEN ROWS OF THIS SEAT. 12 by the template 'for every input the law returns true; each argument reads behind the call as it read before'; 0 by the template 'total and deterministic' (their statements: YtedbagefigclgaaTotals.lean).
  GIVEN WITH THE SEED: the statements are not yours to turn. If you find one false, say at which input.
  Laid BY PROGRAM, IN A SANDBOX (cutbox-rows.mjs): the forced cells as the released guide's own fill.sh prints them over the translation 900fea0f3ab9761e… (all of the seat's roots in one cut). By AI agents, Wed Nov 11 2026. No macro, syntax, notation, axiom, sorry.
-/
import Derived.Test.YtedbagefigclgaaChecked
import GoSem.Claim
import GoSem.ClaimJoined
import GoSem.ClaimMapViews
import Derived.JoinedTies
import Derived.KernelRfl
namespace Go.Proofs.Ytedbagefigclgaa
/- THE CELL 'sum', in the pinned program and in every row, IS THE sha256 OF THE DUMP (.gsa) THAT YtedbagefigclgaaProg.lean LOADS. Nothing in Lean hashes anything: it is a label: what it is worth is what the hold of that sum in a sandbox is worth. -/
noncomputable def Try.pinned : Pinned := { name := "ytedbagefigclgaa", sum := "900fea0f3ab9761eca127e69f1104899f5d2a79ed64135f3e6af7cedd6d5069c", checked := Try.checked }
namespace Rows
def none {H : Type} : Left H := { results := [], args := [] }

/-- 'laws.FnExactDifferIn': WHATEVER THE INPUT: true; the input reads as it did. -/
def fnExactDifferInSpec : ChangeSpec := { name := "fnExactDifferIn", fn := fun _ => fun
  | [d1, d2] => { results := [.lit (.bool true)], args := [d1, d2] }
  | _ => none }
def fnExactDifferInRow : OpenClaim := { program := "ytedbagefigclgaa", sum := "900fea0f3ab9761eca127e69f1104899f5d2a79ed64135f3e6af7cedd6d5069c", func := "loop.example/g01322/laws.FnExactDifferIn", spec := "fnExactDifferIn", apart := false }
def FnExactDifferInSaid : Prop := fnExactDifferInRow.holds Try.pinned (OpenSpec.ofChange fnExactDifferInSpec)

/-- ITS FALSE NEIGHBOUR: 'it returns false'. Refute it at one input. -/
def fnExactDifferInWrong : ChangeSpec := { name := "fnExactDifferIn", fn := fun _ => fun
  | [d1, d2] => { results := [.lit (.bool false)], args := [d1, d2] }
  | _ => none }
def FnExactDifferInWrongFalsely : Prop := fnExactDifferInRow.holds Try.pinned (OpenSpec.ofChange fnExactDifferInWrong)

/-- 'laws.FnExactSamePalette': WHATEVER THE INPUT: true; the input reads as it did. -/
def fnExactSamePaletteSpec : ChangeSpec := { name := "fnExactSamePalette", fn := fun _ => fun
  | [d1, d2] => { results := [.lit (.bool true)], args := [d1, d2] }
  | _ => none }
def fnExactSamePaletteRow : OpenClaim := { program := "ytedbagefigclgaa", sum := "900fea0f3ab9761eca127e69f1104899f5d2a79ed64135f3e6af7cedd6d5069c", func := "loop.example/g01322/laws.FnExactSamePalette", spec := "fnExactSamePalette", apart := false }
def FnExactSamePaletteSaid : Prop := fnExactSamePaletteRow.holds Try.pinned (OpenSpec.ofChange fnExactSamePaletteSpec)

/-- ITS FALSE NEIGHBOUR: 'it returns false'. Refute it at one input. -/
def fnExactSamePaletteWrong : ChangeSpec := { name := "fnExactSamePalette", fn := fun _ => fun
  | [d1, d2] => { results := [.lit (.bool false)], args := [d1, d2] }
  | _ => none }
def FnExactSamePaletteWrongFalsely : Prop := fnExactSamePaletteRow.holds Try.pinned (OpenSpec.ofChange fnExactSamePaletteWrong)

/-- 'laws.FnExactSameStone': WHATEVER THE INPUT: true; the input reads as it did. -/
def fnExactSameStoneSpec : ChangeSpec := { name := "fnExactSameStone", fn := fun _ => fun
  | [d1, d2] => { results := [.lit (.bool true)], args := [d1, d2] }
  | _ => none }
def fnExactSameStoneRow : OpenClaim := { program := "ytedbagefigclgaa", sum := "900fea0f3ab9761eca127e69f1104899f5d2a79ed64135f3e6af7cedd6d5069c", func := "loop.example/g01322/laws.FnExactSameStone", spec := "fnExactSameStone", apart := false }
def FnExactSameStoneSaid : Prop := fnExactSameStoneRow.holds Try.pinned (OpenSpec.ofChange fnExactSameStoneSpec)

/-- ITS FALSE NEIGHBOUR: 'it returns false'. Refute it at one input. -/
def fnExactSameStoneWrong : ChangeSpec := { name := "fnExactSameStone", fn := fun _ => fun
  | [d1, d2] => { results := [.lit (.bool false)], args := [d1, d2] }
  | _ => none }
def FnExactSameStoneWrongFalsely : Prop := fnExactSameStoneRow.holds Try.pinned (OpenSpec.ofChange fnExactSameStoneWrong)

/-- 'laws.FnExactValidPalette': WHATEVER THE INPUT: true; the input reads as it did. -/
def fnExactValidPaletteSpec : ChangeSpec := { name := "fnExactValidPalette", fn := fun _ => fun
  | [d] => { results := [.lit (.bool true)], args := [d] }
  | _ => none }
def fnExactValidPaletteRow : OpenClaim := { program := "ytedbagefigclgaa", sum := "900fea0f3ab9761eca127e69f1104899f5d2a79ed64135f3e6af7cedd6d5069c", func := "loop.example/g01322/laws.FnExactValidPalette", spec := "fnExactValidPalette", apart := false }
def FnExactValidPaletteSaid : Prop := fnExactValidPaletteRow.holds Try.pinned (OpenSpec.ofChange fnExactValidPaletteSpec)

/-- ITS FALSE NEIGHBOUR: 'it returns false'. Refute it at one input. -/
def fnExactValidPaletteWrong : ChangeSpec := { name := "fnExactValidPalette", fn := fun _ => fun
  | [d] => { results := [.lit (.bool false)], args := [d] }
  | _ => none }
def FnExactValidPaletteWrongFalsely : Prop := fnExactValidPaletteRow.holds Try.pinned (OpenSpec.ofChange fnExactValidPaletteWrong)

/-- 'laws.FnExactValidImage': WHATEVER THE INPUT: true; the input reads as it did. -/
def fnExactValidImageSpec : ChangeSpec := { name := "fnExactValidImage", fn := fun _ => fun
  | [d] => { results := [.lit (.bool true)], args := [d] }
  | _ => none }
def fnExactValidImageRow : OpenClaim := { program := "ytedbagefigclgaa", sum := "900fea0f3ab9761eca127e69f1104899f5d2a79ed64135f3e6af7cedd6d5069c", func := "loop.example/g01322/laws.FnExactValidImage", spec := "fnExactValidImage", apart := false }
def FnExactValidImageSaid : Prop := fnExactValidImageRow.holds Try.pinned (OpenSpec.ofChange fnExactValidImageSpec)

/-- ITS FALSE NEIGHBOUR: 'it returns false'. Refute it at one input. -/
def fnExactValidImageWrong : ChangeSpec := { name := "fnExactValidImage", fn := fun _ => fun
  | [d] => { results := [.lit (.bool false)], args := [d] }
  | _ => none }
def FnExactValidImageWrongFalsely : Prop := fnExactValidImageRow.holds Try.pinned (OpenSpec.ofChange fnExactValidImageWrong)

/-- 'laws.FnExactReadTone': WHATEVER THE INPUT: true; the input reads as it did. -/
def fnExactReadToneSpec : ChangeSpec := { name := "fnExactReadTone", fn := fun _ => fun
  | [d] => { results := [.lit (.bool true)], args := [d] }
  | _ => none }
def fnExactReadToneRow : OpenClaim := { program := "ytedbagefigclgaa", sum := "900fea0f3ab9761eca127e69f1104899f5d2a79ed64135f3e6af7cedd6d5069c", func := "loop.example/g01322/laws.FnExactReadTone", spec := "fnExactReadTone", inPlace := ["internal/bytealg.IndexByteString"], apart := false }
def FnExactReadToneSaid : Prop := fnExactReadToneRow.holds Try.pinned (OpenSpec.ofChange fnExactReadToneSpec)

/-- ITS FALSE NEIGHBOUR: 'it returns false'. Refute it at one input. -/
def fnExactReadToneWrong : ChangeSpec := { name := "fnExactReadTone", fn := fun _ => fun
  | [d] => { results := [.lit (.bool false)], args := [d] }
  | _ => none }
def FnExactReadToneWrongFalsely : Prop := fnExactReadToneRow.holds Try.pinned (OpenSpec.ofChange fnExactReadToneWrong)

/-- 'laws.FnExactValidStone': WHATEVER THE INPUT: true; the input reads as it did. -/
def fnExactValidStoneSpec : ChangeSpec := { name := "fnExactValidStone", fn := fun _ => fun
  | [d] => { results := [.lit (.bool true)], args := [d] }
  | _ => none }
def fnExactValidStoneRow : OpenClaim := { program := "ytedbagefigclgaa", sum := "900fea0f3ab9761eca127e69f1104899f5d2a79ed64135f3e6af7cedd6d5069c", func := "loop.example/g01322/laws.FnExactValidStone", spec := "fnExactValidStone", unfollowed := true, recurses := true, apart := false }
def FnExactValidStoneSaid : Prop := fnExactValidStoneRow.holds Try.pinned (OpenSpec.ofChange fnExactValidStoneSpec)

/-- ITS FALSE NEIGHBOUR: 'it returns false'. Refute it at one input. -/
def fnExactValidStoneWrong : ChangeSpec := { name := "fnExactValidStone", fn := fun _ => fun
  | [d] => { results := [.lit (.bool false)], args := [d] }
  | _ => none }
def FnExactValidStoneWrongFalsely : Prop := fnExactValidStoneRow.holds Try.pinned (OpenSpec.ofChange fnExactValidStoneWrong)

/-- 'laws.FnExactNearestTone': WHATEVER THE INPUT: true; the input reads as it did. -/
def fnExactNearestToneSpec : ChangeSpec := { name := "fnExactNearestTone", fn := fun _ => fun
  | [d1, d2] => { results := [.lit (.bool true)], args := [d1, d2] }
  | _ => none }
def fnExactNearestToneRow : OpenClaim := { program := "ytedbagefigclgaa", sum := "900fea0f3ab9761eca127e69f1104899f5d2a79ed64135f3e6af7cedd6d5069c", func := "loop.example/g01322/laws.FnExactNearestTone", spec := "fnExactNearestTone", apart := false }
def FnExactNearestToneSaid : Prop := fnExactNearestToneRow.holds Try.pinned (OpenSpec.ofChange fnExactNearestToneSpec)

/-- ITS FALSE NEIGHBOUR: 'it returns false'. Refute it at one input. -/
def fnExactNearestToneWrong : ChangeSpec := { name := "fnExactNearestTone", fn := fun _ => fun
  | [d1, d2] => { results := [.lit (.bool false)], args := [d1, d2] }
  | _ => none }
def FnExactNearestToneWrongFalsely : Prop := fnExactNearestToneRow.holds Try.pinned (OpenSpec.ofChange fnExactNearestToneWrong)

/-- 'laws.FnExactAreaTwice': WHATEVER THE INPUT: true; the input reads as it did. -/
def fnExactAreaTwiceSpec : ChangeSpec := { name := "fnExactAreaTwice", fn := fun _ => fun
  | [d] => { results := [.lit (.bool true)], args := [d] }
  | _ => none }
def fnExactAreaTwiceRow : OpenClaim := { program := "ytedbagefigclgaa", sum := "900fea0f3ab9761eca127e69f1104899f5d2a79ed64135f3e6af7cedd6d5069c", func := "loop.example/g01322/laws.FnExactAreaTwice", spec := "fnExactAreaTwice", unfollowed := true, recurses := true, apart := false }
def FnExactAreaTwiceSaid : Prop := fnExactAreaTwiceRow.holds Try.pinned (OpenSpec.ofChange fnExactAreaTwiceSpec)

/-- ITS FALSE NEIGHBOUR: 'it returns false'. Refute it at one input. -/
def fnExactAreaTwiceWrong : ChangeSpec := { name := "fnExactAreaTwice", fn := fun _ => fun
  | [d] => { results := [.lit (.bool false)], args := [d] }
  | _ => none }
def FnExactAreaTwiceWrongFalsely : Prop := fnExactAreaTwiceRow.holds Try.pinned (OpenSpec.ofChange fnExactAreaTwiceWrong)

/-- 'laws.FnExactDoOverlap': WHATEVER THE INPUT: true; the input reads as it did. -/
def fnExactDoOverlapSpec : ChangeSpec := { name := "fnExactDoOverlap", fn := fun _ => fun
  | [d1, d2] => { results := [.lit (.bool true)], args := [d1, d2] }
  | _ => none }
def fnExactDoOverlapRow : OpenClaim := { program := "ytedbagefigclgaa", sum := "900fea0f3ab9761eca127e69f1104899f5d2a79ed64135f3e6af7cedd6d5069c", func := "loop.example/g01322/laws.FnExactDoOverlap", spec := "fnExactDoOverlap", unfollowed := true, recurses := true, apart := false }
def FnExactDoOverlapSaid : Prop := fnExactDoOverlapRow.holds Try.pinned (OpenSpec.ofChange fnExactDoOverlapSpec)

/-- ITS FALSE NEIGHBOUR: 'it returns false'. Refute it at one input. -/
def fnExactDoOverlapWrong : ChangeSpec := { name := "fnExactDoOverlap", fn := fun _ => fun
  | [d1, d2] => { results := [.lit (.bool false)], args := [d1, d2] }
  | _ => none }
def FnExactDoOverlapWrongFalsely : Prop := fnExactDoOverlapRow.holds Try.pinned (OpenSpec.ofChange fnExactDoOverlapWrong)

/-- 'laws.FnExactDoTouch': WHATEVER THE INPUT: true; the input reads as it did. -/
def fnExactDoTouchSpec : ChangeSpec := { name := "fnExactDoTouch", fn := fun _ => fun
  | [d1, d2] => { results := [.lit (.bool true)], args := [d1, d2] }
  | _ => none }
def fnExactDoTouchRow : OpenClaim := { program := "ytedbagefigclgaa", sum := "900fea0f3ab9761eca127e69f1104899f5d2a79ed64135f3e6af7cedd6d5069c", func := "loop.example/g01322/laws.FnExactDoTouch", spec := "fnExactDoTouch", unfollowed := true, recurses := true, apart := false }
def FnExactDoTouchSaid : Prop := fnExactDoTouchRow.holds Try.pinned (OpenSpec.ofChange fnExactDoTouchSpec)

/-- ITS FALSE NEIGHBOUR: 'it returns false'. Refute it at one input. -/
def fnExactDoTouchWrong : ChangeSpec := { name := "fnExactDoTouch", fn := fun _ => fun
  | [d1, d2] => { results := [.lit (.bool false)], args := [d1, d2] }
  | _ => none }
def FnExactDoTouchWrongFalsely : Prop := fnExactDoTouchRow.holds Try.pinned (OpenSpec.ofChange fnExactDoTouchWrong)

/-- 'laws.FnExactMeanTone': WHATEVER THE INPUT: true; the input reads as it did. -/
def fnExactMeanToneSpec : ChangeSpec := { name := "fnExactMeanTone", fn := fun _ => fun
  | [d1, d2] => { results := [.lit (.bool true)], args := [d1, d2] }
  | _ => none }
def fnExactMeanToneRow : OpenClaim := { program := "ytedbagefigclgaa", sum := "900fea0f3ab9761eca127e69f1104899f5d2a79ed64135f3e6af7cedd6d5069c", func := "loop.example/g01322/laws.FnExactMeanTone", spec := "fnExactMeanTone", unfollowed := true, recurses := true, apart := false }
def FnExactMeanToneSaid : Prop := fnExactMeanToneRow.holds Try.pinned (OpenSpec.ofChange fnExactMeanToneSpec)

/-- ITS FALSE NEIGHBOUR: 'it returns false'. Refute it at one input. -/
def fnExactMeanToneWrong : ChangeSpec := { name := "fnExactMeanTone", fn := fun _ => fun
  | [d1, d2] => { results := [.lit (.bool false)], args := [d1, d2] }
  | _ => none }
def FnExactMeanToneWrongFalsely : Prop := fnExactMeanToneRow.holds Try.pinned (OpenSpec.ofChange fnExactMeanToneWrong)

/- THE SECOND FORM. 'bulk': how many values and letters a reading holds, each counted each time it is reached (what is shared counts as often as it is met; a slice's spare places count too). A statement '..UptoSaid' is the law's where the arguments, and the package variables that the reading takes, are together of bulk at most 1048576: NARROWER than '..Said'. Prove '..Said' where nothing that the law and all that it calls make is longer than what came in: it says more and counts as full. Else prove '..UptoSaid'. A law counts once. -/
mutual
def uptoBulk {H : Type} : DataW H → Nat
  | .lit (.string bytes) => bytes.length + 1
  | .lit _ => 1
  | .nil => 1
  | .ptr d => uptoBulk d + 1
  | .slice elems spare => uptoBulkAll elems + uptoBulkAll spare + 1
  | .agg parts => uptoBulkAll parts + 1
  | .iface _ d => uptoBulk d + 1
  | .map entries => uptoBulkEntries entries + 1
  | .held _ => 1
def uptoBulkAll {H : Type} : List (DataW H) → Nat
  | [] => 0
  | d :: r => uptoBulk d + uptoBulkAll r
def uptoBulkEntries {H : Type} : List (Lit × DataW H) → Nat
  | [] => 0
  | x :: r => uptoBulkEntry x + uptoBulkEntries r
def uptoBulkEntry {H : Type} : Lit × DataW H → Nat
  | (.string bytes, d) => bytes.length + uptoBulk d + 1
  | (_, d) => uptoBulk d + 1
 end
def uptoSmall : (H : Type) → List (DataW H) → Bool := fun _ ds => decide (uptoBulkAll ds ≤ 1048576)
def OpenSpec.upto (s : _root_.Go.ChangeSpec) : _root_.Go.OpenSpec := { _root_.Go.OpenSpec.ofChange s with cond := some uptoSmall }

/-- 'laws.FnExactDifferIn', WHERE WHAT IT READS IS OF BULK AT MOST 1048576: true; the input reads as it did. -/
def fnExactDifferInUptoRow : OpenClaim := { program := "ytedbagefigclgaa", sum := "900fea0f3ab9761eca127e69f1104899f5d2a79ed64135f3e6af7cedd6d5069c", func := "loop.example/g01322/laws.FnExactDifferIn", spec := "fnExactDifferIn", apart := false, narrowed := true }
def FnExactDifferInUptoSaid : Prop := fnExactDifferInUptoRow.holds Try.pinned (OpenSpec.upto fnExactDifferInSpec)

/-- 'laws.FnExactSamePalette', WHERE WHAT IT READS IS OF BULK AT MOST 1048576: true; the input reads as it did. -/
def fnExactSamePaletteUptoRow : OpenClaim := { program := "ytedbagefigclgaa", sum := "900fea0f3ab9761eca127e69f1104899f5d2a79ed64135f3e6af7cedd6d5069c", func := "loop.example/g01322/laws.FnExactSamePalette", spec := "fnExactSamePalette", apart := false, narrowed := true }
def FnExactSamePaletteUptoSaid : Prop := fnExactSamePaletteUptoRow.holds Try.pinned (OpenSpec.upto fnExactSamePaletteSpec)

/-- 'laws.FnExactSameStone', WHERE WHAT IT READS IS OF BULK AT MOST 1048576: true; the input reads as it did. -/
def fnExactSameStoneUptoRow : OpenClaim := { program := "ytedbagefigclgaa", sum := "900fea0f3ab9761eca127e69f1104899f5d2a79ed64135f3e6af7cedd6d5069c", func := "loop.example/g01322/laws.FnExactSameStone", spec := "fnExactSameStone", apart := false, narrowed := true }
def FnExactSameStoneUptoSaid : Prop := fnExactSameStoneUptoRow.holds Try.pinned (OpenSpec.upto fnExactSameStoneSpec)

/-- 'laws.FnExactValidPalette', WHERE WHAT IT READS IS OF BULK AT MOST 1048576: true; the input reads as it did. -/
def fnExactValidPaletteUptoRow : OpenClaim := { program := "ytedbagefigclgaa", sum := "900fea0f3ab9761eca127e69f1104899f5d2a79ed64135f3e6af7cedd6d5069c", func := "loop.example/g01322/laws.FnExactValidPalette", spec := "fnExactValidPalette", apart := false, narrowed := true }
def FnExactValidPaletteUptoSaid : Prop := fnExactValidPaletteUptoRow.holds Try.pinned (OpenSpec.upto fnExactValidPaletteSpec)

/-- 'laws.FnExactValidImage', WHERE WHAT IT READS IS OF BULK AT MOST 1048576: true; the input reads as it did. -/
def fnExactValidImageUptoRow : OpenClaim := { program := "ytedbagefigclgaa", sum := "900fea0f3ab9761eca127e69f1104899f5d2a79ed64135f3e6af7cedd6d5069c", func := "loop.example/g01322/laws.FnExactValidImage", spec := "fnExactValidImage", apart := false, narrowed := true }
def FnExactValidImageUptoSaid : Prop := fnExactValidImageUptoRow.holds Try.pinned (OpenSpec.upto fnExactValidImageSpec)

/-- 'laws.FnExactReadTone', WHERE WHAT IT READS IS OF BULK AT MOST 1048576: true; the input reads as it did. -/
def fnExactReadToneUptoRow : OpenClaim := { program := "ytedbagefigclgaa", sum := "900fea0f3ab9761eca127e69f1104899f5d2a79ed64135f3e6af7cedd6d5069c", func := "loop.example/g01322/laws.FnExactReadTone", spec := "fnExactReadTone", inPlace := ["internal/bytealg.IndexByteString"], apart := false, narrowed := true }
def FnExactReadToneUptoSaid : Prop := fnExactReadToneUptoRow.holds Try.pinned (OpenSpec.upto fnExactReadToneSpec)

/-- 'laws.FnExactValidStone', WHERE WHAT IT READS IS OF BULK AT MOST 1048576: true; the input reads as it did. -/
def fnExactValidStoneUptoRow : OpenClaim := { program := "ytedbagefigclgaa", sum := "900fea0f3ab9761eca127e69f1104899f5d2a79ed64135f3e6af7cedd6d5069c", func := "loop.example/g01322/laws.FnExactValidStone", spec := "fnExactValidStone", unfollowed := true, recurses := true, apart := false, narrowed := true }
def FnExactValidStoneUptoSaid : Prop := fnExactValidStoneUptoRow.holds Try.pinned (OpenSpec.upto fnExactValidStoneSpec)

/-- 'laws.FnExactNearestTone', WHERE WHAT IT READS IS OF BULK AT MOST 1048576: true; the input reads as it did. -/
def fnExactNearestToneUptoRow : OpenClaim := { program := "ytedbagefigclgaa", sum := "900fea0f3ab9761eca127e69f1104899f5d2a79ed64135f3e6af7cedd6d5069c", func := "loop.example/g01322/laws.FnExactNearestTone", spec := "fnExactNearestTone", apart := false, narrowed := true }
def FnExactNearestToneUptoSaid : Prop := fnExactNearestToneUptoRow.holds Try.pinned (OpenSpec.upto fnExactNearestToneSpec)

/-- 'laws.FnExactAreaTwice', WHERE WHAT IT READS IS OF BULK AT MOST 1048576: true; the input reads as it did. -/
def fnExactAreaTwiceUptoRow : OpenClaim := { program := "ytedbagefigclgaa", sum := "900fea0f3ab9761eca127e69f1104899f5d2a79ed64135f3e6af7cedd6d5069c", func := "loop.example/g01322/laws.FnExactAreaTwice", spec := "fnExactAreaTwice", unfollowed := true, recurses := true, apart := false, narrowed := true }
def FnExactAreaTwiceUptoSaid : Prop := fnExactAreaTwiceUptoRow.holds Try.pinned (OpenSpec.upto fnExactAreaTwiceSpec)

/-- 'laws.FnExactDoOverlap', WHERE WHAT IT READS IS OF BULK AT MOST 1048576: true; the input reads as it did. -/
def fnExactDoOverlapUptoRow : OpenClaim := { program := "ytedbagefigclgaa", sum := "900fea0f3ab9761eca127e69f1104899f5d2a79ed64135f3e6af7cedd6d5069c", func := "loop.example/g01322/laws.FnExactDoOverlap", spec := "fnExactDoOverlap", unfollowed := true, recurses := true, apart := false, narrowed := true }
def FnExactDoOverlapUptoSaid : Prop := fnExactDoOverlapUptoRow.holds Try.pinned (OpenSpec.upto fnExactDoOverlapSpec)

/-- 'laws.FnExactDoTouch', WHERE WHAT IT READS IS OF BULK AT MOST 1048576: true; the input reads as it did. -/
def fnExactDoTouchUptoRow : OpenClaim := { program := "ytedbagefigclgaa", sum := "900fea0f3ab9761eca127e69f1104899f5d2a79ed64135f3e6af7cedd6d5069c", func := "loop.example/g01322/laws.FnExactDoTouch", spec := "fnExactDoTouch", unfollowed := true, recurses := true, apart := false, narrowed := true }
def FnExactDoTouchUptoSaid : Prop := fnExactDoTouchUptoRow.holds Try.pinned (OpenSpec.upto fnExactDoTouchSpec)

/-- 'laws.FnExactMeanTone', WHERE WHAT IT READS IS OF BULK AT MOST 1048576: true; the input reads as it did. -/
def fnExactMeanToneUptoRow : OpenClaim := { program := "ytedbagefigclgaa", sum := "900fea0f3ab9761eca127e69f1104899f5d2a79ed64135f3e6af7cedd6d5069c", func := "loop.example/g01322/laws.FnExactMeanTone", spec := "fnExactMeanTone", unfollowed := true, recurses := true, apart := false, narrowed := true }
def FnExactMeanToneUptoSaid : Prop := fnExactMeanToneUptoRow.holds Try.pinned (OpenSpec.upto fnExactMeanToneSpec)

end Rows
end Go.Proofs.Ytedbagefigclgaa
