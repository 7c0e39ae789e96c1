/-
  No cell of these rows narrows 'for every input' (looked for: loops, veiled, ifaces, maps, wideKeys, modest, calm, conditions, laid).
  DERIVED. THE GIVEN ROWS OF THIS SEAT. 6 by the template 'for every input the law returns true; each argument reads behind the call as it read before'; 0 by the template 'total and deterministic' (their statements: YtjoobjgaecgdlaaTotals.lean).
  GIVEN WITH THE SEED: the statements are not yours to turn. If you find one false, say at which input.
  Laid BY PROGRAM, IN A SANDBOX (cutbox-rows.mjs): the forced cells as the released guide's own fill.sh prints them over the translation 221902b27538fc0a… (all of the seat's roots in one cut). By AI agents, Wed Nov 11 2026. No macro, syntax, notation, axiom, sorry.
-/
import Derived.Test.YtjoobjgaecgdlaaChecked
import GoSem.Claim
import GoSem.ClaimJoined
import GoSem.ClaimMapViews
import Derived.JoinedTies
import Derived.KernelRfl
namespace Go.Proofs.Ytjoobjgaecgdlaa
/- THE CELL 'sum', in the pinned program and in every row, IS THE sha256 OF THE DUMP (.gsa) THAT YtjoobjgaecgdlaaProg.lean LOADS. Nothing in Lean hashes anything: it is a label: what it is worth is what the hold of that sum in a sandbox is worth. -/
noncomputable def Try.pinned : Pinned := { name := "ytjoobjgaecgdlaa", sum := "221902b27538fc0a84daea716b031e1d44ce762415672bc5956b8ea62ef556f9", checked := Try.checked }
namespace Rows
def none {H : Type} : Left H := { results := [], args := [] }

/-- 'laws.FnExactConstants': WHATEVER THE INPUT: true; the input reads as it did. -/
def fnExactConstantsSpec : ChangeSpec := { name := "fnExactConstants", fn := fun _ => fun
  | [] => { results := [.lit (.bool true)], args := [] }
  | _ => none }
def fnExactConstantsRow : OpenClaim := { program := "ytjoobjgaecgdlaa", sum := "221902b27538fc0a84daea716b031e1d44ce762415672bc5956b8ea62ef556f9", func := "loop.example/g01322/laws.FnExactConstants", spec := "fnExactConstants", apart := false }
def FnExactConstantsSaid : Prop := fnExactConstantsRow.holds Try.pinned (OpenSpec.ofChange fnExactConstantsSpec)

/-- ITS FALSE NEIGHBOUR: 'it returns false'. Refute it at one input. -/
def fnExactConstantsWrong : ChangeSpec := { name := "fnExactConstants", fn := fun _ => fun
  | [] => { results := [.lit (.bool false)], args := [] }
  | _ => none }
def FnExactConstantsWrongFalsely : Prop := fnExactConstantsRow.holds Try.pinned (OpenSpec.ofChange fnExactConstantsWrong)

/-- 'laws.FnExactBrightnessOf': WHATEVER THE INPUT: true; the input reads as it did. -/
def fnExactBrightnessOfSpec : ChangeSpec := { name := "fnExactBrightnessOf", fn := fun _ => fun
  | [d] => { results := [.lit (.bool true)], args := [d] }
  | _ => none }
def fnExactBrightnessOfRow : OpenClaim := { program := "ytjoobjgaecgdlaa", sum := "221902b27538fc0a84daea716b031e1d44ce762415672bc5956b8ea62ef556f9", func := "loop.example/g01322/laws.FnExactBrightnessOf", spec := "fnExactBrightnessOf", apart := false }
def FnExactBrightnessOfSaid : Prop := fnExactBrightnessOfRow.holds Try.pinned (OpenSpec.ofChange fnExactBrightnessOfSpec)

/-- ITS FALSE NEIGHBOUR: 'it returns false'. Refute it at one input. -/
def fnExactBrightnessOfWrong : ChangeSpec := { name := "fnExactBrightnessOf", fn := fun _ => fun
  | [d] => { results := [.lit (.bool false)], args := [d] }
  | _ => none }
def FnExactBrightnessOfWrongFalsely : Prop := fnExactBrightnessOfRow.holds Try.pinned (OpenSpec.ofChange fnExactBrightnessOfWrong)

/-- 'laws.FnExactCodeName': WHATEVER THE INPUT: true; the input reads as it did. -/
def fnExactCodeNameSpec : ChangeSpec := { name := "fnExactCodeName", fn := fun _ => fun
  | [d] => { results := [.lit (.bool true)], args := [d] }
  | _ => none }
def fnExactCodeNameRow : OpenClaim := { program := "ytjoobjgaecgdlaa", sum := "221902b27538fc0a84daea716b031e1d44ce762415672bc5956b8ea62ef556f9", func := "loop.example/g01322/laws.FnExactCodeName", spec := "fnExactCodeName", apart := false }
def FnExactCodeNameSaid : Prop := fnExactCodeNameRow.holds Try.pinned (OpenSpec.ofChange fnExactCodeNameSpec)

/-- ITS FALSE NEIGHBOUR: 'it returns false'. Refute it at one input. -/
def fnExactCodeNameWrong : ChangeSpec := { name := "fnExactCodeName", fn := fun _ => fun
  | [d] => { results := [.lit (.bool false)], args := [d] }
  | _ => none }
def FnExactCodeNameWrongFalsely : Prop := fnExactCodeNameRow.holds Try.pinned (OpenSpec.ofChange fnExactCodeNameWrong)

/-- 'laws.FnExactSamePicture': WHATEVER THE INPUT: true; the input reads as it did. -/
def fnExactSamePictureSpec : ChangeSpec := { name := "fnExactSamePicture", fn := fun _ => fun
  | [d1, d2] => { results := [.lit (.bool true)], args := [d1, d2] }
  | _ => none }
def fnExactSamePictureRow : OpenClaim := { program := "ytjoobjgaecgdlaa", sum := "221902b27538fc0a84daea716b031e1d44ce762415672bc5956b8ea62ef556f9", func := "loop.example/g01322/laws.FnExactSamePicture", spec := "fnExactSamePicture", apart := false }
def FnExactSamePictureSaid : Prop := fnExactSamePictureRow.holds Try.pinned (OpenSpec.ofChange fnExactSamePictureSpec)

/-- ITS FALSE NEIGHBOUR: 'it returns false'. Refute it at one input. -/
def fnExactSamePictureWrong : ChangeSpec := { name := "fnExactSamePicture", fn := fun _ => fun
  | [d1, d2] => { results := [.lit (.bool false)], args := [d1, d2] }
  | _ => none }
def FnExactSamePictureWrongFalsely : Prop := fnExactSamePictureRow.holds Try.pinned (OpenSpec.ofChange fnExactSamePictureWrong)

/-- 'laws.FnExactFarOf': WHATEVER THE INPUT: true; the input reads as it did. -/
def fnExactFarOfSpec : ChangeSpec := { name := "fnExactFarOf", fn := fun _ => fun
  | [d1, d2] => { results := [.lit (.bool true)], args := [d1, d2] }
  | _ => none }
def fnExactFarOfRow : OpenClaim := { program := "ytjoobjgaecgdlaa", sum := "221902b27538fc0a84daea716b031e1d44ce762415672bc5956b8ea62ef556f9", func := "loop.example/g01322/laws.FnExactFarOf", spec := "fnExactFarOf", apart := false }
def FnExactFarOfSaid : Prop := fnExactFarOfRow.holds Try.pinned (OpenSpec.ofChange fnExactFarOfSpec)

/-- ITS FALSE NEIGHBOUR: 'it returns false'. Refute it at one input. -/
def fnExactFarOfWrong : ChangeSpec := { name := "fnExactFarOf", fn := fun _ => fun
  | [d1, d2] => { results := [.lit (.bool false)], args := [d1, d2] }
  | _ => none }
def FnExactFarOfWrongFalsely : Prop := fnExactFarOfRow.holds Try.pinned (OpenSpec.ofChange fnExactFarOfWrong)

/-- 'laws.FnExactToneText': WHATEVER THE INPUT: true; the input reads as it did. -/
def fnExactToneTextSpec : ChangeSpec := { name := "fnExactToneText", fn := fun _ => fun
  | [d] => { results := [.lit (.bool true)], args := [d] }
  | _ => none }
def fnExactToneTextRow : OpenClaim := { program := "ytjoobjgaecgdlaa", sum := "221902b27538fc0a84daea716b031e1d44ce762415672bc5956b8ea62ef556f9", func := "loop.example/g01322/laws.FnExactToneText", spec := "fnExactToneText", apart := false }
def FnExactToneTextSaid : Prop := fnExactToneTextRow.holds Try.pinned (OpenSpec.ofChange fnExactToneTextSpec)

/-- ITS FALSE NEIGHBOUR: 'it returns false'. Refute it at one input. -/
def fnExactToneTextWrong : ChangeSpec := { name := "fnExactToneText", fn := fun _ => fun
  | [d] => { results := [.lit (.bool false)], args := [d] }
  | _ => none }
def FnExactToneTextWrongFalsely : Prop := fnExactToneTextRow.holds Try.pinned (OpenSpec.ofChange fnExactToneTextWrong)

/- THE SECOND FORM. 'bulk': how many values and letters a reading holds, each counted each time it is reached (what is shared counts as often as it is met; a slice's spare places count too). A statement '..UptoSaid' is the law's where the arguments, and the package variables that the reading takes, are together of bulk at most 1048576: NARROWER than '..Said'. Prove '..Said' where nothing that the law and all that it calls make is longer than what came in: it says more and counts as full. Else prove '..UptoSaid'. A law counts once. -/
mutual
def uptoBulk {H : Type} : DataW H → Nat
  | .lit (.string bytes) => bytes.length + 1
  | .lit _ => 1
  | .nil => 1
  | .ptr d => uptoBulk d + 1
  | .slice elems spare => uptoBulkAll elems + uptoBulkAll spare + 1
  | .agg parts => uptoBulkAll parts + 1
  | .iface _ d => uptoBulk d + 1
  | .map entries => uptoBulkEntries entries + 1
  | .held _ => 1
def uptoBulkAll {H : Type} : List (DataW H) → Nat
  | [] => 0
  | d :: r => uptoBulk d + uptoBulkAll r
def uptoBulkEntries {H : Type} : List (Lit × DataW H) → Nat
  | [] => 0
  | x :: r => uptoBulkEntry x + uptoBulkEntries r
def uptoBulkEntry {H : Type} : Lit × DataW H → Nat
  | (.string bytes, d) => bytes.length + uptoBulk d + 1
  | (_, d) => uptoBulk d + 1
 end
def uptoSmall : (H : Type) → List (DataW H) → Bool := fun _ ds => decide (uptoBulkAll ds ≤ 1048576)
def OpenSpec.upto (s : _root_.Go.ChangeSpec) : _root_.Go.OpenSpec := { _root_.Go.OpenSpec.ofChange s with cond := some uptoSmall }

/-- 'laws.FnExactConstants', WHERE WHAT IT READS IS OF BULK AT MOST 1048576: true; the input reads as it did. -/
def fnExactConstantsUptoRow : OpenClaim := { program := "ytjoobjgaecgdlaa", sum := "221902b27538fc0a84daea716b031e1d44ce762415672bc5956b8ea62ef556f9", func := "loop.example/g01322/laws.FnExactConstants", spec := "fnExactConstants", apart := false, narrowed := true }
def FnExactConstantsUptoSaid : Prop := fnExactConstantsUptoRow.holds Try.pinned (OpenSpec.upto fnExactConstantsSpec)

/-- 'laws.FnExactBrightnessOf', WHERE WHAT IT READS IS OF BULK AT MOST 1048576: true; the input reads as it did. -/
def fnExactBrightnessOfUptoRow : OpenClaim := { program := "ytjoobjgaecgdlaa", sum := "221902b27538fc0a84daea716b031e1d44ce762415672bc5956b8ea62ef556f9", func := "loop.example/g01322/laws.FnExactBrightnessOf", spec := "fnExactBrightnessOf", apart := false, narrowed := true }
def FnExactBrightnessOfUptoSaid : Prop := fnExactBrightnessOfUptoRow.holds Try.pinned (OpenSpec.upto fnExactBrightnessOfSpec)

/-- 'laws.FnExactCodeName', WHERE WHAT IT READS IS OF BULK AT MOST 1048576: true; the input reads as it did. -/
def fnExactCodeNameUptoRow : OpenClaim := { program := "ytjoobjgaecgdlaa", sum := "221902b27538fc0a84daea716b031e1d44ce762415672bc5956b8ea62ef556f9", func := "loop.example/g01322/laws.FnExactCodeName", spec := "fnExactCodeName", apart := false, narrowed := true }
def FnExactCodeNameUptoSaid : Prop := fnExactCodeNameUptoRow.holds Try.pinned (OpenSpec.upto fnExactCodeNameSpec)

/-- 'laws.FnExactSamePicture', WHERE WHAT IT READS IS OF BULK AT MOST 1048576: true; the input reads as it did. -/
def fnExactSamePictureUptoRow : OpenClaim := { program := "ytjoobjgaecgdlaa", sum := "221902b27538fc0a84daea716b031e1d44ce762415672bc5956b8ea62ef556f9", func := "loop.example/g01322/laws.FnExactSamePicture", spec := "fnExactSamePicture", apart := false, narrowed := true }
def FnExactSamePictureUptoSaid : Prop := fnExactSamePictureUptoRow.holds Try.pinned (OpenSpec.upto fnExactSamePictureSpec)

/-- 'laws.FnExactFarOf', WHERE WHAT IT READS IS OF BULK AT MOST 1048576: true; the input reads as it did. -/
def fnExactFarOfUptoRow : OpenClaim := { program := "ytjoobjgaecgdlaa", sum := "221902b27538fc0a84daea716b031e1d44ce762415672bc5956b8ea62ef556f9", func := "loop.example/g01322/laws.FnExactFarOf", spec := "fnExactFarOf", apart := false, narrowed := true }
def FnExactFarOfUptoSaid : Prop := fnExactFarOfUptoRow.holds Try.pinned (OpenSpec.upto fnExactFarOfSpec)

/-- 'laws.FnExactToneText', WHERE WHAT IT READS IS OF BULK AT MOST 1048576: true; the input reads as it did. -/
def fnExactToneTextUptoRow : OpenClaim := { program := "ytjoobjgaecgdlaa", sum := "221902b27538fc0a84daea716b031e1d44ce762415672bc5956b8ea62ef556f9", func := "loop.example/g01322/laws.FnExactToneText", spec := "fnExactToneText", apart := false, narrowed := true }
def FnExactToneTextUptoSaid : Prop := fnExactToneTextUptoRow.holds Try.pinned (OpenSpec.upto fnExactToneTextSpec)

end Rows
end Go.Proofs.Ytjoobjgaecgdlaa
