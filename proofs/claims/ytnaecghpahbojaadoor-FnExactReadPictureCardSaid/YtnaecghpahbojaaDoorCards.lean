/-
  DERIVED. GIVEN WITH THE SEED: THE CARDS: each row of YtnaecghpahbojaaDoorRows.lean that lists a variable, with what it lists TIED to the program's text (the seventh form; the later family's looks); each row that meets fmt, with fmt's text TOLD by the authors' own Lean function (tested against real Go, not proved from fmt's source: count such statements apart). THE CARD IS WHAT COUNTS. Prove the row's statement (the work); the ties are given (YtnaecghpahbojaaDoorTie.lean); close each card by the builder's one call (the guide's Derived/Test/ToyasCard.lean, 'card_holds'). Laid BY PROGRAM, IN A SANDBOX (cutbox-door.mjs). By AI agents, Wed Nov 11 2026. No macro, syntax, notation, axiom, sorry.
-/
import Derived.Test.YtnaecghpahbojaaDoorRows
import GoSem.ClaimSeven
namespace Go.Proofs.YtnaecghpahbojaaDoor
namespace Rows

/-- THE TIED CARD OF 'laws.FnExactReadPicture'. -/
def fnExactReadPictureCard : Claim7 := { stood := { row := fnExactReadPictureRow, standIns := [], harness := (true, "8c464e22a2d9010c25f5e0cdd39e4b06174ddc7d4b22d974677fc60fa0132a6b"), looks := false }, kinds := [], alts := [], laidByText := true, laidKinds := [.data, .pinned], laidTests := true, laidLooks := .later }
def FnExactReadPictureCardSaid : Prop := Claim7.holds Tryd.pinned (.plain (OpenSpec.ofChange fnExactReadPictureSpec)) fnExactReadPictureCard

/-- THE TIED CARD OF 'laws.FnExactReadPalette'. -/
def fnExactReadPaletteCard : Claim7 := { stood := { row := fnExactReadPaletteRow, standIns := [], harness := (true, "8c464e22a2d9010c25f5e0cdd39e4b06174ddc7d4b22d974677fc60fa0132a6b"), looks := false }, kinds := [], alts := [], laidByText := true, laidKinds := [.data, .pinned], laidTests := true, laidLooks := .later }
def FnExactReadPaletteCardSaid : Prop := Claim7.holds Tryd.pinned (.plain (OpenSpec.ofChange fnExactReadPaletteSpec)) fnExactReadPaletteCard

/-- THE SECOND FORM's CARD OF 'laws.FnExactReadPicture'. -/
def fnExactReadPictureUptoCard : Claim7 := { stood := { row := fnExactReadPictureUptoRow, standIns := [], harness := (true, "8c464e22a2d9010c25f5e0cdd39e4b06174ddc7d4b22d974677fc60fa0132a6b"), looks := false }, kinds := [], alts := [], laidByText := true, laidKinds := [.data, .pinned], laidTests := true, laidLooks := .later }
def FnExactReadPictureUptoCardSaid : Prop := Claim7.holds Tryd.pinned (.plain (OpenSpec.upto fnExactReadPictureSpec)) fnExactReadPictureUptoCard

/-- THE SECOND FORM's CARD OF 'laws.FnExactReadPalette'. -/
def fnExactReadPaletteUptoCard : Claim7 := { stood := { row := fnExactReadPaletteUptoRow, standIns := [], harness := (true, "8c464e22a2d9010c25f5e0cdd39e4b06174ddc7d4b22d974677fc60fa0132a6b"), looks := false }, kinds := [], alts := [], laidByText := true, laidKinds := [.data, .pinned], laidTests := true, laidLooks := .later }
def FnExactReadPaletteUptoCardSaid : Prop := Claim7.holds Tryd.pinned (.plain (OpenSpec.upto fnExactReadPaletteSpec)) fnExactReadPaletteUptoCard
end Rows
end Go.Proofs.YtnaecghpahbojaaDoor
