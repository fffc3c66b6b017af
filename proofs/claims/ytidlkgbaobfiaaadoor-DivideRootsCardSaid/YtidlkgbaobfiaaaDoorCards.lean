/-
  DERIVED. GIVEN WITH THE SEED: THE CARDS: each row of YtidlkgbaobfiaaaDoorRows.lean that lists a variable, with what it lists TIED to the program's text (the seventh form; the later family's looks); each row that meets fmt, with fmt's text TOLD by the authors' own Lean function (tested against real Go, not proved from fmt's source: count such statements apart). THE CARD IS WHAT COUNTS. Prove the row's statement (the work); the ties are given (YtidlkgbaobfiaaaDoorTie.lean); close each card by the builder's one call (the guide's Derived/Test/ToyasCard.lean, 'card_holds'). Laid BY PROGRAM, IN A SANDBOX (cutbox-door.mjs). By AI agents, Wed Nov 11 2026. No macro, syntax, notation, axiom, sorry.
-/
import Derived.Test.YtidlkgbaobfiaaaDoorRows
import GoSem.ClaimSeven
namespace Go.Proofs.YtidlkgbaobfiaaaDoor
namespace Rows

/-- THE TIED CARD OF 'abacistlaw02.DivideMods'. -/
def divideModsCard : Claim7 := { stood := { row := divideModsRow, standIns := [], harness := (true, "fa16682b4246ca1f75351cf8a846e2f4fe665693484f27d88604f717a2b15ea6"), looks := false }, kinds := [], alts := [], laidByText := true, laidKinds := [.data, .pinned], laidTests := true, laidLooks := .later }
def DivideModsCardSaid : Prop := Claim7.holds Tryd.pinned (.plain (OpenSpec.ofChange divideModsSpec)) divideModsCard

/-- THE TIED CARD OF 'abacistlaw02.DivideGcds'. -/
def divideGcdsCard : Claim7 := { stood := { row := divideGcdsRow, standIns := [], harness := (true, "fa16682b4246ca1f75351cf8a846e2f4fe665693484f27d88604f717a2b15ea6"), looks := false }, kinds := [], alts := [], laidByText := true, laidKinds := [.data, .pinned], laidTests := true, laidLooks := .later }
def DivideGcdsCardSaid : Prop := Claim7.holds Tryd.pinned (.plain (OpenSpec.ofChange divideGcdsSpec)) divideGcdsCard

/-- THE TIED CARD OF 'abacistlaw02.DivideRoots'. -/
def divideRootsCard : Claim7 := { stood := { row := divideRootsRow, standIns := [], harness := (true, "fa16682b4246ca1f75351cf8a846e2f4fe665693484f27d88604f717a2b15ea6"), looks := false }, kinds := [], alts := [], laidByText := true, laidKinds := [.data, .pinned], laidTests := true, laidLooks := .later }
def DivideRootsCardSaid : Prop := Claim7.holds Tryd.pinned (.plain (OpenSpec.ofChange divideRootsSpec)) divideRootsCard

/-- THE TIED CARD OF 'abacistlaw02.DividePows'. -/
def dividePowsCard : Claim7 := { stood := { row := dividePowsRow, standIns := [], harness := (true, "fa16682b4246ca1f75351cf8a846e2f4fe665693484f27d88604f717a2b15ea6"), looks := false }, kinds := [], alts := [], laidByText := true, laidKinds := [.data, .pinned], laidTests := true, laidLooks := .later }
def DividePowsCardSaid : Prop := Claim7.holds Tryd.pinned (.plain (OpenSpec.ofChange dividePowsSpec)) dividePowsCard

/-- THE SECOND FORM's CARD OF 'abacistlaw02.DivideMods'. -/
def divideModsUptoCard : Claim7 := { stood := { row := divideModsUptoRow, standIns := [], harness := (true, "fa16682b4246ca1f75351cf8a846e2f4fe665693484f27d88604f717a2b15ea6"), looks := false }, kinds := [], alts := [], laidByText := true, laidKinds := [.data, .pinned], laidTests := true, laidLooks := .later }
def DivideModsUptoCardSaid : Prop := Claim7.holds Tryd.pinned (.plain (OpenSpec.upto divideModsSpec)) divideModsUptoCard

/-- THE SECOND FORM's CARD OF 'abacistlaw02.DivideGcds'. -/
def divideGcdsUptoCard : Claim7 := { stood := { row := divideGcdsUptoRow, standIns := [], harness := (true, "fa16682b4246ca1f75351cf8a846e2f4fe665693484f27d88604f717a2b15ea6"), looks := false }, kinds := [], alts := [], laidByText := true, laidKinds := [.data, .pinned], laidTests := true, laidLooks := .later }
def DivideGcdsUptoCardSaid : Prop := Claim7.holds Tryd.pinned (.plain (OpenSpec.upto divideGcdsSpec)) divideGcdsUptoCard

/-- THE SECOND FORM's CARD OF 'abacistlaw02.DivideRoots'. -/
def divideRootsUptoCard : Claim7 := { stood := { row := divideRootsUptoRow, standIns := [], harness := (true, "fa16682b4246ca1f75351cf8a846e2f4fe665693484f27d88604f717a2b15ea6"), looks := false }, kinds := [], alts := [], laidByText := true, laidKinds := [.data, .pinned], laidTests := true, laidLooks := .later }
def DivideRootsUptoCardSaid : Prop := Claim7.holds Tryd.pinned (.plain (OpenSpec.upto divideRootsSpec)) divideRootsUptoCard

/-- THE SECOND FORM's CARD OF 'abacistlaw02.DividePows'. -/
def dividePowsUptoCard : Claim7 := { stood := { row := dividePowsUptoRow, standIns := [], harness := (true, "fa16682b4246ca1f75351cf8a846e2f4fe665693484f27d88604f717a2b15ea6"), looks := false }, kinds := [], alts := [], laidByText := true, laidKinds := [.data, .pinned], laidTests := true, laidLooks := .later }
def DividePowsUptoCardSaid : Prop := Claim7.holds Tryd.pinned (.plain (OpenSpec.upto dividePowsSpec)) dividePowsUptoCard
end Rows
end Go.Proofs.YtidlkgbaobfiaaaDoor
