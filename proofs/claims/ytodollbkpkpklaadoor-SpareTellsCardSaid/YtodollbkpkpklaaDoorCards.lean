/-
  DERIVED. GIVEN WITH THE SEED: THE CARDS: each row of YtodollbkpkpklaaDoorRows.lean that lists a variable, with what it lists TIED to the program's text (the seventh form; the later family's looks); each row that meets fmt, with fmt's text TOLD by the authors' own Lean function (tested against real Go, not proved from fmt's source: count such statements apart). THE CARD IS WHAT COUNTS. Prove the row's statement (the work); the ties are given (YtodollbkpkpklaaDoorTie.lean); close each card by the builder's one call (the guide's Derived/Test/ToyasCard.lean, 'card_holds'). Laid BY PROGRAM, IN A SANDBOX (cutbox-door.mjs). By AI agents, Wed Nov 11 2026. No macro, syntax, notation, axiom, sorry.
-/
import Derived.Test.YtodollbkpkpklaaDoorRows
import GoSem.ClaimSeven
namespace Go.Proofs.YtodollbkpkpklaaDoor
namespace Rows

/-- THE TIED CARD OF 'craquelurelaw46.SpareTells'. -/
def spareTellsCard : Claim7 := { stood := { row := spareTellsRow, standIns := [], harness := (true, "0abd817605a75efbf2fc2f0beaa6d9aba711e5593356fbc800cf21b0befe8961"), looks := true }, kinds := [], alts := [], laidByText := true, laidKinds := [.data, .data, .data, .sentinel, .sentinel], laidTests := true, laidLooks := .later }
def SpareTellsCardSaid : Prop := Claim7.holds Tryd.pinned (.plain (OpenSpec.ofChange spareTellsSpec)) spareTellsCard

/-- THE SECOND FORM's CARD OF 'craquelurelaw46.SpareTells'. -/
def spareTellsUptoCard : Claim7 := { stood := { row := spareTellsUptoRow, standIns := [], harness := (true, "0abd817605a75efbf2fc2f0beaa6d9aba711e5593356fbc800cf21b0befe8961"), looks := true }, kinds := [], alts := [], laidByText := true, laidKinds := [.data, .data, .data, .sentinel, .sentinel], laidTests := true, laidLooks := .later }
def SpareTellsUptoCardSaid : Prop := Claim7.holds Tryd.pinned (.plain (OpenSpec.upto spareTellsSpec)) spareTellsUptoCard
end Rows
end Go.Proofs.YtodollbkpkpklaaDoor
