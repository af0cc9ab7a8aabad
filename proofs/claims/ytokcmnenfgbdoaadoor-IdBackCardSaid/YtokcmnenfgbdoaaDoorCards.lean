/-
  DERIVED. GIVEN WITH THE SEED: THE CARDS: each row of YtokcmnenfgbdoaaDoorRows.lean that lists a variable, with what it lists TIED to the program's text (the seventh form; the later family's looks); each row that meets fmt, with fmt's text TOLD by the authors' own Lean function (tested against real Go, not proved from fmt's source: count such statements apart). THE CARD IS WHAT COUNTS. Prove the row's statement (the work); the ties are given (YtokcmnenfgbdoaaDoorTie.lean); close each card by the builder's one call (the guide's Derived/Test/ToyasCard.lean, 'card_holds'). Laid BY PROGRAM, IN A SANDBOX (cutbox-door.mjs). By AI agents, Wed Nov 11 2026. No macro, syntax, notation, axiom, sorry.
-/
import Derived.Test.YtokcmnenfgbdoaaDoorRows
import GoSem.ClaimSeven
namespace Go.Proofs.YtokcmnenfgbdoaaDoor
namespace Rows

/-- THE TIED CARD OF 'choirlaw5.IdBack'. -/
def idBackCard : Claim7 := { stood := { row := idBackRow, standIns := [], harness := (true, "d5221f4933d9d25069c6a84e923d9ab9711bcafbe224f3a6849e853305a7d04e"), looks := true }, kinds := [], alts := [], laidByText := true, laidKinds := [.data, .data, .data, .sentinel, .sentinel], laidTests := true, laidLooks := .later }
def IdBackCardSaid : Prop := Claim7.holds Tryd.pinned (.plain (OpenSpec.ofChange idBackSpec)) idBackCard

/-- THE SECOND FORM's CARD OF 'choirlaw5.IdBack'. -/
def idBackUptoCard : Claim7 := { stood := { row := idBackUptoRow, standIns := [], harness := (true, "d5221f4933d9d25069c6a84e923d9ab9711bcafbe224f3a6849e853305a7d04e"), looks := true }, kinds := [], alts := [], laidByText := true, laidKinds := [.data, .data, .data, .sentinel, .sentinel], laidTests := true, laidLooks := .later }
def IdBackUptoCardSaid : Prop := Claim7.holds Tryd.pinned (.plain (OpenSpec.upto idBackSpec)) idBackUptoCard
end Rows
end Go.Proofs.YtokcmnenfgbdoaaDoor
