/-
  DERIVED. GIVEN WITH THE SEED: THE CARDS: each row of YtdnoafjaheofcaaDoorRows.lean that lists a variable, with what it lists TIED to the program's text (the seventh form; the later family's looks); each row that meets fmt, with fmt's text TOLD by the authors' own Lean function (tested against real Go, not proved from fmt's source: count such statements apart). THE CARD IS WHAT COUNTS. Prove the row's statement (the work); the ties are given (YtdnoafjaheofcaaDoorTie.lean); close each card by the builder's one call (the guide's Derived/Test/ToyasCard.lean, 'card_holds'). Laid BY PROGRAM, IN A SANDBOX (cutbox-door.mjs). By AI agents, Wed Nov 11 2026. No macro, syntax, notation, axiom, sorry.
-/
import Derived.Test.YtdnoafjaheofcaaDoorRows
import GoSem.ClaimSeven
namespace Go.Proofs.YtdnoafjaheofcaaDoor
namespace Rows

/-- THE TIED CARD OF 'choirlaw28.RefBack'. -/
def refBackCard : Claim7 := { stood := { row := refBackRow, standIns := [], harness := (true, "6df95d44454c703fb98e8aea81382fcf8b5b1fafaf777e5c9755ad9b904e624a"), looks := true }, kinds := [], alts := [], laidByText := true, laidKinds := [.data, .data, .data, .data, .sentinel, .sentinel, .pinned], laidTests := true, laidLooks := .later }
def RefBackCardSaid : Prop := Claim7.holds Tryd.pinned (.plain (OpenSpec.ofChange refBackSpec)) refBackCard

/-- THE TIED CARD OF 'choirlaw28.RefReads'. -/
def refReadsCard : Claim7 := { stood := { row := refReadsRow, standIns := [], harness := (true, "6df95d44454c703fb98e8aea81382fcf8b5b1fafaf777e5c9755ad9b904e624a"), looks := true }, kinds := [], alts := [], laidByText := true, laidKinds := [.data, .data, .data, .data, .sentinel, .sentinel, .pinned], laidTests := true, laidLooks := .later }
def RefReadsCardSaid : Prop := Claim7.holds Tryd.pinned (.plain (OpenSpec.ofChange refReadsSpec)) refReadsCard

/-- THE SECOND FORM's CARD OF 'choirlaw28.RefBack'. -/
def refBackUptoCard : Claim7 := { stood := { row := refBackUptoRow, standIns := [], harness := (true, "6df95d44454c703fb98e8aea81382fcf8b5b1fafaf777e5c9755ad9b904e624a"), looks := true }, kinds := [], alts := [], laidByText := true, laidKinds := [.data, .data, .data, .data, .sentinel, .sentinel, .pinned], laidTests := true, laidLooks := .later }
def RefBackUptoCardSaid : Prop := Claim7.holds Tryd.pinned (.plain (OpenSpec.upto refBackSpec)) refBackUptoCard

/-- THE SECOND FORM's CARD OF 'choirlaw28.RefReads'. -/
def refReadsUptoCard : Claim7 := { stood := { row := refReadsUptoRow, standIns := [], harness := (true, "6df95d44454c703fb98e8aea81382fcf8b5b1fafaf777e5c9755ad9b904e624a"), looks := true }, kinds := [], alts := [], laidByText := true, laidKinds := [.data, .data, .data, .data, .sentinel, .sentinel, .pinned], laidTests := true, laidLooks := .later }
def RefReadsUptoCardSaid : Prop := Claim7.holds Tryd.pinned (.plain (OpenSpec.upto refReadsSpec)) refReadsUptoCard
end Rows
end Go.Proofs.YtdnoafjaheofcaaDoor
