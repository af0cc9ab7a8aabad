/-
  DERIVED. GIVEN WITH THE SEED: THE CARDS: each row of YtdfccpknjfkhpaaDoorRows.lean that lists a variable, with what it lists TIED to the program's text (the seventh form; the later family's looks); each row that meets fmt, with fmt's text TOLD by the authors' own Lean function (tested against real Go, not proved from fmt's source: count such statements apart). THE CARD IS WHAT COUNTS. Prove the row's statement (the work); the ties are given (YtdfccpknjfkhpaaDoorTie.lean); close each card by the builder's one call (the guide's Derived/Test/ToyasCard.lean, 'card_holds'). Laid BY PROGRAM, IN A SANDBOX (cutbox-door.mjs). By AI agents, Wed Nov 11 2026. No macro, syntax, notation, axiom, sorry.
-/
import Derived.Test.YtdfccpknjfkhpaaDoorRows
import GoSem.ClaimSeven
namespace Go.Proofs.YtdfccpknjfkhpaaDoor
namespace Rows

/-- THE TIED CARD OF 'choirlaw5.IdBack'. -/
def idBackCard : Claim7 := { stood := { row := idBackRow, standIns := [], harness := (true, "10b572ae62f379cdf5fb47ba529464bf02c0535c5b9f3924073b4b49782ca558"), looks := true }, kinds := [], alts := [], laidByText := true, laidKinds := [.data, .data, .data, .sentinel, .sentinel], laidTests := true, laidLooks := .later }
def IdBackCardSaid : Prop := Claim7.holds Tryd.pinned (.plain (OpenSpec.ofChange idBackSpec)) idBackCard

/-- THE TIED CARD OF 'choirlaw5.IdOrder'. -/
def idOrderCard : Claim7 := { stood := { row := idOrderRow, standIns := [], harness := (true, "10b572ae62f379cdf5fb47ba529464bf02c0535c5b9f3924073b4b49782ca558"), looks := true }, kinds := [], alts := [], laidByText := true, laidKinds := [.data, .data, .data, .sentinel, .sentinel], laidTests := true, laidLooks := .later }
def IdOrderCardSaid : Prop := Claim7.holds Tryd.pinned (.plain (OpenSpec.ofChange idOrderSpec)) idOrderCard

/-- THE TIED CARD OF 'choirlaw5.IdLine'. -/
def idLineCard : Claim7 := { stood := { row := idLineRow, standIns := [], harness := (true, "10b572ae62f379cdf5fb47ba529464bf02c0535c5b9f3924073b4b49782ca558"), looks := true }, kinds := [], alts := [], laidByText := true, laidKinds := [.data, .data, .data, .sentinel, .sentinel], laidTests := true, laidLooks := .later }
def IdLineCardSaid : Prop := Claim7.holds Tryd.pinned (.plain (OpenSpec.ofChange idLineSpec)) idLineCard

/-- THE SECOND FORM's CARD OF 'choirlaw5.IdBack'. -/
def idBackUptoCard : Claim7 := { stood := { row := idBackUptoRow, standIns := [], harness := (true, "10b572ae62f379cdf5fb47ba529464bf02c0535c5b9f3924073b4b49782ca558"), looks := true }, kinds := [], alts := [], laidByText := true, laidKinds := [.data, .data, .data, .sentinel, .sentinel], laidTests := true, laidLooks := .later }
def IdBackUptoCardSaid : Prop := Claim7.holds Tryd.pinned (.plain (OpenSpec.upto idBackSpec)) idBackUptoCard

/-- THE SECOND FORM's CARD OF 'choirlaw5.IdOrder'. -/
def idOrderUptoCard : Claim7 := { stood := { row := idOrderUptoRow, standIns := [], harness := (true, "10b572ae62f379cdf5fb47ba529464bf02c0535c5b9f3924073b4b49782ca558"), looks := true }, kinds := [], alts := [], laidByText := true, laidKinds := [.data, .data, .data, .sentinel, .sentinel], laidTests := true, laidLooks := .later }
def IdOrderUptoCardSaid : Prop := Claim7.holds Tryd.pinned (.plain (OpenSpec.upto idOrderSpec)) idOrderUptoCard

/-- THE SECOND FORM's CARD OF 'choirlaw5.IdLine'. -/
def idLineUptoCard : Claim7 := { stood := { row := idLineUptoRow, standIns := [], harness := (true, "10b572ae62f379cdf5fb47ba529464bf02c0535c5b9f3924073b4b49782ca558"), looks := true }, kinds := [], alts := [], laidByText := true, laidKinds := [.data, .data, .data, .sentinel, .sentinel], laidTests := true, laidLooks := .later }
def IdLineUptoCardSaid : Prop := Claim7.holds Tryd.pinned (.plain (OpenSpec.upto idLineSpec)) idLineUptoCard
end Rows
end Go.Proofs.YtdfccpknjfkhpaaDoor
