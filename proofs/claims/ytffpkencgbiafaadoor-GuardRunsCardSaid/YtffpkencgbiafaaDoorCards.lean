/-
  DERIVED. GIVEN WITH THE SEED: THE CARDS: each row of YtffpkencgbiafaaDoorRows.lean that lists a variable, with what it lists TIED to the program's text (the seventh form; the later family's looks); each row that meets fmt, with fmt's text TOLD by the authors' own Lean function (tested against real Go, not proved from fmt's source: count such statements apart). THE CARD IS WHAT COUNTS. Prove the row's statement (the work); the ties are given (YtffpkencgbiafaaDoorTie.lean); close each card by the builder's one call (the guide's Derived/Test/ToyasCard.lean, 'card_holds'). Laid BY PROGRAM, IN A SANDBOX (cutbox-door.mjs). By AI agents, Wed Nov 11 2026. No macro, syntax, notation, axiom, sorry.
-/
import Derived.Test.YtffpkencgbiafaaDoorRows
import GoSem.ClaimSeven
namespace Go.Proofs.YtffpkencgbiafaaDoor
namespace Rows

/-- THE TIED CARD OF 'choirlaw14.GuardTells'. -/
def guardTellsCard : Claim7 := { stood := { row := guardTellsRow, standIns := [], harness := (true, "d4a8f3b8d24b9bf61895645f3ef713253f11fae163d36a64a311ec11bdb0be3a"), looks := true }, kinds := [], alts := [], laidByText := true, laidKinds := [.data, .data, .data], laidTests := true, laidLooks := .later }
def GuardTellsCardSaid : Prop := Claim7.holds Tryd.pinned (.plain (OpenSpec.ofChange guardTellsSpec)) guardTellsCard

/-- THE TIED CARD OF 'choirlaw14.GuardInner'. -/
def guardInnerCard : Claim7 := { stood := { row := guardInnerRow, standIns := [], harness := (true, "d4a8f3b8d24b9bf61895645f3ef713253f11fae163d36a64a311ec11bdb0be3a"), looks := true }, kinds := [], alts := [], laidByText := true, laidKinds := [.data, .data, .data], laidTests := true, laidLooks := .later }
def GuardInnerCardSaid : Prop := Claim7.holds Tryd.pinned (.plain (OpenSpec.ofChange guardInnerSpec)) guardInnerCard

/-- THE TIED CARD OF 'choirlaw14.GuardRuns'. -/
def guardRunsCard : Claim7 := { stood := { row := guardRunsRow, standIns := [], harness := (true, "d4a8f3b8d24b9bf61895645f3ef713253f11fae163d36a64a311ec11bdb0be3a"), looks := true }, kinds := [], alts := [], laidByText := true, laidKinds := [.data, .data, .data], laidTests := true, laidLooks := .later }
def GuardRunsCardSaid : Prop := Claim7.holds Tryd.pinned (.plain (OpenSpec.ofChange guardRunsSpec)) guardRunsCard

/-- THE TIED CARD OF 'choirlaw14.GuardEach'. -/
def guardEachCard : Claim7 := { stood := { row := guardEachRow, standIns := [], harness := (true, "d4a8f3b8d24b9bf61895645f3ef713253f11fae163d36a64a311ec11bdb0be3a"), looks := true }, kinds := [], alts := [], laidByText := true, laidKinds := [.data, .data, .data], laidTests := true, laidLooks := .later }
def GuardEachCardSaid : Prop := Claim7.holds Tryd.pinned (.plain (OpenSpec.ofChange guardEachSpec)) guardEachCard

/-- THE SECOND FORM's CARD OF 'choirlaw14.GuardTells'. -/
def guardTellsUptoCard : Claim7 := { stood := { row := guardTellsUptoRow, standIns := [], harness := (true, "d4a8f3b8d24b9bf61895645f3ef713253f11fae163d36a64a311ec11bdb0be3a"), looks := true }, kinds := [], alts := [], laidByText := true, laidKinds := [.data, .data, .data], laidTests := true, laidLooks := .later }
def GuardTellsUptoCardSaid : Prop := Claim7.holds Tryd.pinned (.plain (OpenSpec.upto guardTellsSpec)) guardTellsUptoCard

/-- THE SECOND FORM's CARD OF 'choirlaw14.GuardInner'. -/
def guardInnerUptoCard : Claim7 := { stood := { row := guardInnerUptoRow, standIns := [], harness := (true, "d4a8f3b8d24b9bf61895645f3ef713253f11fae163d36a64a311ec11bdb0be3a"), looks := true }, kinds := [], alts := [], laidByText := true, laidKinds := [.data, .data, .data], laidTests := true, laidLooks := .later }
def GuardInnerUptoCardSaid : Prop := Claim7.holds Tryd.pinned (.plain (OpenSpec.upto guardInnerSpec)) guardInnerUptoCard

/-- THE SECOND FORM's CARD OF 'choirlaw14.GuardRuns'. -/
def guardRunsUptoCard : Claim7 := { stood := { row := guardRunsUptoRow, standIns := [], harness := (true, "d4a8f3b8d24b9bf61895645f3ef713253f11fae163d36a64a311ec11bdb0be3a"), looks := true }, kinds := [], alts := [], laidByText := true, laidKinds := [.data, .data, .data], laidTests := true, laidLooks := .later }
def GuardRunsUptoCardSaid : Prop := Claim7.holds Tryd.pinned (.plain (OpenSpec.upto guardRunsSpec)) guardRunsUptoCard

/-- THE SECOND FORM's CARD OF 'choirlaw14.GuardEach'. -/
def guardEachUptoCard : Claim7 := { stood := { row := guardEachUptoRow, standIns := [], harness := (true, "d4a8f3b8d24b9bf61895645f3ef713253f11fae163d36a64a311ec11bdb0be3a"), looks := true }, kinds := [], alts := [], laidByText := true, laidKinds := [.data, .data, .data], laidTests := true, laidLooks := .later }
def GuardEachUptoCardSaid : Prop := Claim7.holds Tryd.pinned (.plain (OpenSpec.upto guardEachSpec)) guardEachUptoCard
end Rows
end Go.Proofs.YtffpkencgbiafaaDoor
