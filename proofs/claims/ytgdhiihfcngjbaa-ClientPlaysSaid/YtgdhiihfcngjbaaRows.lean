/-
  NARROWER THAN 'FOR EVERY INPUT', by the rows' own cells (each row's printed sentence says how): ClientPlays: loops.
  DERIVED. THE GIVEN ROWS OF THIS SEAT. 3 by the template 'for every input the law returns true; each argument reads behind the call as it read before'; 0 by the template 'total and deterministic' (their statements: YtgdhiihfcngjbaaTotals.lean).
  GIVEN WITH THE SEED: the statements are not yours to turn. If you find one false, say at which input.
  Laid BY PROGRAM, IN A SANDBOX (cutbox-rows.mjs): the forced cells as the released guide's own fill.sh prints them over the translation 219eeec0f9358c49… (all of the seat's roots in one cut). By AI agents, Wed Nov 11 2026. No macro, syntax, notation, axiom, sorry.
-/
import Derived.Test.YtgdhiihfcngjbaaChecked
import GoSem.Claim
import GoSem.ClaimJoined
import GoSem.ClaimMapViews
import Derived.JoinedTies
import Derived.KernelRfl
namespace Go.Proofs.Ytgdhiihfcngjbaa
/- THE CELL 'sum', in the pinned program and in every row, IS THE sha256 OF THE DUMP (.gsa) THAT YtgdhiihfcngjbaaProg.lean LOADS. Nothing in Lean hashes anything: it is a label: what it is worth is what the hold of that sum in a sandbox is worth. -/
noncomputable def Try.pinned : Pinned := { name := "ytgdhiihfcngjbaa", sum := "219eeec0f9358c494891f8d26dd834d306a09aae6a5ecad149b7176d5a56d074", checked := Try.checked }
namespace Rows
def none {H : Type} : Left H := { results := [], args := [] }

/-- 'choirlaw29.ClientMany': WHATEVER THE INPUT: true; the input reads as it did. -/
def clientManySpec : ChangeSpec := { name := "clientMany", fn := fun _ => fun
  | [d] => { results := [.lit (.bool true)], args := [d] }
  | _ => none }
def clientManyRow : OpenClaim := { program := "ytgdhiihfcngjbaa", sum := "219eeec0f9358c494891f8d26dd834d306a09aae6a5ecad149b7176d5a56d074", func := "choir/choirlaw29.ClientMany", spec := "clientMany", inPlace := ["math.Float64frombits"], unfollowed := true, recurses := true, apart := false }
def ClientManySaid : Prop := clientManyRow.holds Try.pinned (OpenSpec.ofChange clientManySpec)

/-- ITS FALSE NEIGHBOUR: 'it returns false'. Refute it at one input. -/
def clientManyWrong : ChangeSpec := { name := "clientMany", fn := fun _ => fun
  | [d] => { results := [.lit (.bool false)], args := [d] }
  | _ => none }
def ClientManyWrongFalsely : Prop := clientManyRow.holds Try.pinned (OpenSpec.ofChange clientManyWrong)

/-- 'choirlaw29.ClientTimes': WHATEVER THE INPUT: true; the input reads as it did. -/
def clientTimesSpec : ChangeSpec := { name := "clientTimes", fn := fun _ => fun
  | [d1, d2] => { results := [.lit (.bool true)], args := [d1, d2] }
  | _ => none }
def clientTimesRow : OpenClaim := { program := "ytgdhiihfcngjbaa", sum := "219eeec0f9358c494891f8d26dd834d306a09aae6a5ecad149b7176d5a56d074", func := "choir/choirlaw29.ClientTimes", spec := "clientTimes", inPlace := ["math.Float64frombits"], unfollowed := true, recurses := true, apart := false }
def ClientTimesSaid : Prop := clientTimesRow.holds Try.pinned (OpenSpec.ofChange clientTimesSpec)

/-- ITS FALSE NEIGHBOUR: 'it returns false'. Refute it at one input. -/
def clientTimesWrong : ChangeSpec := { name := "clientTimes", fn := fun _ => fun
  | [d1, d2] => { results := [.lit (.bool false)], args := [d1, d2] }
  | _ => none }
def ClientTimesWrongFalsely : Prop := clientTimesRow.holds Try.pinned (OpenSpec.ofChange clientTimesWrong)

/-- 'choirlaw29.ClientPlays': WHATEVER THE INPUT: true; the input reads as it did. -/
def clientPlaysSpec : ChangeSpec := { name := "clientPlays", fn := fun _ => fun
  | [d1, d2] => { results := [.lit (.bool true)], args := [d1, d2] }
  | _ => none }
def clientPlaysRow : OpenClaim := { program := "ytgdhiihfcngjbaa", sum := "219eeec0f9358c494891f8d26dd834d306a09aae6a5ecad149b7176d5a56d074", func := "choir/choirlaw29.ClientPlays", spec := "clientPlays", inPlace := ["math.Float64frombits", "math.Float64bits"], unfollowed := true, recurses := true, loops := true, apart := false }
def ClientPlaysSaid : Prop := clientPlaysRow.holds Try.pinned (OpenSpec.ofChange clientPlaysSpec)

/-- ITS FALSE NEIGHBOUR: 'it returns false'. Refute it at one input. -/
def clientPlaysWrong : ChangeSpec := { name := "clientPlays", fn := fun _ => fun
  | [d1, d2] => { results := [.lit (.bool false)], args := [d1, d2] }
  | _ => none }
def ClientPlaysWrongFalsely : Prop := clientPlaysRow.holds Try.pinned (OpenSpec.ofChange clientPlaysWrong)

/- THE SECOND FORM. 'bulk': how many values and letters a reading holds, each counted each time it is reached (what is shared counts as often as it is met; a slice's spare places count too). A statement '..UptoSaid' is the law's where the arguments, and the package variables that the reading takes, are together of bulk at most 1048576: NARROWER than '..Said'. Prove '..Said' where nothing that the law and all that it calls make is longer than what came in: it says more and counts as full. Else prove '..UptoSaid'. A law counts once. -/
mutual
def uptoBulk {H : Type} : DataW H → Nat
  | .lit (.string bytes) => bytes.length + 1
  | .lit _ => 1
  | .nil => 1
  | .ptr d => uptoBulk d + 1
  | .slice elems spare => uptoBulkAll elems + uptoBulkAll spare + 1
  | .agg parts => uptoBulkAll parts + 1
  | .iface _ d => uptoBulk d + 1
  | .map entries => uptoBulkEntries entries + 1
  | .held _ => 1
def uptoBulkAll {H : Type} : List (DataW H) → Nat
  | [] => 0
  | d :: r => uptoBulk d + uptoBulkAll r
def uptoBulkEntries {H : Type} : List (Lit × DataW H) → Nat
  | [] => 0
  | x :: r => uptoBulkEntry x + uptoBulkEntries r
def uptoBulkEntry {H : Type} : Lit × DataW H → Nat
  | (.string bytes, d) => bytes.length + uptoBulk d + 1
  | (_, d) => uptoBulk d + 1
 end
def uptoSmall : (H : Type) → List (DataW H) → Bool := fun _ ds => decide (uptoBulkAll ds ≤ 1048576)
def OpenSpec.upto (s : _root_.Go.ChangeSpec) : _root_.Go.OpenSpec := { _root_.Go.OpenSpec.ofChange s with cond := some uptoSmall }

/-- 'choirlaw29.ClientMany', WHERE WHAT IT READS IS OF BULK AT MOST 1048576: true; the input reads as it did. -/
def clientManyUptoRow : OpenClaim := { program := "ytgdhiihfcngjbaa", sum := "219eeec0f9358c494891f8d26dd834d306a09aae6a5ecad149b7176d5a56d074", func := "choir/choirlaw29.ClientMany", spec := "clientMany", inPlace := ["math.Float64frombits"], unfollowed := true, recurses := true, apart := false, narrowed := true }
def ClientManyUptoSaid : Prop := clientManyUptoRow.holds Try.pinned (OpenSpec.upto clientManySpec)

/-- 'choirlaw29.ClientTimes', WHERE WHAT IT READS IS OF BULK AT MOST 1048576: true; the input reads as it did. -/
def clientTimesUptoRow : OpenClaim := { program := "ytgdhiihfcngjbaa", sum := "219eeec0f9358c494891f8d26dd834d306a09aae6a5ecad149b7176d5a56d074", func := "choir/choirlaw29.ClientTimes", spec := "clientTimes", inPlace := ["math.Float64frombits"], unfollowed := true, recurses := true, apart := false, narrowed := true }
def ClientTimesUptoSaid : Prop := clientTimesUptoRow.holds Try.pinned (OpenSpec.upto clientTimesSpec)

/-- 'choirlaw29.ClientPlays', WHERE WHAT IT READS IS OF BULK AT MOST 1048576: true; the input reads as it did. -/
def clientPlaysUptoRow : OpenClaim := { program := "ytgdhiihfcngjbaa", sum := "219eeec0f9358c494891f8d26dd834d306a09aae6a5ecad149b7176d5a56d074", func := "choir/choirlaw29.ClientPlays", spec := "clientPlays", inPlace := ["math.Float64frombits", "math.Float64bits"], unfollowed := true, recurses := true, loops := true, apart := false, narrowed := true }
def ClientPlaysUptoSaid : Prop := clientPlaysUptoRow.holds Try.pinned (OpenSpec.upto clientPlaysSpec)

end Rows
end Go.Proofs.Ytgdhiihfcngjbaa
