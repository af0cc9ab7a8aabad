/-
  No cell of these rows narrows 'for every input' (looked for: loops, veiled, ifaces, maps, wideKeys, modest, calm, conditions, laid).
  DERIVED. THE GIVEN ROWS OF THIS SEAT. 4 by the template 'for every input the law returns true; each argument reads behind the call as it read before'; 0 by the template 'total and deterministic' (their statements: YtfmmabkekjchjaaTotals.lean).
  GIVEN WITH THE SEED: the statements are not yours to turn. If you find one false, say at which input.
  Laid BY PROGRAM, IN A SANDBOX (cutbox-rows.mjs): the forced cells as the released guide's own fill.sh prints them over the translation b2c6a3617bad48f6… (all of the seat's roots in one cut). By AI agents, Wed Nov 11 2026. No macro, syntax, notation, axiom, sorry.
-/
import Derived.Test.YtfmmabkekjchjaaChecked
import GoSem.Claim
import GoSem.ClaimJoined
import GoSem.ClaimMapViews
import Derived.JoinedTies
import Derived.KernelRfl
namespace Go.Proofs.Ytfmmabkekjchjaa
/- THE CELL 'sum', in the pinned program and in every row, IS THE sha256 OF THE DUMP (.gsa) THAT YtfmmabkekjchjaaProg.lean LOADS. Nothing in Lean hashes anything: it is a label: what it is worth is what the hold of that sum in a sandbox is worth. -/
noncomputable def Try.pinned : Pinned := { name := "ytfmmabkekjchjaa", sum := "b2c6a3617bad48f64d4d393eb875b09560bf7e8b11ff587d4deb629772642aa6", checked := Try.checked }
namespace Rows
def none {H : Type} : Left H := { results := [], args := [] }

/-- 'choirlaw26.ViewlogTells': WHATEVER THE INPUT: true; the input reads as it did. -/
def viewlogTellsSpec : ChangeSpec := { name := "viewlogTells", fn := fun _ => fun
  | [d1, d2] => { results := [.lit (.bool true)], args := [d1, d2] }
  | _ => none }
def viewlogTellsRow : OpenClaim := { program := "ytfmmabkekjchjaa", sum := "b2c6a3617bad48f64d4d393eb875b09560bf7e8b11ff587d4deb629772642aa6", func := "choir/choirlaw26.ViewlogTells", spec := "viewlogTells", inPlace := ["math.Float64frombits", "math.Float64bits", "internal/bytealg.abigen_runtime_cmpstring"], unfollowed := true, recurses := true, apart := false }
def ViewlogTellsSaid : Prop := viewlogTellsRow.holds Try.pinned (OpenSpec.ofChange viewlogTellsSpec)

/-- ITS FALSE NEIGHBOUR: 'it returns false'. Refute it at one input. -/
def viewlogTellsWrong : ChangeSpec := { name := "viewlogTells", fn := fun _ => fun
  | [d1, d2] => { results := [.lit (.bool false)], args := [d1, d2] }
  | _ => none }
def ViewlogTellsWrongFalsely : Prop := viewlogTellsRow.holds Try.pinned (OpenSpec.ofChange viewlogTellsWrong)

/-- 'choirlaw26.ViewlogRepairs': WHATEVER THE INPUT: true; the input reads as it did. -/
def viewlogRepairsSpec : ChangeSpec := { name := "viewlogRepairs", fn := fun _ => fun
  | [d1, d2, d3, d4, d5] => { results := [.lit (.bool true)], args := [d1, d2, d3, d4, d5] }
  | _ => none }
def viewlogRepairsRow : OpenClaim := { program := "ytfmmabkekjchjaa", sum := "b2c6a3617bad48f64d4d393eb875b09560bf7e8b11ff587d4deb629772642aa6", func := "choir/choirlaw26.ViewlogRepairs", spec := "viewlogRepairs", inPlace := ["math.Float64frombits", "math.Float64bits", "internal/bytealg.abigen_runtime_cmpstring"], unfollowed := true, recurses := true, apart := false }
def ViewlogRepairsSaid : Prop := viewlogRepairsRow.holds Try.pinned (OpenSpec.ofChange viewlogRepairsSpec)

/-- ITS FALSE NEIGHBOUR: 'it returns false'. Refute it at one input. -/
def viewlogRepairsWrong : ChangeSpec := { name := "viewlogRepairs", fn := fun _ => fun
  | [d1, d2, d3, d4, d5] => { results := [.lit (.bool false)], args := [d1, d2, d3, d4, d5] }
  | _ => none }
def ViewlogRepairsWrongFalsely : Prop := viewlogRepairsRow.holds Try.pinned (OpenSpec.ofChange viewlogRepairsWrong)

/-- 'choirlaw26.ViewlogFull': WHATEVER THE INPUT: true; the input reads as it did. -/
def viewlogFullSpec : ChangeSpec := { name := "viewlogFull", fn := fun _ => fun
  | [d] => { results := [.lit (.bool true)], args := [d] }
  | _ => none }
def viewlogFullRow : OpenClaim := { program := "ytfmmabkekjchjaa", sum := "b2c6a3617bad48f64d4d393eb875b09560bf7e8b11ff587d4deb629772642aa6", func := "choir/choirlaw26.ViewlogFull", spec := "viewlogFull", inPlace := ["math.Float64frombits", "math.Float64bits", "internal/bytealg.abigen_runtime_cmpstring"], unfollowed := true, recurses := true, apart := false }
def ViewlogFullSaid : Prop := viewlogFullRow.holds Try.pinned (OpenSpec.ofChange viewlogFullSpec)

/-- ITS FALSE NEIGHBOUR: 'it returns false'. Refute it at one input. -/
def viewlogFullWrong : ChangeSpec := { name := "viewlogFull", fn := fun _ => fun
  | [d] => { results := [.lit (.bool false)], args := [d] }
  | _ => none }
def ViewlogFullWrongFalsely : Prop := viewlogFullRow.holds Try.pinned (OpenSpec.ofChange viewlogFullWrong)

/-- 'choirlaw26.ViewlogKeeps': WHATEVER THE INPUT: true; the input reads as it did. -/
def viewlogKeepsSpec : ChangeSpec := { name := "viewlogKeeps", fn := fun _ => fun
  | [d1, d2, d3, d4] => { results := [.lit (.bool true)], args := [d1, d2, d3, d4] }
  | _ => none }
def viewlogKeepsRow : OpenClaim := { program := "ytfmmabkekjchjaa", sum := "b2c6a3617bad48f64d4d393eb875b09560bf7e8b11ff587d4deb629772642aa6", func := "choir/choirlaw26.ViewlogKeeps", spec := "viewlogKeeps", inPlace := ["math.Float64frombits", "math.Float64bits", "internal/bytealg.abigen_runtime_cmpstring"], unfollowed := true, recurses := true, apart := false }
def ViewlogKeepsSaid : Prop := viewlogKeepsRow.holds Try.pinned (OpenSpec.ofChange viewlogKeepsSpec)

/-- ITS FALSE NEIGHBOUR: 'it returns false'. Refute it at one input. -/
def viewlogKeepsWrong : ChangeSpec := { name := "viewlogKeeps", fn := fun _ => fun
  | [d1, d2, d3, d4] => { results := [.lit (.bool false)], args := [d1, d2, d3, d4] }
  | _ => none }
def ViewlogKeepsWrongFalsely : Prop := viewlogKeepsRow.holds Try.pinned (OpenSpec.ofChange viewlogKeepsWrong)

/- THE SECOND FORM. 'bulk': how many values and letters a reading holds, each counted each time it is reached (what is shared counts as often as it is met; a slice's spare places count too). A statement '..UptoSaid' is the law's where the arguments, and the package variables that the reading takes, are together of bulk at most 1048576: NARROWER than '..Said'. Prove '..Said' where nothing that the law and all that it calls make is longer than what came in: it says more and counts as full. Else prove '..UptoSaid'. A law counts once. -/
mutual
def uptoBulk {H : Type} : DataW H → Nat
  | .lit (.string bytes) => bytes.length + 1
  | .lit _ => 1
  | .nil => 1
  | .ptr d => uptoBulk d + 1
  | .slice elems spare => uptoBulkAll elems + uptoBulkAll spare + 1
  | .agg parts => uptoBulkAll parts + 1
  | .iface _ d => uptoBulk d + 1
  | .map entries => uptoBulkEntries entries + 1
  | .held _ => 1
def uptoBulkAll {H : Type} : List (DataW H) → Nat
  | [] => 0
  | d :: r => uptoBulk d + uptoBulkAll r
def uptoBulkEntries {H : Type} : List (Lit × DataW H) → Nat
  | [] => 0
  | x :: r => uptoBulkEntry x + uptoBulkEntries r
def uptoBulkEntry {H : Type} : Lit × DataW H → Nat
  | (.string bytes, d) => bytes.length + uptoBulk d + 1
  | (_, d) => uptoBulk d + 1
 end
def uptoSmall : (H : Type) → List (DataW H) → Bool := fun _ ds => decide (uptoBulkAll ds ≤ 1048576)
def OpenSpec.upto (s : _root_.Go.ChangeSpec) : _root_.Go.OpenSpec := { _root_.Go.OpenSpec.ofChange s with cond := some uptoSmall }

/-- 'choirlaw26.ViewlogTells', WHERE WHAT IT READS IS OF BULK AT MOST 1048576: true; the input reads as it did. -/
def viewlogTellsUptoRow : OpenClaim := { program := "ytfmmabkekjchjaa", sum := "b2c6a3617bad48f64d4d393eb875b09560bf7e8b11ff587d4deb629772642aa6", func := "choir/choirlaw26.ViewlogTells", spec := "viewlogTells", inPlace := ["math.Float64frombits", "math.Float64bits", "internal/bytealg.abigen_runtime_cmpstring"], unfollowed := true, recurses := true, apart := false, narrowed := true }
def ViewlogTellsUptoSaid : Prop := viewlogTellsUptoRow.holds Try.pinned (OpenSpec.upto viewlogTellsSpec)

/-- 'choirlaw26.ViewlogRepairs', WHERE WHAT IT READS IS OF BULK AT MOST 1048576: true; the input reads as it did. -/
def viewlogRepairsUptoRow : OpenClaim := { program := "ytfmmabkekjchjaa", sum := "b2c6a3617bad48f64d4d393eb875b09560bf7e8b11ff587d4deb629772642aa6", func := "choir/choirlaw26.ViewlogRepairs", spec := "viewlogRepairs", inPlace := ["math.Float64frombits", "math.Float64bits", "internal/bytealg.abigen_runtime_cmpstring"], unfollowed := true, recurses := true, apart := false, narrowed := true }
def ViewlogRepairsUptoSaid : Prop := viewlogRepairsUptoRow.holds Try.pinned (OpenSpec.upto viewlogRepairsSpec)

/-- 'choirlaw26.ViewlogFull', WHERE WHAT IT READS IS OF BULK AT MOST 1048576: true; the input reads as it did. -/
def viewlogFullUptoRow : OpenClaim := { program := "ytfmmabkekjchjaa", sum := "b2c6a3617bad48f64d4d393eb875b09560bf7e8b11ff587d4deb629772642aa6", func := "choir/choirlaw26.ViewlogFull", spec := "viewlogFull", inPlace := ["math.Float64frombits", "math.Float64bits", "internal/bytealg.abigen_runtime_cmpstring"], unfollowed := true, recurses := true, apart := false, narrowed := true }
def ViewlogFullUptoSaid : Prop := viewlogFullUptoRow.holds Try.pinned (OpenSpec.upto viewlogFullSpec)

/-- 'choirlaw26.ViewlogKeeps', WHERE WHAT IT READS IS OF BULK AT MOST 1048576: true; the input reads as it did. -/
def viewlogKeepsUptoRow : OpenClaim := { program := "ytfmmabkekjchjaa", sum := "b2c6a3617bad48f64d4d393eb875b09560bf7e8b11ff587d4deb629772642aa6", func := "choir/choirlaw26.ViewlogKeeps", spec := "viewlogKeeps", inPlace := ["math.Float64frombits", "math.Float64bits", "internal/bytealg.abigen_runtime_cmpstring"], unfollowed := true, recurses := true, apart := false, narrowed := true }
def ViewlogKeepsUptoSaid : Prop := viewlogKeepsUptoRow.holds Try.pinned (OpenSpec.upto viewlogKeepsSpec)

end Rows
end Go.Proofs.Ytfmmabkekjchjaa
