/-
  NARROWER THAN 'FOR EVERY INPUT', by the rows' own cells (each row's printed sentence says how): WireBack: loops · WireReads: loops · WireTogether: loops.
  DERIVED. THE GIVEN ROWS OF THIS SEAT. 6 by the template 'for every input the law returns true; each argument reads behind the call as it read before'; 0 by the template 'total and deterministic' (their statements: YtafogjonicdbmaaTotals.lean).
  GIVEN WITH THE SEED: the statements are not yours to turn. If you find one false, say at which input.
  Laid BY PROGRAM, IN A SANDBOX (cutbox-rows.mjs): the forced cells as the released guide's own fill.sh prints them over the translation 3ec10b7931f62c0f… (all of the seat's roots in one cut). By AI agents, Wed Nov 11 2026. No macro, syntax, notation, axiom, sorry.
-/
import Derived.Test.YtafogjonicdbmaaChecked
import GoSem.Claim
import GoSem.ClaimJoined
import GoSem.ClaimMapViews
import Derived.JoinedTies
import Derived.KernelRfl
namespace Go.Proofs.Ytafogjonicdbmaa
/- THE CELL 'sum', in the pinned program and in every row, IS THE sha256 OF THE DUMP (.gsa) THAT YtafogjonicdbmaaProg.lean LOADS. Nothing in Lean hashes anything: it is a label: what it is worth is what the hold of that sum in a sandbox is worth. -/
noncomputable def Try.pinned : Pinned := { name := "ytafogjonicdbmaa", sum := "3ec10b7931f62c0f2e630400bc69b3f7a97c603c9a97d06caba8ede177fd5ab4", checked := Try.checked }
namespace Rows
def none {H : Type} : Left H := { results := [], args := [] }

/-- 'choirlaw3.WireBack': WHATEVER THE INPUT: true; the input reads as it did. -/
def wireBackSpec : ChangeSpec := { name := "wireBack", fn := fun _ => fun
  | [d1, d2, d3] => { results := [.lit (.bool true)], args := [d1, d2, d3] }
  | _ => none }
def wireBackRow : OpenClaim := { program := "ytafogjonicdbmaa", sum := "3ec10b7931f62c0f2e630400bc69b3f7a97c603c9a97d06caba8ede177fd5ab4", func := "choir/choirlaw3.WireBack", spec := "wireBack", inPlace := ["math.Float64frombits", "math.Float64bits"], unfollowed := true, recurses := true, loops := true, apart := false }
def WireBackSaid : Prop := wireBackRow.holds Try.pinned (OpenSpec.ofChange wireBackSpec)

/-- ITS FALSE NEIGHBOUR: 'it returns false'. Refute it at one input. -/
def wireBackWrong : ChangeSpec := { name := "wireBack", fn := fun _ => fun
  | [d1, d2, d3] => { results := [.lit (.bool false)], args := [d1, d2, d3] }
  | _ => none }
def WireBackWrongFalsely : Prop := wireBackRow.holds Try.pinned (OpenSpec.ofChange wireBackWrong)

/-- 'choirlaw3.WireReads': WHATEVER THE INPUT: true; the input reads as it did. -/
def wireReadsSpec : ChangeSpec := { name := "wireReads", fn := fun _ => fun
  | [d1, d2, d3, d4, d5] => { results := [.lit (.bool true)], args := [d1, d2, d3, d4, d5] }
  | _ => none }
def wireReadsRow : OpenClaim := { program := "ytafogjonicdbmaa", sum := "3ec10b7931f62c0f2e630400bc69b3f7a97c603c9a97d06caba8ede177fd5ab4", func := "choir/choirlaw3.WireReads", spec := "wireReads", inPlace := ["math.Float64frombits", "math.Float64bits"], unfollowed := true, recurses := true, loops := true, apart := false }
def WireReadsSaid : Prop := wireReadsRow.holds Try.pinned (OpenSpec.ofChange wireReadsSpec)

/-- ITS FALSE NEIGHBOUR: 'it returns false'. Refute it at one input. -/
def wireReadsWrong : ChangeSpec := { name := "wireReads", fn := fun _ => fun
  | [d1, d2, d3, d4, d5] => { results := [.lit (.bool false)], args := [d1, d2, d3, d4, d5] }
  | _ => none }
def WireReadsWrongFalsely : Prop := wireReadsRow.holds Try.pinned (OpenSpec.ofChange wireReadsWrong)

/-- 'choirlaw3.WireNumbers': WHATEVER THE INPUT: true; the input reads as it did. -/
def wireNumbersSpec : ChangeSpec := { name := "wireNumbers", fn := fun _ => fun
  | [d1, d2, d3, d4, d5] => { results := [.lit (.bool true)], args := [d1, d2, d3, d4, d5] }
  | _ => none }
def wireNumbersRow : OpenClaim := { program := "ytafogjonicdbmaa", sum := "3ec10b7931f62c0f2e630400bc69b3f7a97c603c9a97d06caba8ede177fd5ab4", func := "choir/choirlaw3.WireNumbers", spec := "wireNumbers", inPlace := ["math.Float64frombits", "math.Float64bits"], unfollowed := true, recurses := true, apart := false }
def WireNumbersSaid : Prop := wireNumbersRow.holds Try.pinned (OpenSpec.ofChange wireNumbersSpec)

/-- ITS FALSE NEIGHBOUR: 'it returns false'. Refute it at one input. -/
def wireNumbersWrong : ChangeSpec := { name := "wireNumbers", fn := fun _ => fun
  | [d1, d2, d3, d4, d5] => { results := [.lit (.bool false)], args := [d1, d2, d3, d4, d5] }
  | _ => none }
def WireNumbersWrongFalsely : Prop := wireNumbersRow.holds Try.pinned (OpenSpec.ofChange wireNumbersWrong)

/-- 'choirlaw3.WireNaN': WHATEVER THE INPUT: true; the input reads as it did. -/
def wireNaNSpec : ChangeSpec := { name := "wireNaN", fn := fun _ => fun
  | [d] => { results := [.lit (.bool true)], args := [d] }
  | _ => none }
def wireNaNRow : OpenClaim := { program := "ytafogjonicdbmaa", sum := "3ec10b7931f62c0f2e630400bc69b3f7a97c603c9a97d06caba8ede177fd5ab4", func := "choir/choirlaw3.WireNaN", spec := "wireNaN", inPlace := ["math.Float64frombits", "math.Float64bits"], unfollowed := true, recurses := true, apart := false }
def WireNaNSaid : Prop := wireNaNRow.holds Try.pinned (OpenSpec.ofChange wireNaNSpec)

/-- ITS FALSE NEIGHBOUR: 'it returns false'. Refute it at one input. -/
def wireNaNWrong : ChangeSpec := { name := "wireNaN", fn := fun _ => fun
  | [d] => { results := [.lit (.bool false)], args := [d] }
  | _ => none }
def WireNaNWrongFalsely : Prop := wireNaNRow.holds Try.pinned (OpenSpec.ofChange wireNaNWrong)

/-- 'choirlaw3.WireDeep': WHATEVER THE INPUT: true; the input reads as it did. -/
def wireDeepSpec : ChangeSpec := { name := "wireDeep", fn := fun _ => fun
  | [d1, d2] => { results := [.lit (.bool true)], args := [d1, d2] }
  | _ => none }
def wireDeepRow : OpenClaim := { program := "ytafogjonicdbmaa", sum := "3ec10b7931f62c0f2e630400bc69b3f7a97c603c9a97d06caba8ede177fd5ab4", func := "choir/choirlaw3.WireDeep", spec := "wireDeep", inPlace := ["math.Float64frombits", "math.Float64bits"], unfollowed := true, recurses := true, apart := false }
def WireDeepSaid : Prop := wireDeepRow.holds Try.pinned (OpenSpec.ofChange wireDeepSpec)

/-- ITS FALSE NEIGHBOUR: 'it returns false'. Refute it at one input. -/
def wireDeepWrong : ChangeSpec := { name := "wireDeep", fn := fun _ => fun
  | [d1, d2] => { results := [.lit (.bool false)], args := [d1, d2] }
  | _ => none }
def WireDeepWrongFalsely : Prop := wireDeepRow.holds Try.pinned (OpenSpec.ofChange wireDeepWrong)

/-- 'choirlaw3.WireTogether': WHATEVER THE INPUT: true; the input reads as it did. -/
def wireTogetherSpec : ChangeSpec := { name := "wireTogether", fn := fun _ => fun
  | [d] => { results := [.lit (.bool true)], args := [d] }
  | _ => none }
def wireTogetherRow : OpenClaim := { program := "ytafogjonicdbmaa", sum := "3ec10b7931f62c0f2e630400bc69b3f7a97c603c9a97d06caba8ede177fd5ab4", func := "choir/choirlaw3.WireTogether", spec := "wireTogether", inPlace := ["math.Float64frombits", "math.Float64bits"], unfollowed := true, recurses := true, loops := true, apart := false }
def WireTogetherSaid : Prop := wireTogetherRow.holds Try.pinned (OpenSpec.ofChange wireTogetherSpec)

/-- ITS FALSE NEIGHBOUR: 'it returns false'. Refute it at one input. -/
def wireTogetherWrong : ChangeSpec := { name := "wireTogether", fn := fun _ => fun
  | [d] => { results := [.lit (.bool false)], args := [d] }
  | _ => none }
def WireTogetherWrongFalsely : Prop := wireTogetherRow.holds Try.pinned (OpenSpec.ofChange wireTogetherWrong)

/- THE SECOND FORM. 'bulk': how many values and letters a reading holds, each counted each time it is reached (what is shared counts as often as it is met; a slice's spare places count too). A statement '..UptoSaid' is the law's where the arguments, and the package variables that the reading takes, are together of bulk at most 1048576: NARROWER than '..Said'. Prove '..Said' where nothing that the law and all that it calls make is longer than what came in: it says more and counts as full. Else prove '..UptoSaid'. A law counts once. -/
mutual
def uptoBulk {H : Type} : DataW H → Nat
  | .lit (.string bytes) => bytes.length + 1
  | .lit _ => 1
  | .nil => 1
  | .ptr d => uptoBulk d + 1
  | .slice elems spare => uptoBulkAll elems + uptoBulkAll spare + 1
  | .agg parts => uptoBulkAll parts + 1
  | .iface _ d => uptoBulk d + 1
  | .map entries => uptoBulkEntries entries + 1
  | .held _ => 1
def uptoBulkAll {H : Type} : List (DataW H) → Nat
  | [] => 0
  | d :: r => uptoBulk d + uptoBulkAll r
def uptoBulkEntries {H : Type} : List (Lit × DataW H) → Nat
  | [] => 0
  | x :: r => uptoBulkEntry x + uptoBulkEntries r
def uptoBulkEntry {H : Type} : Lit × DataW H → Nat
  | (.string bytes, d) => bytes.length + uptoBulk d + 1
  | (_, d) => uptoBulk d + 1
 end
def uptoSmall : (H : Type) → List (DataW H) → Bool := fun _ ds => decide (uptoBulkAll ds ≤ 1048576)
def OpenSpec.upto (s : _root_.Go.ChangeSpec) : _root_.Go.OpenSpec := { _root_.Go.OpenSpec.ofChange s with cond := some uptoSmall }

/-- 'choirlaw3.WireBack', WHERE WHAT IT READS IS OF BULK AT MOST 1048576: true; the input reads as it did. -/
def wireBackUptoRow : OpenClaim := { program := "ytafogjonicdbmaa", sum := "3ec10b7931f62c0f2e630400bc69b3f7a97c603c9a97d06caba8ede177fd5ab4", func := "choir/choirlaw3.WireBack", spec := "wireBack", inPlace := ["math.Float64frombits", "math.Float64bits"], unfollowed := true, recurses := true, loops := true, apart := false, narrowed := true }
def WireBackUptoSaid : Prop := wireBackUptoRow.holds Try.pinned (OpenSpec.upto wireBackSpec)

/-- 'choirlaw3.WireReads', WHERE WHAT IT READS IS OF BULK AT MOST 1048576: true; the input reads as it did. -/
def wireReadsUptoRow : OpenClaim := { program := "ytafogjonicdbmaa", sum := "3ec10b7931f62c0f2e630400bc69b3f7a97c603c9a97d06caba8ede177fd5ab4", func := "choir/choirlaw3.WireReads", spec := "wireReads", inPlace := ["math.Float64frombits", "math.Float64bits"], unfollowed := true, recurses := true, loops := true, apart := false, narrowed := true }
def WireReadsUptoSaid : Prop := wireReadsUptoRow.holds Try.pinned (OpenSpec.upto wireReadsSpec)

/-- 'choirlaw3.WireNumbers', WHERE WHAT IT READS IS OF BULK AT MOST 1048576: true; the input reads as it did. -/
def wireNumbersUptoRow : OpenClaim := { program := "ytafogjonicdbmaa", sum := "3ec10b7931f62c0f2e630400bc69b3f7a97c603c9a97d06caba8ede177fd5ab4", func := "choir/choirlaw3.WireNumbers", spec := "wireNumbers", inPlace := ["math.Float64frombits", "math.Float64bits"], unfollowed := true, recurses := true, apart := false, narrowed := true }
def WireNumbersUptoSaid : Prop := wireNumbersUptoRow.holds Try.pinned (OpenSpec.upto wireNumbersSpec)

/-- 'choirlaw3.WireNaN', WHERE WHAT IT READS IS OF BULK AT MOST 1048576: true; the input reads as it did. -/
def wireNaNUptoRow : OpenClaim := { program := "ytafogjonicdbmaa", sum := "3ec10b7931f62c0f2e630400bc69b3f7a97c603c9a97d06caba8ede177fd5ab4", func := "choir/choirlaw3.WireNaN", spec := "wireNaN", inPlace := ["math.Float64frombits", "math.Float64bits"], unfollowed := true, recurses := true, apart := false, narrowed := true }
def WireNaNUptoSaid : Prop := wireNaNUptoRow.holds Try.pinned (OpenSpec.upto wireNaNSpec)

/-- 'choirlaw3.WireDeep', WHERE WHAT IT READS IS OF BULK AT MOST 1048576: true; the input reads as it did. -/
def wireDeepUptoRow : OpenClaim := { program := "ytafogjonicdbmaa", sum := "3ec10b7931f62c0f2e630400bc69b3f7a97c603c9a97d06caba8ede177fd5ab4", func := "choir/choirlaw3.WireDeep", spec := "wireDeep", inPlace := ["math.Float64frombits", "math.Float64bits"], unfollowed := true, recurses := true, apart := false, narrowed := true }
def WireDeepUptoSaid : Prop := wireDeepUptoRow.holds Try.pinned (OpenSpec.upto wireDeepSpec)

/-- 'choirlaw3.WireTogether', WHERE WHAT IT READS IS OF BULK AT MOST 1048576: true; the input reads as it did. -/
def wireTogetherUptoRow : OpenClaim := { program := "ytafogjonicdbmaa", sum := "3ec10b7931f62c0f2e630400bc69b3f7a97c603c9a97d06caba8ede177fd5ab4", func := "choir/choirlaw3.WireTogether", spec := "wireTogether", inPlace := ["math.Float64frombits", "math.Float64bits"], unfollowed := true, recurses := true, loops := true, apart := false, narrowed := true }
def WireTogetherUptoSaid : Prop := wireTogetherUptoRow.holds Try.pinned (OpenSpec.upto wireTogetherSpec)

end Rows
end Go.Proofs.Ytafogjonicdbmaa
