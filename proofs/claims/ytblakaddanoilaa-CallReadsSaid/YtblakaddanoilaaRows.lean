/-
  NARROWER THAN 'FOR EVERY INPUT', by the rows' own cells (each row's printed sentence says how): CallReads: loops · CallReplies: loops · CallSame: loops · CallBack: loops.
  DERIVED. THE GIVEN ROWS OF THIS SEAT. 5 by the template 'for every input the law returns true; each argument reads behind the call as it read before'; 0 by the template 'total and deterministic' (their statements: YtblakaddanoilaaTotals.lean).
  GIVEN WITH THE SEED: the statements are not yours to turn. If you find one false, say at which input.
  Laid BY PROGRAM, IN A SANDBOX (cutbox-rows.mjs): the forced cells as the released guide's own fill.sh prints them over the translation 8361f25e973fabb7… (all of the seat's roots in one cut). By AI agents, Wed Nov 11 2026. No macro, syntax, notation, axiom, sorry.
-/
import Derived.Test.YtblakaddanoilaaChecked
import GoSem.Claim
import GoSem.ClaimJoined
import GoSem.ClaimMapViews
import Derived.JoinedTies
import Derived.KernelRfl
namespace Go.Proofs.Ytblakaddanoilaa
/- THE CELL 'sum', in the pinned program and in every row, IS THE sha256 OF THE DUMP (.gsa) THAT YtblakaddanoilaaProg.lean LOADS. Nothing in Lean hashes anything: it is a label: what it is worth is what the hold of that sum in a sandbox is worth. -/
noncomputable def Try.pinned : Pinned := { name := "ytblakaddanoilaa", sum := "8361f25e973fabb7f7d9a1c593af1599d26ab4d3fa6034e880863ca5cdcad5f2", checked := Try.checked }
namespace Rows
def none {H : Type} : Left H := { results := [], args := [] }

/-- 'choirlaw6.CallReads': WHATEVER THE INPUT: true; the input reads as it did. -/
def callReadsSpec : ChangeSpec := { name := "callReads", fn := fun _ => fun
  | [d1, d2, d3, d4, d5] => { results := [.lit (.bool true)], args := [d1, d2, d3, d4, d5] }
  | _ => none }
def callReadsRow : OpenClaim := { program := "ytblakaddanoilaa", sum := "8361f25e973fabb7f7d9a1c593af1599d26ab4d3fa6034e880863ca5cdcad5f2", func := "choir/choirlaw6.CallReads", spec := "callReads", inPlace := ["math.Float64frombits", "math.Float64bits", "internal/bytealg.abigen_runtime_cmpstring"], unfollowed := true, recurses := true, loops := true, apart := false }
def CallReadsSaid : Prop := callReadsRow.holds Try.pinned (OpenSpec.ofChange callReadsSpec)

/-- ITS FALSE NEIGHBOUR: 'it returns false'. Refute it at one input. -/
def callReadsWrong : ChangeSpec := { name := "callReads", fn := fun _ => fun
  | [d1, d2, d3, d4, d5] => { results := [.lit (.bool false)], args := [d1, d2, d3, d4, d5] }
  | _ => none }
def CallReadsWrongFalsely : Prop := callReadsRow.holds Try.pinned (OpenSpec.ofChange callReadsWrong)

/-- 'choirlaw6.CallReplies': WHATEVER THE INPUT: true; the input reads as it did. -/
def callRepliesSpec : ChangeSpec := { name := "callReplies", fn := fun _ => fun
  | [d1, d2, d3] => { results := [.lit (.bool true)], args := [d1, d2, d3] }
  | _ => none }
def callRepliesRow : OpenClaim := { program := "ytblakaddanoilaa", sum := "8361f25e973fabb7f7d9a1c593af1599d26ab4d3fa6034e880863ca5cdcad5f2", func := "choir/choirlaw6.CallReplies", spec := "callReplies", inPlace := ["math.Float64frombits", "math.Float64bits", "internal/bytealg.abigen_runtime_cmpstring"], unfollowed := true, recurses := true, loops := true, apart := false }
def CallRepliesSaid : Prop := callRepliesRow.holds Try.pinned (OpenSpec.ofChange callRepliesSpec)

/-- ITS FALSE NEIGHBOUR: 'it returns false'. Refute it at one input. -/
def callRepliesWrong : ChangeSpec := { name := "callReplies", fn := fun _ => fun
  | [d1, d2, d3] => { results := [.lit (.bool false)], args := [d1, d2, d3] }
  | _ => none }
def CallRepliesWrongFalsely : Prop := callRepliesRow.holds Try.pinned (OpenSpec.ofChange callRepliesWrong)

/-- 'choirlaw6.CallSame': WHATEVER THE INPUT: true; the input reads as it did. -/
def callSameSpec : ChangeSpec := { name := "callSame", fn := fun _ => fun
  | [d1, d2, d3, d4] => { results := [.lit (.bool true)], args := [d1, d2, d3, d4] }
  | _ => none }
def callSameRow : OpenClaim := { program := "ytblakaddanoilaa", sum := "8361f25e973fabb7f7d9a1c593af1599d26ab4d3fa6034e880863ca5cdcad5f2", func := "choir/choirlaw6.CallSame", spec := "callSame", inPlace := ["math.Float64frombits", "math.Float64bits", "internal/bytealg.abigen_runtime_cmpstring"], unfollowed := true, recurses := true, loops := true, apart := false }
def CallSameSaid : Prop := callSameRow.holds Try.pinned (OpenSpec.ofChange callSameSpec)

/-- ITS FALSE NEIGHBOUR: 'it returns false'. Refute it at one input. -/
def callSameWrong : ChangeSpec := { name := "callSame", fn := fun _ => fun
  | [d1, d2, d3, d4] => { results := [.lit (.bool false)], args := [d1, d2, d3, d4] }
  | _ => none }
def CallSameWrongFalsely : Prop := callSameRow.holds Try.pinned (OpenSpec.ofChange callSameWrong)

/-- 'choirlaw6.CallLimits': WHATEVER THE INPUT: true; the input reads as it did. -/
def callLimitsSpec : ChangeSpec := { name := "callLimits", fn := fun _ => fun
  | [d1, d2, d3] => { results := [.lit (.bool true)], args := [d1, d2, d3] }
  | _ => none }
def callLimitsRow : OpenClaim := { program := "ytblakaddanoilaa", sum := "8361f25e973fabb7f7d9a1c593af1599d26ab4d3fa6034e880863ca5cdcad5f2", func := "choir/choirlaw6.CallLimits", spec := "callLimits", inPlace := ["math.Float64frombits", "math.Float64bits", "internal/bytealg.abigen_runtime_cmpstring"], unfollowed := true, recurses := true, apart := false }
def CallLimitsSaid : Prop := callLimitsRow.holds Try.pinned (OpenSpec.ofChange callLimitsSpec)

/-- ITS FALSE NEIGHBOUR: 'it returns false'. Refute it at one input. -/
def callLimitsWrong : ChangeSpec := { name := "callLimits", fn := fun _ => fun
  | [d1, d2, d3] => { results := [.lit (.bool false)], args := [d1, d2, d3] }
  | _ => none }
def CallLimitsWrongFalsely : Prop := callLimitsRow.holds Try.pinned (OpenSpec.ofChange callLimitsWrong)

/-- 'choirlaw6.CallBack': WHATEVER THE INPUT: true; the input reads as it did. -/
def callBackSpec : ChangeSpec := { name := "callBack", fn := fun _ => fun
  | [d1, d2, d3] => { results := [.lit (.bool true)], args := [d1, d2, d3] }
  | _ => none }
def callBackRow : OpenClaim := { program := "ytblakaddanoilaa", sum := "8361f25e973fabb7f7d9a1c593af1599d26ab4d3fa6034e880863ca5cdcad5f2", func := "choir/choirlaw6.CallBack", spec := "callBack", inPlace := ["math.Float64frombits", "math.Float64bits", "internal/bytealg.abigen_runtime_cmpstring"], unfollowed := true, recurses := true, loops := true, apart := false }
def CallBackSaid : Prop := callBackRow.holds Try.pinned (OpenSpec.ofChange callBackSpec)

/-- ITS FALSE NEIGHBOUR: 'it returns false'. Refute it at one input. -/
def callBackWrong : ChangeSpec := { name := "callBack", fn := fun _ => fun
  | [d1, d2, d3] => { results := [.lit (.bool false)], args := [d1, d2, d3] }
  | _ => none }
def CallBackWrongFalsely : Prop := callBackRow.holds Try.pinned (OpenSpec.ofChange callBackWrong)

/- THE SECOND FORM. 'bulk': how many values and letters a reading holds, each counted each time it is reached (what is shared counts as often as it is met; a slice's spare places count too). A statement '..UptoSaid' is the law's where the arguments, and the package variables that the reading takes, are together of bulk at most 1048576: NARROWER than '..Said'. Prove '..Said' where nothing that the law and all that it calls make is longer than what came in: it says more and counts as full. Else prove '..UptoSaid'. A law counts once. -/
mutual
def uptoBulk {H : Type} : DataW H → Nat
  | .lit (.string bytes) => bytes.length + 1
  | .lit _ => 1
  | .nil => 1
  | .ptr d => uptoBulk d + 1
  | .slice elems spare => uptoBulkAll elems + uptoBulkAll spare + 1
  | .agg parts => uptoBulkAll parts + 1
  | .iface _ d => uptoBulk d + 1
  | .map entries => uptoBulkEntries entries + 1
  | .held _ => 1
def uptoBulkAll {H : Type} : List (DataW H) → Nat
  | [] => 0
  | d :: r => uptoBulk d + uptoBulkAll r
def uptoBulkEntries {H : Type} : List (Lit × DataW H) → Nat
  | [] => 0
  | x :: r => uptoBulkEntry x + uptoBulkEntries r
def uptoBulkEntry {H : Type} : Lit × DataW H → Nat
  | (.string bytes, d) => bytes.length + uptoBulk d + 1
  | (_, d) => uptoBulk d + 1
 end
def uptoSmall : (H : Type) → List (DataW H) → Bool := fun _ ds => decide (uptoBulkAll ds ≤ 1048576)
def OpenSpec.upto (s : _root_.Go.ChangeSpec) : _root_.Go.OpenSpec := { _root_.Go.OpenSpec.ofChange s with cond := some uptoSmall }

/-- 'choirlaw6.CallReads', WHERE WHAT IT READS IS OF BULK AT MOST 1048576: true; the input reads as it did. -/
def callReadsUptoRow : OpenClaim := { program := "ytblakaddanoilaa", sum := "8361f25e973fabb7f7d9a1c593af1599d26ab4d3fa6034e880863ca5cdcad5f2", func := "choir/choirlaw6.CallReads", spec := "callReads", inPlace := ["math.Float64frombits", "math.Float64bits", "internal/bytealg.abigen_runtime_cmpstring"], unfollowed := true, recurses := true, loops := true, apart := false, narrowed := true }
def CallReadsUptoSaid : Prop := callReadsUptoRow.holds Try.pinned (OpenSpec.upto callReadsSpec)

/-- 'choirlaw6.CallReplies', WHERE WHAT IT READS IS OF BULK AT MOST 1048576: true; the input reads as it did. -/
def callRepliesUptoRow : OpenClaim := { program := "ytblakaddanoilaa", sum := "8361f25e973fabb7f7d9a1c593af1599d26ab4d3fa6034e880863ca5cdcad5f2", func := "choir/choirlaw6.CallReplies", spec := "callReplies", inPlace := ["math.Float64frombits", "math.Float64bits", "internal/bytealg.abigen_runtime_cmpstring"], unfollowed := true, recurses := true, loops := true, apart := false, narrowed := true }
def CallRepliesUptoSaid : Prop := callRepliesUptoRow.holds Try.pinned (OpenSpec.upto callRepliesSpec)

/-- 'choirlaw6.CallSame', WHERE WHAT IT READS IS OF BULK AT MOST 1048576: true; the input reads as it did. -/
def callSameUptoRow : OpenClaim := { program := "ytblakaddanoilaa", sum := "8361f25e973fabb7f7d9a1c593af1599d26ab4d3fa6034e880863ca5cdcad5f2", func := "choir/choirlaw6.CallSame", spec := "callSame", inPlace := ["math.Float64frombits", "math.Float64bits", "internal/bytealg.abigen_runtime_cmpstring"], unfollowed := true, recurses := true, loops := true, apart := false, narrowed := true }
def CallSameUptoSaid : Prop := callSameUptoRow.holds Try.pinned (OpenSpec.upto callSameSpec)

/-- 'choirlaw6.CallLimits', WHERE WHAT IT READS IS OF BULK AT MOST 1048576: true; the input reads as it did. -/
def callLimitsUptoRow : OpenClaim := { program := "ytblakaddanoilaa", sum := "8361f25e973fabb7f7d9a1c593af1599d26ab4d3fa6034e880863ca5cdcad5f2", func := "choir/choirlaw6.CallLimits", spec := "callLimits", inPlace := ["math.Float64frombits", "math.Float64bits", "internal/bytealg.abigen_runtime_cmpstring"], unfollowed := true, recurses := true, apart := false, narrowed := true }
def CallLimitsUptoSaid : Prop := callLimitsUptoRow.holds Try.pinned (OpenSpec.upto callLimitsSpec)

/-- 'choirlaw6.CallBack', WHERE WHAT IT READS IS OF BULK AT MOST 1048576: true; the input reads as it did. -/
def callBackUptoRow : OpenClaim := { program := "ytblakaddanoilaa", sum := "8361f25e973fabb7f7d9a1c593af1599d26ab4d3fa6034e880863ca5cdcad5f2", func := "choir/choirlaw6.CallBack", spec := "callBack", inPlace := ["math.Float64frombits", "math.Float64bits", "internal/bytealg.abigen_runtime_cmpstring"], unfollowed := true, recurses := true, loops := true, apart := false, narrowed := true }
def CallBackUptoSaid : Prop := callBackUptoRow.holds Try.pinned (OpenSpec.upto callBackSpec)

end Rows
end Go.Proofs.Ytblakaddanoilaa
