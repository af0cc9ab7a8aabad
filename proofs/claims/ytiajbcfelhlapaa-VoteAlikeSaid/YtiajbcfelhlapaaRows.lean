/-
  NARROWER THAN 'FOR EVERY INPUT', by the rows' own cells (each row's printed sentence says how): VoteAlike: loops.
  DERIVED. THE GIVEN ROWS OF THIS SEAT. 3 by the template 'for every input the law returns true; each argument reads behind the call as it read before'; 0 by the template 'total and deterministic' (their statements: YtiajbcfelhlapaaTotals.lean).
  GIVEN WITH THE SEED: the statements are not yours to turn. If you find one false, say at which input.
  Laid BY PROGRAM, IN A SANDBOX (cutbox-rows.mjs): the forced cells as the released guide's own fill.sh prints them over the translation 75290ea5f0a40400… (all of the seat's roots in one cut). By AI agents, Wed Nov 11 2026. No macro, syntax, notation, axiom, sorry.
-/
import Derived.Test.YtiajbcfelhlapaaChecked
import GoSem.Claim
import GoSem.ClaimJoined
import GoSem.ClaimMapViews
import Derived.JoinedTies
import Derived.KernelRfl
namespace Go.Proofs.Ytiajbcfelhlapaa
/- THE CELL 'sum', in the pinned program and in every row, IS THE sha256 OF THE DUMP (.gsa) THAT YtiajbcfelhlapaaProg.lean LOADS. Nothing in Lean hashes anything: it is a label: what it is worth is what the hold of that sum in a sandbox is worth. -/
noncomputable def Try.pinned : Pinned := { name := "ytiajbcfelhlapaa", sum := "75290ea5f0a404008f65d817883967b93ba17475be7b347fd8471e2f32376e18", checked := Try.checked }
namespace Rows
def none {H : Type} : Left H := { results := [], args := [] }

/-- 'choirlaw27.VoteAlike': WHATEVER THE INPUT: true; the input reads as it did. -/
def voteAlikeSpec : ChangeSpec := { name := "voteAlike", fn := fun _ => fun
  | [d1, d2, d3, d4, d5] => { results := [.lit (.bool true)], args := [d1, d2, d3, d4, d5] }
  | _ => none }
def voteAlikeRow : OpenClaim := { program := "ytiajbcfelhlapaa", sum := "75290ea5f0a404008f65d817883967b93ba17475be7b347fd8471e2f32376e18", func := "choir/choirlaw27.VoteAlike", spec := "voteAlike", inPlace := ["math.Float64frombits", "math.Float64bits", "internal/bytealg.abigen_runtime_cmpstring"], unfollowed := true, recurses := true, loops := true, apart := false }
def VoteAlikeSaid : Prop := voteAlikeRow.holds Try.pinned (OpenSpec.ofChange voteAlikeSpec)

/-- ITS FALSE NEIGHBOUR: 'it returns false'. Refute it at one input. -/
def voteAlikeWrong : ChangeSpec := { name := "voteAlike", fn := fun _ => fun
  | [d1, d2, d3, d4, d5] => { results := [.lit (.bool false)], args := [d1, d2, d3, d4, d5] }
  | _ => none }
def VoteAlikeWrongFalsely : Prop := voteAlikeRow.holds Try.pinned (OpenSpec.ofChange voteAlikeWrong)

/-- 'choirlaw27.VoteStays': WHATEVER THE INPUT: true; the input reads as it did. -/
def voteStaysSpec : ChangeSpec := { name := "voteStays", fn := fun _ => fun
  | [d1, d2, d3] => { results := [.lit (.bool true)], args := [d1, d2, d3] }
  | _ => none }
def voteStaysRow : OpenClaim := { program := "ytiajbcfelhlapaa", sum := "75290ea5f0a404008f65d817883967b93ba17475be7b347fd8471e2f32376e18", func := "choir/choirlaw27.VoteStays", spec := "voteStays", inPlace := ["math.Float64frombits", "math.Float64bits", "internal/bytealg.abigen_runtime_cmpstring"], unfollowed := true, recurses := true, apart := false }
def VoteStaysSaid : Prop := voteStaysRow.holds Try.pinned (OpenSpec.ofChange voteStaysSpec)

/-- ITS FALSE NEIGHBOUR: 'it returns false'. Refute it at one input. -/
def voteStaysWrong : ChangeSpec := { name := "voteStays", fn := fun _ => fun
  | [d1, d2, d3] => { results := [.lit (.bool false)], args := [d1, d2, d3] }
  | _ => none }
def VoteStaysWrongFalsely : Prop := voteStaysRow.holds Try.pinned (OpenSpec.ofChange voteStaysWrong)

/-- 'choirlaw27.VoteMajority': WHATEVER THE INPUT: true; the input reads as it did. -/
def voteMajoritySpec : ChangeSpec := { name := "voteMajority", fn := fun _ => fun
  | [d1, d2, d3] => { results := [.lit (.bool true)], args := [d1, d2, d3] }
  | _ => none }
def voteMajorityRow : OpenClaim := { program := "ytiajbcfelhlapaa", sum := "75290ea5f0a404008f65d817883967b93ba17475be7b347fd8471e2f32376e18", func := "choir/choirlaw27.VoteMajority", spec := "voteMajority", inPlace := ["math.Float64frombits", "math.Float64bits", "internal/bytealg.abigen_runtime_cmpstring"], unfollowed := true, recurses := true, apart := false }
def VoteMajoritySaid : Prop := voteMajorityRow.holds Try.pinned (OpenSpec.ofChange voteMajoritySpec)

/-- ITS FALSE NEIGHBOUR: 'it returns false'. Refute it at one input. -/
def voteMajorityWrong : ChangeSpec := { name := "voteMajority", fn := fun _ => fun
  | [d1, d2, d3] => { results := [.lit (.bool false)], args := [d1, d2, d3] }
  | _ => none }
def VoteMajorityWrongFalsely : Prop := voteMajorityRow.holds Try.pinned (OpenSpec.ofChange voteMajorityWrong)

/- THE SECOND FORM. 'bulk': how many values and letters a reading holds, each counted each time it is reached (what is shared counts as often as it is met; a slice's spare places count too). A statement '..UptoSaid' is the law's where the arguments, and the package variables that the reading takes, are together of bulk at most 1048576: NARROWER than '..Said'. Prove '..Said' where nothing that the law and all that it calls make is longer than what came in: it says more and counts as full. Else prove '..UptoSaid'. A law counts once. -/
mutual
def uptoBulk {H : Type} : DataW H → Nat
  | .lit (.string bytes) => bytes.length + 1
  | .lit _ => 1
  | .nil => 1
  | .ptr d => uptoBulk d + 1
  | .slice elems spare => uptoBulkAll elems + uptoBulkAll spare + 1
  | .agg parts => uptoBulkAll parts + 1
  | .iface _ d => uptoBulk d + 1
  | .map entries => uptoBulkEntries entries + 1
  | .held _ => 1
def uptoBulkAll {H : Type} : List (DataW H) → Nat
  | [] => 0
  | d :: r => uptoBulk d + uptoBulkAll r
def uptoBulkEntries {H : Type} : List (Lit × DataW H) → Nat
  | [] => 0
  | x :: r => uptoBulkEntry x + uptoBulkEntries r
def uptoBulkEntry {H : Type} : Lit × DataW H → Nat
  | (.string bytes, d) => bytes.length + uptoBulk d + 1
  | (_, d) => uptoBulk d + 1
 end
def uptoSmall : (H : Type) → List (DataW H) → Bool := fun _ ds => decide (uptoBulkAll ds ≤ 1048576)
def OpenSpec.upto (s : _root_.Go.ChangeSpec) : _root_.Go.OpenSpec := { _root_.Go.OpenSpec.ofChange s with cond := some uptoSmall }

/-- 'choirlaw27.VoteAlike', WHERE WHAT IT READS IS OF BULK AT MOST 1048576: true; the input reads as it did. -/
def voteAlikeUptoRow : OpenClaim := { program := "ytiajbcfelhlapaa", sum := "75290ea5f0a404008f65d817883967b93ba17475be7b347fd8471e2f32376e18", func := "choir/choirlaw27.VoteAlike", spec := "voteAlike", inPlace := ["math.Float64frombits", "math.Float64bits", "internal/bytealg.abigen_runtime_cmpstring"], unfollowed := true, recurses := true, loops := true, apart := false, narrowed := true }
def VoteAlikeUptoSaid : Prop := voteAlikeUptoRow.holds Try.pinned (OpenSpec.upto voteAlikeSpec)

/-- 'choirlaw27.VoteStays', WHERE WHAT IT READS IS OF BULK AT MOST 1048576: true; the input reads as it did. -/
def voteStaysUptoRow : OpenClaim := { program := "ytiajbcfelhlapaa", sum := "75290ea5f0a404008f65d817883967b93ba17475be7b347fd8471e2f32376e18", func := "choir/choirlaw27.VoteStays", spec := "voteStays", inPlace := ["math.Float64frombits", "math.Float64bits", "internal/bytealg.abigen_runtime_cmpstring"], unfollowed := true, recurses := true, apart := false, narrowed := true }
def VoteStaysUptoSaid : Prop := voteStaysUptoRow.holds Try.pinned (OpenSpec.upto voteStaysSpec)

/-- 'choirlaw27.VoteMajority', WHERE WHAT IT READS IS OF BULK AT MOST 1048576: true; the input reads as it did. -/
def voteMajorityUptoRow : OpenClaim := { program := "ytiajbcfelhlapaa", sum := "75290ea5f0a404008f65d817883967b93ba17475be7b347fd8471e2f32376e18", func := "choir/choirlaw27.VoteMajority", spec := "voteMajority", inPlace := ["math.Float64frombits", "math.Float64bits", "internal/bytealg.abigen_runtime_cmpstring"], unfollowed := true, recurses := true, apart := false, narrowed := true }
def VoteMajorityUptoSaid : Prop := voteMajorityUptoRow.holds Try.pinned (OpenSpec.upto voteMajoritySpec)

end Rows
end Go.Proofs.Ytiajbcfelhlapaa
