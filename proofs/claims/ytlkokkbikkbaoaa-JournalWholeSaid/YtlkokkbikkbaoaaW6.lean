/- Arguments opened. -/
import Derived.Test.YtlkokkbikkbaoaaW5
import Derived.Test.YtlkokkbikkbaoaaRows
import Derived.Test.YtlkokkbikkbaoaaB1
set_option linter.unusedSimpArgs false
set_option linter.unusedVariables false
set_option linter.unusedSimpArgs false
set_option linter.unusedVariables false
namespace Go.Proofs.Ytlkokkbikkbaoaa
set_option maxRecDepth 100000
open Go.ChangeShapes Go.WideShapes Go.ChangeAt Go.RowKit
section
variable {H : Type} {enc : TypeId × Value → H} {W : World}

theorem trod_flt {P : Program} {t : TypeId} {k : FloatKind} {b0 : Nat} {sp : Nat → Bool} {hd : Bool} {fuel : Nat} {cs : List Value} {x : DataW H × List MemPlace} (ht : P.underlying t = some (.float k)) (h : DataW.trod enc P W b0 sp hd fuel t cs = some x) : ∃ n, cs = [.float k n] ∧ (Lit.float k n).wf = true := by
  cases fuel with
  | zero => simp [DataW.trod] at h
  | succ n =>
    unfold DataW.trod at h
    rw [ht] at h
    split at h <;> simp_all

end
end Go.Proofs.Ytlkokkbikkbaoaa
namespace Go.Proofs.Ytlkokkbikkbaoaa
set_option maxRecDepth 100000
open Go.ChangeShapes Go.WideShapes Go.ChangeAt Go.RowKit
end Go.Proofs.Ytlkokkbikkbaoaa
namespace Go.Proofs.Ytlkokkbikkbaoaa
set_option maxRecDepth 100000
open Go.RowKit
open Go.ChangeShapes Go.WideShapes Go.ChangeAt
/-- What a reading tells, found or not, in one. -/
theorem RdRes.one (o : Option (Val × Nat)) : ∃ (V : Val) (Z X : Int), ∀ w e w', RdRes w o e w' → ∃ cs, e = .returned (.tuple #[.agg cs, .int .i64 Z, .int .i64 X]) ∧ VOwn w' (fun g => w.heap.size ≤ g) V cs ∧ Below w.heap.size w w' := by
  cases o with
  | none => exact ⟨.mk 0 0 0 [] [], 0, 20, fun w e w' h => ⟨_, h.1, VOwn.flat _ _ 0 0 0 [], h.2⟩⟩
  | some x => exact ⟨x.1, x.2, 0, fun w e w' h => h⟩
end Go.Proofs.Ytlkokkbikkbaoaa
