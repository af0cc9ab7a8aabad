/- The argument of WatchPlays, opened. -/
import Derived.Test.YteebefkojbdfjaaFrame
import Derived.Test.YteebefkojbdfjaaWatchLawP
namespace Go.Proofs.Yteebefkojbdfjaa
open Go.ChangeShapes Go.WideShapes Go.ChangeAt Go.RowKit
theorem wf_i16 {n : Int} (h : (Lit.int .i16 n).wf = true) : -32768 ≤ n ∧ n ≤ 32767 := by
  simp [Lit.wf, IntKind.min, IntKind.max, IntKind.signed, IntKind.bits] at h
  omega
theorem open_i16s {H : Type} {enc : TypeId × Value → H} {W : World} {r : Reach} {base : Nat} {v : Value} {d : DataW H} {p : List MemPlace}
    (hval : Value.okWide Try.prog W r base 22 v) (h : DataW.Trod enc Try.prog W 0 (fun _ => true) true 22 v d p) {ts : List TypeId} {ds : List (DataW H)} {j : Nat}
    (_ : (DataW.weightsEach Try.prog ts ds).all (· ≤ reachBytes) = true) (_ : ts[j]? = some 22) (_ : ds[j]? = some d) :
    ∃ (A : Option Addr) (cap : Nat) (zs : List Int), v = .slice A zs.length cap ∧ Reads W W.heap.size 1 A zs.length (nums .i16 zs) ∧ (∀ z ∈ zs, -32768 ≤ z ∧ z ≤ 32767) := by
  obtain ⟨A, cap, zs, rfl, hr, hw, _⟩ := open_nums Try.underlying22 Try.underlying30 (by kernel_rfl) hval h
  exact ⟨A, cap, zs, rfl, hr, fun z hz => wf_i16 (hw z hz)⟩
end Go.Proofs.Yteebefkojbdfjaa
