/- An id that comes as an argument, opened. -/
import Derived.Test.YtokcmnenfgbdoaaDoorRows
import Derived.Test.YtokcmnenfgbdoaaDoorFrame
import Derived.Deep.Strs
import Derived.WideShapes
namespace Go.Proofs.YtokcmnenfgbdoaaDoor
open Go.ChangeShapes Go.WideShapes Go.ChangeAt Go.RowKit
theorem wf_u32 {n : Int} (h : (Lit.int .u32 n).wf = true) : 0 ≤ n ∧ n ≤ 4294967295 := by
  simp [Lit.wf, IntKind.min, IntKind.max, IntKind.signed, IntKind.bits] at h
  omega
theorem wf_u16' {n : Int} (h : (Lit.int .u16 n).wf = true) : 0 ≤ n ∧ n ≤ 65535 := by
  simp [Lit.wf, IntKind.min, IntKind.max, IntKind.signed, IntKind.bits] at h
  omega
theorem open_id {H : Type} {enc : TypeId × Value → H} {W : World} {r : Reach} {base : Nat} {v : Value} {d : DataW H} {p : List MemPlace}
    (hval : Value.okWide Tryd.prog W r base 25 v) (h : DataW.Trod enc Tryd.prog W 0 (fun _ => true) true 25 v d p) :
    ∃ c s n : Int, v = .agg #[.int .u32 c, .int .u32 s, .int .u16 n] ∧ (0 ≤ c ∧ c ≤ 4294967295) ∧ (0 ≤ s ∧ s ≤ 4294967295) ∧ (0 ≤ n ∧ n ≤ 65535) := by
  obtain ⟨cs, rfl, hcs⟩ := okWide_struct Tryd.underlying25 hval
  obtain ⟨fuel, hf⟩ := h
  obtain ⟨y0, y1, y2, n, -, hl, t0, t1, t2⟩ := Go.Deep.trod_struct3 Tryd.underlying25 hf
  have c3 : Tryd.prog.cellsOf 25 = 3 := by kernel_rfl
  have k0 : Tryd.prog.cellsOf 22 = 1 := by kernel_rfl
  have k1 : Tryd.prog.cellsOf 23 = 1 := by kernel_rfl
  rw [c3] at hcs
  obtain ⟨l⟩ := cs
  match l, hcs with
  | [a, b, c], _ =>
    simp only [Value.cells, k0, k1, List.drop_zero, List.take_succ_cons, List.take_zero, List.drop_succ_cons] at t0 t1 t2
    obtain ⟨m0, e0, -, w0⟩ := DataW.trod_int Tryd.underlying22 t0
    obtain ⟨m1, e1, -, w1⟩ := DataW.trod_int Tryd.underlying22 t1
    obtain ⟨m2, e2, -, w2⟩ := DataW.trod_int Tryd.underlying23 t2
    simp at e0 e1 e2
    subst e0 e1 e2
    exact ⟨_, _, _, rfl, wf_u32 w0, wf_u32 w1, wf_u16' w2⟩
end Go.Proofs.YtokcmnenfgbdoaaDoor
