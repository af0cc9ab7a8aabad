/- RefReads: its numbers out of the statement's. -/
import Derived.Test.YtdnoafjaheofcaaDoorRf20
import Derived.Test.YtdnoafjaheofcaaDoorRfL
set_option linter.unusedSimpArgs false
set_option linter.unusedVariables false
namespace Go.Proofs.YtdnoafjaheofcaaDoor
open Go.RowKit Go.Lib Go.ChangeShapes Go.WideShapes Go.ChangeAt
set_option maxRecDepth 100000
theorem of_u8 {n : Int} (h : (Lit.int .u8 n).wf = true) : 0 ≤ n ∧ n ≤ 255 := by
  simp [Lit.wf, IntKind.min, IntKind.max, IntKind.signed, IntKind.bits] at h
  omega
theorem nat_le {x M : Int} (h : 0 ≤ x ∧ x ≤ M) : ∃ n : Nat, x = (n : Int) ∧ (n : Int) ≤ M := ⟨x.toNat, by omega, by omega⟩
theorem refReads_int (a : Option Addr) (cap : Nat) (bs s l : List UInt8) (x3 x4 x5 x6 : Int) (W : World) (hSh : W.ShapedOpen Tryd.prog) (hL : laidMetH Tryd.prog Rows.refReadsRow.laid W) (r0 : Reads W W.heap.size 1 a bs.length (bys bs)) (l0 : bs.length ≤ cap) (b0 : cap ≤ 140737488351232) (b1 : s.length ≤ 140737488351232) (b2 : l.length ≤ 140737488351232) (w3 : (Lit.int .u32 x3).wf = true) (w4 : (Lit.int .u16 x4).wf = true) (w5 : (Lit.int .u16 x5).wf = true) (w6 : (Lit.int .u8 x6).wf = true) :
    Calls Tryd.prog 4 #[.slice a bs.length cap, .string (bstr s), .string (bstr l), .int .u32 x3, .int .u16 x4, .int .u16 x5, .int .u8 x6] W (fun e w' => e = .returned (.bool true) ∧ Below W.heap.size W w') := by
  obtain ⟨vm, rfl, hvm⟩ := nat_of_u32 w3
  obtain ⟨hm0, hm1⟩ := of_u16 w4
  obtain ⟨k, rfl, hk⟩ := nat_le (of_u16 w5)
  obtain ⟨x, rfl, hx⟩ := nat_le (of_u8 w6)
  exact refReads_walk bs a cap s l vm x4 k x W (laidW_ofH hSh hL) r0 l0 (by omega) b1 b2 hvm hm0 hm1 (by omega) (by omega)
end Go.Proofs.YtdnoafjaheofcaaDoor
