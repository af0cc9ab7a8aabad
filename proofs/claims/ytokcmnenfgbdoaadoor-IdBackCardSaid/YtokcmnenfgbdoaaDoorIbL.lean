/- IdBack: the laid variables out of the statement's condition. -/
import Derived.Test.YtokcmnenfgbdoaaDoorIdBack
import Derived.Lib.LaidTab
import Derived.LaidLaws
set_option linter.unusedSimpArgs false
set_option linter.unusedVariables false
namespace Go.Proofs.YtokcmnenfgbdoaaDoor
open Go.RowKit Go.Lib Go.ChangeShapes Go.WideShapes

theorem laid_tab_eq : (Rows.laid_internal_strconv_uint64pow10 : DataW Unit) = Lib.tabData .u64 Lib.pow10Tab := by rfl
theorem laidW_of {W : World} (h : laidMet Tryd.prog Rows.idBackRow.laid W) : LaidW W := by
  obtain ⟨ps, hv, -⟩ := h
  obtain ⟨g1, t1, cs1, f1, p1, q1, hg1, ht1, hv1, hd1, r1, -⟩ := hv
  obtain ⟨g2, t2, cs2, f2, p2, q2, hg2, ht2, hv2, hd2, r2, -⟩ := r1
  obtain ⟨g3, t3, cs3, f3, p3, q3, hg3, ht3, hv3, hd3, r3, -⟩ := r2
  obtain ⟨g4, t4, cs4, f4, p4, q4, hg4, ht4, hv4, hd4, r4, -⟩ := r3
  obtain ⟨g5, t5, cs5, f5, p5, q5, hg5, ht5, hv5, hd5, r5, -⟩ := r4
  refine ⟨?_, ?_, ?_⟩
  · unfold Lib.TabIs
    have eg : g3 = 1 := Option.some.inj (hg3.symm.trans g_tab)
    subst eg
    obtain rfl : t3 = 73 := Option.some.inj (ht3.symm.trans (by kernel_rfl))
    rw [laid_tab_eq] at hd3
    rw [hv3, ← cells_of_tab Tryd.underlying73 Tryd.underlying37 (by kernel_rfl) (by kernel_rfl) hd3]
  · obtain rfl : g5 = 2 := Option.some.inj (hg5.symm.trans g_syn)
    obtain rfl : t5 = 49 := Option.some.inj (ht5.symm.trans (by kernel_rfl))
    obtain ⟨-, u, v, hcs, -⟩ := iface_of_trod Tryd.underlying49 hd5
    refine ⟨u, v, ?_⟩
    rw [hv5]
    have : cs5 = #[.iface u v] := Array.toList_inj.1 hcs
    rw [this]
  · obtain rfl : g4 = 3 := Option.some.inj (hg4.symm.trans g_rng)
    obtain rfl : t4 = 49 := Option.some.inj (ht4.symm.trans (by kernel_rfl))
    obtain ⟨-, u, v, hcs, -⟩ := iface_of_trod Tryd.underlying49 hd4
    refine ⟨u, v, ?_⟩
    rw [hv4]
    have : cs4 = #[.iface u v] := Array.toList_inj.1 hcs
    rw [this]
theorem laidW_ofH {W : World} (h : laidMetH Tryd.prog Rows.idBackRow.laid W) : LaidW W := laidW_of (by unfold laidMetH at h; exact h)
theorem u8_of {x : Int} (h : (Lit.int .u8 x).wf = true) : ∃ n : Nat, x = (n : Int) ∧ n ≤ 255 := by
  simp [Lit.wf, IntKind.min, IntKind.max, IntKind.signed, IntKind.bits] at h
  exact ⟨x.toNat, by omega, by omega⟩
theorem nat_of {x M : Int} (h : 0 ≤ x ∧ x ≤ M) : ∃ n : Nat, x = (n : Int) ∧ (n : Int) ≤ M := ⟨x.toNat, by omega, by omega⟩
theorem idBack_int (c q n : Int) (l : List UInt8) (a v : Int) (W : World) (hL : laidMetH Tryd.prog Rows.idBackRow.laid W) (wc : 0 ≤ c ∧ c ≤ 4294967295) (wq : 0 ≤ q ∧ q ≤ 4294967295) (wn : 0 ≤ n ∧ n ≤ 65535) (hl : l.length ≤ 140737488351232) (wa : (Lit.int .u8 a).wf = true) (wv : (Lit.int .u8 v).wf = true) :
    Calls Tryd.prog 3 #[.agg #[.int .u32 c, .int .u32 q, .int .u16 n], .string (bstr l), .int .u8 a, .int .u8 v] W (fun e w' => e = .returned (.bool true) ∧ Below W.heap.size W w') := by
  obtain ⟨c, rfl, hc⟩ := nat_of wc
  obtain ⟨q, rfl, hq⟩ := nat_of wq
  obtain ⟨n, rfl, hn⟩ := nat_of wn
  obtain ⟨a, rfl, ha⟩ := u8_of wa
  obtain ⟨v, rfl, hv⟩ := u8_of wv
  exact idBack_walk c q n l a v W (laidW_ofH hL) (by omega) (by omega) (by omega) ha hv hl
end Go.Proofs.YtokcmnenfgbdoaaDoor
