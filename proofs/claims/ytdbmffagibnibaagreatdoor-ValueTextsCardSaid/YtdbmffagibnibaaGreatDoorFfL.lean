/- Values: the laid tables out of the statement's condition. -/
import Derived.Test.YtdbmffagibnibaaGreatDoorFfK
import Derived.Test.YtdbmffagibnibaaGreatDoorRows
import Derived.Lib.LaidU8T
import Derived.Lib.LaidPrint
import Derived.Lib.LaidTab
import Derived.LaidLaws
set_option linter.unusedSimpArgs false
set_option linter.unusedVariables false
namespace Go.Proofs.YtdbmffagibnibaaGreatDoor
open Go.RowKit Go.Lib Go.ChangeShapes Go.WideShapes
set_option maxRecDepth 100000

theorem d_first : Rows.laid_unicode_utf8_first = Lib.firstData := by kernel_rfl
theorem d_accept : (Rows.laid_unicode_utf8_acceptRanges : DataW Unit) = Lib.acceptData := by kernel_rfl
theorem d_p16 : Rows.laid_strconv_isPrint16 = Lib.sliceData .u16 Lib.goPrintTabs.p16 := by kernel_rfl
theorem d_n16 : Rows.laid_strconv_isNotPrint16 = Lib.sliceData .u16 Lib.goPrintTabs.n16 := by kernel_rfl
theorem d_p32 : Rows.laid_strconv_isPrint32 = Lib.sliceData .u32 Lib.goPrintTabs.p32 := by kernel_rfl
theorem d_n32 : Rows.laid_strconv_isNotPrint32 = Lib.sliceData .u16 Lib.goPrintTabs.n32 := by kernel_rfl
theorem d_tens : (Rows.laid_internal_strconv_uint64pow10 : DataW Unit) = Lib.tabData .u64 Lib.pow10Tab := by kernel_rfl
theorem d_pow : Rows.laid_internal_strconv_pow10Tab = Go.Pinned.pow10Tab := rfl
theorem quoteW_of {W : World} (h : laidMet Tryz.prog Rows.valueFloatsRow.laid W) : QuoteW W := by
  have r0 : VarReads Tryz.prog W "unicode/utf8.first" Rows.laid_unicode_utf8_first := laidMet.reads h (.tail _ (.tail _ (.tail _ (.tail _ (.tail _ (.tail _ (.tail _ (.tail _ (.tail _ (.tail _ (.tail _ (.tail _ (.head _)))))))))))))
  have r1 : VarReads Tryz.prog W "unicode/utf8.acceptRanges" Rows.laid_unicode_utf8_acceptRanges := laidMet.reads h (.tail _ (.tail _ (.tail _ (.tail _ (.head _)))))
  have r2 : VarReads Tryz.prog W "strconv.isPrint16" Rows.laid_strconv_isPrint16 := laidMet.reads h (.tail _ (.tail _ (.tail _ (.tail _ (.tail _ (.tail _ (.tail _ (.tail _ (.tail _ (.tail _ (.head _)))))))))))
  have r3 : VarReads Tryz.prog W "strconv.isNotPrint16" Rows.laid_strconv_isNotPrint16 := laidMet.reads h (.tail _ (.tail _ (.tail _ (.tail _ (.tail _ (.tail _ (.tail _ (.tail _ (.head _)))))))))
  have r4 : VarReads Tryz.prog W "strconv.isPrint32" Rows.laid_strconv_isPrint32 := laidMet.reads h (.tail _ (.tail _ (.tail _ (.tail _ (.tail _ (.tail _ (.tail _ (.tail _ (.tail _ (.tail _ (.tail _ (.head _))))))))))))
  have r5 : VarReads Tryz.prog W "strconv.isNotPrint32" Rows.laid_strconv_isNotPrint32 := laidMet.reads h (.tail _ (.tail _ (.tail _ (.tail _ (.tail _ (.tail _ (.tail _ (.tail _ (.tail _ (.head _))))))))))
  rw [d_first] at r0
  rw [d_accept] at r1
  rw [d_p16] at r2
  rw [d_n16] at r3
  rw [d_p32] at r4
  rw [d_n32] at r5
  exact ⟨⟨Lib.goPrintTabs, printTabs_of_reads (ρ := Tryz.lays177_ren) { Tryz.lays177 with } ⟨by kernel_rfl, by kernel_rfl, by kernel_rfl, by kernel_rfl, by kernel_rfl, by kernel_rfl, by kernel_rfl, by kernel_rfl, by kernel_rfl, by kernel_rfl⟩ r2 r3 r4 r5⟩,
    utf8Tabs_of_reads (ρ := Tryz.lays177_ren) { Tryz.lays177 with } ⟨by kernel_rfl, by kernel_rfl, by kernel_rfl, by kernel_rfl, by kernel_rfl, by kernel_rfl, by kernel_rfl⟩ r0 r1⟩
def pe (i : Nat) : Nat × Nat := ((Go.Pinned.pow10Rows[i]?.map fun x => (x.1, x.2)).getD (0, 0))
theorem powAt_of {W : World} {i h l : Nat} (hr : VarReads Tryz.prog W "internal/strconv.pow10Tab" Go.Pinned.pow10Tab) (hi : i < 696) (hd : (Go.Pinned.pow10Rows.map fun x => (DataW.agg [.lit (.int .u64 x.1), .lit (.int .u64 x.2)] : DataW Unit))[i]? = some (.agg ([(h : Int), (l : Int)].map fun z => .lit (.int .u64 z)))) : PowAt W i h l := by
  obtain ⟨g, t, cs, fuel, p, hg, hty, hvar, hx⟩ := hr
  obtain rfl := Option.some.inj (hg.symm.trans (show Tryz.prog.globalNamed "internal/strconv.pow10Tab" = some 13 by kernel_rfl))
  obtain rfl := Option.some.inj (hty.symm.trans (show (Tryz.prog.globals[13]?).map (·.type) = some 156 by kernel_rfl))
  obtain ⟨fuel', d, q, hdi, he⟩ := array_elem Tryz.underlying156 hx i hi
  have hdd := Option.some.inj (hdi.symm.trans hd)
  subst hdd
  have c2 : Tryz.prog.cellsOf 155 = 2 := by kernel_rfl
  have c1 : Tryz.prog.cellsOf 32 = 1 := by kernel_rfl
  rw [c2] at he
  have hcs := ints_of_struct Tryz.underlying155 (fun j f hj => by
      match j, hj with
      | 0, hj => simp at hj; subst hj; exact ⟨Tryz.underlying32, rfl, c1⟩
      | 1, hj => simp at hj; subst hj; exact ⟨Tryz.underlying32, rfl, c1⟩
      | j + 2, hj => simp at hj) (by rw [c2]; rfl) he
  have e0 := congrArg (·[0]?) hcs
  have e1 := congrArg (·[1]?) hcs
  simp only [List.getElem?_take, List.getElem?_drop] at e0 e1
  constructor
  · rw [World.var?_cell hg hvar (i * 2), ← Array.getElem?_toList]
    simpa using e0
  · rw [World.var?_cell hg hvar (i * 2 + 1), ← Array.getElem?_toList]
    simpa using e1
theorem tabW_of {W : World} (h : laidMet Tryz.prog Rows.valueFloatsRow.laid W) : TabW W := by
  have r0 : VarReads Tryz.prog W "internal/strconv.pow10Tab" Go.Pinned.pow10Tab := laidMet.reads h (.tail _ (.tail _ (.tail _ (.tail _ (.tail _ (.tail _ (.head _)))))))
  have r1 : VarReads Tryz.prog W "internal/strconv.uint64pow10" Rows.laid_internal_strconv_uint64pow10 := laidMet.reads h (.tail _ (.tail _ (.tail _ (.head _))))
  rw [d_tens] at r1
  have p1 := powAt_of (i := 365) (h := 12800000000000000000) (l := 0) r0 (by omega) (by kernel_rfl)
  have p2 := powAt_of (i := 364) (h := 10240000000000000000) (l := 0) r0 (by omega) (by kernel_rfl)
  refine ⟨p1, p2, ?_, World.block_lt_of_cell? W _ p1.1⟩
  obtain ⟨g, t, cs, fuel, p, hg, hty, hvar, hx⟩ := r1
  unfold Lib.TabIs
  obtain rfl := Option.some.inj (hg.symm.trans g_tab)
  obtain rfl : t = 96 := Option.some.inj (hty.symm.trans (by kernel_rfl))
  rw [hvar, ← cells_of_tab Tryz.underlying96 Tryz.underlying32 (by kernel_rfl) (by kernel_rfl) hx]
theorem laidTables {W : World} (h : laidMetH Tryz.prog Rows.valueFloatsRow.laid W) : TabW W ∧ QuoteW W := by
  have h' : laidMet Tryz.prog Rows.valueFloatsRow.laid W := by unfold laidMetH at h; exact h
  exact ⟨tabW_of h', quoteW_of h'⟩
end Go.Proofs.YtdbmffagibnibaaGreatDoor
