/- ValueTexts: its tables out of the statement's condition. -/
import Derived.Test.YtdbmffagibnibaaGreatDoorVT
import Derived.Test.YtdbmffagibnibaaGreatDoorFfL
import Derived.Test.YtdbmffagibnibaaGreatDoorValArg
set_option linter.unusedSimpArgs false
set_option linter.unusedVariables false
namespace Go.Proofs.YtdbmffagibnibaaGreatDoor
open Go.RowKit Go.Lib Go.ChangeShapes Go.WideShapes Go.ChangeAt
set_option maxRecDepth 100000
section
variable {H : Type} {enc : TypeId × Value → H} {W : World}
theorem okWide_flt {P : Program} {w : World} {r : Reach} {base : Nat} {t : TypeId} {v : Value} {k : FloatKind} (ht : P.underlying t = some (.float k)) (h : Value.okWide P w r base t v) : ∃ n, v = .float k n := by
  simp only [Value.okWide, ht, Cell.okWide] at h
  cases v <;> simp_all [Cell.ok]
theorem open_flt {r : Reach} {b0 : Nat} {t : TypeId} {v : Value} {d : DataW H} {p : List MemPlace} (ht : Tryz.prog.underlying t = some (.float .f64)) (hval : Value.okWide Tryz.prog W r b0 t v) (h : DataW.Trod enc Tryz.prog W 0 (fun _ => true) true t v d p) : ∃ n, v = .float .f64 n ∧ n < 18446744073709551616 := by
  obtain ⟨n, rfl⟩ := okWide_flt ht hval
  obtain ⟨fuel, hf⟩ := h
  obtain ⟨m, hm, w2⟩ := trod_flt ht hf
  simp [Value.cells] at hm
  subst hm
  refine ⟨n, rfl, ?_⟩
  simp [Lit.wf] at w2
  omega
end
theorem rows_len : Go.Pinned.pow10Rows.length = 696 := by decide +kernel
theorem tabA_of {W : World} (h : laidMetH Tryz.prog Rows.valueFloatsRow.laid W) : TabA W := by
  have h' : laidMet Tryz.prog Rows.valueFloatsRow.laid W := by unfold laidMetH at h; exact h
  have r0 : VarReads Tryz.prog W "internal/strconv.pow10Tab" Go.Pinned.pow10Tab := laidMet.reads h' (.tail _ (.tail _ (.tail _ (.tail _ (.tail _ (.tail _ (.head _)))))))
  refine ⟨⟨(laidTables h).1.more, fun i hi => powAt_of r0 hi ?_⟩, (laidTables h).1.tens⟩
  rw [List.getElem?_map]
  unfold pe
  rw [List.getElem?_eq_getElem (by rw [rows_len]; exact hi)]
  rfl
theorem valueTexts_int (n : Int) (f : Nat) (W : World) (hL : laidMetH Tryz.prog Rows.valueTextsRow.laid W) (h0 : -9223372036854775808 ≤ n) (h1 : n ≤ 9223372036854775807) (hf : f < 18446744073709551616) :
    Calls Tryz.prog 7 #[.int .i64 n, .float .f64 f] W (fun e w' => e = .returned (.bool true) ∧ Below W.heap.size W w') :=
  valueTexts_walk n f h0 h1 hf W (tabA_of hL) (known_true W (laidTables hL).1 (laidTables hL).2)
end Go.Proofs.YtdbmffagibnibaaGreatDoor
