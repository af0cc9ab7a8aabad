/- Floats' texts: value.float at 0.5 and 2.0. -/
import Derived.Test.YtdbmffagibnibaaGreatDoorFf6
set_option linter.unusedSimpArgs false
set_option linter.unusedVariables false
namespace Go.Proofs.YtdbmffagibnibaaGreatDoor
open Go.RowKit Go.Sort Go.Lib
set_option maxRecDepth 100000
theorem run_fbits (n : Nat) (w : World) : (callFunc 38 #[.float .f64 n]).run Tryz.prog w = .ok (.value (.int .u64 (n : Int))) w := by
  rw [run_callFunc_extern Tryz.func38 (by kernel_rfl) (by kernel_rfl) (by kernel_rfl) (e := Extern.MathFloatBits.float64bits) (by kernel_rfl)]
  rfl
theorem run_ffrom (n : Nat) (w : World) : (callFunc 51 #[.int .u64 (n : Int)]).run Tryz.prog w = .ok (.value (.float .f64 n)) w := by
  rw [run_callFunc_extern Tryz.func51 (by kernel_rfl) (by kernel_rfl) (by kernel_rfl) (e := Extern.MathFloatBits.float64frombits) (by kernel_rfl)]
  rfl
theorem abs_half (w : World) : Calls Tryz.prog 76 #[.float .f64 4602678819172646912] w (fun e w' => e = .returned (.float .f64 4602678819172646912) ∧ w' = w) := by
  have hbf : ∀ w, (callFunc 38 #[.float .f64 4602678819172646912]).run Tryz.prog w = .ok (.value (.int .u64 4602678819172646912)) w := fun w => run_fbits 4602678819172646912 w
  have hff : ∀ w, (callFunc 51 #[.int .u64 4602678819172646912]).run Tryz.prog w = .ok (.value (.float .f64 4602678819172646912)) w := fun w => run_ffrom 4602678819172646912 w
  have han : bits .andNot .u64 4602678819172646912 9223372036854775808 = 4602678819172646912 := by decide +kernel
  go_enter Tryz.func76, Tryz.ntmps76
  go_wp2_with fail
  go_ret
  exact ⟨rfl, rfl⟩
theorem inf_half (w : World) : Calls Tryz.prog 61 #[.float .f64 4602678819172646912, .int .i64 0] w (fun e w' => e = .returned (.bool false) ∧ w' = w) := by
  have ha := fun W => abs_half W
  replace ha := Lib.hid ha
  have ho : (FloatKind.f64.format.order 4602678819172646912 9218868437227405311 == some Ordering.gt) = false := by decide +kernel
  go_enter Tryz.func61, Tryz.ntmps61
  go_wp2_with fail
  refine (ha.out _).mono ?_
  rintro e w' ⟨rfl, rfl⟩
  dsimp only
  go_wp2_with fail
  go_ret
  exact ⟨rfl, rfl⟩
theorem nan_half (w : World) : Calls Tryz.prog 36 #[.float .f64 4602678819172646912] w (fun e w' => e = .returned (.bool false) ∧ w' = w) := by
  have ho : (FloatKind.f64.format.order 4602678819172646912 4602678819172646912 != some Ordering.eq) = false := by decide +kernel
  go_enter Tryz.func36, Tryz.ntmps36
  go_wp2_with fail
  go_ret
  exact ⟨rfl, rfl⟩
set_option maxHeartbeats 3200000 in
theorem float_half (w : World) (hL : TabW w) : Calls Tryz.prog 45 #[.float .f64 4602678819172646912] w (fun e w' => e = .returned (.string (bstr [48, 46, 53])) ∧ Below w.heap.size w w') := by
  have hp := pub_half w hL
  have h1 := fun W => inf_half W
  have h2 := fun W => nan_half W
  have h3 := fun W => Tryz.strings_Contains_one (bstr [48, 46, 53]) 46 W
  have h4 := fun W => Tryz.strings_Contains_one (bstr [48, 46, 53]) 101 W
  rw [show (decide (0 ≤ Lib.indexByte (bstr [48, 46, 53]).data.toList 46)) = true from by decide +kernel] at h3
  rw [show (decide (0 ≤ Lib.indexByte (bstr [48, 46, 53]).data.toList 101)) = false from by decide +kernel] at h4
  obtain ⟨s, hs⟩ : ∃ s, bstr [48, 46, 53] = s := ⟨_, rfl⟩
  rw [hs] at hp h3 h4
  have hadd : ∀ W, (Op.stringOp .add s ⟨#[46, 48]⟩).run Tryz.prog W = .ok (.string (bstr ([48, 46, 53] ++ [46, 48]))) W := fun W => by rw [← hs]; exact run_bstr_add W [48, 46, 53] [46, 48] (by decide)
  replace hs := Lib.hid hs
  replace hp := Lib.hid hp
  replace h1 := Lib.hid h1
  replace h2 := Lib.hid h2
  replace h3 := Lib.hid h3
  replace h4 := Lib.hid h4
  go_enter Tryz.func45, Tryz.ntmps45
  go_wp2_with fail
  refine hp.out.mono ?_
  clear hp
  rintro e w2 ⟨rfl, hb⟩
  dsimp only
  go_wp2_with fail
  refine (h1.out _).mono ?_
  rintro e w3 ⟨rfl, rfl⟩
  dsimp only
  go_wp2_with fail
  refine (h2.out _).mono ?_
  rintro e w4 ⟨rfl, rfl⟩
  dsimp only
  go_wp2_with fail
  refine (h3.out _).mono ?_
  rintro e w5 ⟨rfl, rfl⟩
  dsimp only
  go_wp2_with fail
  go_ret
  rw [← hs.out]
  exact ⟨rfl, hb⟩
theorem abs_two (w : World) : Calls Tryz.prog 76 #[.float .f64 4611686018427387904] w (fun e w' => e = .returned (.float .f64 4611686018427387904) ∧ w' = w) := by
  have hbf : ∀ w, (callFunc 38 #[.float .f64 4611686018427387904]).run Tryz.prog w = .ok (.value (.int .u64 4611686018427387904)) w := fun w => run_fbits 4611686018427387904 w
  have hff : ∀ w, (callFunc 51 #[.int .u64 4611686018427387904]).run Tryz.prog w = .ok (.value (.float .f64 4611686018427387904)) w := fun w => run_ffrom 4611686018427387904 w
  have han : bits .andNot .u64 4611686018427387904 9223372036854775808 = 4611686018427387904 := by decide +kernel
  go_enter Tryz.func76, Tryz.ntmps76
  go_wp2_with fail
  go_ret
  exact ⟨rfl, rfl⟩
theorem inf_two (w : World) : Calls Tryz.prog 61 #[.float .f64 4611686018427387904, .int .i64 0] w (fun e w' => e = .returned (.bool false) ∧ w' = w) := by
  have ha := fun W => abs_two W
  replace ha := Lib.hid ha
  have ho : (FloatKind.f64.format.order 4611686018427387904 9218868437227405311 == some Ordering.gt) = false := by decide +kernel
  go_enter Tryz.func61, Tryz.ntmps61
  go_wp2_with fail
  refine (ha.out _).mono ?_
  rintro e w' ⟨rfl, rfl⟩
  dsimp only
  go_wp2_with fail
  go_ret
  exact ⟨rfl, rfl⟩
theorem nan_two (w : World) : Calls Tryz.prog 36 #[.float .f64 4611686018427387904] w (fun e w' => e = .returned (.bool false) ∧ w' = w) := by
  have ho : (FloatKind.f64.format.order 4611686018427387904 4611686018427387904 != some Ordering.eq) = false := by decide +kernel
  go_enter Tryz.func36, Tryz.ntmps36
  go_wp2_with fail
  go_ret
  exact ⟨rfl, rfl⟩
set_option maxHeartbeats 3200000 in
theorem float_two (w : World) (hL : TabW w) : Calls Tryz.prog 45 #[.float .f64 4611686018427387904] w (fun e w' => e = .returned (.string (bstr [50, 46, 48])) ∧ Below w.heap.size w w') := by
  have hp := pub_two w hL
  have h1 := fun W => inf_two W
  have h2 := fun W => nan_two W
  have h3 := fun W => Tryz.strings_Contains_one (bstr [50]) 46 W
  have h4 := fun W => Tryz.strings_Contains_one (bstr [50]) 101 W
  rw [show (decide (0 ≤ Lib.indexByte (bstr [50]).data.toList 46)) = false from by decide +kernel] at h3
  rw [show (decide (0 ≤ Lib.indexByte (bstr [50]).data.toList 101)) = false from by decide +kernel] at h4
  obtain ⟨s, hs⟩ : ∃ s, bstr [50] = s := ⟨_, rfl⟩
  rw [hs] at hp h3 h4
  have hadd : ∀ W, (Op.stringOp .add s ⟨#[46, 48]⟩).run Tryz.prog W = .ok (.string (bstr ([50] ++ [46, 48]))) W := fun W => by rw [← hs]; exact run_bstr_add W [50] [46, 48] (by decide)
  replace hs := Lib.hid hs
  replace hp := Lib.hid hp
  replace h1 := Lib.hid h1
  replace h2 := Lib.hid h2
  replace h3 := Lib.hid h3
  replace h4 := Lib.hid h4
  go_enter Tryz.func45, Tryz.ntmps45
  go_wp2_with fail
  refine hp.out.mono ?_
  clear hp
  rintro e w2 ⟨rfl, hb⟩
  dsimp only
  go_wp2_with fail
  refine (h1.out _).mono ?_
  rintro e w3 ⟨rfl, rfl⟩
  dsimp only
  go_wp2_with fail
  refine (h2.out _).mono ?_
  rintro e w4 ⟨rfl, rfl⟩
  dsimp only
  go_wp2_with fail
  refine (h3.out _).mono ?_
  rintro e w5 ⟨rfl, rfl⟩
  dsimp only
  go_wp2_with fail
  refine (h4.out _).mono ?_
  rintro e w6 ⟨rfl, rfl⟩
  dsimp only
  go_wp2_with fail
  go_ret
  skip
  exact ⟨rfl, hb⟩
end Go.Proofs.YtdbmffagibnibaaGreatDoor
