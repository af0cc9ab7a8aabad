/- IdBack: numbers read from any text. -/
import Derived.Test.YtokcmnenfgbdoaaDoorIb1
set_option linter.unusedSimpArgs false
set_option linter.unusedVariables false
namespace Go.Proofs.YtokcmnenfgbdoaaDoor
open Go.RowKit Go.Sort Go.Lib
set_option maxRecDepth 100000

/-- What opid.number answers: the number, where there is one of B bits. -/
def NumRes (B : Nat) (l : List UInt8) (w : World) (e : Ending) (w' : World) : Prop :=
  ∃ (u : Nat) (b : Bool), e = .returned (.tuple #[.int .u64 (u : Int), .bool b]) ∧ u ≤ 2 ^ B - 1 ∧ (b = true → Lib.parseUintB B l = .ok u) ∧ (b = false → ∀ v, Lib.parseUintB B l ≠ .ok v) ∧ Below w.heap.size w w'
theorem number_any32 (s : ByteArray) (hs : s.size ≤ 140737488351232) (w : World) (hL : LaidW w) :
    Calls Tryd.prog 14 #[.string s, .int .i64 32] w (NumRes 32 s.data.toList w) := by
  cases h : Lib.parseUintB 32 s.data.toList with
  | ok u =>
    refine (number_ok32 s hs u h w).mono ?_
    rintro e w' ⟨rfl, hb⟩
    exact ⟨u, true, rfl, Lib.parseUintB_le h, fun _ => h, fun h => (by cases h), hb⟩
  | «syntax» =>
    obtain ⟨tp, p, hv⟩ := hL.syn
    have hc := Tryd.strconv_ParseUint_10_at32_syntax_var s (by omega) h tp p w hv
    replace hc := Lib.hid hc
    go_enter Tryd.func14, Tryd.ntmps14
    go_wp2_with fail
    refine hc.out.mono ?_
    rintro e w' ⟨N, rfl, -, -, hb⟩
    dsimp only
    go_wp2_with fail
    go_quiet (fail)
    go_wp2_with fail
    go_ret2
    exact ⟨0, false, rfl, by omega, fun h => (by cases h), fun _ v hv => (by rw [h] at hv; cases hv), below_drewN hb _⟩
  | range =>
    obtain ⟨tp, p, hv⟩ := hL.rng
    have hc := Tryd.strconv_ParseUint_10_at32_range_var s (by omega) h tp p w hv
    replace hc := Lib.hid hc
    go_enter Tryd.func14, Tryd.ntmps14
    go_wp2_with fail
    refine hc.out.mono ?_
    rintro e w' ⟨N, rfl, -, -, hb⟩
    dsimp only
    go_wp2_with fail
    go_quiet (fail)
    go_wp2_with fail
    go_ret2
    exact ⟨4294967295, false, rfl, by omega, fun h => (by cases h), fun _ v hv => (by rw [h] at hv; cases hv), below_drewN hb _⟩
theorem number_any16 (s : ByteArray) (hs : s.size ≤ 140737488351232) (w : World) (hL : LaidW w) :
    Calls Tryd.prog 14 #[.string s, .int .i64 16] w (NumRes 16 s.data.toList w) := by
  cases h : Lib.parseUintB 16 s.data.toList with
  | ok u =>
    refine (number_ok16 s hs u h w).mono ?_
    rintro e w' ⟨rfl, hb⟩
    exact ⟨u, true, rfl, Lib.parseUintB_le h, fun _ => h, fun h => (by cases h), hb⟩
  | «syntax» =>
    obtain ⟨tp, p, hv⟩ := hL.syn
    have hc := Tryd.strconv_ParseUint_10_at16_syntax_var s (by omega) h tp p w hv
    replace hc := Lib.hid hc
    go_enter Tryd.func14, Tryd.ntmps14
    go_wp2_with fail
    refine hc.out.mono ?_
    rintro e w' ⟨N, rfl, -, -, hb⟩
    dsimp only
    go_wp2_with fail
    go_quiet (fail)
    go_wp2_with fail
    go_ret2
    exact ⟨0, false, rfl, by omega, fun h => (by cases h), fun _ v hv => (by rw [h] at hv; cases hv), below_drewN hb _⟩
  | range =>
    obtain ⟨tp, p, hv⟩ := hL.rng
    have hc := Tryd.strconv_ParseUint_10_at16_range_var s (by omega) h tp p w hv
    replace hc := Lib.hid hc
    go_enter Tryd.func14, Tryd.ntmps14
    go_wp2_with fail
    refine hc.out.mono ?_
    rintro e w' ⟨N, rfl, -, -, hb⟩
    dsimp only
    go_wp2_with fail
    go_quiet (fail)
    go_wp2_with fail
    go_ret2
    exact ⟨65535, false, rfl, by omega, fun h => (by cases h), fun _ v hv => (by rw [h] at hv; cases hv), below_drewN hb _⟩
end Go.Proofs.YtokcmnenfgbdoaaDoor
