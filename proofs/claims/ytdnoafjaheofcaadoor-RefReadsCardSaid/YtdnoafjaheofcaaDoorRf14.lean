/- References: numbers read from any text. -/
import Derived.Test.YtdnoafjaheofcaaDoorRf13
set_option linter.unusedSimpArgs false
set_option linter.unusedVariables false
namespace Go.Proofs.YtdnoafjaheofcaaDoor
open Go.RowKit Go.Sort Go.Lib
set_option maxRecDepth 100000

theorem bstr_dl (l : List UInt8) : (bstr l).data.toList = l := by simp [bstr]
def PuRes (l : List UInt8) (w : World) (e : Ending) (w' : World) : Prop :=
  ∃ (u : Nat) (ev : Value), e = .returned (.tuple #[.int .u64 (u : Int), ev]) ∧ u ≤ 4294967295 ∧ (∀ v, v ≤ 4294967295 → l = Lib.decDigits v → u = v) ∧ RowKit.Below w.heap.size w w'
theorem pu32_any (l : List UInt8) (hl : l.length ≤ 1000000) (w : World) (hL : LaidW w) : Calls Tryd.prog 34 #[.string (bstr l), .int .i64 10, .int .i64 32] w (PuRes l w) := by
  cases h : Lib.parseUintB 32 l with
  | ok u =>
    refine (Tryd.strconv_ParseUint_10_at32_ok (bstr l) (by rw [bstr_size]; omega) u (by rw [bstr_dl]; exact h) w).mono ?_
    rintro e w' ⟨rfl, hw⟩
    refine ⟨u, _, rfl, Lib.parseUintB_le h, fun v hv hlv => ?_, ?_⟩
    · subst hlv
      rw [parseB_dec (by decide) hv] at h
      cases h; rfl
    · rcases hw with rfl | rfl
      · exact RowKit.Below.refl _ _
      · exact Lib.bytesWorld_below _ _ _
  | «syntax» =>
    obtain ⟨tp, p, hv⟩ := hL.syn
    refine (Tryd.strconv_ParseUint_10_at32_syntax_var (bstr l) (by rw [bstr_size]; omega) (by rw [bstr_dl]; exact h) tp p w hv).mono ?_
    rintro e w' ⟨N, rfl, -, -, hb⟩
    exact ⟨0, _, rfl, by omega, (fun v hv hlv => by subst hlv; rw [parseB_dec (by decide) hv] at h; cases h), hb⟩
  | range =>
    obtain ⟨tp, p, hv⟩ := hL.rng
    refine (Tryd.strconv_ParseUint_10_at32_range_var (bstr l) (by rw [bstr_size]; omega) (by rw [bstr_dl]; exact h) tp p w hv).mono ?_
    rintro e w' ⟨N, rfl, -, -, hb⟩
    exact ⟨4294967295, _, rfl, by omega, (fun v hv hlv => by subst hlv; rw [parseB_dec (by decide) hv] at h; cases h), hb⟩
def AtRes (l : List UInt8) (w : World) (e : Ending) (w' : World) : Prop :=
  ∃ (n : Int) (ev : Value), e = .returned (.tuple #[.int .i64 n, ev]) ∧ (-9223372036854775808 ≤ n ∧ n ≤ 9223372036854775807) ∧ (∀ v, v ≤ 255 → l = Lib.decDigits v → n = (v : Int)) ∧ RowKit.Below w.heap.size w w'
theorem atoi_le {l : List UInt8} {n : Int} (h : Lib.atoiAll l = .ok n) : -9223372036854775808 ≤ n ∧ n ≤ 9223372036854775807 := by
  unfold Lib.atoiAll at h
  cases l with
  | nil => cases h
  | cons c r =>
    dsimp only at h
    split at h
    · cases h
    · cases h
    · split at h
      · cases h
      · split at h
        · cases h
        · injection h with h
          subst h
          split <;> omega
theorem atoi_any (l : List UInt8) (hl : l.length ≤ 1000000) (w : World) (hL : LaidW w) : Calls Tryd.prog 36 #[.string (bstr l)] w (AtRes l w) := by
  have hd : ∀ v, v ≤ 255 → l = Lib.decDigits v → Lib.atoiAll l = .ok (v : Int) := fun v hv e => by rw [e]; exact atoi_dec ⟨v, by omega⟩
  cases h : Lib.atoiAll l with
  | ok n =>
    refine (Tryd.strconv_Atoi_ok (bstr l) (by rw [bstr_size]; omega) n (by rw [bstr_dl]; exact h) w).mono ?_
    rintro e w' ⟨rfl, hw⟩
    refine ⟨n, _, rfl, atoi_le h, fun v hv hlv => ?_, ?_⟩
    · have := hd v hv hlv
      rw [h] at this
      cases this; rfl
    · rcases hw with rfl | ⟨t, rfl⟩
      · exact RowKit.Below.refl _ _
      · exact Lib.bytesWorld_below _ _ _
  | «syntax» =>
    obtain ⟨tp, p, hv⟩ := hL.syn
    refine (Tryd.strconv_Atoi_syntax_var (bstr l) (by rw [bstr_size]; omega) (by rw [bstr_dl]; exact h) tp p w hv).mono ?_
    rintro e w' ⟨N, rfl, -, -, hb⟩
    exact ⟨0, _, rfl, by omega, (fun v hv hlv => by have := hd v hv hlv; rw [h] at this; cases this), hb⟩
  | range =>
    obtain ⟨tp, p, hv⟩ := hL.rng
    refine (Tryd.strconv_Atoi_range_var (bstr l) (by rw [bstr_size]; omega) (by rw [bstr_dl]; exact h) tp p w hv).mono ?_
    rintro e w' ⟨N, rfl, -, -, hb⟩
    exact ⟨_, _, rfl, by unfold Lib.atoiSat; split <;> omega, (fun v hv hlv => by have := hd v hv hlv; rw [h] at this; cases this), hb⟩
end Go.Proofs.YtdnoafjaheofcaaDoor
