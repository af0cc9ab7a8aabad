/- Floats as the machine holds them: bits; the one NaN. -/
import Derived.Test.YtafogjonicdbmaaWireKnown
import Derived.Laws.Cover2
import Derived.Laws.Externs
namespace Go.Proofs.Ytafogjonicdbmaa
open Go.RowKit

def nanB (x : Nat) : Bool := decide (9218868437227405312 < x % 9223372036854775808)
/-- The bits of a number, of any NaN the one's. -/
def cb (x : Nat) : Nat := if nanB x then 9221120237041090561 else x

theorem datum_self (d : Ieee.Datum) : (d.order d != some .eq) = d.isNaN := by
  cases d with
  | number s m e =>
    have hc : ∀ a : Int, compare a a = Ordering.eq := fun a => by simp [compare, compareOfLessAndEq]
    simp [Ieee.Datum.order, Ieee.Datum.isNaN, hc]
  | infinity s =>
    have hc : ∀ a : Nat, compare a a = Ordering.eq := fun a => by simp [compare, compareOfLessAndEq]
    simp [Ieee.Datum.order, Ieee.Datum.isNaN, hc]
  | nan s f => simp [Ieee.Datum.order, Ieee.Datum.isNaN]
theorem read_nan (x : Nat) : (Ieee.double.read x).isNaN = nanB x := by
  have hs : Ieee.double.signWeight = 9223372036854775808 := by decide
  have hb : Ieee.double.binade = 4503599627370496 := by decide
  have hi : Ieee.double.infRung = 9218868437227405312 := by decide
  unfold Ieee.Format.read nanB
  simp only [hs, hb, hi]
  generalize (x / 9223372036854775808 % 2 == 1) = neg
  generalize x % 9223372036854775808 = y
  by_cases h1 : y < 4503599627370496
  · rw [if_pos h1]
    have : ¬ 9218868437227405312 < y := by omega
    simp [Ieee.Datum.isNaN, this]
  rw [if_neg h1]
  by_cases h2 : y < 9218868437227405312
  · rw [if_pos h2]
    have : ¬ 9218868437227405312 < y := by omega
    simp [Ieee.Datum.isNaN, this]
  rw [if_neg h2]
  by_cases h3 : y = 9218868437227405312
  · rw [if_pos h3, h3]
    simp [Ieee.Datum.isNaN]
  · rw [if_neg h3]
    have : 9218868437227405312 < y := by omega
    simp [Ieee.Datum.isNaN, this]
theorem order_self (x : Nat) : (FloatKind.f64.format.order x x != some .eq) = nanB x := by
  rw [← read_nan]
  exact datum_self _

theorem run_frombits (n : Nat) (w : World) : (callFunc 49 #[.int .u64 (n : Int)]).run Try.prog w = .ok (.value (.float .f64 n)) w := by
  rw [run_callFunc_extern Try.func49 (by kernel_rfl) (by kernel_rfl) (by kernel_rfl) (e := Extern.MathFloatBits.float64frombits) (by kernel_rfl)]
  rfl
theorem run_bits (n : Nat) (w : World) : (callFunc 50 #[.float .f64 n]).run Try.prog w = .ok (.value (.int .u64 (n : Int))) w := by
  rw [run_callFunc_extern Try.func50 (by kernel_rfl) (by kernel_rfl) (by kernel_rfl) (e := Extern.MathFloatBits.float64bits) (by kernel_rfl)]
  rfl

theorem num_bits (x : Nat) (w : World) : Calls Try.prog 45 #[.float .f64 x] w fun e w' => e = .returned (.int .u64 (cb x : Int)) ∧ w = w' := by
  have hbf := fun n w => run_bits n w
  have ho := order_self x
  by_cases h : nanB x = true
  · rw [h] at ho
    have hc : cb x = 9221120237041090561 := by unfold cb; rw [if_pos h]
    rw [hc]
    have hcan : ∀ w, (callFunc 49 #[.int .u64 9221120237041090561]).run Try.prog w = .ok (.value (.float .f64 9221120237041090561)) w := fun w => run_frombits 9221120237041090561 w
    have hcan2 : ∀ w, (callFunc 50 #[.float .f64 9221120237041090561]).run Try.prog w = .ok (.value (.int .u64 9221120237041090561)) w := fun w => run_bits 9221120237041090561 w
    clear hbf
    clear h hc
    go_enter Try.func45, Try.ntmps45
    go_wp2
    go_ret
    exact ⟨rfl, rfl⟩
  · rw [Bool.not_eq_true] at h
    rw [h] at ho
    have hc : cb x = x := by unfold cb; rw [h]; rfl
    rw [hc]
    clear h hc
    go_enter Try.func45, Try.ntmps45
    go_wp2
    go_ret
    exact ⟨rfl, rfl⟩
end Go.Proofs.Ytafogjonicdbmaa
