/- Nets: side, Joined, both. -/
import Derived.Test.YtfhdnehheoligaaNp2
set_option linter.unusedSimpArgs false
set_option linter.unusedVariables false
namespace Go.Proofs.Ytfhdnehheoligaa
open Go.RowKit
set_option maxRecDepth 100000

def bitB (mask k : Nat) : Bool := bits BinOp.and IntKind.u64 ((mask : Int) / 2 ^ k) 1 == 1
def sideB (mask : Nat) (a : Int) : Bool := if 100 ≤ a ∧ a < 132 then bitB mask (32 + a - 100).toNat else if 0 ≤ a ∧ a < 32 then bitB mask a.toNat else false
theorem side_up {mask k : Nat} {a : Int} (h1 : 100 ≤ a) (h2 : a < 132) (hk : 32 + a - 100 = (k : Int)) : sideB mask a = (bits BinOp.and IntKind.u64 ((mask : Int) / 2 ^ k) 1 == 1) := by
  unfold sideB
  rw [if_pos ⟨h1, h2⟩, hk]
  rfl
theorem side_low {mask k : Nat} (h2 : k < 32) : sideB mask (k : Int) = (bits BinOp.and IntKind.u64 ((mask : Int) / 2 ^ k) 1 == 1) := by
  unfold sideB
  rw [if_neg (by omega), if_pos (by omega)]
  rfl
theorem side_no {mask : Nat} {a : Int} (h1 : ¬ (100 ≤ a ∧ a < 132)) (h2 : ¬ (0 ≤ a ∧ a < 32)) : sideB mask a = false := by
  unfold sideB
  rw [if_neg h1, if_neg h2]
set_option maxHeartbeats 1600000 in
theorem np_side {b : Nat} {w : World} {F : Nat → Prop} {g mask : Nat} {l : List PkD} (h : NetS b w F 47 g mask l) (a : Int) : Calls Try.prog 21 #[.pointer (some ⟨g, 0, none⟩), .int .i64 a] w (Says w (.bool (sideB mask a))) := by
  obtain ⟨A, c, xs, css, C, h⟩ := h
  have h1 := h.blk.cell 1
  clear h
  by_cases k1 : 100 ≤ a ∧ a < 132
  · obtain ⟨k1, k2⟩ := k1
    have d1 : decide (100 ≤ a) = true := decide_eq_true k1
    have d2 : decide (a < 132) = true := decide_eq_true k2
    obtain ⟨k, hk, hk32⟩ : ∃ k : Nat, (32 : Int) + a - 100 = (k : Int) ∧ k < 64 := ⟨((32 : Int) + a - 100).toNat, by omega, by omega⟩
    have w1 : IntKind.i64.wrap (32 + a) = 32 + a := by rw [IntKind.wrap_i64]; omega
    have w2 : IntKind.i64.wrap ((32 : Int) + a - 100) = (k : Int) := by rw [IntKind.wrap_i64]; omega
    have w3 : IntKind.u64.wrap (k : Int) = (k : Int) := by unfold IntKind.wrap; simp [IntKind.bits, IntKind.signed]; omega
    rw [side_up k1 k2 hk]
    go_enter Try.func21, Try.ntmps21
    go_wp2_with fail
    go_ret
    refine ⟨?_, Below.refl _ _⟩
    rfl
  · by_cases k3 : 0 ≤ a ∧ a < 32
    · obtain ⟨k, rfl⟩ : ∃ k : Nat, a = (k : Int) := ⟨a.toNat, by omega⟩
      have hk : k < 32 := by omega
      have d1 : decide ((100 : Int) ≤ (k : Int)) = false := decide_eq_false (by omega)
      have d3 : decide ((k : Int) < 0) = false := decide_eq_false (by omega)
      have d4 : decide ((32 : Int) ≤ (k : Int)) = false := decide_eq_false (by omega)
      have w3 : IntKind.u64.wrap (k : Int) = (k : Int) := by unfold IntKind.wrap; simp [IntKind.bits, IntKind.signed]; omega
      have hk64 : k < 64 := by omega
      rw [side_low hk]
      go_enter Try.func21, Try.ntmps21
      go_wp2_with fail
      go_ret
      refine ⟨?_, Below.refl _ _⟩
      rfl
    · rw [side_no k1 k3]
      by_cases k2 : 100 ≤ a
      · have d1 : decide (100 ≤ a) = true := decide_eq_true k2
        have d2 : decide (a < 132) = false := decide_eq_false (by omega)
        have d3 : decide (a < 0) = false := decide_eq_false (by omega)
        have d4 : decide (32 ≤ a) = true := decide_eq_true (by omega)
        go_enter Try.func21, Try.ntmps21
        go_wp2_with fail
        go_ret
        refine ⟨?_, Below.refl _ _⟩
        rfl
      · have d1 : decide (100 ≤ a) = false := decide_eq_false k2
        by_cases k4 : a < 0
        · have d3 : decide (a < 0) = true := decide_eq_true k4
          go_enter Try.func21, Try.ntmps21
          go_wp2_with fail
          go_ret
          refine ⟨?_, Below.refl _ _⟩
          rfl
        · have d3 : decide (a < 0) = false := decide_eq_false k4
          have d4 : decide (32 ≤ a) = true := decide_eq_true (by omega)
          go_enter Try.func21, Try.ntmps21
          go_wp2_with fail
          go_ret
          refine ⟨?_, Below.refl _ _⟩
          rfl
set_option maxHeartbeats 1600000 in
theorem nd_side {b : Nat} {w : World} {F : Nat → Prop} {g mask : Nat} {l : List PkD} (h : NetS b w F 30 g mask l) (a : Int) : Calls Try.prog 22 #[.pointer (some ⟨g, 0, none⟩), .int .i64 a] w (Says w (.bool (sideB mask a))) := by
  obtain ⟨A, c, xs, css, C, h⟩ := h
  have h1 := h.blk.cell 1
  clear h
  by_cases k1 : 100 ≤ a ∧ a < 132
  · obtain ⟨k1, k2⟩ := k1
    have d1 : decide (100 ≤ a) = true := decide_eq_true k1
    have d2 : decide (a < 132) = true := decide_eq_true k2
    have d5 : decide (0 ≤ a) = true := decide_eq_true (by omega)
    have d6 : decide (a < 32) = false := decide_eq_false (by omega)
    obtain ⟨k, hk, hk32⟩ : ∃ k : Nat, (32 : Int) + a - 100 = (k : Int) ∧ k < 64 := ⟨((32 : Int) + a - 100).toNat, by omega, by omega⟩
    have w2 : IntKind.i64.wrap (a - 68) = (k : Int) := by rw [IntKind.wrap_i64]; omega
    rw [side_up k1 k2 hk]
    go_enter Try.func22, Try.ntmps22
    go_wp2_with fail
    go_ret
    refine ⟨?_, Below.refl _ _⟩
    rfl
  · by_cases k3 : 0 ≤ a ∧ a < 32
    · obtain ⟨k, rfl⟩ : ∃ k : Nat, a = (k : Int) := ⟨a.toNat, by omega⟩
      have hk : k < 32 := by omega
      have d5 : decide ((0 : Int) ≤ (k : Int)) = true := decide_eq_true (by omega)
      have d6 : decide ((k : Int) < 32) = true := decide_eq_true (by omega)
      have hk64 : k < 64 := by omega
      rw [side_low hk]
      go_enter Try.func22, Try.ntmps22
      go_wp2_with fail
      go_ret
      refine ⟨?_, Below.refl _ _⟩
      rfl
    · rw [side_no k1 k3]
      by_cases k2 : 100 ≤ a
      · have d1 : decide (100 ≤ a) = true := decide_eq_true k2
        have d2 : decide (a < 132) = false := decide_eq_false (by omega)
        have d5 : decide (0 ≤ a) = true := decide_eq_true (by omega)
        have d6 : decide (a < 32) = false := decide_eq_false (by omega)
        go_enter Try.func22, Try.ntmps22
        go_wp2_with fail
        go_ret
        refine ⟨?_, Below.refl _ _⟩
        rfl
      · have d1 : decide (100 ≤ a) = false := decide_eq_false k2
        by_cases k4 : 0 ≤ a
        · have d5 : decide (0 ≤ a) = true := decide_eq_true k4
          have d6 : decide (a < 32) = false := decide_eq_false (by omega)
          go_enter Try.func22, Try.ntmps22
          go_wp2_with fail
          go_ret
          refine ⟨?_, Below.refl _ _⟩
          rfl
        · have d5 : decide (0 ≤ a) = false := decide_eq_false k4
          go_enter Try.func22, Try.ntmps22
          go_wp2_with fail
          go_ret
          refine ⟨?_, Below.refl _ _⟩
          rfl
theorem np_joined {b : Nat} {w : World} {F : Nat → Prop} {g mask : Nat} {l : List PkD} (h : NetS b w F 47 g mask l) (a a' : Int) : Calls Try.prog 15 #[.pointer (some ⟨g, 0, none⟩), .int .i64 a, .int .i64 a'] w (Says w (.bool (sideB mask a == sideB mask a'))) := by
  have h1 := np_side h a
  generalize sideB mask a = q1 at *
  replace h1 := Lib.hid h1
  replace h := Lib.hid h
  go_enter Try.func15, Try.ntmps15
  go_wp2_with fail
  refine h1.out.mono ?_
  rintro e w1 ⟨rfl, hb1⟩
  try dsimp only
  have h2 := np_side (h.out.below hb1) a'
  generalize sideB mask a' = q2 at *
  replace h2 := Lib.hid h2
  go_wp2_with fail
  refine h2.out.mono ?_
  rintro e w2 ⟨rfl, hb2⟩
  try dsimp only
  have hb := below_then hb2 hb1
  cases q1 <;> cases q2 <;> (go_wp2_with fail; go_ret; exact ⟨rfl, hb⟩)
theorem nd_joined {b : Nat} {w : World} {F : Nat → Prop} {g mask : Nat} {l : List PkD} (h : NetS b w F 30 g mask l) (a a' : Int) : Calls Try.prog 16 #[.pointer (some ⟨g, 0, none⟩), .int .i64 a, .int .i64 a'] w (Says w (.bool (sideB mask a == sideB mask a'))) := by
  have h1 := nd_side h a
  generalize sideB mask a = q1 at *
  replace h1 := Lib.hid h1
  replace h := Lib.hid h
  go_enter Try.func16, Try.ntmps16
  go_wp2_with fail
  refine h1.out.mono ?_
  rintro e w1 ⟨rfl, hb1⟩
  try dsimp only
  have h2 := nd_side (h.out.below hb1) a'
  generalize sideB mask a' = q2 at *
  replace h2 := Lib.hid h2
  go_wp2_with fail
  refine h2.out.mono ?_
  rintro e w2 ⟨rfl, hb2⟩
  try dsimp only
  have hb := below_then hb2 hb1
  cases q1 <;> cases q2 <;> (go_wp2_with fail; go_ret; exact ⟨rfl, hb⟩)
end Go.Proofs.Ytfhdnehheoligaa
