/- Floats' digits: unrounded scaling. -/
import Derived.Test.YtdbmffagibnibaaGreatDoorKit
import Derived.Test.YtdbmffagibnibaaGreatDoorMore
import Derived.Test.YtdbmffagibnibaaGreatDoorShelf
import Derived.BigQuiet
import Derived.Test.YtdbmffagibnibaaGreatDoorRegion
set_option linter.unusedSimpArgs false
set_option linter.unusedVariables false
namespace Go.Proofs.YtdbmffagibnibaaGreatDoor
open Go.RowKit Go.Sort Go.Lib
set_option maxRecDepth 100000

theorem ofInt_u64 (a : Nat) (ha : a < 18446744073709551616) : (BitVec.ofInt 64 (a : Int)).toNat = a := by
  rw [BitVec.ofInt_natCast, BitVec.toNat_ofNat]; exact Nat.mod_eq_of_lt (by omega)
theorem u64_or_nat (a b : Nat) (ha : a < 18446744073709551616) (hb : b < 18446744073709551616) : bits .or .u64 (a : Int) (b : Int) = ((a ||| b : Nat) : Int) := by
  have hx : a ||| b < 2 ^ 64 := Nat.or_lt_two_pow (by omega) (by omega)
  show IntKind.u64.wrap ((BitVec.ofInt 64 (a : Int) ||| BitVec.ofInt 64 (b : Int)).toNat : Int) = _
  rw [BitVec.toNat_or, ofInt_u64 a ha, ofInt_u64 b hb]
  simp [IntKind.wrap, IntKind.bits, IntKind.signed]
  omega
theorem u64_and_nat (a b : Nat) (ha : a < 18446744073709551616) (hb : b < 18446744073709551616) : bits .and .u64 (a : Int) (b : Int) = ((a &&& b : Nat) : Int) := by
  have hx : a &&& b < 2 ^ 64 := Nat.and_lt_two_pow _ (by omega)
  show IntKind.u64.wrap ((BitVec.ofInt 64 (a : Int) &&& BitVec.ofInt 64 (b : Int)).toNat : Int) = _
  rw [BitVec.toNat_and, ofInt_u64 a ha, ofInt_u64 b hb]
  simp [IntKind.wrap, IntKind.bits, IntKind.signed]
  omega
theorem i64_and_nat (a b : Nat) (ha : a < 9223372036854775808) (hb : b < 9223372036854775808) : bits .and .i64 (a : Int) (b : Int) = ((a &&& b : Nat) : Int) := by
  have hx : a &&& b < 2 ^ 63 := Nat.and_lt_two_pow _ (by omega)
  show IntKind.i64.wrap ((BitVec.ofInt 64 (a : Int) &&& BitVec.ofInt 64 (b : Int)).toNat : Int) = _
  rw [BitVec.toNat_and, ofInt_u64 a (by omega), ofInt_u64 b (by omega)]
  rw [IntKind.wrap_i64]
  omega
theorem and63 (s : Nat) (hs : s < 64) : bits .and .i64 (s : Int) 63 = (s : Int) := by
  have h := i64_and_nat s 63 (by omega) (by omega)
  rw [show (63 : Nat) = 2 ^ 6 - 1 from rfl, Nat.and_two_pow_sub_one_eq_mod, Nat.mod_eq_of_lt (by omega)] at h
  exact h
theorem cast_shr (H s : Nat) : (H : Int) / 2 ^ s = ((H / 2 ^ s : Nat) : Int) := by simp

/-- internal/strconv.uscale, in plain numbers. -/
def uscN (x h l s : Nat) : Nat :=
  if x * h / 18446744073709551616 / 2 ^ s * 2 ^ s = x * h / 18446744073709551616 then
    ((x * h / 18446744073709551616 + 18446744073709551616 - (if x * h % 18446744073709551616 < x * l / 18446744073709551616 then 1 else 0)) % 18446744073709551616) / 2 ^ s |||
      (if 1 < (x * h % 18446744073709551616 + 18446744073709551616 - x * l / 18446744073709551616) % 18446744073709551616 then 1 else 0)
  else x * h / 18446744073709551616 / 2 ^ s ||| 1

theorem bool2u_walk (b : Bool) (w : World) : Calls Tryz.prog 141 #[.bool b] w (fun e w' => e = .returned (.int .u64 (if b then 1 else 0)) ∧ w' = w) := by
  cases b
  all_goals
    go_enter Tryz.func141, Tryz.ntmps141
    go_wp2_with fail
    go_ret
    exact ⟨rfl, rfl⟩
theorem mulhi_lt (x h : Nat) (hx : x < 18446744073709551616) (hh : h < 18446744073709551616) : x * h / 18446744073709551616 < 18446744073709551616 := by
  have : x * h < 18446744073709551616 * 18446744073709551616 := Nat.mul_lt_mul'' hx hh
  omega
set_option maxHeartbeats 3200000 in
theorem uscale_walk (x h l s y : Nat) (w : World) (hx : x < 18446744073709551616) (hh : h < 18446744073709551616) (hl : l < 18446744073709551616) (hs : s < 64)
    (c0 : w.cell? ⟨y, 0, none⟩ = some (.int .u64 (h : Int))) (c1 : w.cell? ⟨y, 1, none⟩ = some (.int .u64 (l : Int))) (c2 : w.cell? ⟨y, 2, none⟩ = some (.int .i64 (s : Int))) :
    Calls Tryz.prog 122 #[.int .u64 (x : Int), .pointer (some ⟨y, 0, none⟩)] w (fun e w' => e = .returned (.int .u64 (uscN x h l s : Int)) ∧ Below w.heap.size w w') := by
  have m1 := fun W => Tryz.bits_Mul64 x h hx hh W
  have m2 := fun W => Tryz.bits_Mul64 x l hx hl W
  have hHl := mulhi_lt x h hx hh
  have hM2l := mulhi_lt x l hx hl
  have hMl : x * h % 18446744073709551616 < 18446744073709551616 := Nat.mod_lt _ (by omega)
  unfold uscN
  obtain ⟨H, hH⟩ : ∃ H, x * h / 18446744073709551616 = H := ⟨_, rfl⟩
  obtain ⟨M, hM⟩ : ∃ M, x * h % 18446744073709551616 = M := ⟨_, rfl⟩
  obtain ⟨M2, hM2⟩ : ∃ M, x * l / 18446744073709551616 = M := ⟨_, rfl⟩
  rw [hH, hM] at m1
  rw [hM2] at m2
  rw [hH] at hHl
  rw [hM] at hMl
  rw [hM2] at hM2l
  rw [hH, hM, hM2]
  clear hH hM hM2
  replace m1 := Lib.hid m1
  replace m2 := Lib.hid m2
  have hand := and63 s hs
  have hmin : min s 64 = s := by omega
  have hp : (0 : Nat) < 2 ^ s := Nat.pow_pos (by omega)
  obtain ⟨Q, hQ⟩ : ∃ Q, H / 2 ^ s = Q := ⟨_, rfl⟩
  have hQi : (H : Int) / 2 ^ s = (Q : Int) := by rw [cast_shr, hQ]
  have hQH : Q * 2 ^ s ≤ H := by rw [← hQ]; exact Nat.div_mul_le_self _ _
  have hQl : Q ≤ H := by rw [← hQ]; exact Nat.div_le_self _ _
  obtain ⟨R, hR⟩ : ∃ R, Q * 2 ^ s = R := ⟨_, rfl⟩
  have hRi : (Q : Int) * 2 ^ s = (R : Int) := by rw [← hR]; simp
  have hRw : IntKind.u64.wrap (R : Int) = (R : Int) := by
    simp [IntKind.wrap, IntKind.bits, IntKind.signed]; omega
  rw [hR] at hQH
  rw [hQ, hR]
  have hor : bits .or .u64 (Q : Int) 1 = ((Q ||| 1 : Nat) : Int) := u64_or_nat Q 1 (by omega) (by omega)
  by_cases hRH : R = H
  · rw [if_pos hRH]
    obtain ⟨D, hD⟩ : ∃ D, (M + 18446744073709551616 - M2) % 18446744073709551616 = D := ⟨_, rfl⟩
    have hDw : IntKind.u64.wrap ((M : Int) - (M2 : Int)) = (D : Int) := by rw [IntKind.wrap_u64]; omega
    obtain ⟨b1, hb1⟩ : ∃ b : Nat, (if M < M2 then 1 else 0) = b := ⟨_, rfl⟩
    obtain ⟨b2, hb2⟩ : ∃ b : Nat, (if 1 < D then 1 else 0) = b := ⟨_, rfl⟩
    have hb1l : b1 ≤ 1 := by rw [← hb1]; split <;> omega
    have hb2l : b2 ≤ 1 := by rw [← hb2]; split <;> omega
    have hb1i : (if decide ((M : Int) < (M2 : Int)) then (1 : Int) else 0) = (b1 : Int) := by
      rw [← hb1]; by_cases h : M < M2
      · simp [h]
      · simp [h]
    have hb2i : (if decide ((1 : Int) < (D : Int)) then (1 : Int) else 0) = (b2 : Int) := by
      rw [← hb2]; by_cases hq : 1 < D
      · rw [if_pos hq, if_pos (by simp only [decide_eq_true_eq]; omega)]; rfl
      · rw [if_neg hq, if_neg (by simp only [decide_eq_true_eq]; omega)]; rfl
    rw [hD, hb1, hb2]
    obtain ⟨G, hG⟩ : ∃ G, (H + 18446744073709551616 - b1) % 18446744073709551616 = G := ⟨_, rfl⟩
    have hGw : IntKind.u64.wrap ((H : Int) - (b1 : Int)) = (G : Int) := by rw [IntKind.wrap_u64]; omega
    rw [hG]
    have hGl : G < 18446744073709551616 := by omega
    obtain ⟨T, hT⟩ : ∃ T, G / 2 ^ s = T := ⟨_, rfl⟩
    have hTi : (G : Int) / 2 ^ s = (T : Int) := by rw [cast_shr, hT]
    have hTl : T ≤ G := by rw [← hT]; exact Nat.div_le_self _ _
    rw [hT]
    have hor2 : bits .or .u64 (T : Int) (b2 : Int) = ((T ||| b2 : Nat) : Int) := u64_or_nat T b2 (by omega) (by omega)
    have k1 := fun W => bool2u_walk (decide ((M : Int) < (M2 : Int))) W
    have k2 := fun W => bool2u_walk (decide ((1 : Int) < (D : Int))) W
    rw [hb1i] at k1
    rw [hb2i] at k2
    replace k1 := Lib.hid k1
    replace k2 := Lib.hid k2
    subst hRH
    clear hb1i hb2i hb1 hb2 hG hT hD hQH hor
    obtain ⟨p1, hp1⟩ : ∃ p, decide ((M : Int) < (M2 : Int)) = p := ⟨_, rfl⟩
    obtain ⟨p2, hp2⟩ : ∃ p, decide ((1 : Int) < (D : Int)) = p := ⟨_, rfl⟩
    have hp1' : decide (M < M2) = p1 := by rw [← hp1]; simp
    have hp2' : decide (1 < D) = p2 := by rw [← hp2]; apply decide_eq_decide.2; omega
    rw [hp1] at k1
    rw [hp2] at k2
    go_enter Tryz.func122, Tryz.ntmps122
    go_wp2_with fail
    refine (m1.out _).mono ?_
    clear m1
    rintro e w' ⟨rfl, rfl⟩
    dsimp only
    go_wp2_with fail
    refine (m2.out _).mono ?_
    clear m2
    rintro e w' ⟨rfl, rfl⟩
    dsimp only
    go_wp2_with fail
    refine (k1.out _).mono ?_
    clear k1
    rintro e w' ⟨rfl, rfl⟩
    dsimp only
    go_wp2_with fail
    refine wp_region_lex (fun _ => True) [] [7] [0, 1, 2, 3, 4, 5, 6, 7, 8, 9] (by kernel_rfl) rfl (by kernel_rfl) (by kernel_rfl) (fun _ _ d _ _ h => by cases d <;> exact h) ?_
    repeat (first | (refine lexG_take _ ?_ rfl rfl rfl rfl (fun _ => ?_) ?_; rotate_left; (focus (go_simp; with_reducible rfl)); try simp only [Act.put, List.setIfInBounds_toArray, List.set_cons_zero, List.set_cons_succ]) | (refine lexG_skip _ rfl rfl (by assumption) ?_; try simp only [Act.put, List.setIfInBounds_toArray, List.set_cons_zero, List.set_cons_succ]))
    refine lexG_now _ rfl rfl rfl (fun K hK => ?_)
    go_wp2_with fail
    refine (k2.out _).mono ?_
    clear k2
    rintro e w' ⟨rfl, rfl⟩
    dsimp only
    refine hK _ _ _ (fun _ h => h) trivial ?_
    clear hK K
    try simp only [Act.put, List.setIfInBounds_toArray, List.set_cons_zero, List.set_cons_succ]
    repeat (first | (refine lexG_take _ ?_ rfl rfl rfl rfl (fun _ => ?_) ?_; rotate_left; (focus (go_simp; with_reducible rfl)); try simp only [Act.put, List.setIfInBounds_toArray, List.set_cons_zero, List.set_cons_succ]) | (refine lexG_skip _ rfl rfl (by assumption) ?_; try simp only [Act.put, List.setIfInBounds_toArray, List.set_cons_zero, List.set_cons_succ]))
    refine lexG_nil ?_
    go_wp2_with fail
    go_ret
    exact ⟨rfl, (Below.refl _ _).drew⟩
  · rw [if_neg hRH]
    have hne : ((R : Int) != (H : Int)) = true := by simp; omega
    go_enter Tryz.func122, Tryz.ntmps122
    go_wp2_with fail
    refine (m1.out _).mono ?_
    clear m1
    rintro e w' ⟨rfl, rfl⟩
    dsimp only
    go_wp2_with fail
    go_ret
    exact ⟨rfl, Below.refl _ _⟩
theorem uscN_lt (x h l s : Nat) (hx : x < 18446744073709551616) (hh : h < 18446744073709551616) : uscN x h l s < 18446744073709551616 := by
  have hH := mulhi_lt x h hx hh
  unfold uscN
  split
  · refine Nat.or_lt_two_pow (n := 64) ?_ ?_
    · exact Nat.lt_of_le_of_lt (Nat.div_le_self _ _) (Nat.mod_lt _ (by omega))
    · split <;> omega
  · refine Nat.or_lt_two_pow (n := 64) ?_ (by omega)
    exact Nat.lt_of_le_of_lt (Nat.div_le_self _ _) hH

/- The small ones. -/
theorem skewed_walk (e : Int) (h0 : -2000 ≤ e) (h1 : e ≤ 2000) (w : World) : Calls Tryz.prog 119 #[.int .i64 e] w (fun r w' => r = .returned (.int .i64 ((e * 631305 - 261663) / 2097152)) ∧ w' = w) := by
  have w1 : IntKind.i64.wrap (e * 631305) = e * 631305 := by rw [IntKind.wrap_i64]; omega
  have w2 : IntKind.i64.wrap (e * 631305 - 261663) = e * 631305 - 261663 := by rw [IntKind.wrap_i64]; omega
  go_enter Tryz.func119, Tryz.ntmps119
  go_wp2_with fail
  go_ret
  exact ⟨rfl, rfl⟩
theorem log2Pow10_walk (p : Int) (h0 : -2000 ≤ p) (h1 : p ≤ 2000) (w : World) : Calls Tryz.prog 121 #[.int .i64 p] w (fun r w' => r = .returned (.int .i64 (p * 108853 / 32768)) ∧ w' = w) := by
  have w1 : IntKind.i64.wrap (p * 108853) = p * 108853 := by rw [IntKind.wrap_i64]; omega
  go_enter Tryz.func121, Tryz.ntmps121
  go_wp2_with fail
  go_ret
  exact ⟨rfl, rfl⟩
theorem log10Pow2_walk (p : Int) (h0 : -2000 ≤ p) (h1 : p ≤ 2000) (w : World) : Calls Tryz.prog 83 #[.int .i64 p] w (fun r w' => r = .returned (.int .i64 (p * 78913 / 262144)) ∧ w' = w) := by
  have w1 : IntKind.i64.wrap (p * 78913) = p * 78913 := by rw [IntKind.wrap_i64]; omega
  go_enter Tryz.func83, Tryz.ntmps83
  go_wp2_with fail
  go_ret
  exact ⟨rfl, rfl⟩
theorem nudge_walk (u d : Int) (w : World) : Calls Tryz.prog 123 #[.int .u64 u, .int .i64 d] w (fun r w' => r = .returned (.int .u64 (IntKind.u64.wrap (u + IntKind.u64.wrap d))) ∧ w' = w) := by
  go_enter Tryz.func123, Tryz.ntmps123
  go_wp2_with fail
  go_ret
  exact ⟨rfl, rfl⟩
theorem ceil_walk (u : Int) (w : World) : Calls Tryz.prog 124 #[.int .u64 u] w (fun r w' => r = .returned (.int .u64 (IntKind.u64.wrap (u + 3) / 4)) ∧ w' = w) := by
  go_enter Tryz.func124, Tryz.ntmps124
  go_wp2_with fail
  go_ret
  exact ⟨rfl, rfl⟩
theorem floor_walk (u : Nat) (hu : u < 18446744073709551616) (w : World) : Calls Tryz.prog 125 #[.int .u64 (u : Int)] w (fun r w' => r = .returned (.int .u64 ((u : Int) / 4)) ∧ w' = w) := by
  have w1 : IntKind.u64.wrap (u : Int) = (u : Int) := by rw [IntKind.wrap_u64]; omega
  go_enter Tryz.func125, Tryz.ntmps125
  go_wp2_with fail
  go_ret
  exact ⟨rfl, rfl⟩
/-- round, in plain numbers. -/
def rndN (u : Nat) : Nat := (u + 1 + u / 4 % 2) % 18446744073709551616 / 4
theorem round_walk (u : Nat) (hu : u < 18446744073709551616) (w : World) : Calls Tryz.prog 126 #[.int .u64 (u : Int)] w (fun r w' => r = .returned (.int .u64 ((rndN u : Nat) : Int)) ∧ w' = w) := by
  unfold rndN
  obtain ⟨q, hq⟩ : ∃ q, u / 4 % 2 = q := ⟨_, rfl⟩
  have hand : bits .and .u64 ((u : Int) / 4) 1 = (q : Int) := by
    have h := u64_and_nat (u / 4) 1 (by omega) (by omega)
    rw [show (1 : Nat) = 2 ^ 1 - 1 from rfl, Nat.and_two_pow_sub_one_eq_mod] at h
    rw [show (2 : Nat) ^ 1 = 2 from rfl, hq] at h
    simpa using h
  obtain ⟨a, ha⟩ : ∃ a, (u + 1) % 18446744073709551616 = a := ⟨_, rfl⟩
  obtain ⟨b, hb⟩ : ∃ b, (u + 1 + q) % 18446744073709551616 = b := ⟨_, rfl⟩
  have w1 : IntKind.u64.wrap ((u : Int) + 1) = (a : Int) := by rw [IntKind.wrap_u64]; omega
  have w2 : IntKind.u64.wrap ((a : Int) + (q : Int)) = (b : Int) := by rw [IntKind.wrap_u64]; omega
  rw [hq, hb, show ((b / 4 : Nat) : Int) = (b : Int) / 4 from by simp]
  clear hq ha hb
  go_enter Tryz.func126, Tryz.ntmps126
  go_wp2_with fail
  go_ret
  exact ⟨rfl, rfl⟩
end Go.Proofs.YtdbmffagibnibaaGreatDoor
