/- Floats' digits: shortFloat at any number. (Printed by gen_fg2.py.) -/
import Derived.Test.YtdbmffagibnibaaGreatDoorFg1
import Derived.Test.YtdbmffagibnibaaGreatDoorFfL
set_option linter.unusedSimpArgs false
set_option linter.unusedVariables false
namespace Go.Proofs.YtdbmffagibnibaaGreatDoor
open Go.RowKit Go.Sort Go.Lib
set_option maxRecDepth 100000

theorem pe_ok : ∀ i, i < 696 → (pe i).1 < 18446744073709551616 ∧ 9223372036854775808 ≤ (pe i).1 ∧ (pe i).2 < 18446744073709551616 := by
  have h : (List.range 696).all (fun i => decide ((pe i).1 < 18446744073709551616 ∧ 9223372036854775808 ≤ (pe i).1 ∧ (pe i).2 < 18446744073709551616)) = true := by decide +kernel
  intro i hi
  exact of_decide_eq_true (List.all_eq_true.1 h i (List.mem_range.2 hi))
/-- All the rows of the table of powers of ten. -/
def PowAll (w : World) : Prop := 13 < w.heap.size ∧ ∀ i, i < 696 → PowAt w i (pe i).1 (pe i).2
theorem PowAll.next {w w' : World} (h : PowAll w) (hb : Below w.heap.size w w') : PowAll w' := ⟨Nat.lt_of_lt_of_le h.1 hb.size, fun i hi => (h.2 i hi).below hb h.1⟩

/- Bounds of what uscale tells. -/
theorem pow_pos (s : Nat) : 0 < 2 ^ s := Nat.pow_pos (by omega)
theorem uscN_ge (x h l s : Nat) (hx : x < 18446744073709551616) (hl : l < 18446744073709551616) (hh : h < 18446744073709551616) (h1 : 1 ≤ x * h / 18446744073709551616) : 1 ≤ uscN x h l s := by
  have hm2 : x * l / 18446744073709551616 ≤ 18446744073709551614 := by
    have : x * l ≤ 18446744073709551615 * 18446744073709551615 := Nat.mul_le_mul (by omega) (by omega)
    omega
  have hml : x * h % 18446744073709551616 < 18446744073709551616 := Nat.mod_lt _ (by omega)
  have hhl := mulhi_lt x h hx hh
  unfold uscN
  generalize x * h / 18446744073709551616 = H at *
  generalize x * h % 18446744073709551616 = M at *
  generalize x * l / 18446744073709551616 = M2 at *
  have hp := pow_pos s
  split
  · rename_i he
    by_cases hMM : M < M2
    · rw [if_pos hMM, if_pos (show 1 < (M + 18446744073709551616 - M2) % 18446744073709551616 by omega)]
      exact Nat.le_trans (by omega) (Nat.right_le_or)
    · rw [if_neg hMM]
      have hH : (H + 18446744073709551616 - 0) % 18446744073709551616 = H := by omega
      rw [hH]
      have : 1 ≤ H / 2 ^ s := by
        rcases Nat.eq_zero_or_pos (H / 2 ^ s) with h0 | h0
        · rw [h0] at he; omega
        · exact h0
      exact Nat.le_trans this Nat.left_le_or
  · exact Nat.le_trans (by omega) Nat.right_le_or
theorem uscN_big (x h l s : Nat) (hx : x < 18446744073709551616) (hh : h < 18446744073709551616) (hb : 8 ≤ (x * h / 18446744073709551616 - 1) / 2 ^ s) (h1 : 1 ≤ x * h / 18446744073709551616) : 8 ≤ uscN x h l s := by
  have hhl := mulhi_lt x h hx hh
  unfold uscN
  generalize x * h / 18446744073709551616 = H at *
  generalize x * h % 18446744073709551616 = M at *
  generalize x * l / 18446744073709551616 = M2 at *
  have hmono : (H - 1) / 2 ^ s ≤ H / 2 ^ s := Nat.div_le_div_right (by omega)
  split
  · refine Nat.le_trans ?_ Nat.left_le_or
    split
    · rw [show (H + 18446744073709551616 - 1) % 18446744073709551616 = H - 1 by omega]; exact hb
    · rw [show (H + 18446744073709551616 - 0) % 18446744073709551616 = H by omega]; omega
  · exact Nat.le_trans (by omega) Nat.left_le_or
theorem or_le (a b : Nat) (hb : b ≤ 1) : a ||| b ≤ a + 1 := by
  rcases (show b = 0 ∨ b = 1 by omega) with rfl | rfl
  · simp
  · have h := Nat.or_mod_two_pow (a := a) (b := 1) (n := 1)
    have e : a ||| 1 = 2 * (a / 2) + 1 := by
      apply Nat.eq_of_testBit_eq
      intro i
      cases i with
      | zero => simp [Nat.testBit_or]
      | succ i => rw [Nat.testBit_or, show (1 : Nat).testBit (i + 1) = false from by rw [Nat.testBit_succ]; exact Nat.zero_testBit i, Bool.or_false, Nat.testBit_succ, Nat.testBit_succ, show (2 * (a / 2) + 1) / 2 = a / 2 by omega]
    omega
theorem uscN_le (x h l s : Nat) (hx : x < 18446744073709551616) (hh : h < 18446744073709551616) (hs : 1 ≤ s) (h1 : 1 ≤ x * h / 18446744073709551616) : uscN x h l s ≤ 9223372036854775808 := by
  have hhl := mulhi_lt x h hx hh
  unfold uscN
  generalize x * h / 18446744073709551616 = H at *
  generalize x * h % 18446744073709551616 = M at *
  generalize x * l / 18446744073709551616 = M2 at *
  have h2 : ∀ a, a < 18446744073709551616 → a / 2 ^ s < 9223372036854775808 := fun a ha => by
    obtain ⟨t, rfl⟩ : ∃ t, s = t + 1 := ⟨s - 1, by omega⟩
    have : a / 2 ^ (t + 1) ≤ a / 2 := Nat.div_le_div_left (by rw [Nat.pow_succ]; have := pow_pos t; omega) (by omega)
    omega
  split
  · refine Nat.le_trans (or_le _ _ (by split <;> omega)) ?_
    have := h2 ((H + 18446744073709551616 - (if M < M2 then 1 else 0)) % 18446744073709551616) (Nat.mod_lt _ (by omega))
    omega
  · refine Nat.le_trans (or_le _ _ (by omega)) ?_
    have := h2 H hhl
    omega
theorem mul_hi {x h a b : Nat} (hx : 2 ^ a ≤ x) (hh : 2 ^ b ≤ h) (hab : 64 ≤ a + b) : 2 ^ (a + b - 64) ≤ x * h / 18446744073709551616 := by
  have h1 : 2 ^ (a + b) ≤ x * h := by rw [Nat.pow_add]; exact Nat.mul_le_mul hx hh
  rw [show a + b = (a + b - 64) + 64 by omega, Nat.pow_add] at h1
  exact (Nat.le_div_iff_mul_le (by omega)).2 h1
theorem nudgeUp (U o : Nat) (hU : U < 18446744073709551616) (ho : o ≤ 1) (w : World) : Calls Tryz.prog 123 #[.int .u64 (U : Int), .int .i64 (o : Int)] w (fun r w' => r = .returned (.int .u64 (((U + o) % 18446744073709551616 : Nat) : Int)) ∧ w' = w) := by
  have h := nudge_walk (U : Int) (o : Int) w
  rw [show IntKind.u64.wrap ((U : Int) + IntKind.u64.wrap (o : Int)) = (((U + o) % 18446744073709551616 : Nat) : Int) from by rw [IntKind.wrap_u64, IntKind.wrap_u64]; omega] at h
  exact h
theorem nudgeDown (U o : Nat) (hU : U < 18446744073709551616) (ho : o ≤ 1) (w : World) : Calls Tryz.prog 123 #[.int .u64 (U : Int), .int .i64 (-(o : Int))] w (fun r w' => r = .returned (.int .u64 (((U + 18446744073709551616 - o) % 18446744073709551616 : Nat) : Int)) ∧ w' = w) := by
  have h := nudge_walk (U : Int) (-(o : Int)) w
  rw [show IntKind.u64.wrap ((U : Int) + IntKind.u64.wrap (-(o : Int))) = (((U + 18446744073709551616 - o) % 18446744073709551616 : Nat) : Int) from by rw [IntKind.wrap_u64, IntKind.wrap_u64]; omega] at h
  exact h

theorem rnd_ge {U : Nat} (h : 3 ≤ U) (h2 : U ≤ 9223372036854775808) : 1 ≤ rndN U ∧ rndN U < 18446744073709551616 := by
  unfold rndN
  have h3 : U / 4 % 2 ≤ 1 := by omega
  rw [Nat.mod_eq_of_lt (show U + 1 + U / 4 % 2 < 18446744073709551616 by omega)]
  omega
theorem w64_small (a : Int) (h0 : 0 ≤ a) (h1 : a ≤ 100) : wrap64 a = a := by unfold wrap64; omega
theorem wu_small (a : Nat) (h : a < 18446744073709551616) : IntKind.u64.wrap (a : Int) = (a : Int) := by rw [IntKind.wrap_u64]; omega
theorem wi_small (a : Nat) (h : a < 9223372036854775808) : IntKind.i64.wrap (a : Int) = (a : Int) := by rw [IntKind.wrap_i64]; omega
theorem wayC {m k : Nat} (hm2 : m < 18446744073709551616) (a2 : k ≤ 62) : ∃ K qk : Nat, 2 ^ k = K ∧ m / 2 ^ (k + 1) = qk ∧ (2 : Int) ^ k = (K : Int) ∧ (m : Int) / 2 ^ (k + 1) = (qk : Int) ∧ K ≤ 4611686018427387904 ∧ IntKind.u64.wrap (K : Int) = (K : Int) ∧ wrap64 (k : Int) = (k : Int) ∧ wrap64 ((k : Int) + 1) = (k : Int) + 1 ∧ (k : Int) ≤ 64 ∧ (k : Int) + 1 ≤ 64 ∧ (0 : Int) ≤ (k : Int) + 1 ∧ ((k : Int) + 1).toNat = k + 1 ∧ IntKind.i64.wrap (qk : Int) = (qk : Int) ∧ bits .and .i64 (qk : Int) 1 = ((qk % 2 : Nat) : Int) := by
  have hKl : 2 ^ k ≤ 4611686018427387904 := by
    have h62 : 2 ^ k ≤ 2 ^ 62 := Nat.pow_le_pow_right (by omega) a2
    exact h62
  have h2 : 2 ≤ 2 ^ (k + 1) := by rw [Nat.pow_succ]; have := pow_pos k; omega
  have hq : m / 2 ^ (k + 1) ≤ m / 2 := Nat.div_le_div_left h2 (by omega)
  refine ⟨2 ^ k, m / 2 ^ (k + 1), rfl, rfl, by simp, by simp, hKl, ?_, ?_, ?_, by omega, by omega, by omega, by omega, ?_, ?_⟩
  · exact wu_small _ (by omega)
  · exact w64_small _ (by omega) (by omega)
  · exact w64_small _ (by omega) (by omega)
  · exact wi_small _ (by omega)
  · have h := i64_and_nat (m / 2 ^ (k + 1)) 1 (by omega) (by omega)
    rw [show (1 : Nat) = 2 ^ 1 - 1 from rfl, Nat.and_two_pow_sub_one_eq_mod] at h
    rw [show ((2 ^ 1 - 1 : Nat) : Int) = 1 from rfl, show (2 : Nat) ^ 1 = 2 from rfl] at h
    exact h
/-- The three ways to begin. -/
structure ShortWay (m : Nat) (e P : Int) (mn mx o : Nat) : Prop where
  way : (m = 9223372036854775808 ∧ -1085 < e ∧ P = -(((e + 11) * 631305 - 261663) / 2097152) ∧ mn + 512 = m ∧ mx = m + 1024 ∧ o = 0) ∨
    ((m ≠ 9223372036854775808 ∨ e = -1085) ∧ -1085 ≤ e ∧ P = -((e + 11) * 78913 / 262144) ∧ mn + 1024 = m ∧ mx = m + 1024 ∧ o = m / 2048 % 2) ∨
    (e < -1085 ∧ ∃ k : Nat, k ≤ 62 ∧ e + ((k : Int) + 1) = -1074 ∧ P = 324 ∧ mn + 2 ^ k = m ∧ mx = m + 2 ^ k ∧ o = m / 2 ^ (k + 1) % 2)

set_option maxHeartbeats 12800000 in
theorem short_any (m : Nat) (e P : Int) (mn mx o : Nat) (hw : ShortWay m e P mn mx o) (hm1 : 9223372036854775808 ≤ m) (hm2 : m < 18446744073709551616) (hmx : mx < 18446744073709551616) (hmn : 4611686018427387904 ≤ mn) (he0 : -1137 ≤ e) (he1 : e ≤ 960)
    (i s : Nat) (hi : P + 348 = (i : Int)) (hi2 : i < 696) (hs : -(e + P * 108853 / 32768 + 3) = (s : Int)) (hs1 : 1 ≤ s) (hs2 : s ≤ 58) :
    ∃ (d : Nat) (p : Int), 1 ≤ d ∧ d < 18446744073709551616 ∧ -400 ≤ p ∧ p ≤ 400 ∧ ∀ w, PowAll w → Calls Tryz.prog 104 #[.int .u64 (m : Int), .int .i64 e] w (fun r w' => r = .returned (.tuple #[.int .u64 (d : Int), .int .i64 p]) ∧ Below w.heap.size w w') := by
  obtain ⟨hh, hh1, hl⟩ := pe_ok i hi2
  obtain ⟨h, hhe⟩ : ∃ h, (pe i).1 = h := ⟨_, rfl⟩
  obtain ⟨l, hle⟩ : ∃ l, (pe i).2 = l := ⟨_, rfl⟩
  rw [hhe] at hh hh1
  rw [hle] at hl
  have hmn2 : mn ≤ m := by
    rcases hw.way with h | h | ⟨-, k, -, -, -, h, -⟩
    · omega
    · omega
    · have := pow_pos k; omega
  have ho1 : o ≤ 1 := by
    rcases hw.way with h | h | ⟨-, k, -, -, -, -, -, h⟩ <;> omega
  have g1 : 2 ^ 61 ≤ mn * h / 18446744073709551616 := mul_hi (a := 62) (b := 63) (by omega) (by omega) (by omega)
  have g2 : 2 ^ 62 ≤ m * h / 18446744073709551616 := mul_hi (a := 63) (b := 63) (by omega) (by omega) (by omega)
  have g3 : 2 ^ 62 ≤ mx * h / 18446744073709551616 := mul_hi (a := 63) (b := 63) (by
    rcases hw.way with h | h | ⟨-, k, -, -, -, -, h, -⟩
    · omega
    · omega
    · have := pow_pos k; omega) (by omega) (by omega)
  have u1 := uscN_ge mn h l s (by omega) hl hh (by omega)
  have u1l := uscN_le mn h l s (by omega) hh hs1 (by omega)
  have u2 := uscN_big m h l s hm2 hh (by
    refine (Nat.le_div_iff_mul_le (pow_pos s)).2 ?_
    have : 2 ^ s ≤ 2 ^ 58 := Nat.pow_le_pow_right (by omega) hs2
    omega) (by omega)
  have u2l := uscN_le m h l s hm2 hh hs1 (by omega)
  have u3l := uscN_le mx h l s hmx hh hs1 (by omega)
  obtain ⟨U1, hU1⟩ : ∃ U, uscN mn h l s = U := ⟨_, rfl⟩
  obtain ⟨U2, hU2⟩ : ∃ U, uscN mx h l s = U := ⟨_, rfl⟩
  obtain ⟨U3, hU3⟩ : ∃ U, uscN m h l s = U := ⟨_, rfl⟩
  rw [hU1] at u1 u1l
  rw [hU3] at u2 u2l
  rw [hU2] at u3l
  obtain ⟨V1, hV1⟩ : ∃ V, (U1 + o) % 18446744073709551616 = V := ⟨_, rfl⟩
  obtain ⟨V2, hV2⟩ : ∃ V, (U2 + 18446744073709551616 - o) % 18446744073709551616 = V := ⟨_, rfl⟩
  obtain ⟨D1, hD1⟩ : ∃ D, (V1 + 3) % 18446744073709551616 / 4 = D := ⟨_, rfl⟩
  obtain ⟨D2, hD2⟩ : ∃ D, V2 / 4 = D := ⟨_, rfl⟩
  obtain ⟨D3, hD3⟩ : ∃ D, rndN U3 = D := ⟨_, rfl⟩
  have d1 : 1 ≤ D1 := by omega
  have d1l : D1 < 18446744073709551616 := by omega
  have d2l : D2 < 4611686018427387904 := by omega
  have d3 : 1 ≤ D3 := by rw [← hD3]; exact (rnd_ge (by omega) u2l).1
  have d3l : D3 < 18446744073709551616 := by rw [← hD3]; exact (rnd_ge (by omega) u2l).2
  have hP0 : -348 ≤ P ∧ P ≤ 347 := by omega
  have hV1l : V1 < 18446744073709551616 := by omega
  have hV2l : V2 < 18446744073709551616 := by omega
  clear g1 g2 g3 u1
  have mkX := fun (d : Nat) (p : Int) (hd : 1 ≤ d ∧ d < 18446744073709551616 ∧ -400 ≤ p ∧ p ≤ 400) (H : ∀ w, PowAll w → Calls Tryz.prog 104 #[.int .u64 (m : Int), .int .i64 e] w (fun r w' => r = .returned (.tuple #[.int .u64 (d : Int), .int .i64 p]) ∧ Below w.heap.size w w')) => (⟨d, p, hd.1, hd.2.1, hd.2.2.1, hd.2.2.2, H⟩ : ∃ (d : Nat) (p : Int), 1 ≤ d ∧ d < 18446744073709551616 ∧ -400 ≤ p ∧ p ≤ 400 ∧ ∀ w, PowAll w → Calls Tryz.prog 104 #[.int .u64 (m : Int), .int .i64 e] w (fun r w' => r = .returned (.tuple #[.int .u64 (d : Int), .int .i64 p]) ∧ Below w.heap.size w w'))
  obtain ⟨X, hX⟩ : ∃ X, D2 / 10 = X := ⟨_, rfl⟩
  obtain ⟨dd, hdd⟩ : ∃ d, (if D1 ≤ X * 10 then X else if D1 < D2 then D3 else D1) = d := ⟨_, rfl⟩
  obtain ⟨pq, hpq⟩ : ∃ p, (if D1 ≤ X * 10 then 1 - P else -P) = p := ⟨_, rfl⟩
  refine mkX dd pq ?_ ?_
  · clear mkX
    rw [← hdd, ← hpq]
    split
    · omega
    · split <;> omega
  clear mkX
  replace hdd := Lib.hid hdd
  replace hpq := Lib.hid hpq
  replace hX := Lib.hid hX
  intro w hpa
  have hsk := fun W => skewed_walk (e + 11) (by omega) (by omega) W
  have hlgz := fun W => log10Pow2_walk (e + 11) (by omega) (by omega) W
  have hlgc := fun W => log10Pow2_walk (-1074) (by omega) (by omega) W
  rw [show (-1074 : Int) * 78913 / 262144 = -324 from by decide] at hlgc
  have w1 : IntKind.i64.wrap (e + 11) = e + 11 := by rw [IntKind.wrap_i64]; omega
  have wmn : ∀ q, mn + q = m → IntKind.u64.wrap ((m : Int) - (q : Int)) = (mn : Int) := fun q hq => by rw [IntKind.wrap_u64]; omega
  have wmx : ∀ q, mx = m + q → IntKind.u64.wrap ((m : Int) + (q : Int)) = (mx : Int) := fun q hq => by rw [IntKind.wrap_u64]; omega
  replace hsk := Lib.hid hsk
  replace hlgz := Lib.hid hlgz
  replace hlgc := Lib.hid hlgc
  replace hhe := Lib.hid hhe
  replace hle := Lib.hid hle
  replace hD1 := Lib.hid hD1
  replace hD2 := Lib.hid hD2
  replace hD3 := Lib.hid hD3
  replace hV1 := Lib.hid hV1
  replace hV2 := Lib.hid hV2
  replace hU1 := Lib.hid hU1
  replace hU2 := Lib.hid hU2
  replace hU3 := Lib.hid hU3
  replace hs := Lib.hid hs
  replace hi := Lib.hid hi
  replace hpa := Lib.hid hpa
  replace wmn := Lib.hid wmn
  replace wmx := Lib.hid wmx
  replace hw := Lib.hid hw
  replace hm1 := Lib.hid hm1
  replace hm2 := Lib.hid hm2
  replace hmx := Lib.hid hmx
  replace hmn := Lib.hid hmn
  replace hh := Lib.hid hh
  replace hh1 := Lib.hid hh1
  replace hl := Lib.hid hl
  replace d1l := Lib.hid d1l
  replace d2l := Lib.hid d2l
  replace d3l := Lib.hid d3l
  replace u1l := Lib.hid u1l
  replace u2l := Lib.hid u2l
  replace u3l := Lib.hid u3l
  replace hV1l := Lib.hid hV1l
  replace hV2l := Lib.hid hV2l
  have hshr : (m : Int) / 2048 = ((m / 2048 : Nat) : Int) := by omega
  obtain ⟨q11, hq11⟩ : ∃ q, m / 2048 = q := ⟨_, rfl⟩
  have hq11l : q11 < 9007199254740992 := by have := hm2.out; omega
  rw [hq11] at hshr
  have wq11 : IntKind.i64.wrap (q11 : Int) = (q11 : Int) := by rw [IntKind.wrap_i64]; omega
  have hand11 := i64_and_nat q11 1 (by omega) (by omega)
  rw [show (1 : Nat) = 2 ^ 1 - 1 from rfl, Nat.and_two_pow_sub_one_eq_mod] at hand11
  rw [show ((2 ^ 1 - 1 : Nat) : Int) = 1 from rfl, show (2 : Nat) ^ 1 = 2 from rfl] at hand11
  rcases hw.out.way with ⟨a1, a2, a3, a4, a5, a6⟩ | ⟨a1, a2, a3, a4, a5, a6⟩ | ⟨a1, k, a2, a3, a4, a5, a6, a7⟩
  · have dm : ((m : Int) == 9223372036854775808) = true := by rw [a1]; rfl
    have de : decide ((-1085 : Int) < e) = true := decide_eq_true a2
    have wP : IntKind.i64.wrap (-(((e + 11) * 631305 - 261663) / 2097152)) = P := by rw [IntKind.wrap_i64]; omega
    have wa : IntKind.u64.wrap ((m : Int) - 512) = (mn : Int) := by have h1 := hm2.out; have h2 := hm1.out; rw [IntKind.wrap_u64]; omega
    have wb : IntKind.u64.wrap ((m : Int) + 1024) = (mx : Int) := by have h1 := hm2.out; have h2 := hmx.out; rw [IntKind.wrap_u64]; omega
    rw [show q11 % 2 = o by omega] at hand11
    replace a1 := Lib.hid a1
    replace hq11 := Lib.hid hq11
    clear a3 a4 a5 a6 hlgz hlgc
    go_enter Tryz.func104, Tryz.ntmps104
    go_wp2_with fail
    refine (hsk.out _).mono ?_
    clear hsk
    rintro ee w1' ⟨rfl, rfl⟩
    dsimp only
    go_upto_region 27 with (fail)
    have hpp := (hpa.out.2 i hi2)
    rw [hhe.out, hle.out] at hpp
    have hg := hpa.out.1
    have hbx := Blk.new w1' 130 #[.int .u64 0, .int .u64 0, .int .i64 0]
    have hb0 := (Below.refl w1'.heap.size w1').alloc (Nat.le_refl _) (.cells #[.int .u64 0, .int .u64 0, .int .i64 0] 130)
    have hp0 := hpp.below hb0 hg
    obtain ⟨y, hy⟩ : ∃ y, w1'.heap.size = y := ⟨_, rfl⟩
    rw [hy] at hbx hg
    replace hy := Lib.hid hy
    have hlg := fun W => log2Pow10_walk P (by omega) (by omega) W
    obtain ⟨LP, hLP⟩ : ∃ LP, P * 108853 / 32768 = LP := ⟨_, rfl⟩
    have hs' := hs.out
    rw [hLP] at hlg hs'
    have hLP0 : -2000 ≤ LP ∧ LP ≤ 2000 := by omega
    replace hlg := Lib.hid hlg
    replace hLP := Lib.hid hLP
    replace hpp := Lib.hid hpp
    go_upto_region 28 with (fail)
    try rw [hy.out]
    generalize w1'.alloc (.cells #[.int .u64 0, .int .u64 0, .int .i64 0] 130) = w2 at *
    have hyB : w1'.heap.size ≤ y := by rw [hy.out]; exact Nat.le_refl _
    clear hy
    go_wp2_with fail
    refine (hlg.out _).mono ?_
    clear hlg
    rintro e2 w3 ⟨rfl, rfl⟩
    dsimp only
    have hps := prescale_walk y i h l e P LP s _ _ _ w3 hbx hg hi.out hi2 hp0 (by omega) (by omega) (by omega) (by omega) hs'
    clear hs'
    replace hps := Lib.hid hps
    go_wp2_with fail
    refine hps.out.mono ?_
    clear hps
    rintro e3 w4 ⟨rfl, hb4, hq4⟩
    dsimp only
    have hb04 := Below.trans hb0 (hb4.mono hyB)
    clear hb0 hb4 hbx hp0 hpp
    have c0 := hq4.cell 0
    have c1 := hq4.cell 1
    have c2 := hq4.cell 2
    have hu1 := uscale_walk mn h l s y w4 (Nat.lt_of_le_of_lt hmn2 hm2.out) hh.out hl.out (by omega) c0 c1 c2
    rw [hU1.out] at hu1
    replace hu1 := Lib.hid hu1
    go_wp2_with fail
    refine hu1.out.mono ?_
    clear hu1 c0 c1 c2
    rintro e4 w5 ⟨rfl, hb5⟩
    dsimp only
    have hq5 := hq4.below hb5 hq4.lt
    have hb05 := Below.trans hb04 (hb5.mono (Nat.le_trans (by omega) hb04.size))
    clear hb5 hq4 hb04
    have hn1 := fun W => nudgeUp U1 o (Nat.lt_of_le_of_lt u1l.out (by omega)) ho1 W
    have hn2 := fun W => nudgeDown U2 o (Nat.lt_of_le_of_lt u3l.out (by omega)) ho1 W
    rw [hV1.out] at hn1
    rw [hV2.out] at hn2
    have hc1 := fun W => ceilN V1 D1 hD1.out W
    have hf2 := fun W => floorN V2 D2 hV2l.out hD2.out W
    have c0 := hq5.cell 0
    have c1 := hq5.cell 1
    have c2 := hq5.cell 2
    have hu2 := uscale_walk mx h l s y w5 hmx.out hh.out hl.out (by omega) c0 c1 c2
    rw [hU2.out] at hu2
    replace hu2 := Lib.hid hu2
    replace hn1 := Lib.hid hn1
    replace hn2 := Lib.hid hn2
    replace hc1 := Lib.hid hc1
    replace hf2 := Lib.hid hf2
    have wno : IntKind.i64.wrap (-(o : Int)) = -(o : Int) := by rw [IntKind.wrap_i64]; omega
    go_wp2_with fail
    refine (hn1.out _).mono ?_
    clear hn1
    rintro e5 w6 ⟨rfl, rfl⟩
    dsimp only
    go_wp2_with fail
    refine (hc1.out _).mono ?_
    clear hc1
    rintro e6 w7 ⟨rfl, rfl⟩
    dsimp only
    go_wp2_with fail
    refine hu2.out.mono ?_
    clear hu2 c0 c1 c2
    rintro e7 w8 ⟨rfl, hb8⟩
    dsimp only
    have hq8 := hq5.below hb8 hq5.lt
    have hb08 := Below.trans hb05 (hb8.mono (Nat.le_trans (by omega) hb05.size))
    clear hb8 hq5 hb05
    have c0 := hq8.cell 0
    have c1 := hq8.cell 1
    have c2 := hq8.cell 2
    have hu3 := uscale_walk m h l s y w8 hm2.out hh.out hl.out (by omega) c0 c1 c2
    rw [hU3.out] at hu3
    have hrd := fun W => round_walk U3 (Nat.lt_of_le_of_lt u2l.out (by omega)) W
    rw [hD3.out] at hrd
    replace hu3 := Lib.hid hu3
    replace hrd := Lib.hid hrd
    have hXi : (D2 : Int) / 10 = (X : Int) := by have := hX.out; omega
    have hXt : Int.tdiv (D2 : Int) 10 = (X : Int) := by rw [Int.tdiv_eq_ediv_of_nonneg (by omega)]; exact hXi
    have d2l' := d2l.out
    have hXl : X < 461168601842738791 := by have := hX.out; omega
    have hX10 : IntKind.u64.wrap ((X : Int) * 10) = (X : Int) * 10 := by rw [IntKind.wrap_u64]; omega
    have hXw : IntKind.u64.wrap (X : Int) = (X : Int) := wu_small X (by omega)
    clear d2l'
    have w3' : IntKind.i64.wrap (P - 1) = P - 1 := by rw [IntKind.wrap_i64]; omega
    have w4' : IntKind.i64.wrap (-(P - 1)) = -(P - 1) := by rw [IntKind.wrap_i64]; omega
    have w5' : IntKind.i64.wrap (-P) = -P := by rw [IntKind.wrap_i64]; omega
    have w6' : IntKind.i64.wrap (1 - P) = 1 - P := by rw [IntKind.wrap_i64]; omega
    have w7' : -(P - 1) = 1 - P := by omega
    go_wp2_with fail
    refine (hn2.out _).mono ?_
    clear hn2
    rintro e9 w9 ⟨rfl, rfl⟩
    dsimp only
    go_wp2_with fail
    refine (hf2.out _).mono ?_
    clear hf2
    rintro e10 w10 ⟨rfl, rfl⟩
    dsimp only
    by_cases hge : D1 ≤ X * 10
    · have hgeD : decide ((D1 : Int) ≤ (X : Int) * 10) = true := decide_eq_true (by omega)
      replace hge := Lib.hid hge
      go_wp2_with fail
      go_ret2
      exact ⟨by rw [← hdd.out, ← hpq.out, if_pos hge.out, if_pos hge.out]; rfl, hb08⟩
    · have hgeD : decide ((D1 : Int) ≤ (X : Int) * 10) = false := decide_eq_false (by omega)
      replace hge := Lib.hid hge
      by_cases hlt : D1 < D2
      · have hltD : decide ((D1 : Int) < (D2 : Int)) = true := decide_eq_true (by omega)
        have hltD' : decide (D1 < D2) = true := decide_eq_true hlt
        replace hlt := Lib.hid hlt
        go_wp2_with fail
        refine hu3.out.mono ?_
        clear hu3 c0 c1 c2
        rintro e11 w11 ⟨rfl, hb11⟩
        dsimp only
        go_wp2_with fail
        refine (hrd.out _).mono ?_
        rintro e12 w12 ⟨rfl, rfl⟩
        dsimp only
        go_wp2_with fail
        go_ret2
        exact ⟨by rw [← hdd.out, ← hpq.out, if_neg hge.out, if_neg hge.out, if_pos hlt.out]; rfl, Below.trans hb08 (hb11.mono (Nat.le_trans (by omega) hb08.size))⟩
      · have hltD : decide ((D1 : Int) < (D2 : Int)) = false := decide_eq_false (by omega)
        have hltD' : decide (D1 < D2) = false := decide_eq_false hlt
        replace hlt := Lib.hid hlt
        go_wp2_with fail
        go_ret2
        exact ⟨by rw [← hdd.out, ← hpq.out, if_neg hge.out, if_neg hge.out, if_neg hlt.out]; rfl, hb08⟩
  · have wP : IntKind.i64.wrap (-((e + 11) * 78913 / 262144)) = P := by rw [IntKind.wrap_i64]; omega
    have wa : IntKind.u64.wrap ((m : Int) - 1024) = (mn : Int) := by have h1 := hm2.out; have h2 := hm1.out; rw [IntKind.wrap_u64]; omega
    have wb : IntKind.u64.wrap ((m : Int) + 1024) = (mx : Int) := by have h1 := hm2.out; have h2 := hmx.out; rw [IntKind.wrap_u64]; omega
    have de : decide ((-1085 : Int) ≤ e) = true := decide_eq_true a2
    rw [show q11 % 2 = o from by rw [a6, hq11]] at hand11
    replace hq11 := Lib.hid hq11
    clear a3 a4 a5 a6 hsk hlgc
    go_enter Tryz.func104, Tryz.ntmps104
    by_cases hme : m = 9223372036854775808
    · have dm : ((m : Int) == 9223372036854775808) = true := by rw [hme]; rfl
      have de2 : decide ((-1085 : Int) < e) = false := decide_eq_false (by omega)
      replace hme := Lib.hid hme
      replace a1 := Lib.hid a1
      go_wp2_with fail
      refine (hlgz.out _).mono ?_
      clear hlgz
      rintro ee w1' ⟨rfl, rfl⟩
      dsimp only
      go_upto_region 27 with (fail)
      have hpp := (hpa.out.2 i hi2)
      rw [hhe.out, hle.out] at hpp
      have hg := hpa.out.1
      have hbx := Blk.new w1' 130 #[.int .u64 0, .int .u64 0, .int .i64 0]
      have hb0 := (Below.refl w1'.heap.size w1').alloc (Nat.le_refl _) (.cells #[.int .u64 0, .int .u64 0, .int .i64 0] 130)
      have hp0 := hpp.below hb0 hg
      obtain ⟨y, hy⟩ : ∃ y, w1'.heap.size = y := ⟨_, rfl⟩
      rw [hy] at hbx hg
      replace hy := Lib.hid hy
      have hlg := fun W => log2Pow10_walk P (by omega) (by omega) W
      obtain ⟨LP, hLP⟩ : ∃ LP, P * 108853 / 32768 = LP := ⟨_, rfl⟩
      have hs' := hs.out
      rw [hLP] at hlg hs'
      have hLP0 : -2000 ≤ LP ∧ LP ≤ 2000 := by omega
      replace hlg := Lib.hid hlg
      replace hLP := Lib.hid hLP
      replace hpp := Lib.hid hpp
      go_upto_region 28 with (fail)
      try rw [hy.out]
      generalize w1'.alloc (.cells #[.int .u64 0, .int .u64 0, .int .i64 0] 130) = w2 at *
      have hyB : w1'.heap.size ≤ y := by rw [hy.out]; exact Nat.le_refl _
      clear hy
      go_wp2_with fail
      refine (hlg.out _).mono ?_
      clear hlg
      rintro e2 w3 ⟨rfl, rfl⟩
      dsimp only
      have hps := prescale_walk y i h l e P LP s _ _ _ w3 hbx hg hi.out hi2 hp0 (by omega) (by omega) (by omega) (by omega) hs'
      clear hs'
      replace hps := Lib.hid hps
      go_wp2_with fail
      refine hps.out.mono ?_
      clear hps
      rintro e3 w4 ⟨rfl, hb4, hq4⟩
      dsimp only
      have hb04 := Below.trans hb0 (hb4.mono hyB)
      clear hb0 hb4 hbx hp0 hpp
      have c0 := hq4.cell 0
      have c1 := hq4.cell 1
      have c2 := hq4.cell 2
      have hu1 := uscale_walk mn h l s y w4 (Nat.lt_of_le_of_lt hmn2 hm2.out) hh.out hl.out (by omega) c0 c1 c2
      rw [hU1.out] at hu1
      replace hu1 := Lib.hid hu1
      go_wp2_with fail
      refine hu1.out.mono ?_
      clear hu1 c0 c1 c2
      rintro e4 w5 ⟨rfl, hb5⟩
      dsimp only
      have hq5 := hq4.below hb5 hq4.lt
      have hb05 := Below.trans hb04 (hb5.mono (Nat.le_trans (by omega) hb04.size))
      clear hb5 hq4 hb04
      have hn1 := fun W => nudgeUp U1 o (Nat.lt_of_le_of_lt u1l.out (by omega)) ho1 W
      have hn2 := fun W => nudgeDown U2 o (Nat.lt_of_le_of_lt u3l.out (by omega)) ho1 W
      rw [hV1.out] at hn1
      rw [hV2.out] at hn2
      have hc1 := fun W => ceilN V1 D1 hD1.out W
      have hf2 := fun W => floorN V2 D2 hV2l.out hD2.out W
      have c0 := hq5.cell 0
      have c1 := hq5.cell 1
      have c2 := hq5.cell 2
      have hu2 := uscale_walk mx h l s y w5 hmx.out hh.out hl.out (by omega) c0 c1 c2
      rw [hU2.out] at hu2
      replace hu2 := Lib.hid hu2
      replace hn1 := Lib.hid hn1
      replace hn2 := Lib.hid hn2
      replace hc1 := Lib.hid hc1
      replace hf2 := Lib.hid hf2
      have wno : IntKind.i64.wrap (-(o : Int)) = -(o : Int) := by rw [IntKind.wrap_i64]; omega
      go_wp2_with fail
      refine (hn1.out _).mono ?_
      clear hn1
      rintro e5 w6 ⟨rfl, rfl⟩
      dsimp only
      go_wp2_with fail
      refine (hc1.out _).mono ?_
      clear hc1
      rintro e6 w7 ⟨rfl, rfl⟩
      dsimp only
      go_wp2_with fail
      refine hu2.out.mono ?_
      clear hu2 c0 c1 c2
      rintro e7 w8 ⟨rfl, hb8⟩
      dsimp only
      have hq8 := hq5.below hb8 hq5.lt
      have hb08 := Below.trans hb05 (hb8.mono (Nat.le_trans (by omega) hb05.size))
      clear hb8 hq5 hb05
      have c0 := hq8.cell 0
      have c1 := hq8.cell 1
      have c2 := hq8.cell 2
      have hu3 := uscale_walk m h l s y w8 hm2.out hh.out hl.out (by omega) c0 c1 c2
      rw [hU3.out] at hu3
      have hrd := fun W => round_walk U3 (Nat.lt_of_le_of_lt u2l.out (by omega)) W
      rw [hD3.out] at hrd
      replace hu3 := Lib.hid hu3
      replace hrd := Lib.hid hrd
      have hXi : (D2 : Int) / 10 = (X : Int) := by have := hX.out; omega
      have hXt : Int.tdiv (D2 : Int) 10 = (X : Int) := by rw [Int.tdiv_eq_ediv_of_nonneg (by omega)]; exact hXi
      have d2l' := d2l.out
      have hXl : X < 461168601842738791 := by have := hX.out; omega
      have hX10 : IntKind.u64.wrap ((X : Int) * 10) = (X : Int) * 10 := by rw [IntKind.wrap_u64]; omega
      have hXw : IntKind.u64.wrap (X : Int) = (X : Int) := wu_small X (by omega)
      clear d2l'
      have w3' : IntKind.i64.wrap (P - 1) = P - 1 := by rw [IntKind.wrap_i64]; omega
      have w4' : IntKind.i64.wrap (-(P - 1)) = -(P - 1) := by rw [IntKind.wrap_i64]; omega
      have w5' : IntKind.i64.wrap (-P) = -P := by rw [IntKind.wrap_i64]; omega
      have w6' : IntKind.i64.wrap (1 - P) = 1 - P := by rw [IntKind.wrap_i64]; omega
      have w7' : -(P - 1) = 1 - P := by omega
      go_wp2_with fail
      refine (hn2.out _).mono ?_
      clear hn2
      rintro e9 w9 ⟨rfl, rfl⟩
      dsimp only
      go_wp2_with fail
      refine (hf2.out _).mono ?_
      clear hf2
      rintro e10 w10 ⟨rfl, rfl⟩
      dsimp only
      by_cases hge : D1 ≤ X * 10
      · have hgeD : decide ((D1 : Int) ≤ (X : Int) * 10) = true := decide_eq_true (by omega)
        replace hge := Lib.hid hge
        go_wp2_with fail
        go_ret2
        exact ⟨by rw [← hdd.out, ← hpq.out, if_pos hge.out, if_pos hge.out]; rfl, hb08⟩
      · have hgeD : decide ((D1 : Int) ≤ (X : Int) * 10) = false := decide_eq_false (by omega)
        replace hge := Lib.hid hge
        by_cases hlt : D1 < D2
        · have hltD : decide ((D1 : Int) < (D2 : Int)) = true := decide_eq_true (by omega)
          have hltD' : decide (D1 < D2) = true := decide_eq_true hlt
          replace hlt := Lib.hid hlt
          go_wp2_with fail
          refine hu3.out.mono ?_
          clear hu3 c0 c1 c2
          rintro e11 w11 ⟨rfl, hb11⟩
          dsimp only
          go_wp2_with fail
          refine (hrd.out _).mono ?_
          rintro e12 w12 ⟨rfl, rfl⟩
          dsimp only
          go_wp2_with fail
          go_ret2
          exact ⟨by rw [← hdd.out, ← hpq.out, if_neg hge.out, if_neg hge.out, if_pos hlt.out]; rfl, Below.trans hb08 (hb11.mono (Nat.le_trans (by omega) hb08.size))⟩
        · have hltD : decide ((D1 : Int) < (D2 : Int)) = false := decide_eq_false (by omega)
          have hltD' : decide (D1 < D2) = false := decide_eq_false hlt
          replace hlt := Lib.hid hlt
          go_wp2_with fail
          go_ret2
          exact ⟨by rw [← hdd.out, ← hpq.out, if_neg hge.out, if_neg hge.out, if_neg hlt.out]; rfl, hb08⟩
    · have dm : ((m : Int) == 9223372036854775808) = false := by rw [beq_eq_false_iff_ne]; omega
      replace hme := Lib.hid hme
      replace a1 := Lib.hid a1
      go_wp2_with fail
      refine (hlgz.out _).mono ?_
      clear hlgz
      rintro ee w1' ⟨rfl, rfl⟩
      dsimp only
      go_upto_region 27 with (fail)
      have hpp := (hpa.out.2 i hi2)
      rw [hhe.out, hle.out] at hpp
      have hg := hpa.out.1
      have hbx := Blk.new w1' 130 #[.int .u64 0, .int .u64 0, .int .i64 0]
      have hb0 := (Below.refl w1'.heap.size w1').alloc (Nat.le_refl _) (.cells #[.int .u64 0, .int .u64 0, .int .i64 0] 130)
      have hp0 := hpp.below hb0 hg
      obtain ⟨y, hy⟩ : ∃ y, w1'.heap.size = y := ⟨_, rfl⟩
      rw [hy] at hbx hg
      replace hy := Lib.hid hy
      have hlg := fun W => log2Pow10_walk P (by omega) (by omega) W
      obtain ⟨LP, hLP⟩ : ∃ LP, P * 108853 / 32768 = LP := ⟨_, rfl⟩
      have hs' := hs.out
      rw [hLP] at hlg hs'
      have hLP0 : -2000 ≤ LP ∧ LP ≤ 2000 := by omega
      replace hlg := Lib.hid hlg
      replace hLP := Lib.hid hLP
      replace hpp := Lib.hid hpp
      go_upto_region 28 with (fail)
      try rw [hy.out]
      generalize w1'.alloc (.cells #[.int .u64 0, .int .u64 0, .int .i64 0] 130) = w2 at *
      have hyB : w1'.heap.size ≤ y := by rw [hy.out]; exact Nat.le_refl _
      clear hy
      go_wp2_with fail
      refine (hlg.out _).mono ?_
      clear hlg
      rintro e2 w3 ⟨rfl, rfl⟩
      dsimp only
      have hps := prescale_walk y i h l e P LP s _ _ _ w3 hbx hg hi.out hi2 hp0 (by omega) (by omega) (by omega) (by omega) hs'
      clear hs'
      replace hps := Lib.hid hps
      go_wp2_with fail
      refine hps.out.mono ?_
      clear hps
      rintro e3 w4 ⟨rfl, hb4, hq4⟩
      dsimp only
      have hb04 := Below.trans hb0 (hb4.mono hyB)
      clear hb0 hb4 hbx hp0 hpp
      have c0 := hq4.cell 0
      have c1 := hq4.cell 1
      have c2 := hq4.cell 2
      have hu1 := uscale_walk mn h l s y w4 (Nat.lt_of_le_of_lt hmn2 hm2.out) hh.out hl.out (by omega) c0 c1 c2
      rw [hU1.out] at hu1
      replace hu1 := Lib.hid hu1
      go_wp2_with fail
      refine hu1.out.mono ?_
      clear hu1 c0 c1 c2
      rintro e4 w5 ⟨rfl, hb5⟩
      dsimp only
      have hq5 := hq4.below hb5 hq4.lt
      have hb05 := Below.trans hb04 (hb5.mono (Nat.le_trans (by omega) hb04.size))
      clear hb5 hq4 hb04
      have hn1 := fun W => nudgeUp U1 o (Nat.lt_of_le_of_lt u1l.out (by omega)) ho1 W
      have hn2 := fun W => nudgeDown U2 o (Nat.lt_of_le_of_lt u3l.out (by omega)) ho1 W
      rw [hV1.out] at hn1
      rw [hV2.out] at hn2
      have hc1 := fun W => ceilN V1 D1 hD1.out W
      have hf2 := fun W => floorN V2 D2 hV2l.out hD2.out W
      have c0 := hq5.cell 0
      have c1 := hq5.cell 1
      have c2 := hq5.cell 2
      have hu2 := uscale_walk mx h l s y w5 hmx.out hh.out hl.out (by omega) c0 c1 c2
      rw [hU2.out] at hu2
      replace hu2 := Lib.hid hu2
      replace hn1 := Lib.hid hn1
      replace hn2 := Lib.hid hn2
      replace hc1 := Lib.hid hc1
      replace hf2 := Lib.hid hf2
      have wno : IntKind.i64.wrap (-(o : Int)) = -(o : Int) := by rw [IntKind.wrap_i64]; omega
      go_wp2_with fail
      refine (hn1.out _).mono ?_
      clear hn1
      rintro e5 w6 ⟨rfl, rfl⟩
      dsimp only
      go_wp2_with fail
      refine (hc1.out _).mono ?_
      clear hc1
      rintro e6 w7 ⟨rfl, rfl⟩
      dsimp only
      go_wp2_with fail
      refine hu2.out.mono ?_
      clear hu2 c0 c1 c2
      rintro e7 w8 ⟨rfl, hb8⟩
      dsimp only
      have hq8 := hq5.below hb8 hq5.lt
      have hb08 := Below.trans hb05 (hb8.mono (Nat.le_trans (by omega) hb05.size))
      clear hb8 hq5 hb05
      have c0 := hq8.cell 0
      have c1 := hq8.cell 1
      have c2 := hq8.cell 2
      have hu3 := uscale_walk m h l s y w8 hm2.out hh.out hl.out (by omega) c0 c1 c2
      rw [hU3.out] at hu3
      have hrd := fun W => round_walk U3 (Nat.lt_of_le_of_lt u2l.out (by omega)) W
      rw [hD3.out] at hrd
      replace hu3 := Lib.hid hu3
      replace hrd := Lib.hid hrd
      have hXi : (D2 : Int) / 10 = (X : Int) := by have := hX.out; omega
      have hXt : Int.tdiv (D2 : Int) 10 = (X : Int) := by rw [Int.tdiv_eq_ediv_of_nonneg (by omega)]; exact hXi
      have d2l' := d2l.out
      have hXl : X < 461168601842738791 := by have := hX.out; omega
      have hX10 : IntKind.u64.wrap ((X : Int) * 10) = (X : Int) * 10 := by rw [IntKind.wrap_u64]; omega
      have hXw : IntKind.u64.wrap (X : Int) = (X : Int) := wu_small X (by omega)
      clear d2l'
      have w3' : IntKind.i64.wrap (P - 1) = P - 1 := by rw [IntKind.wrap_i64]; omega
      have w4' : IntKind.i64.wrap (-(P - 1)) = -(P - 1) := by rw [IntKind.wrap_i64]; omega
      have w5' : IntKind.i64.wrap (-P) = -P := by rw [IntKind.wrap_i64]; omega
      have w6' : IntKind.i64.wrap (1 - P) = 1 - P := by rw [IntKind.wrap_i64]; omega
      have w7' : -(P - 1) = 1 - P := by omega
      go_wp2_with fail
      refine (hn2.out _).mono ?_
      clear hn2
      rintro e9 w9 ⟨rfl, rfl⟩
      dsimp only
      go_wp2_with fail
      refine (hf2.out _).mono ?_
      clear hf2
      rintro e10 w10 ⟨rfl, rfl⟩
      dsimp only
      by_cases hge : D1 ≤ X * 10
      · have hgeD : decide ((D1 : Int) ≤ (X : Int) * 10) = true := decide_eq_true (by omega)
        replace hge := Lib.hid hge
        go_wp2_with fail
        go_ret2
        exact ⟨by rw [← hdd.out, ← hpq.out, if_pos hge.out, if_pos hge.out]; rfl, hb08⟩
      · have hgeD : decide ((D1 : Int) ≤ (X : Int) * 10) = false := decide_eq_false (by omega)
        replace hge := Lib.hid hge
        by_cases hlt : D1 < D2
        · have hltD : decide ((D1 : Int) < (D2 : Int)) = true := decide_eq_true (by omega)
          have hltD' : decide (D1 < D2) = true := decide_eq_true hlt
          replace hlt := Lib.hid hlt
          go_wp2_with fail
          refine hu3.out.mono ?_
          clear hu3 c0 c1 c2
          rintro e11 w11 ⟨rfl, hb11⟩
          dsimp only
          go_wp2_with fail
          refine (hrd.out _).mono ?_
          rintro e12 w12 ⟨rfl, rfl⟩
          dsimp only
          go_wp2_with fail
          go_ret2
          exact ⟨by rw [← hdd.out, ← hpq.out, if_neg hge.out, if_neg hge.out, if_pos hlt.out]; rfl, Below.trans hb08 (hb11.mono (Nat.le_trans (by omega) hb08.size))⟩
        · have hltD : decide ((D1 : Int) < (D2 : Int)) = false := decide_eq_false (by omega)
          have hltD' : decide (D1 < D2) = false := decide_eq_false hlt
          replace hlt := Lib.hid hlt
          go_wp2_with fail
          go_ret2
          exact ⟨by rw [← hdd.out, ← hpq.out, if_neg hge.out, if_neg hge.out, if_neg hlt.out]; rfl, hb08⟩
  · have dm2 : decide ((-1085 : Int) < e) = false := decide_eq_false (by omega)
    have de : decide ((-1085 : Int) ≤ e) = false := decide_eq_false (by omega)
    have wz1 : IntKind.i64.wrap (-1085 - e) = -1085 - e := by rw [IntKind.wrap_i64]; omega
    have wz2 : IntKind.i64.wrap (11 + (-1085 - e)) = (k : Int) + 1 := by rw [IntKind.wrap_i64]; omega
    have wz3 : IntKind.i64.wrap (e + ((k : Int) + 1)) = -1074 := by rw [IntKind.wrap_i64]; omega
    obtain ⟨K, qk, hK, hqk, hKi, hqki, hKl, wK, wk0, wk1, hk64, hk65, hk00, hkn, wqk, handk⟩ := wayC hm2.out a2
    rw [hK] at a5 a6
    have wa := wmn.out K a5
    have wb := wmx.out K a6
    rw [show qk % 2 = o by rw [a7, hqk]] at handk
    have hshl : IntKind.u64.wrap ((2 : Int) ^ min k 64) = (K : Int) := by rw [show min k 64 = k from Nat.min_eq_left (Nat.le_trans a2 (by decide)), hKi, wK]
    have hshk : ∀ W, (Op.shift .shr .u64 (m : Int) .i64 ((k : Int) + 1)).run Tryz.prog W = .ok (.int .u64 (qk : Int)) W := fun W => by
      rw [shift_shr .u64 .i64 (m : Int) ((k : Int) + 1) hk00 hk65, hkn, hqki]
      rfl
    clear hk64 hk65 hk00 hkn hKi hqki wK
    replace a4 := Lib.hid a4
    replace hK := Lib.hid hK
    replace hqk := Lib.hid hqk
    replace hq11 := Lib.hid hq11
    have dm : ((m : Int) == 9223372036854775808) = true ∨ ((m : Int) == 9223372036854775808) = false := by cases ((m : Int) == 9223372036854775808) <;> simp
    go_enter Tryz.func104, Tryz.ntmps104
    have w324 : IntKind.i64.wrap (- -324) = P := by rw [a4.out]; decide
    have w324' : IntKind.i64.wrap 324 = P := by rw [a4.out]; decide
    clear a2 a3 a5 a6 a7 hsk hlgz hshr hq11l wq11 hand11 hKl w1
    have SAVE := Lib.hid (And.intro he0 (And.intro he1 (And.intro hi2 (And.intro hs1 (And.intro hs2 (And.intro hP0 (And.intro hmn2 (And.intro ho1 (And.intro d1 (And.intro d3 u2))))))))))
    clear he0 he1 hi2 hs1 hs2 hP0 hmn2 ho1 d1 d3 u2 a1
    rcases dm with dm | dm
    · go_wp2_with fail
      refine (hlgc.out _).mono ?_
      clear hlgc
      rintro ee w1' ⟨rfl, rfl⟩
      dsimp only
      go_upto_region 27 with (fail)
      obtain ⟨he0, he1, hi2, hs1, hs2, hP0, hmn2, ho1, d1, d3, u2⟩ := SAVE.out
      clear hshl hshk wa wb wz1 wz2 wz3 wk0 wk1 wqk handk
      have hpp := (hpa.out.2 i hi2)
      rw [hhe.out, hle.out] at hpp
      have hg := hpa.out.1
      have hbx := Blk.new w1' 130 #[.int .u64 0, .int .u64 0, .int .i64 0]
      have hb0 := (Below.refl w1'.heap.size w1').alloc (Nat.le_refl _) (.cells #[.int .u64 0, .int .u64 0, .int .i64 0] 130)
      have hp0 := hpp.below hb0 hg
      obtain ⟨y, hy⟩ : ∃ y, w1'.heap.size = y := ⟨_, rfl⟩
      rw [hy] at hbx hg
      replace hy := Lib.hid hy
      have hlg := fun W => log2Pow10_walk P (by omega) (by omega) W
      obtain ⟨LP, hLP⟩ : ∃ LP, P * 108853 / 32768 = LP := ⟨_, rfl⟩
      have hs' := hs.out
      rw [hLP] at hlg hs'
      have hLP0 : -2000 ≤ LP ∧ LP ≤ 2000 := by omega
      replace hlg := Lib.hid hlg
      replace hLP := Lib.hid hLP
      replace hpp := Lib.hid hpp
      go_upto_region 28 with (fail)
      try rw [hy.out]
      generalize w1'.alloc (.cells #[.int .u64 0, .int .u64 0, .int .i64 0] 130) = w2 at *
      have hyB : w1'.heap.size ≤ y := by rw [hy.out]; exact Nat.le_refl _
      clear hy
      go_wp2_with fail
      refine (hlg.out _).mono ?_
      clear hlg
      rintro e2 w3 ⟨rfl, rfl⟩
      dsimp only
      have hps := prescale_walk y i h l e P LP s _ _ _ w3 hbx hg hi.out hi2 hp0 (by omega) (by omega) (by omega) (by omega) hs'
      clear hs'
      replace hps := Lib.hid hps
      go_wp2_with fail
      refine hps.out.mono ?_
      clear hps
      rintro e3 w4 ⟨rfl, hb4, hq4⟩
      dsimp only
      have hb04 := Below.trans hb0 (hb4.mono hyB)
      clear hb0 hb4 hbx hp0 hpp
      have c0 := hq4.cell 0
      have c1 := hq4.cell 1
      have c2 := hq4.cell 2
      have hu1 := uscale_walk mn h l s y w4 (Nat.lt_of_le_of_lt hmn2 hm2.out) hh.out hl.out (by omega) c0 c1 c2
      rw [hU1.out] at hu1
      replace hu1 := Lib.hid hu1
      go_wp2_with fail
      refine hu1.out.mono ?_
      clear hu1 c0 c1 c2
      rintro e4 w5 ⟨rfl, hb5⟩
      dsimp only
      have hq5 := hq4.below hb5 hq4.lt
      have hb05 := Below.trans hb04 (hb5.mono (Nat.le_trans (by omega) hb04.size))
      clear hb5 hq4 hb04
      have hn1 := fun W => nudgeUp U1 o (Nat.lt_of_le_of_lt u1l.out (by omega)) ho1 W
      have hn2 := fun W => nudgeDown U2 o (Nat.lt_of_le_of_lt u3l.out (by omega)) ho1 W
      rw [hV1.out] at hn1
      rw [hV2.out] at hn2
      have hc1 := fun W => ceilN V1 D1 hD1.out W
      have hf2 := fun W => floorN V2 D2 hV2l.out hD2.out W
      have c0 := hq5.cell 0
      have c1 := hq5.cell 1
      have c2 := hq5.cell 2
      have hu2 := uscale_walk mx h l s y w5 hmx.out hh.out hl.out (by omega) c0 c1 c2
      rw [hU2.out] at hu2
      replace hu2 := Lib.hid hu2
      replace hn1 := Lib.hid hn1
      replace hn2 := Lib.hid hn2
      replace hc1 := Lib.hid hc1
      replace hf2 := Lib.hid hf2
      have wno : IntKind.i64.wrap (-(o : Int)) = -(o : Int) := by rw [IntKind.wrap_i64]; omega
      go_wp2_with fail
      refine (hn1.out _).mono ?_
      clear hn1
      rintro e5 w6 ⟨rfl, rfl⟩
      dsimp only
      go_wp2_with fail
      refine (hc1.out _).mono ?_
      clear hc1
      rintro e6 w7 ⟨rfl, rfl⟩
      dsimp only
      go_wp2_with fail
      refine hu2.out.mono ?_
      clear hu2 c0 c1 c2
      rintro e7 w8 ⟨rfl, hb8⟩
      dsimp only
      have hq8 := hq5.below hb8 hq5.lt
      have hb08 := Below.trans hb05 (hb8.mono (Nat.le_trans (by omega) hb05.size))
      clear hb8 hq5 hb05
      have c0 := hq8.cell 0
      have c1 := hq8.cell 1
      have c2 := hq8.cell 2
      have hu3 := uscale_walk m h l s y w8 hm2.out hh.out hl.out (by omega) c0 c1 c2
      rw [hU3.out] at hu3
      have hrd := fun W => round_walk U3 (Nat.lt_of_le_of_lt u2l.out (by omega)) W
      rw [hD3.out] at hrd
      replace hu3 := Lib.hid hu3
      replace hrd := Lib.hid hrd
      have hXi : (D2 : Int) / 10 = (X : Int) := by have := hX.out; omega
      have hXt : Int.tdiv (D2 : Int) 10 = (X : Int) := by rw [Int.tdiv_eq_ediv_of_nonneg (by omega)]; exact hXi
      have d2l' := d2l.out
      have hXl : X < 461168601842738791 := by have := hX.out; omega
      have hX10 : IntKind.u64.wrap ((X : Int) * 10) = (X : Int) * 10 := by rw [IntKind.wrap_u64]; omega
      have hXw : IntKind.u64.wrap (X : Int) = (X : Int) := wu_small X (by omega)
      clear d2l'
      have w3' : IntKind.i64.wrap (P - 1) = P - 1 := by rw [IntKind.wrap_i64]; omega
      have w4' : IntKind.i64.wrap (-(P - 1)) = -(P - 1) := by rw [IntKind.wrap_i64]; omega
      have w5' : IntKind.i64.wrap (-P) = -P := by rw [IntKind.wrap_i64]; omega
      have w6' : IntKind.i64.wrap (1 - P) = 1 - P := by rw [IntKind.wrap_i64]; omega
      have w7' : -(P - 1) = 1 - P := by omega
      go_wp2_with fail
      refine (hn2.out _).mono ?_
      clear hn2
      rintro e9 w9 ⟨rfl, rfl⟩
      dsimp only
      go_wp2_with fail
      refine (hf2.out _).mono ?_
      clear hf2
      rintro e10 w10 ⟨rfl, rfl⟩
      dsimp only
      by_cases hge : D1 ≤ X * 10
      · have hgeD : decide ((D1 : Int) ≤ (X : Int) * 10) = true := decide_eq_true (by omega)
        replace hge := Lib.hid hge
        go_wp2_with fail
        go_ret2
        exact ⟨by rw [← hdd.out, ← hpq.out, if_pos hge.out, if_pos hge.out]; rfl, hb08⟩
      · have hgeD : decide ((D1 : Int) ≤ (X : Int) * 10) = false := decide_eq_false (by omega)
        replace hge := Lib.hid hge
        by_cases hlt : D1 < D2
        · have hltD : decide ((D1 : Int) < (D2 : Int)) = true := decide_eq_true (by omega)
          have hltD' : decide (D1 < D2) = true := decide_eq_true hlt
          replace hlt := Lib.hid hlt
          go_wp2_with fail
          refine hu3.out.mono ?_
          clear hu3 c0 c1 c2
          rintro e11 w11 ⟨rfl, hb11⟩
          dsimp only
          go_wp2_with fail
          refine (hrd.out _).mono ?_
          rintro e12 w12 ⟨rfl, rfl⟩
          dsimp only
          go_wp2_with fail
          go_ret2
          exact ⟨by rw [← hdd.out, ← hpq.out, if_neg hge.out, if_neg hge.out, if_pos hlt.out]; rfl, Below.trans hb08 (hb11.mono (Nat.le_trans (by omega) hb08.size))⟩
        · have hltD : decide ((D1 : Int) < (D2 : Int)) = false := decide_eq_false (by omega)
          have hltD' : decide (D1 < D2) = false := decide_eq_false hlt
          replace hlt := Lib.hid hlt
          go_wp2_with fail
          go_ret2
          exact ⟨by rw [← hdd.out, ← hpq.out, if_neg hge.out, if_neg hge.out, if_neg hlt.out]; rfl, hb08⟩
    · go_wp2_with fail
      refine (hlgc.out _).mono ?_
      clear hlgc
      rintro ee w1' ⟨rfl, rfl⟩
      dsimp only
      go_upto_region 27 with (fail)
      obtain ⟨he0, he1, hi2, hs1, hs2, hP0, hmn2, ho1, d1, d3, u2⟩ := SAVE.out
      clear hshl hshk wa wb wz1 wz2 wz3 wk0 wk1 wqk handk
      have hpp := (hpa.out.2 i hi2)
      rw [hhe.out, hle.out] at hpp
      have hg := hpa.out.1
      have hbx := Blk.new w1' 130 #[.int .u64 0, .int .u64 0, .int .i64 0]
      have hb0 := (Below.refl w1'.heap.size w1').alloc (Nat.le_refl _) (.cells #[.int .u64 0, .int .u64 0, .int .i64 0] 130)
      have hp0 := hpp.below hb0 hg
      obtain ⟨y, hy⟩ : ∃ y, w1'.heap.size = y := ⟨_, rfl⟩
      rw [hy] at hbx hg
      replace hy := Lib.hid hy
      have hlg := fun W => log2Pow10_walk P (by omega) (by omega) W
      obtain ⟨LP, hLP⟩ : ∃ LP, P * 108853 / 32768 = LP := ⟨_, rfl⟩
      have hs' := hs.out
      rw [hLP] at hlg hs'
      have hLP0 : -2000 ≤ LP ∧ LP ≤ 2000 := by omega
      replace hlg := Lib.hid hlg
      replace hLP := Lib.hid hLP
      replace hpp := Lib.hid hpp
      go_upto_region 28 with (fail)
      try rw [hy.out]
      generalize w1'.alloc (.cells #[.int .u64 0, .int .u64 0, .int .i64 0] 130) = w2 at *
      have hyB : w1'.heap.size ≤ y := by rw [hy.out]; exact Nat.le_refl _
      clear hy
      go_wp2_with fail
      refine (hlg.out _).mono ?_
      clear hlg
      rintro e2 w3 ⟨rfl, rfl⟩
      dsimp only
      have hps := prescale_walk y i h l e P LP s _ _ _ w3 hbx hg hi.out hi2 hp0 (by omega) (by omega) (by omega) (by omega) hs'
      clear hs'
      replace hps := Lib.hid hps
      go_wp2_with fail
      refine hps.out.mono ?_
      clear hps
      rintro e3 w4 ⟨rfl, hb4, hq4⟩
      dsimp only
      have hb04 := Below.trans hb0 (hb4.mono hyB)
      clear hb0 hb4 hbx hp0 hpp
      have c0 := hq4.cell 0
      have c1 := hq4.cell 1
      have c2 := hq4.cell 2
      have hu1 := uscale_walk mn h l s y w4 (Nat.lt_of_le_of_lt hmn2 hm2.out) hh.out hl.out (by omega) c0 c1 c2
      rw [hU1.out] at hu1
      replace hu1 := Lib.hid hu1
      go_wp2_with fail
      refine hu1.out.mono ?_
      clear hu1 c0 c1 c2
      rintro e4 w5 ⟨rfl, hb5⟩
      dsimp only
      have hq5 := hq4.below hb5 hq4.lt
      have hb05 := Below.trans hb04 (hb5.mono (Nat.le_trans (by omega) hb04.size))
      clear hb5 hq4 hb04
      have hn1 := fun W => nudgeUp U1 o (Nat.lt_of_le_of_lt u1l.out (by omega)) ho1 W
      have hn2 := fun W => nudgeDown U2 o (Nat.lt_of_le_of_lt u3l.out (by omega)) ho1 W
      rw [hV1.out] at hn1
      rw [hV2.out] at hn2
      have hc1 := fun W => ceilN V1 D1 hD1.out W
      have hf2 := fun W => floorN V2 D2 hV2l.out hD2.out W
      have c0 := hq5.cell 0
      have c1 := hq5.cell 1
      have c2 := hq5.cell 2
      have hu2 := uscale_walk mx h l s y w5 hmx.out hh.out hl.out (by omega) c0 c1 c2
      rw [hU2.out] at hu2
      replace hu2 := Lib.hid hu2
      replace hn1 := Lib.hid hn1
      replace hn2 := Lib.hid hn2
      replace hc1 := Lib.hid hc1
      replace hf2 := Lib.hid hf2
      have wno : IntKind.i64.wrap (-(o : Int)) = -(o : Int) := by rw [IntKind.wrap_i64]; omega
      go_wp2_with fail
      refine (hn1.out _).mono ?_
      clear hn1
      rintro e5 w6 ⟨rfl, rfl⟩
      dsimp only
      go_wp2_with fail
      refine (hc1.out _).mono ?_
      clear hc1
      rintro e6 w7 ⟨rfl, rfl⟩
      dsimp only
      go_wp2_with fail
      refine hu2.out.mono ?_
      clear hu2 c0 c1 c2
      rintro e7 w8 ⟨rfl, hb8⟩
      dsimp only
      have hq8 := hq5.below hb8 hq5.lt
      have hb08 := Below.trans hb05 (hb8.mono (Nat.le_trans (by omega) hb05.size))
      clear hb8 hq5 hb05
      have c0 := hq8.cell 0
      have c1 := hq8.cell 1
      have c2 := hq8.cell 2
      have hu3 := uscale_walk m h l s y w8 hm2.out hh.out hl.out (by omega) c0 c1 c2
      rw [hU3.out] at hu3
      have hrd := fun W => round_walk U3 (Nat.lt_of_le_of_lt u2l.out (by omega)) W
      rw [hD3.out] at hrd
      replace hu3 := Lib.hid hu3
      replace hrd := Lib.hid hrd
      have hXi : (D2 : Int) / 10 = (X : Int) := by have := hX.out; omega
      have hXt : Int.tdiv (D2 : Int) 10 = (X : Int) := by rw [Int.tdiv_eq_ediv_of_nonneg (by omega)]; exact hXi
      have d2l' := d2l.out
      have hXl : X < 461168601842738791 := by have := hX.out; omega
      have hX10 : IntKind.u64.wrap ((X : Int) * 10) = (X : Int) * 10 := by rw [IntKind.wrap_u64]; omega
      have hXw : IntKind.u64.wrap (X : Int) = (X : Int) := wu_small X (by omega)
      clear d2l'
      have w3' : IntKind.i64.wrap (P - 1) = P - 1 := by rw [IntKind.wrap_i64]; omega
      have w4' : IntKind.i64.wrap (-(P - 1)) = -(P - 1) := by rw [IntKind.wrap_i64]; omega
      have w5' : IntKind.i64.wrap (-P) = -P := by rw [IntKind.wrap_i64]; omega
      have w6' : IntKind.i64.wrap (1 - P) = 1 - P := by rw [IntKind.wrap_i64]; omega
      have w7' : -(P - 1) = 1 - P := by omega
      go_wp2_with fail
      refine (hn2.out _).mono ?_
      clear hn2
      rintro e9 w9 ⟨rfl, rfl⟩
      dsimp only
      go_wp2_with fail
      refine (hf2.out _).mono ?_
      clear hf2
      rintro e10 w10 ⟨rfl, rfl⟩
      dsimp only
      by_cases hge : D1 ≤ X * 10
      · have hgeD : decide ((D1 : Int) ≤ (X : Int) * 10) = true := decide_eq_true (by omega)
        replace hge := Lib.hid hge
        go_wp2_with fail
        go_ret2
        exact ⟨by rw [← hdd.out, ← hpq.out, if_pos hge.out, if_pos hge.out]; rfl, hb08⟩
      · have hgeD : decide ((D1 : Int) ≤ (X : Int) * 10) = false := decide_eq_false (by omega)
        replace hge := Lib.hid hge
        by_cases hlt : D1 < D2
        · have hltD : decide ((D1 : Int) < (D2 : Int)) = true := decide_eq_true (by omega)
          have hltD' : decide (D1 < D2) = true := decide_eq_true hlt
          replace hlt := Lib.hid hlt
          go_wp2_with fail
          refine hu3.out.mono ?_
          clear hu3 c0 c1 c2
          rintro e11 w11 ⟨rfl, hb11⟩
          dsimp only
          go_wp2_with fail
          refine (hrd.out _).mono ?_
          rintro e12 w12 ⟨rfl, rfl⟩
          dsimp only
          go_wp2_with fail
          go_ret2
          exact ⟨by rw [← hdd.out, ← hpq.out, if_neg hge.out, if_neg hge.out, if_pos hlt.out]; rfl, Below.trans hb08 (hb11.mono (Nat.le_trans (by omega) hb08.size))⟩
        · have hltD : decide ((D1 : Int) < (D2 : Int)) = false := decide_eq_false (by omega)
          have hltD' : decide (D1 < D2) = false := decide_eq_false hlt
          replace hlt := Lib.hid hlt
          go_wp2_with fail
          go_ret2
          exact ⟨by rw [← hdd.out, ← hpq.out, if_neg hge.out, if_neg hge.out, if_neg hlt.out]; rfl, hb08⟩
end Go.Proofs.YtdbmffagibnibaaGreatDoor
