/- Floats' digits: the form at any exponent; which way shortFloat goes; what the digits are. -/
import Derived.Test.YtdbmffagibnibaaGreatDoorFg2
set_option linter.unusedSimpArgs false
set_option linter.unusedVariables false
namespace Go.Proofs.YtdbmffagibnibaaGreatDoor
open Go.RowKit Go.Sort Go.Lib
set_option maxRecDepth 100000

def fmtG (neg : Bool) (ds : List UInt8) (dp : Int) : List UInt8 := if dp - 1 < -4 ∨ 6 ≤ dp - 1 then fmtEL neg ds (dp - 1) else fmtFL neg ds dp
theorem fmtG_walk (neg : Bool) (A0 : Option Addr) (n0 c0 : Nat) (S0 : List UInt8) (Y : Nat) (ds : List UInt8) (nd : Nat) (w : World) (dp : Int) (hd1 : -800 ≤ dp) (hd2 : dp ≤ 800)
    (hF0 : FAt w (bOf A0) w A0 n0 c0 S0) (hn0 : n0 ≤ 1000) (hY : Y < w.heap.size) (hYD : bOf A0 ≠ some Y) (hdn : ds.length = nd) (hnd1 : 1 ≤ nd) (hnd2 : nd ≤ 20) (hds : ∀ j, j < nd → w.cell? ⟨Y, j, none⟩ = some (byv (ds.getD j 0))) :
    Calls Tryz.prog 97 #[.slice A0 n0 c0, .bool neg, .slice (some ⟨Y, 0, none⟩) 32 32, .int .i64 dp, .int .i64 (nd : Int), .int .i64 (nd : Int), .int .u8 103, .bool true] w (fun e w' => ∃ A' n' c', e = .returned (.slice A' n' c') ∧ FAt w (bOf A0) w' A' n' c' (S0 ++ fmtG neg ds dp)) := by
  unfold fmtG
  by_cases hE : dp - 1 < -4 ∨ 6 ≤ dp - 1
  · rw [if_pos hE]
    exact fmtE_walk neg A0 n0 c0 S0 Y ds nd w dp (dp - 1) rfl hE (by omega) (by omega) hF0 hn0 hY hYD hdn hnd1 hnd2 hds
  · rw [if_neg hE]
    by_cases hp : 0 < dp
    · obtain ⟨q, rfl⟩ : ∃ q : Nat, dp = (q : Int) := ⟨dp.toNat, by omega⟩
      by_cases hq : nd ≤ q
      · cases neg
        · exact fmtF_I A0 n0 c0 S0 Y ds nd w q (by omega) (by omega) hq hF0 hn0 hY hYD hdn hnd1 hnd2 hds
        · exact fmtF_In A0 n0 c0 S0 Y ds nd w q (by omega) (by omega) hq hF0 hn0 hY hYD hdn hnd1 hnd2 hds
      · cases neg
        · exact fmtF_II A0 n0 c0 S0 Y ds nd w q (by omega) (by omega) (by omega) hF0 hn0 hY hYD hdn hnd1 hnd2 hds
        · exact fmtF_IIn A0 n0 c0 S0 Y ds nd w q (by omega) (by omega) (by omega) hF0 hn0 hY hYD hdn hnd1 hnd2 hds
    · obtain ⟨q, rfl⟩ : ∃ q : Nat, dp = -(q : Int) := ⟨(-dp).toNat, by omega⟩
      cases neg
      · exact fmtF_III A0 n0 c0 S0 Y ds nd w q (by omega) hF0 hn0 hY hYD hdn hnd1 hnd2 hds
      · exact fmtF_IIIn A0 n0 c0 S0 Y ds nd w q (by omega) hF0 hn0 hY hYD hdn hnd1 hnd2 hds

/- Which way. -/
theorem wayA_nums (e : Int) (h0 : -1085 < e) (h1 : e ≤ 960) : ∃ (P : Int) (i s : Nat), P = -(((e + 11) * 631305 - 261663) / 2097152) ∧ P + 348 = (i : Int) ∧ i < 696 ∧ -(e + P * 108853 / 32768 + 3) = (s : Int) ∧ 1 ≤ s ∧ s ≤ 58 := by
  refine ⟨_, (-(((e + 11) * 631305 - 261663) / 2097152) + 348).toNat, (-(e + -(((e + 11) * 631305 - 261663) / 2097152) * 108853 / 32768 + 3)).toNat, rfl, ?_, ?_, ?_, ?_, ?_⟩ <;> omega
theorem wayB_nums (e : Int) (h0 : -1085 ≤ e) (h1 : e ≤ 960) : ∃ (P : Int) (i s : Nat), P = -((e + 11) * 78913 / 262144) ∧ P + 348 = (i : Int) ∧ i < 696 ∧ -(e + P * 108853 / 32768 + 3) = (s : Int) ∧ 1 ≤ s ∧ s ≤ 58 := by
  refine ⟨_, (-((e + 11) * 78913 / 262144) + 348).toNat, (-(e + -((e + 11) * 78913 / 262144) * 108853 / 32768 + 3)).toNat, rfl, ?_, ?_, ?_, ?_, ?_⟩ <;> omega
/-- A number's shortest digits: d and p are the number's own. -/
theorem short_norm (mant : Nat) (e : Int) (h1 : 4503599627370496 ≤ mant) (h2 : mant < 9007199254740992) (he0 : -1085 ≤ e) (he1 : e ≤ 960) :
    ∃ (d : Nat) (p : Int), 1 ≤ d ∧ d < 18446744073709551616 ∧ -400 ≤ p ∧ p ≤ 400 ∧ ∀ w, PowAll w → Calls Tryz.prog 104 #[.int .u64 ((mant * 2048 : Nat) : Int), .int .i64 e] w (fun r w' => r = .returned (.tuple #[.int .u64 (d : Int), .int .i64 p]) ∧ Below w.heap.size w w') := by
  by_cases hA : mant * 2048 = 9223372036854775808 ∧ -1085 < e
  · obtain ⟨P, i, s, hP, hi, hi2, hs, hs1, hs2⟩ := wayA_nums e hA.2 he1
    exact short_any (mant * 2048) e P (mant * 2048 - 512) (mant * 2048 + 1024) 0 ⟨.inl ⟨hA.1, hA.2, hP, by omega, rfl, rfl⟩⟩ (by omega) (by omega) (by omega) (by omega) (by omega) he1 i s hi hi2 hs hs1 hs2
  · obtain ⟨P, i, s, hP, hi, hi2, hs, hs1, hs2⟩ := wayB_nums e he0 he1
    exact short_any (mant * 2048) e P (mant * 2048 - 1024) (mant * 2048 + 1024) _ ⟨.inr (.inl ⟨by omega, he0, hP, by omega, rfl, rfl⟩)⟩ (by omega) (by omega) (by omega) (by omega) (by omega) he1 i s hi hi2 hs hs1 hs2
theorem short_sub (mant L : Nat) (h1 : 2 ^ (L - 1) ≤ mant) (h2 : mant < 2 ^ L) (hL1 : 1 ≤ L) (hL2 : L ≤ 52) :
    ∃ (d : Nat) (p : Int), 1 ≤ d ∧ d < 18446744073709551616 ∧ -400 ≤ p ∧ p ≤ 400 ∧ ∀ w, PowAll w → Calls Tryz.prog 104 #[.int .u64 ((mant * 2 ^ (64 - L) : Nat) : Int), .int .i64 (-1074 - ((64 - L : Nat) : Int))] w (fun r w' => r = .returned (.tuple #[.int .u64 (d : Int), .int .i64 p]) ∧ Below w.heap.size w w') := by
  obtain ⟨k, hk⟩ : ∃ k, 64 - L = k + 1 := ⟨63 - L, by omega⟩
  have hk62 : k ≤ 62 := by omega
  have hk11 : 11 ≤ k := by omega
  have e64 : 2 ^ L * 2 ^ (64 - L) = 18446744073709551616 := by rw [← Nat.pow_add, show L + (64 - L) = 64 by omega]
  have e63 : 2 ^ (L - 1) * 2 ^ (64 - L) = 9223372036854775808 := by rw [← Nat.pow_add, show L - 1 + (64 - L) = 63 by omega]
  have m1 : 2 ^ (L - 1) * 2 ^ (64 - L) ≤ mant * 2 ^ (64 - L) := Nat.mul_le_mul_right _ h1
  have m2 : (mant + 1) * 2 ^ (64 - L) ≤ 2 ^ L * 2 ^ (64 - L) := Nat.mul_le_mul_right _ h2
  rw [Nat.succ_mul] at m2
  have hKK : 2 ^ (64 - L) = 2 ^ k * 2 := by rw [hk, Nat.pow_succ]
  have hK62 : 2 ^ k ≤ 2 ^ 62 := Nat.pow_le_pow_right (by omega) hk62
  have hK : 2 ^ k ≤ 4611686018427387904 := hK62
  have hK0 := pow_pos k
  obtain ⟨M, hM⟩ : ∃ M, mant * 2 ^ (64 - L) = M := ⟨_, rfl⟩
  obtain ⟨K, hKe⟩ : ∃ K, 2 ^ k = K := ⟨_, rfl⟩
  rw [e63, hM] at m1
  rw [e64, hM, hKK, hKe] at m2
  rw [hM, hk]
  rw [hKe] at hK hK0
  refine short_any M (-1074 - ((k + 1 : Nat) : Int)) 324 (M - K) (M + K) _ ⟨.inr (.inr ⟨by omega, k, hk62, by omega, rfl, by rw [hKe]; omega, by rw [hKe], rfl⟩)⟩ m1 (by omega) (by omega) (by omega) (by omega) (by omega) 672 (k - 4) (by omega) (by omega) ?_ (by omega) (by omega)
  rw [show (324 : Int) * 108853 / 32768 = 1076 from by decide]
  omega

/- What the digits are. -/
def digB (c : UInt8) : Prop := 48 ≤ c.toNat ∧ c.toNat ≤ 57
theorem dig_ofNat (n : Nat) (h : n < 10) : digB (UInt8.ofNat (48 + n)) := by
  unfold digB
  rw [UInt8.toNat_ofNat']
  omega
theorem decDigits_dig (u : Nat) : ∀ c ∈ Lib.decDigits u, digB c := by
  induction u using Nat.strongRecOn with
  | _ u ih =>
    intro c hc
    rw [Lib.decDigits] at hc
    split at hc
    · simp only [List.mem_cons, List.not_mem_nil, or_false] at hc; subst hc; exact dig_ofNat u ‹_›
    · simp only [List.mem_append, List.mem_singleton] at hc
      rcases hc with h | h
      · exact ih (u / 10) (by omega) c h
      · subst h; exact dig_ofNat _ (by omega)
/-- The first digit of a number above nought. -/
theorem decDigits_head (u : Nat) (h : 1 ≤ u) : (Lib.decDigits u).getD 0 0 ≠ 48 := by
  induction u using Nat.strongRecOn with
  | _ u ih =>
    rw [Lib.decDigits]
    split
    · simp only [List.getD_cons_zero]
      intro e
      have := congrArg UInt8.toNat e
      rw [UInt8.toNat_ofNat'] at this
      have e48 : (48 : UInt8).toNat = 48 := rfl
      omega
    · have hi := ih (u / 10) (by omega) (by omega)
      have hl : 0 < (Lib.decDigits (u / 10)).length := by rw [Lib.decDigits_length]; exact Lib.nDigits_pos _
      rw [List.getD, List.getElem?_append_left hl]
      exact hi
/-- The text of a finite number: digits, a sign, a point, an exponent. -/
def Fin_ (S : List UInt8) : Prop := (∀ c ∈ S, digB c ∨ c = 45 ∨ c = 46 ∨ c = 101 ∨ c = 43) ∧ (43 ∈ S → 101 ∈ S) ∧ S.length ≤ 100
theorem fmtG_fin (neg : Bool) (ds : List UInt8) (dp : Int) (h : ∀ c ∈ ds, digB c) (h0 : 1 ≤ ds.length) (h20 : ds.length ≤ 20) (hE1 : -900 ≤ dp) (hE2 : dp ≤ 900) : Fin_ (fmtG neg ds dp) := by
  have d48 : digB 48 := by unfold digB; decide
  have hexp : ∀ X, X ≤ 999 → ∀ c ∈ expL X, digB c := by
    intro X hX c hc
    unfold expL at hc
    split at hc
    · simp only [List.mem_cons, List.not_mem_nil, or_false] at hc
      rcases hc with rfl | rfl
      · exact d48
      · exact dig_ofNat _ (by omega)
    · split at hc
      · simp only [List.mem_cons, List.not_mem_nil, or_false] at hc
        rcases hc with rfl | rfl <;> exact dig_ofNat _ (by omega)
      · simp only [List.mem_cons, List.not_mem_nil, or_false] at hc
        rcases hc with rfl | rfl | rfl <;> exact dig_ofNat _ (by omega)
  have hh0 : digB (ds.getD 0 0) := by
    rw [List.getD, List.getElem?_eq_getElem (by omega)]
    exact h _ (List.getElem_mem _)
  have hsg : ∀ c ∈ signL neg, c = 45 := by
    intro c hc
    cases neg
    · simp [signL] at hc
    · simpa [signL] using hc
  unfold fmtG
  split
  · have hmo : ∀ c ∈ moreL ds, digB c ∨ c = 46 := by
      intro c hc
      unfold moreL at hc
      split at hc
      · simp only [List.mem_cons] at hc
        rcases hc with rfl | hc
        · exact .inr rfl
        · exact .inl (h c (List.mem_of_mem_tail hc))
      · simp at hc
    unfold fmtEL
    have hel : ∀ X, (expL X).length ≤ 3 := fun X => by unfold expL; split <;> (try split) <;> simp
    have hml : (moreL ds).length ≤ 21 := by unfold moreL; split <;> simp <;> omega
    have hsl : (signL neg).length ≤ 1 := by cases neg <;> simp [signL]
    refine ⟨fun c hc => ?_, fun _ => by simp, by have := hel (dp - 1).natAbs; simp only [List.length_append, List.length_singleton]; omega⟩
    simp only [List.mem_append, List.mem_singleton] at hc
    rcases hc with ((((hc | rfl) | hc) | rfl) | rfl) | hc
    · exact .inr (.inl (hsg c hc))
    · exact .inl hh0
    · rcases hmo c hc with q | q
      · exact .inl q
      · exact .inr (.inr (.inl q))
    · exact .inr (.inr (.inr (.inl rfl)))
    · split
      · exact .inr (.inl rfl)
      · exact .inr (.inr (.inr (.inr rfl)))
    · exact .inl (hexp _ (by omega) c hc)
  · have key : ∀ c ∈ fmtFL neg ds dp, digB c ∨ c = 45 ∨ c = 46 := by
      intro c hc
      unfold fmtFL at hc
      simp only [List.mem_append] at hc
      rcases hc with hc | hc
      · exact .inr (.inl (hsg c (by simpa [signL] using hc)))
      · split at hc
        · split at hc
          · simp only [List.mem_append, List.mem_replicate] at hc
            rcases hc with hc | ⟨-, rfl⟩
            · exact .inl (h c hc)
            · exact .inl d48
          · simp only [List.mem_append, List.mem_cons] at hc
            rcases hc with hc | rfl | hc
            · exact .inl (h c (List.mem_of_mem_take hc))
            · exact .inr (.inr rfl)
            · exact .inl (h c (List.mem_of_mem_drop hc))
        · simp only [List.mem_cons, List.mem_append, List.mem_replicate] at hc
          rcases hc with rfl | rfl | ⟨-, rfl⟩ | hc
          · exact .inl d48
          · exact .inr (.inr rfl)
          · exact .inl d48
          · exact .inl (h c hc)
    have hln : (fmtFL neg ds dp).length ≤ 100 := by
      have hsl : (if neg then [45] else ([] : List UInt8)).length ≤ 1 := by cases neg <;> simp
      unfold fmtFL
      rw [List.length_append]
      generalize (if neg then [45] else ([] : List UInt8)) = sg at *
      split
      · split
        · rw [List.length_append, List.length_replicate]; omega
        · rw [List.length_append, List.length_cons, List.length_take, List.length_drop]; omega
      · rw [List.length_cons, List.length_cons, List.length_append, List.length_replicate]; omega
    refine ⟨fun c hc => ?_, fun hc => ?_, hln⟩
    · rcases key c hc with q | q | q
      · exact .inl q
      · exact .inr (.inl q)
      · exact .inr (.inr (.inl q))
    · exfalso
      rcases key 43 hc with q | q | q
      · unfold digB at q; revert q; decide
      · revert q; decide
      · revert q; decide
end Go.Proofs.YtdbmffagibnibaaGreatDoor
