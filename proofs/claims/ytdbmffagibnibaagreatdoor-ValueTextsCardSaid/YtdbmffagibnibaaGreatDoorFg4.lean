/- Floats' texts: ftoa64 at any number. (Printed by gen_fg4.py.) -/
import Derived.Test.YtdbmffagibnibaaGreatDoorFg3
import Derived.Test.YtdbmffagibnibaaGreatDoorFf5
import Derived.Lib.ItoaLen
set_option linter.unusedSimpArgs false
set_option linter.unusedVariables false
namespace Go.Proofs.YtdbmffagibnibaaGreatDoor
open Go.RowKit Go.Sort Go.Lib
set_option maxRecDepth 100000

theorem zeros_of {l : List UInt8} {n : Nat} : ∃ k0, ∀ k, k ≤ n → (∀ j, k ≤ j → j < n → l.getD j 0 = 48) → (0 < k → l.getD (k - 1) 0 ≠ 48) → k = k0 := by
  by_cases h : ∃ k, k ≤ n ∧ (∀ j, k ≤ j → j < n → l.getD j 0 = 48) ∧ (0 < k → l.getD (k - 1) 0 ≠ 48)
  · obtain ⟨k1, a1, a2, a3⟩ := h
    refine ⟨k1, fun k b1 b2 b3 => ?_⟩
    rcases Nat.lt_trichotomy k k1 with h | h | h
    · exact absurd (b2 (k1 - 1) (by omega) (by omega)) (a3 (by omega))
    · exact h
    · exact absurd (a2 (k - 1) (by omega) (by omega)) (b3 (by omega))
  · exact ⟨0, fun k b1 b2 b3 => absurd ⟨k, b1, b2, b3⟩ h⟩
theorem or_top (mt : Nat) (h : mt < 4503599627370496) : bits .or .u64 (mt : Int) 4503599627370496 = ((mt + 4503599627370496 : Nat) : Int) := by
  have h1 := u64_or_nat mt 4503599627370496 (by omega) (by omega)
  have h2 := Nat.two_pow_add_eq_or_of_lt (i := 52) (b := mt) h 1
  rw [show (2 : Nat) ^ 52 * 1 = 4503599627370496 from by decide] at h2
  rw [Nat.or_comm, ← h2, Nat.add_comm] at h1
  exact h1

/- The nought. -/
set_option maxHeartbeats 3200000 in
theorem fmtZ_walk (neg : Bool) (A0 : Option Addr) (n0 c0 : Nat) (S0 : List UInt8) (w : World) (hF0 : FAt w (bOf A0) w A0 n0 c0 S0) (hn0 : n0 ≤ 1000) :
    Calls Tryz.prog 97 #[.slice A0 n0 c0, .bool neg, .slice none 0 0, .int .i64 0, .int .i64 0, .int .i64 (-1), .int .u8 103, .bool true] w (fun e w' => ∃ A' n' c', e = .returned (.slice A' n' c') ∧ FAt w (bOf A0) w' A' n' c' (S0 ++ (signL neg ++ [48]))) := by
  obtain ⟨i0, hi, hz0, hz1, hz2⟩ := info_parts info_u8
  replace hi := Lib.hid hi
  replace hz0 := Lib.hid hz0
  replace hz1 := Lib.hid hz1
  replace hz2 := Lib.hid hz2
  obtain ⟨D0, hD0⟩ : ∃ D, bOf A0 = D := ⟨_, rfl⟩
  rw [hD0] at hF0 ⊢
  replace hD0 := Lib.hid hD0
  go_enter Tryz.func97, Tryz.ntmps97
  cases neg
  · skip
    have hbyte0 : Hid ((#[Value.int .u8 48] : Array Value).toList = bys [48]) := Lib.hid rfl
    go_wp2_with (at_builtin; go_must (refine wpList_append_mine rfl _ _ 36 36 rfl 5 i0 (.int .u8 0) 1 1 Tryz.underlying36 hi.out hz0.out hz1.out hz2.out rfl rfl (hF0.own.alloc _) rfl (Src.ofReads Tryz.underlying36 _ (Reads.lit _ _ _ _ 1 _ hbyte0.out rfl) (bys_one _)) ?b1 ?b2 ?grow))
    case b1 => unfold maxLen; omega
    case b2 => omega
    case grow =>
      intro A1 c1 w1 hown hgr hat
      have hF1 := hF0.app (news := [48]) (m := 1) rfl hown hgr hat
      clear hown hgr hat hbyte0 hF0
      obtain ⟨n1, hn1⟩ : ∃ n, n0 + 1 = n := ⟨_, rfl⟩
      rw [hn1] at hF1 ⊢
      go_wp2_with fail
      go_ret
      exact ⟨A1, n1, c1, rfl, hF1⟩
  · skip
    have hbyte0 : Hid ((#[Value.int .u8 45] : Array Value).toList = bys [45]) := Lib.hid rfl
    go_wp2_with (at_builtin; go_must (refine wpList_append_mine rfl _ _ 36 36 rfl 5 i0 (.int .u8 0) 1 1 Tryz.underlying36 hi.out hz0.out hz1.out hz2.out rfl rfl (hF0.own.alloc _) rfl (Src.ofReads Tryz.underlying36 _ (Reads.lit _ _ _ _ 1 _ hbyte0.out rfl) (bys_one _)) ?b1 ?b2 ?grow))
    case b1 => unfold maxLen; omega
    case b2 => omega
    case grow =>
      intro A1 c1 w1 hown hgr hat
      have hF1 := hF0.app (news := [45]) (m := 1) rfl hown hgr hat
      clear hown hgr hat hbyte0 hF0
      obtain ⟨n1, hn1⟩ : ∃ n, n0 + 1 = n := ⟨_, rfl⟩
      rw [hn1] at hF1 ⊢
      have hbyte1 : Hid ((#[Value.int .u8 48] : Array Value).toList = bys [48]) := Lib.hid rfl
      go_wp2_with (at_builtin; go_must (refine wpList_append_mine rfl _ _ 36 36 rfl 5 i0 (.int .u8 0) 1 1 Tryz.underlying36 hi.out hz0.out hz1.out hz2.out rfl rfl (hF1.own.alloc _) rfl (Src.ofReads Tryz.underlying36 _ (Reads.lit _ _ _ _ 1 _ hbyte1.out rfl) (bys_one _)) ?b1 ?b2 ?grow))
      case b1 => unfold maxLen; omega
      case b2 => omega
      case grow =>
        intro A2 c2 w2 hown hgr hat
        have hF2 := hF1.app (news := [48]) (m := 1) rfl hown hgr hat
        clear hown hgr hat hbyte1 hF1
        obtain ⟨n2, hn2⟩ : ∃ n, n1 + 1 = n := ⟨_, rfl⟩
        rw [hn2] at hF2 ⊢
        go_wp2_with fail
        go_ret
        rw [List.append_assoc] at hF2
        exact ⟨A2, n2, c2, rfl, hF2⟩
/- NaN and the infinities. -/
theorem src_lit (l : List UInt8) (m : Nat) (h : l.length = m) (w : World) : Src Tryz.prog 1 9 (.string ⟨l.toArray⟩) m (bys l) w := by
  have hs := Src.ofString (P := Tryz.prog) (w := w) Tryz.underlying9 ⟨l.toArray⟩
  have e1 : (⟨l.toArray⟩ : ByteArray).size = m := by rw [← h]; show l.toArray.size = _; simp
  have e2 : byteCells ⟨l.toArray⟩ = bys l := rfl
  rw [e1, e2] at hs
  exact hs
theorem FAt.text {w0 w w' : World} {D0 : Option Nat} {A A' : Option Addr} {c c' m : Nat} {news : List UInt8} (h : FAt w0 D0 w A 0 c []) (hm : news.length = m) (hown : Own w' 5 1 A' (0 + m) c' (bys [] ++ bys news)) (hgr : w.grownBy w' (bOf A)) (hat : bOf A' = bOf A ∨ bOf A' = some w.heap.size) : FAt w0 D0 w' A' (0 + m) c' news := by
  have := h.app0 hm hown hgr hat
  simpa using this
set_option maxHeartbeats 6400000 in
theorem ftoa_spec (f : Nat) (neg : Bool) (xe mt : Nat) (hmt : mt < 4503599627370496) (hf : f = (if neg then 9223372036854775808 else 0) + xe * 4503599627370496 + mt) (hxe : xe = 2047) (S : List UInt8) (hS : S = if mt = 0 then (if neg then [45, 73, 110, 102] else [43, 73, 110, 102]) else [78, 97, 78]) (D : Nat) (w : World) (hF0 : FAt w (some D) w (some ⟨D, 0, none⟩) 0 24 []) :
    Calls Tryz.prog 82 #[.slice (some ⟨D, 0, none⟩) 0 24, .float .f64 f, .int .u8 103, .int .i64 (-1)] w (fun e w' => ∃ A' n' c', e = .returned (.slice A' n' c') ∧ FAt w (some D) w' A' n' c' S) := by
  obtain ⟨i0, hi, hz0, hz1, hz2⟩ := info_parts info_u8
  have hbf : ∀ w, (callFunc 94 #[.float .f64 f]).run Tryz.prog w = .ok (.value (.int .u64 (f : Int))) w := fun w => run_bits2 f w
  have hng : ((f : Int) / 9223372036854775808 != 0) = neg := by
    cases neg
    · have : (f : Int) / 9223372036854775808 = 0 := by simp at hf; omega
      rw [this]; rfl
    · have : (f : Int) / 9223372036854775808 = 1 := by simp at hf; omega
      rw [this]; rfl
  obtain ⟨q52, hq52⟩ : ∃ q, f / 4503599627370496 = q := ⟨_, rfl⟩
  have hqi : (f : Int) / 4503599627370496 = (q52 : Int) := by omega
  have hql : q52 < 4096 := by cases neg <;> simp at hf <;> omega
  have hqx : q52 % 2048 = xe := by cases neg <;> simp at hf <;> omega
  have wq : IntKind.i64.wrap (q52 : Int) = (q52 : Int) := by rw [IntKind.wrap_i64]; omega
  have hexp : bits .and .i64 (q52 : Int) 2047 = (xe : Int) := by
    have h := i64_and_nat q52 2047 (by omega) (by omega)
    rw [show (2047 : Nat) = 2 ^ 11 - 1 from rfl, Nat.and_two_pow_sub_one_eq_mod, show (2 : Nat) ^ 11 = 2048 from rfl, hqx] at h
    exact h
  have hman : bits .and .u64 (f : Int) 4503599627370495 = (mt : Int) := by
    have hfl : f < 18446744073709551616 := by cases neg <;> simp at hf <;> omega
    have h := u64_and_nat f 4503599627370495 hfl (by omega)
    have hm : f % 4503599627370496 = mt := by cases neg <;> simp at hf <;> omega
    rw [show (4503599627370495 : Nat) = 2 ^ 52 - 1 from rfl, Nat.and_two_pow_sub_one_eq_mod, show (2 : Nat) ^ 52 = 4503599627370496 from rfl, hm] at h
    exact h
  clear hqx hq52 hql
  replace hf := Lib.hid hf
  subst hxe
  replace hi := Lib.hid hi
  replace hz0 := Lib.hid hz0
  replace hz1 := Lib.hid hz1
  replace hz2 := Lib.hid hz2
  have hxx : (((2047 : Nat) : Int)) = 2047 := rfl
  rw [hxx] at hexp
  clear hxx
  go_enter Tryz.func82, Tryz.ntmps82
  go_upto_region 14 with (fail)
  go_quiet (fail)
  have hFq : FAt w (some D) (w.drewN nq) (some ⟨D, 0, none⟩) 0 24 [] := ⟨hF0.own.drewN _, hF0.len, ⟨hF0.grown.os, hF0.grown.tape, hF0.grown.output, hF0.grown.size, hF0.grown.block⟩, hF0.mine⟩
  by_cases hm : mt = 0
  · have hmb : ((mt : Int) != 0) = false := by subst hm; rfl
    rw [if_pos hm] at hS
    replace hm := Lib.hid hm
    cases neg
    · rw [if_neg (by decide)] at hS
      go_wp2_with (at_builtin; go_must (refine wpList_append_mine rfl _ _ 36 9 rfl 5 i0 (.int .u8 0) 1 1 Tryz.underlying36 hi.out hz0.out hz1.out hz2.out rfl rfl hFq.own rfl (src_lit [43, 73, 110, 102] 4 (by decide) _) (by unfold maxLen; omega) (by omega) ?grow1))
      case grow1 =>
        intro A1 c1 w1 hown hgr hat
        have hF1 := hFq.text (news := [43, 73, 110, 102]) (m := 4) rfl hown hgr hat
        clear hown hgr hat hFq
        go_wp2_with fail
        go_ret
        subst hS
        exact ⟨A1, _, c1, rfl, hF1⟩
    · rw [if_pos rfl] at hS
      go_wp2_with (at_builtin; go_must (refine wpList_append_mine rfl _ _ 36 9 rfl 5 i0 (.int .u8 0) 1 1 Tryz.underlying36 hi.out hz0.out hz1.out hz2.out rfl rfl hFq.own rfl (src_lit [45, 73, 110, 102] 4 (by decide) _) (by unfold maxLen; omega) (by omega) ?grow2))
      case grow2 =>
        intro A1 c1 w1 hown hgr hat
        have hF1 := hFq.text (news := [45, 73, 110, 102]) (m := 4) rfl hown hgr hat
        clear hown hgr hat hFq
        go_wp2_with fail
        go_ret
        subst hS
        exact ⟨A1, _, c1, rfl, hF1⟩
  · have hmb : ((mt : Int) != 0) = true := by simp; omega
    rw [if_neg hm] at hS
    replace hm := Lib.hid hm
    go_wp2_with (at_builtin; go_must (refine wpList_append_mine rfl _ _ 36 9 rfl 5 i0 (.int .u8 0) 1 1 Tryz.underlying36 hi.out hz0.out hz1.out hz2.out rfl rfl hFq.own rfl (src_lit [78, 97, 78] 3 (by decide) _) (by unfold maxLen; omega) (by omega) ?grow3))
    case grow3 =>
      intro A1 c1 w1 hown hgr hat
      have hF1 := hFq.text (news := [78, 97, 78]) (m := 3) rfl hown hgr hat
      clear hown hgr hat hFq
      go_wp2_with fail
      go_ret
      subst hS
      exact ⟨A1, _, c1, rfl, hF1⟩
/- A finite number. -/
set_option maxHeartbeats 6400000 in
theorem ftoa_zero (f : Nat) (neg : Bool) (xe mt : Nat) (hmt : mt < 4503599627370496) (hf : f = (if neg then 9223372036854775808 else 0) + xe * 4503599627370496 + mt) (hxe : xe = 0) (hm0 : mt = 0) (D : Nat) (w : World) (hF0 : FAt w (some D) w (some ⟨D, 0, none⟩) 0 24 []) (S : List UInt8) (hS : signL neg ++ [48] = S) :
    Calls Tryz.prog 82 #[.slice (some ⟨D, 0, none⟩) 0 24, .float .f64 f, .int .u8 103, .int .i64 (-1)] w (fun e w' => ∃ A' n' c', e = .returned (.slice A' n' c') ∧ FAt w (some D) w' A' n' c' S) := by
  have hbf : ∀ w, (callFunc 94 #[.float .f64 f]).run Tryz.prog w = .ok (.value (.int .u64 (f : Int))) w := fun w => run_bits2 f w
  have hng : ((f : Int) / 9223372036854775808 != 0) = neg := by
    cases neg
    · have : (f : Int) / 9223372036854775808 = 0 := by simp at hf; omega
      rw [this]; rfl
    · have : (f : Int) / 9223372036854775808 = 1 := by simp at hf; omega
      rw [this]; rfl
  obtain ⟨q52, hq52⟩ : ∃ q, f / 4503599627370496 = q := ⟨_, rfl⟩
  have hqi : (f : Int) / 4503599627370496 = (q52 : Int) := by omega
  have hql : q52 < 4096 := by cases neg <;> simp at hf <;> omega
  have hqx : q52 % 2048 = xe := by cases neg <;> simp at hf <;> omega
  have wq : IntKind.i64.wrap (q52 : Int) = (q52 : Int) := by rw [IntKind.wrap_i64]; omega
  have hexp : bits .and .i64 (q52 : Int) 2047 = (xe : Int) := by
    have h := i64_and_nat q52 2047 (by omega) (by omega)
    rw [show (2047 : Nat) = 2 ^ 11 - 1 from rfl, Nat.and_two_pow_sub_one_eq_mod, show (2 : Nat) ^ 11 = 2048 from rfl, hqx] at h
    exact h
  have hman : bits .and .u64 (f : Int) 4503599627370495 = (mt : Int) := by
    have hfl : f < 18446744073709551616 := by cases neg <;> simp at hf <;> omega
    have h := u64_and_nat f 4503599627370495 hfl (by omega)
    have hm : f % 4503599627370496 = mt := by cases neg <;> simp at hf <;> omega
    rw [show (4503599627370495 : Nat) = 2 ^ 52 - 1 from rfl, Nat.and_two_pow_sub_one_eq_mod, show (2 : Nat) ^ 52 = 4503599627370496 from rfl, hm] at h
    exact h
  clear hqx hq52 hql
  replace hf := Lib.hid hf
  subst hxe
  subst hm0
  rw [show (((0 : Nat) : Int)) = 0 from rfl] at hexp hman
  have hfm := fun W (hW : FAt W (bOf (some (⟨D, 0, none⟩ : Addr))) W (some ⟨D, 0, none⟩) 0 24 []) => fmtZ_walk neg (some ⟨D, 0, none⟩) 0 24 [] W hW (by omega)
  rw [List.nil_append, hS] at hfm
  replace hfm := Lib.hid hfm
  go_enter Tryz.func82, Tryz.ntmps82
  go_upto_region 14 with (fail)
  go_quiet (fail)
  have hFq : FAt (w.drewN nq) (some D) (w.drewN nq) (some ⟨D, 0, none⟩) 0 24 [] := ⟨hF0.own.drewN _, hF0.len, World.grownBy.refl _ _, fun q hq => .inl hq⟩
  have hF1 : FAt w (some D) (w.drewN nq) (some ⟨D, 0, none⟩) 0 24 [] := ⟨hF0.own.drewN _, hF0.len, ⟨hF0.grown.os, hF0.grown.tape, hF0.grown.output, hF0.grown.size, hF0.grown.block⟩, hF0.mine⟩
  go_wp2_with fail
  refine (hfm.out _ hFq).mono ?_
  rintro e7 w7 ⟨A7, n7, c7, rfl, hF7⟩
  dsimp only
  go_wp2_with fail
  go_ret
  exact ⟨A7, n7, c7, rfl, hF1.then_ hF7⟩
/-- What a finite number's bits come to. -/
theorem parts_of (xe mt : Nat) (hxe : xe < 2047) (hmt : mt < 4503599627370496) (hnz : xe ≠ 0 ∨ mt ≠ 0) :
    ∃ (mant L m sh : Nat) (x E1 E2 : Int) (d : Nat) (p : Int), (xe = 0 ∧ mant = mt ∧ x = -1022 ∨ xe ≠ 0 ∧ mant = mt + 4503599627370496 ∧ x = (xe : Int) - 1023) ∧ 1 ≤ mant ∧ mant < 9007199254740992 ∧ Lib.bitLen mant = L ∧ 64 - (L : Int) = (sh : Int) ∧ sh ≤ 63 ∧ mant * 2 ^ sh = m ∧ m < 18446744073709551616 ∧ x - (sh : Int) = E1 ∧ E1 - 52 = E2 ∧ -2000 ≤ E2 ∧ E2 ≤ 2000 ∧ 1 ≤ d ∧ d < 18446744073709551616 ∧ -400 ≤ p ∧ p ≤ 400 ∧
      ∀ w, PowAll w → Calls Tryz.prog 104 #[.int .u64 (m : Int), .int .i64 E2] w (fun r w' => r = .returned (.tuple #[.int .u64 (d : Int), .int .i64 p]) ∧ Below w.heap.size w w') := by
  by_cases h0 : xe = 0
  · have hm1 : 1 ≤ mt := by omega
    obtain ⟨b1, b2, b3⟩ := Lib.bitLenAux_bounds 64 mt (by omega) (by omega)
    have hL : Lib.bitLen mt = Lib.bitLenAux 64 mt := rfl
    have hle := Lib.bitLen_le mt 52 (by omega) hmt
    rw [← hL] at b1 b2 b3
    obtain ⟨L, hLe⟩ : ∃ L, Lib.bitLen mt = L := ⟨_, rfl⟩
    rw [hLe] at b1 b2 b3 hle
    obtain ⟨d, p, d1, d2, p1, p2, H⟩ := short_sub mt L b2 b3 b1 hle
    have e64 : 2 ^ L * 2 ^ (64 - L) = 18446744073709551616 := by rw [← Nat.pow_add, show L + (64 - L) = 64 by omega]
    have hlt : mt * 2 ^ (64 - L) < 18446744073709551616 := by rw [← e64]; exact Nat.mul_lt_mul_of_pos_right b3 (pow_pos _)
    exact ⟨mt, L, _, 64 - L, -1022, _, _, d, p, .inl ⟨h0, rfl, rfl⟩, hm1, by omega, hLe, by omega, by omega, rfl, hlt, rfl, rfl, by omega, by omega, d1, d2, p1, p2, fun w hp => by
      rw [show (-1022 : Int) - ((64 - L : Nat) : Int) - 52 = -1074 - ((64 - L : Nat) : Int) by omega]; exact H w hp⟩
  · obtain ⟨d, p, d1, d2, p1, p2, H⟩ := short_norm (mt + 4503599627370496) ((xe : Int) - 1023 - 11 - 52) (by omega) (by omega) (by omega) (by omega)
    have hL : Lib.bitLen (mt + 4503599627370496) = 53 := by
      obtain ⟨b1, b2, b3⟩ := Lib.bitLenAux_bounds 64 (mt + 4503599627370496) (by omega) (by omega)
      have hle := Lib.bitLen_le (mt + 4503599627370496) 53 (by omega) (by omega)
      have hL : Lib.bitLen (mt + 4503599627370496) = Lib.bitLenAux 64 (mt + 4503599627370496) := rfl
      rw [← hL] at b1 b2 b3
      rcases Nat.lt_or_ge (Lib.bitLen (mt + 4503599627370496)) 53 with h | h
      · have : 2 ^ Lib.bitLen (mt + 4503599627370496) ≤ 2 ^ 52 := Nat.pow_le_pow_right (by omega) (by omega)
        omega
      · omega
    exact ⟨mt + 4503599627370496, 53, (mt + 4503599627370496) * 2048, 11, (xe : Int) - 1023, _, _, d, p, .inr ⟨h0, rfl, rfl⟩, by omega, by omega, hL, by decide, by omega, by rfl, by omega, rfl, rfl, by omega, by omega, d1, d2, p1, p2, H⟩
theorem take_getD (l : List UInt8) (k j : Nat) (h : j < k) : (l.take k).getD j 0 = l.getD j 0 := by
  rw [List.getD, List.getD, List.getElem?_take, if_pos h]

set_option maxHeartbeats 12800000 in
theorem ftoa_num (f : Nat) (neg : Bool) (xe mt : Nat) (hmt : mt < 4503599627370496) (hf : f = (if neg then 9223372036854775808 else 0) + xe * 4503599627370496 + mt) (hxe : xe < 2047) (hnz : xe ≠ 0 ∨ mt ≠ 0) : ∃ S, Fin_ S ∧ ∀ (D : Nat) (w : World), FAt w (some D) w (some ⟨D, 0, none⟩) 0 24 [] → PowAll w → (∀ W, Below w.heap.size w W → Lib.TabIs Tryz.prog W "internal/strconv.uint64pow10" .u64 Lib.pow10Tab) →
    Calls Tryz.prog 82 #[.slice (some ⟨D, 0, none⟩) 0 24, .float .f64 f, .int .u8 103, .int .i64 (-1)] w (fun e w' => ∃ A' n' c', e = .returned (.slice A' n' c') ∧ FAt w (some D) w' A' n' c' S) := by
  obtain ⟨mant, L, m, sh, x, E1, E2, d, p, hway, hma1, hma2, hLb, hsh, hsh63, hm, hml, hE1, hE2, hE2a, hE2b, hd1, hd2, hp1, hp2, hcall⟩ := parts_of xe mt hxe hmt hnz
  have hnd20 := Lib.nDigits_le20 d hd2
  have hnd1 := Lib.nDigits_pos d
  obtain ⟨k0, hk0⟩ := zeros_of (l := Lib.decDigits d) (n := Lib.nDigits d)
  have hdl := Lib.decDigits_length d
  obtain ⟨nd, hnde⟩ : ∃ n, Lib.nDigits d = n := ⟨_, rfl⟩
  rw [hnde] at hdl hk0 hnd20 hnd1
  replace hnde := Lib.hid hnde
  refine ⟨fmtG neg ((Lib.decDigits d).take (max k0 1)) ((nd : Int) + p), fmtG_fin _ _ _ (fun c hc => decDigits_dig d c (List.mem_of_mem_take hc)) (by rw [List.length_take, hdl]; omega) (by rw [List.length_take, hdl]; omega) (by omega) (by omega), ?_⟩
  intro D w hF hpa htab
  have hbf : ∀ w, (callFunc 94 #[.float .f64 f]).run Tryz.prog w = .ok (.value (.int .u64 (f : Int))) w := fun w => run_bits2 f w
  have hng : ((f : Int) / 9223372036854775808 != 0) = neg := by
    cases neg
    · have : (f : Int) / 9223372036854775808 = 0 := by simp at hf; omega
      rw [this]; rfl
    · have : (f : Int) / 9223372036854775808 = 1 := by simp at hf; omega
      rw [this]; rfl
  obtain ⟨q52, hq52⟩ : ∃ q, f / 4503599627370496 = q := ⟨_, rfl⟩
  have hqi : (f : Int) / 4503599627370496 = (q52 : Int) := by omega
  have hql : q52 < 4096 := by cases neg <;> simp at hf <;> omega
  have hqx : q52 % 2048 = xe := by cases neg <;> simp at hf <;> omega
  have wq : IntKind.i64.wrap (q52 : Int) = (q52 : Int) := by rw [IntKind.wrap_i64]; omega
  have hexp : bits .and .i64 (q52 : Int) 2047 = (xe : Int) := by
    have h := i64_and_nat q52 2047 (by omega) (by omega)
    rw [show (2047 : Nat) = 2 ^ 11 - 1 from rfl, Nat.and_two_pow_sub_one_eq_mod, show (2 : Nat) ^ 11 = 2048 from rfl, hqx] at h
    exact h
  have hman : bits .and .u64 (f : Int) 4503599627370495 = (mt : Int) := by
    have hfl : f < 18446744073709551616 := by cases neg <;> simp at hf <;> omega
    have h := u64_and_nat f 4503599627370495 hfl (by omega)
    have hm : f % 4503599627370496 = mt := by cases neg <;> simp at hf <;> omega
    rw [show (4503599627370495 : Nat) = 2 ^ 52 - 1 from rfl, Nat.and_two_pow_sub_one_eq_mod, show (2 : Nat) ^ 52 = 4503599627370496 from rfl, hm] at h
    exact h
  clear hqx hq52 hql
  replace hf := Lib.hid hf
  have hlen := fun W => Tryz.bits_Len64 (mant : Int) W (by omega) (by omega)
  rw [show (Lib.bitLen (mant : Int).toNat : Int) = (L : Int) from by rw [Int.toNat_natCast, hLb]] at hlen
  have wsh : IntKind.i64.wrap (64 - (L : Int)) = (sh : Int) := by rw [hsh, IntKind.wrap_i64]; omega
  have hshl : IntKind.u64.wrap ((mant : Int) * 2 ^ min sh 64) = (m : Int) := by
    have h2 : (mant : Int) * 2 ^ sh = (m : Int) := by rw [← hm]; simp
    rw [show min sh 64 = sh from Nat.min_eq_left (Nat.le_trans hsh63 (by decide)), h2]
    exact wu_small m hml
  have hxr : -1022 ≤ x ∧ x ≤ 1023 := by rcases hway with h | h <;> omega
  have wE1 : IntKind.i64.wrap (x - (sh : Int)) = E1 := by rw [IntKind.wrap_i64]; omega
  have wE2 : IntKind.i64.wrap (E1 - 52) = E2 := by rw [IntKind.wrap_i64]; omega
  have hmz : ((mant : Int) == 0) = false := by rw [beq_eq_false_iff_ne]; omega
  have hmz2 : decide ((mant : Int) = 0) = false := decide_eq_false (by omega)
  have hx47 : ((xe : Int) == 2047) = false := by rw [beq_eq_false_iff_ne]; omega
  clear hsh hm hE1 hE2 hnz hma1 hma2
  have SAVE := Lib.hid (And.intro hsh63 (And.intro hE2a (And.intro hE2b (And.intro hp1 (And.intro hp2 (And.intro hd1 (And.intro hnd20 hnd1)))))))
  clear hsh63 hE2a hE2b hp1 hp2 hd1 hnd20 hnd1 hxr
  replace hxe := Lib.hid hxe
  replace hml := Lib.hid hml
  replace hd2 := Lib.hid hd2
  replace hlen := Lib.hid hlen
  replace hcall := Lib.hid hcall
  replace hpa := Lib.hid hpa
  replace htab := Lib.hid htab
  replace hF := Lib.hid hF
  replace hk0 := Lib.hid hk0
  replace hLb := Lib.hid hLb
  replace hdl := Lib.hid hdl
  replace hmt := Lib.hid hmt
  rcases hway with ⟨z1, z2, z3⟩ | ⟨z1, z2, z3⟩
  · have hx0 : ((xe : Int) == 0) = true := by subst z1; rfl
    have wx : IntKind.i64.wrap ((xe : Int) + 1) = 1 := by rw [z1]; decide
    subst z3
    have z1' := Lib.hid z1
    have hman2 : bits .and .u64 (f : Int) 4503599627370495 = (mant : Int) := by rw [z2]; exact hman
    clear z1 z2 hman
    have hman := hman2
    clear hman2
    go_enter Tryz.func82, Tryz.ntmps82
    go_upto_region 14 with (fail)
    go_quiet (fail)
    have hg := hpa.out.1
    have hb1 := (below_drewN (Below.refl w.heap.size w) nq).alloc (Nat.le_refl _) (.cells zeros32 111)
    have hz1 := zeros_new (w.drewN nq) 111
    have hF1 := hF.out.below hb1
    have hpw := hpa.out.next hb1
    have hYl : w.heap.size < ((w.drewN nq).alloc (.cells zeros32 111)).heap.size := by simp [World.drewN]
    obtain ⟨Y, hY⟩ : ∃ Y, w.heap.size = Y := ⟨_, rfl⟩
    rw [show (w.drewN nq).heap.size = w.heap.size from rfl, hY] at hz1
    rw [hY] at hYl
    replace hY := Lib.hid hY
    replace hb1 := Lib.hid hb1
    replace hF1 := Lib.hid hF1
    replace hpw := Lib.hid hpw
    replace hz1 := Lib.hid hz1
    go_upto_region 34 with (fail)
    try rw [hY.out]
    generalize (w.drewN nq).alloc (.cells zeros32 111) = w1 at *
    go_wp2_with fail
    refine (hlen.out _).mono ?_
    clear hlen
    rintro e1 w2 ⟨rfl, rfl⟩
    dsimp only
    have hsf := hcall.out w2 hpw.out
    replace hsf := Lib.hid hsf
    go_wp2_with fail
    refine hsf.out.mono ?_
    clear hsf
    rintro e3 w3 ⟨rfl, hb3⟩
    dsimp only
    have hF3 := hF1.out.below hb3
    have hz3 := hz1.out.below hb3 hYl
    have hb03 := below_then hb3 hb1.out
    have hYl3 : Y < w3.heap.size := Nat.lt_of_lt_of_le hYl hb3.size
    clear hF1 hz1 hb3 hb1 hYl
    go_upto_region 38 with (fail)
    obtain ⟨hsh63, hE2a, hE2b, hp1', hp2, hd1, hnd20, hnd1⟩ := SAVE.out
    have hnd := fun W hW => Tryz.internal_strconv_numDigits d hd1 hd2.out W (htab.out W hW)
    have hsd := fun W hz => setDigits_walk Y d p W hz hd1 hd2.out (by omega) (by omega) (by rw [hnde.out]; exact hnd20)
    have hk0' := hk0.out
    have hdl' := hdl.out
    rw [hnde.out] at hnd hsd
    replace hnd := Lib.hid hnd
    replace hsd := Lib.hid hsd
    replace hk0' := Lib.hid hk0'
    refine wp_region_lex (fun _ => True) [] [4, 5] [0, 1, 2, 3, 4, 5, 6, 7, 8, 9, 10] (by kernel_rfl) rfl (by kernel_rfl) (by kernel_rfl) (fun _ _ d _ _ h => by cases d <;> exact h) ?_
    have hb03d : Below w.heap.size w w3.drew := hb03.drew
    have hF3d : FAt w (some D) w3.drew (some ⟨D, 0, none⟩) 0 24 [] := ⟨hF3.own.drew, hF3.len, ⟨hF3.grown.os, hF3.grown.tape, hF3.grown.output, hF3.grown.size, hF3.grown.block⟩, hF3.mine⟩
    have hz3d : Zeros w3.drew Y 32 := hz3
    have hYl3d : Y < w3.drew.heap.size := hYl3
    generalize w3.drew = w4 at *
    clear hF3 hz3 hb03 hYl3
    repeat (first | (refine lexG_take _ ?_ rfl rfl rfl rfl (fun _ => ?_) ?_; rotate_left; (focus (go_simp; with_reducible rfl)); try simp only [Act.put, List.setIfInBounds_toArray, List.set_cons_zero, List.set_cons_succ]) | (refine lexG_skip _ rfl rfl (by assumption) ?_; try simp only [Act.put, List.setIfInBounds_toArray, List.set_cons_zero, List.set_cons_succ]))
    refine lexG_now _ rfl rfl rfl (fun K hK => ?_)
    go_wp2_with fail
    refine (hnd.out _ hb03d).mono ?_
    clear hnd
    rintro e5 w5 ⟨rfl, rfl⟩
    dsimp only
    refine hK _ _ _ (fun _ h => h) trivial ?_
    clear hK K
    try simp only [Act.put, List.setIfInBounds_toArray, List.set_cons_zero, List.set_cons_succ]
    refine lexG_now _ rfl rfl rfl (fun K hK => ?_)
    go_wp2_with fail
    refine (hsd.out _ hz3d).mono ?_
    clear hsd
    rintro e6 w6 ⟨k, hk, rfl, hb6, hs6, hc6, hk48, hkn⟩
    have hkk := hk0'.out k hk hk48 hkn
    have hk1 : 1 ≤ k := by
      rcases Nat.eq_zero_or_pos k with h | h
      · exact absurd (hk48 0 (by omega) (by omega)) (decDigits_head d hd1)
      · exact h
    have hmx : max k0 1 = k := by omega
    dsimp only
    have hDw : D < w.heap.size := hF.out.own.lt rfl
    have hF6 := hF3d.belowY hb6 (by rw [← hY.out]; exact hDw) (by rw [← hY.out]; exact Nat.le_refl _)
    have hY6 : Y < w6.heap.size := by rw [hs6]; exact hYl3d
    have hYD : bOf (some (⟨D, 0, none⟩ : Addr)) ≠ some Y := by
      intro h
      have : D = Y := by simpa [bOf] using h
      have := hY.out
      omega
    have hFs : FAt w6 (bOf (some (⟨D, 0, none⟩ : Addr))) w6 (some ⟨D, 0, none⟩) 0 24 [] := ⟨hF6.own, rfl, World.grownBy.refl _ _, fun q hq => .inl hq⟩
    have hfm := fmtG_walk neg (some ⟨D, 0, none⟩) 0 24 [] Y ((Lib.decDigits d).take k) k w6 ((nd : Int) + p) (by omega) (by omega) hFs (by omega) hY6 hYD (by rw [List.length_take, hdl']; omega) hk1 (by omega) (fun j hj => by rw [take_getD _ _ _ hj]; exact hc6 j (by omega))
    rw [List.nil_append] at hfm
    replace hfm := Lib.hid hfm
    have hmx' := Lib.hid hmx
    clear hmx
    refine hK _ _ _ (fun _ h => h) trivial ?_
    clear hK K hb6 hc6 hk48 hkn hz3d hF3d hb03d hYl3d hs6 hk0' hkk
    try simp only [Act.put, List.setIfInBounds_toArray, List.set_cons_zero, List.set_cons_succ]
    repeat (first | (refine lexG_take _ ?_ rfl rfl rfl rfl (fun _ => ?_) ?_; rotate_left; (focus (go_simp; with_reducible rfl)); try simp only [Act.put, List.setIfInBounds_toArray, List.set_cons_zero, List.set_cons_succ]) | (refine lexG_skip _ rfl rfl (by assumption) ?_; try simp only [Act.put, List.setIfInBounds_toArray, List.set_cons_zero, List.set_cons_succ]))
    refine lexG_nil ?_
    go_wp2_with fail
    refine hfm.out.mono ?_
    rintro e7 w7 ⟨A7, n7, c7, rfl, hF7⟩
    dsimp only
    go_wp2_with fail
    go_ret
    rw [hmx'.out]
    exact ⟨A7, n7, c7, rfl, hF6.then_ hF7⟩
  · have hx0 : ((xe : Int) == 0) = false := by rw [beq_eq_false_iff_ne]; omega
    have hor := or_top mt hmt.out
    rw [← z2] at hor
    have hxe' := hxe.out
    have wx2 : IntKind.i64.wrap ((xe : Int) + -1023) = x := by rw [z3, IntKind.wrap_i64]; omega
    have wx3 : IntKind.i64.wrap ((xe : Int) - 1023) = x := by rw [z3, IntKind.wrap_i64]; omega
    have z1' := Lib.hid z1
    clear z1 z2 z3 hxe'
    go_enter Tryz.func82, Tryz.ntmps82
    go_upto_region 14 with (fail)
    go_quiet (fail)
    have hg := hpa.out.1
    have hb1 := (below_drewN (Below.refl w.heap.size w) nq).alloc (Nat.le_refl _) (.cells zeros32 111)
    have hz1 := zeros_new (w.drewN nq) 111
    have hF1 := hF.out.below hb1
    have hpw := hpa.out.next hb1
    have hYl : w.heap.size < ((w.drewN nq).alloc (.cells zeros32 111)).heap.size := by simp [World.drewN]
    obtain ⟨Y, hY⟩ : ∃ Y, w.heap.size = Y := ⟨_, rfl⟩
    rw [show (w.drewN nq).heap.size = w.heap.size from rfl, hY] at hz1
    rw [hY] at hYl
    replace hY := Lib.hid hY
    replace hb1 := Lib.hid hb1
    replace hF1 := Lib.hid hF1
    replace hpw := Lib.hid hpw
    replace hz1 := Lib.hid hz1
    go_upto_region 34 with (fail)
    try rw [hY.out]
    generalize (w.drewN nq).alloc (.cells zeros32 111) = w1 at *
    go_wp2_with fail
    refine (hlen.out _).mono ?_
    clear hlen
    rintro e1 w2 ⟨rfl, rfl⟩
    dsimp only
    have hsf := hcall.out w2 hpw.out
    replace hsf := Lib.hid hsf
    go_wp2_with fail
    refine hsf.out.mono ?_
    clear hsf
    rintro e3 w3 ⟨rfl, hb3⟩
    dsimp only
    have hF3 := hF1.out.below hb3
    have hz3 := hz1.out.below hb3 hYl
    have hb03 := below_then hb3 hb1.out
    have hYl3 : Y < w3.heap.size := Nat.lt_of_lt_of_le hYl hb3.size
    clear hF1 hz1 hb3 hb1 hYl
    go_upto_region 38 with (fail)
    obtain ⟨hsh63, hE2a, hE2b, hp1', hp2, hd1, hnd20, hnd1⟩ := SAVE.out
    have hnd := fun W hW => Tryz.internal_strconv_numDigits d hd1 hd2.out W (htab.out W hW)
    have hsd := fun W hz => setDigits_walk Y d p W hz hd1 hd2.out (by omega) (by omega) (by rw [hnde.out]; exact hnd20)
    have hk0' := hk0.out
    have hdl' := hdl.out
    rw [hnde.out] at hnd hsd
    replace hnd := Lib.hid hnd
    replace hsd := Lib.hid hsd
    replace hk0' := Lib.hid hk0'
    refine wp_region_lex (fun _ => True) [] [4, 5] [0, 1, 2, 3, 4, 5, 6, 7, 8, 9, 10] (by kernel_rfl) rfl (by kernel_rfl) (by kernel_rfl) (fun _ _ d _ _ h => by cases d <;> exact h) ?_
    have hb03d : Below w.heap.size w w3.drew := hb03.drew
    have hF3d : FAt w (some D) w3.drew (some ⟨D, 0, none⟩) 0 24 [] := ⟨hF3.own.drew, hF3.len, ⟨hF3.grown.os, hF3.grown.tape, hF3.grown.output, hF3.grown.size, hF3.grown.block⟩, hF3.mine⟩
    have hz3d : Zeros w3.drew Y 32 := hz3
    have hYl3d : Y < w3.drew.heap.size := hYl3
    generalize w3.drew = w4 at *
    clear hF3 hz3 hb03 hYl3
    repeat (first | (refine lexG_take _ ?_ rfl rfl rfl rfl (fun _ => ?_) ?_; rotate_left; (focus (go_simp; with_reducible rfl)); try simp only [Act.put, List.setIfInBounds_toArray, List.set_cons_zero, List.set_cons_succ]) | (refine lexG_skip _ rfl rfl (by assumption) ?_; try simp only [Act.put, List.setIfInBounds_toArray, List.set_cons_zero, List.set_cons_succ]))
    refine lexG_now _ rfl rfl rfl (fun K hK => ?_)
    go_wp2_with fail
    refine (hnd.out _ hb03d).mono ?_
    clear hnd
    rintro e5 w5 ⟨rfl, rfl⟩
    dsimp only
    refine hK _ _ _ (fun _ h => h) trivial ?_
    clear hK K
    try simp only [Act.put, List.setIfInBounds_toArray, List.set_cons_zero, List.set_cons_succ]
    refine lexG_now _ rfl rfl rfl (fun K hK => ?_)
    go_wp2_with fail
    refine (hsd.out _ hz3d).mono ?_
    clear hsd
    rintro e6 w6 ⟨k, hk, rfl, hb6, hs6, hc6, hk48, hkn⟩
    have hkk := hk0'.out k hk hk48 hkn
    have hk1 : 1 ≤ k := by
      rcases Nat.eq_zero_or_pos k with h | h
      · exact absurd (hk48 0 (by omega) (by omega)) (decDigits_head d hd1)
      · exact h
    have hmx : max k0 1 = k := by omega
    dsimp only
    have hDw : D < w.heap.size := hF.out.own.lt rfl
    have hF6 := hF3d.belowY hb6 (by rw [← hY.out]; exact hDw) (by rw [← hY.out]; exact Nat.le_refl _)
    have hY6 : Y < w6.heap.size := by rw [hs6]; exact hYl3d
    have hYD : bOf (some (⟨D, 0, none⟩ : Addr)) ≠ some Y := by
      intro h
      have : D = Y := by simpa [bOf] using h
      have := hY.out
      omega
    have hFs : FAt w6 (bOf (some (⟨D, 0, none⟩ : Addr))) w6 (some ⟨D, 0, none⟩) 0 24 [] := ⟨hF6.own, rfl, World.grownBy.refl _ _, fun q hq => .inl hq⟩
    have hfm := fmtG_walk neg (some ⟨D, 0, none⟩) 0 24 [] Y ((Lib.decDigits d).take k) k w6 ((nd : Int) + p) (by omega) (by omega) hFs (by omega) hY6 hYD (by rw [List.length_take, hdl']; omega) hk1 (by omega) (fun j hj => by rw [take_getD _ _ _ hj]; exact hc6 j (by omega))
    rw [List.nil_append] at hfm
    replace hfm := Lib.hid hfm
    have hmx' := Lib.hid hmx
    clear hmx
    refine hK _ _ _ (fun _ h => h) trivial ?_
    clear hK K hb6 hc6 hk48 hkn hz3d hF3d hb03d hYl3d hs6 hk0' hkk
    try simp only [Act.put, List.setIfInBounds_toArray, List.set_cons_zero, List.set_cons_succ]
    repeat (first | (refine lexG_take _ ?_ rfl rfl rfl rfl (fun _ => ?_) ?_; rotate_left; (focus (go_simp; with_reducible rfl)); try simp only [Act.put, List.setIfInBounds_toArray, List.set_cons_zero, List.set_cons_succ]) | (refine lexG_skip _ rfl rfl (by assumption) ?_; try simp only [Act.put, List.setIfInBounds_toArray, List.set_cons_zero, List.set_cons_succ]))
    refine lexG_nil ?_
    go_wp2_with fail
    refine hfm.out.mono ?_
    rintro e7 w7 ⟨A7, n7, c7, rfl, hF7⟩
    dsimp only
    go_wp2_with fail
    go_ret
    rw [hmx'.out]
    exact ⟨A7, n7, c7, rfl, hF6.then_ hF7⟩
end Go.Proofs.YtdbmffagibnibaaGreatDoor
