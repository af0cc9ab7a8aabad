/- Floats' texts: FormatFloat and value.float at any number. -/
import Derived.Test.YtdbmffagibnibaaGreatDoorFg4
import Derived.Test.YtdbmffagibnibaaGreatDoorFf7
import Derived.Lib.IndexLaws
set_option linter.unusedSimpArgs false
set_option linter.unusedVariables false
namespace Go.Proofs.YtdbmffagibnibaaGreatDoor
open Go.RowKit Go.Sort Go.Lib
set_option maxRecDepth 100000

/-- The tables that a number's text reads. -/
structure TabA (w : World) : Prop where
  pows : PowAll w
  tens : Lib.TabIs Tryz.prog w "internal/strconv.uint64pow10" .u64 Lib.pow10Tab
theorem TabA.next {w w' : World} (h : TabA w) (hb : Below w.heap.size w w') : TabA w' := ⟨h.pows.next hb, var_next g_tab h.tens hb⟩
/-- What a number's text is like. -/
structure Shape (f : Nat) (S : List UInt8) : Prop where
  nan : 9218868437227405312 < f % 9223372036854775808 → S = [78, 97, 78]
  inf : f % 9223372036854775808 = 9218868437227405312 → S = [43, 73, 110, 102] ∨ S = [45, 73, 110, 102]
  fin : f % 9223372036854775808 < 9218868437227405312 → Fin_ S
  zero : f % 9223372036854775808 = 0 → S = [48] ∨ S = [45, 48]
theorem Shape.len {f : Nat} {S : List UInt8} (h : Shape f S) : S.length ≤ 100 := by
  rcases Nat.lt_trichotomy (f % 9223372036854775808) 9218868437227405312 with a | a | a
  · exact (h.fin a).2.2
  · rcases h.inf a with e | e <;> subst e <;> decide
  · have e := h.nan a; subst e; decide
theorem ftoa_any (f : Nat) (hf : f < 18446744073709551616) : ∃ S, Shape f S ∧ ∀ (D : Nat) (w : World), FAt w (some D) w (some ⟨D, 0, none⟩) 0 24 [] → PowAll w → (∀ W, Below w.heap.size w W → Lib.TabIs Tryz.prog W "internal/strconv.uint64pow10" .u64 Lib.pow10Tab) →
    Calls Tryz.prog 82 #[.slice (some ⟨D, 0, none⟩) 0 24, .float .f64 f, .int .u8 103, .int .i64 (-1)] w (fun e w' => ∃ A' n' c', e = .returned (.slice A' n' c') ∧ FAt w (some D) w' A' n' c' S) := by
  obtain ⟨neg, hneg⟩ : ∃ neg : Bool, neg = decide (9223372036854775808 ≤ f) := ⟨_, rfl⟩
  obtain ⟨xe, hxe⟩ : ∃ x, f / 4503599627370496 % 2048 = x := ⟨_, rfl⟩
  obtain ⟨mt, hmt⟩ : ∃ m, f % 4503599627370496 = m := ⟨_, rfl⟩
  have hml : mt < 4503599627370496 := by omega
  have hxl : xe < 2048 := by omega
  have hfe : f = (if neg then 9223372036854775808 else 0) + xe * 4503599627370496 + mt := by
    by_cases h : 9223372036854775808 ≤ f
    · rw [hneg, decide_eq_true h, if_pos rfl]; omega
    · rw [hneg, decide_eq_false h, if_neg (by decide)]; omega
  have hmag : f % 9223372036854775808 = xe * 4503599627370496 + mt := by omega
  by_cases h1 : xe = 2047
  · refine ⟨if mt = 0 then (if neg then [45, 73, 110, 102] else [43, 73, 110, 102]) else [78, 97, 78], ⟨fun h => ?_, fun h => ?_, fun h => by omega, fun h => by omega⟩, fun D w hF _ _ => ftoa_spec f neg xe mt hml hfe h1 _ rfl D w hF⟩
    · rw [if_neg (by omega)]
    · rw [if_pos (by omega)]
      cases neg
      · exact .inl rfl
      · exact .inr rfl
  · by_cases h0 : xe = 0 ∧ mt = 0
    · refine ⟨signL neg ++ [48], ⟨fun h => by omega, fun h => by omega, fun h => ?_, fun h => ?_⟩, fun D w hF _ _ => ftoa_zero f neg xe mt hml hfe h0.1 h0.2 D w hF _ rfl⟩
      · cases neg
        · exact ⟨fun c hc => by simp [signL] at hc; subst hc; exact .inl (by unfold digB; decide), fun hc => by simp [signL] at hc, by simp [signL]⟩
        · exact ⟨fun c hc => by
            simp only [signL, if_true, List.mem_append, List.mem_singleton] at hc
            rcases hc with rfl | rfl
            · exact .inr (.inl rfl)
            · exact .inl (by unfold digB; decide), fun hc => by
            simp only [signL, if_true, List.mem_append, List.mem_singleton] at hc
            rcases hc with hc | hc <;> revert hc <;> decide, by simp [signL]⟩
      · cases neg
        · exact .inl rfl
        · exact .inr rfl
    · obtain ⟨S, hS, H⟩ := ftoa_num f neg xe mt hml hfe (by omega) (by omega)
      exact ⟨S, ⟨fun h => by omega, fun h => by omega, fun _ => hS, fun h => by omega⟩, H⟩

set_option maxHeartbeats 3200000 in
theorem format_any (f : Nat) (hf : f < 18446744073709551616) : ∃ S, Shape f S ∧ ∀ w, TabA w → Calls Tryz.prog 48 #[.float .f64 f, .int .u8 103, .int .i64 (-1), .int .i64 64] w (fun e w' => e = .returned (.string (bstr S)) ∧ Below w.heap.size w w') := by
  obtain ⟨S, hS, H⟩ := ftoa_any f hf
  refine ⟨S, hS, ?_⟩
  have inner : ∀ w, TabA w → Calls Tryz.prog 67 #[.float .f64 f, .int .u8 103, .int .i64 (-1), .int .i64 64] w (fun e w' => e = .returned (.string (bstr S)) ∧ Below w.heap.size w w') := by
    intro w hL
    have hmax : max (3 : Int) 24 = 24 := by decide
    obtain ⟨cur, hcs, hmk⟩ := make24 w
    have hb1 := (Below.refl w.heap.size w).alloc (Nat.le_refl _) (.cells cur 5)
    have hown : Own (w.alloc (.cells cur 5)) 5 1 (some ⟨w.heap.size, 0, none⟩) 0 24 (bys []) := ⟨by simp [bys], .inr ⟨w.heap.size, cur, rfl, Blk.new w 5 cur, by omega, by unfold maxLen; omega, by omega, by simp [bys]⟩⟩
    have hL1 := hL.next hb1
    have hF : FAt (w.alloc (.cells cur 5)) (some w.heap.size) (w.alloc (.cells cur 5)) (some ⟨w.heap.size, 0, none⟩) 0 24 [] := ⟨hown, rfl, World.grownBy.refl _ _, fun q hq => .inl hq⟩
    have hft := H w.heap.size (w.alloc (.cells cur 5)) hF hL1.pows (fun W hW => (hL1.next hW).tens)
    replace hft := Lib.hid hft
    go_enter Tryz.func67, Tryz.ntmps67
    go_wp2_with fail
    refine hft.out.mono ?_
    clear hft
    rintro e w2 ⟨A, n, c, rfl, hF2⟩
    dsimp only
    have hcv := conv_bytes' (c := c) hF2.own.reads_
    have hb2 : Below w.heap.size w w2 := by
      have hg := hF2.grown
      exact Below.trans hb1 ⟨hg.os, hg.tape, hg.output, hg.size, fun k hk => hg.block k (by simp; omega) (by simp; omega)⟩
    go_wp2_with fail
    go_ret
    exact ⟨rfl, hb2⟩
  intro w hL
  have hft := inner w hL
  replace hft := Lib.hid hft
  go_enter Tryz.func48, Tryz.ntmps48
  go_wp2_with fail
  refine hft.out.mono ?_
  rintro e w2 ⟨rfl, hb⟩
  dsimp only
  go_wp2_with fail
  go_ret
  exact ⟨rfl, hb⟩

theorem and_not_top (f : Nat) (hf : f < 18446744073709551616) : bits .andNot .u64 (f : Int) 9223372036854775808 = ((f % 9223372036854775808 : Nat) : Int) := by
  show IntKind.u64.wrap ((BitVec.ofInt 64 (f : Int) &&& ~~~ (BitVec.ofInt 64 9223372036854775808)).toNat : Int) = _
  rw [BitVec.toNat_and, ofInt_u64 f hf, show (~~~ (BitVec.ofInt 64 9223372036854775808)).toNat = 2 ^ 63 - 1 from by decide, Nat.and_two_pow_sub_one_eq_mod]
  simp [IntKind.wrap, IntKind.bits, IntKind.signed]
  omega
theorem abs_any (f : Nat) (hf : f < 18446744073709551616) (w : World) : Calls Tryz.prog 76 #[.float .f64 f] w (fun e w' => e = .returned (.float .f64 (f % 9223372036854775808)) ∧ w' = w) := by
  have hbf : ∀ w, (callFunc 38 #[.float .f64 f]).run Tryz.prog w = .ok (.value (.int .u64 (f : Int))) w := fun w => run_fbits f w
  have han := and_not_top f hf
  obtain ⟨m, hm⟩ : ∃ m, f % 9223372036854775808 = m := ⟨_, rfl⟩
  rw [hm] at han ⊢
  have hff : ∀ w, (callFunc 51 #[.int .u64 (m : Int)]).run Tryz.prog w = .ok (.value (.float .f64 m)) w := fun w => run_ffrom m w
  replace hm := Lib.hid hm
  clear hf
  go_enter Tryz.func76, Tryz.ntmps76
  go_wp2_with fail
  go_ret
  exact ⟨rfl, rfl⟩
theorem gt_max (m : Nat) (hm : m < 9223372036854775808) : (FloatKind.f64.format.order m 9218868437227405311 == some Ordering.gt) = decide (m = 9218868437227405312) := by
  rw [ord_gt]
  have hn2 : nanB 9218868437227405311 = false := by decide
  have hk2 : keyF 9218868437227405311 = (magF 9218868437227405311 : Int) := by decide +kernel
  rw [hn2, hk2]
  have hs : sgF m = false := by unfold sgF; rw [show m / 9223372036854775808 % 2 = 0 by omega]; rfl
  have hkm : keyF m = (magF m : Int) := by unfold keyF; rw [hs, Nat.mod_eq_of_lt hm]; rfl
  have hnm : nanB m = decide (9218868437227405312 < m) := by unfold nanB; rw [Nat.mod_eq_of_lt hm]
  rw [hkm, hnm]
  by_cases h1 : 9218868437227405312 < m
  · rw [decide_eq_true h1, decide_eq_false (show ¬ m = 9218868437227405312 by omega)]; rfl
  · rw [decide_eq_false h1]
    by_cases h2 : m = 9218868437227405312
    · have := magF_lt (show 9218868437227405311 < m by omega)
      rw [decide_eq_true h2, decide_eq_true (show (magF 9218868437227405311 : Int) < (magF m : Int) by omega)]; rfl
    · rw [decide_eq_false h2]
      have : ¬ (magF 9218868437227405311 : Int) < (magF m : Int) := by
        rcases Nat.lt_or_ge m 9218868437227405311 with h | h
        · have := magF_lt h; omega
        · rw [show m = 9218868437227405311 by omega]; omega
      rw [decide_eq_false this]; rfl
theorem inf_any (f : Nat) (hf : f < 18446744073709551616) (w : World) : Calls Tryz.prog 61 #[.float .f64 f, .int .i64 0] w (fun e w' => e = .returned (.bool (decide (f % 9223372036854775808 = 9218868437227405312))) ∧ w' = w) := by
  have ha := fun W => abs_any f hf W
  have ho := gt_max (f % 9223372036854775808) (by omega)
  obtain ⟨m, hm⟩ : ∃ m, f % 9223372036854775808 = m := ⟨_, rfl⟩
  rw [hm] at ha ho ⊢
  obtain ⟨b, hb⟩ : ∃ b, decide (m = 9218868437227405312) = b := ⟨_, rfl⟩
  rw [hb] at ho ⊢
  replace ha := Lib.hid ha
  replace hm := Lib.hid hm
  replace hb := Lib.hid hb
  clear hf
  go_enter Tryz.func61, Tryz.ntmps61
  go_wp2_with fail
  refine (ha.out _).mono ?_
  rintro e w' ⟨rfl, rfl⟩
  dsimp only
  go_wp2_with fail
  go_ret
  exact ⟨rfl, rfl⟩
theorem nan_any (f : Nat) (w : World) : Calls Tryz.prog 36 #[.float .f64 f] w (fun e w' => e = .returned (.bool (nanB f)) ∧ w' = w) := by
  have ho := order_self f
  obtain ⟨b, hb⟩ : ∃ b, nanB f = b := ⟨_, rfl⟩
  rw [hb] at ho ⊢
  replace hb := Lib.hid hb
  go_enter Tryz.func36, Tryz.ntmps36
  go_wp2_with fail
  go_ret
  exact ⟨rfl, rfl⟩
theorem contains_mem (l : List UInt8) (c : UInt8) : decide (0 ≤ Lib.indexByte l c) = l.contains c := by
  have hge := Lib.indexByte_ge l c
  by_cases h : c ∈ l
  · rw [show l.contains c = true from by simpa using h]
    refine decide_eq_true ?_
    rcases (show Lib.indexByte l c = -1 ∨ 0 ≤ Lib.indexByte l c by omega) with e | e
    · obtain ⟨k, hk, rfl⟩ := List.getElem_of_mem h
      exact absurd (List.getElem?_eq_getElem hk) (Lib.indexByte_none e k)
    · exact e
  · rw [show l.contains c = false from by simpa using h]
    refine decide_eq_false (fun e => h ?_)
    obtain ⟨o, ho⟩ : ∃ o : Nat, Lib.indexByte l c = o := ⟨(Lib.indexByte l c).toNat, by omega⟩
    exact List.mem_of_getElem? (Lib.indexByte_some ho).1
/-- A number's text, behind it a point where there's neither point nor exponent. -/
def textF (f : Nat) (S : List UInt8) : List UInt8 := if decide (f % 9223372036854775808 < 9218868437227405312) && !S.contains 46 && !S.contains 101 then S ++ [46, 48] else S
theorem bstr_list (S : List UInt8) : (bstr S).data.toList = S := by unfold bstr; simp
/-- value.float at any number: its text is the number's own. -/
theorem float_any (f : Nat) (S : List UInt8) (hS : Shape f S) (hf : f < 18446744073709551616) (H : ∀ w, TabA w → Calls Tryz.prog 48 #[.float .f64 f, .int .u8 103, .int .i64 (-1), .int .i64 64] w (fun e w' => e = .returned (.string (bstr S)) ∧ Below w.heap.size w w')) (w : World) (hL : TabA w) :
    Calls Tryz.prog 45 #[.float .f64 f] w (fun e w' => e = .returned (.string (bstr (textF f S))) ∧ Below w.heap.size w w') := by
  have hp := H w hL
  have h1 := fun W => inf_any f hf W
  have h2 := fun W => nan_any f W
  have h3 := fun W => Tryz.strings_Contains_one (bstr S) 46 W
  have h4 := fun W => Tryz.strings_Contains_one (bstr S) 101 W
  rw [bstr_list, contains_mem] at h3 h4
  have hnan : nanB f = decide (9218868437227405312 < f % 9223372036854775808) := rfl
  have hadd : ∀ W, (Op.stringOp .add (bstr S) ⟨#[46, 48]⟩).run Tryz.prog W = .ok (.string (bstr (S ++ [46, 48]))) W := fun W => run_bstr_add W S [46, 48] (by have := hS.len; simp; omega)
  obtain ⟨s, hs⟩ : ∃ s, bstr S = s := ⟨_, rfl⟩
  rw [hs] at hp h3 h4 hadd
  obtain ⟨s2, hs2⟩ : ∃ s, bstr (S ++ [46, 48]) = s := ⟨_, rfl⟩
  rw [hs2] at hadd
  obtain ⟨t, ht⟩ : ∃ t, bstr (textF f S) = t := ⟨_, rfl⟩
  rw [ht]
  have hI : decide (f % 9223372036854775808 < 9218868437227405312) = (!decide (f % 9223372036854775808 = 9218868437227405312) && !decide (9218868437227405312 < f % 9223372036854775808)) := by
    by_cases a : f % 9223372036854775808 < 9218868437227405312
    · rw [decide_eq_true a, decide_eq_false (by omega), decide_eq_false (by omega)]; rfl
    · rw [decide_eq_false a]
      by_cases b : f % 9223372036854775808 = 9218868437227405312
      · rw [decide_eq_true b]; rfl
      · rw [decide_eq_false b, decide_eq_true (by omega)]; rfl
  rw [hnan] at h2
  unfold textF at ht
  rw [hI] at ht
  generalize decide (f % 9223372036854775808 = 9218868437227405312) = bi at *
  generalize decide (9218868437227405312 < f % 9223372036854775808) = bn at *
  generalize S.contains 46 = b1 at *
  generalize S.contains 101 = b2 at *
  replace hs := Lib.hid hs
  replace hs2 := Lib.hid hs2
  replace ht := Lib.hid ht
  replace hp := Lib.hid hp
  replace h1 := Lib.hid h1
  replace h2 := Lib.hid h2
  replace h3 := Lib.hid h3
  replace h4 := Lib.hid h4
  clear hI hnan hS H
  go_enter Tryz.func45, Tryz.ntmps45
  go_wp2_with fail
  refine hp.out.mono ?_
  clear hp
  rintro e w2 ⟨rfl, hb⟩
  dsimp only
  go_wp2_with fail
  refine (h1.out _).mono ?_
  rintro e w3 ⟨rfl, rfl⟩
  dsimp only
  cases bi
  · go_wp2_with fail
    refine (h2.out _).mono ?_
    rintro e w4 ⟨rfl, rfl⟩
    dsimp only
    cases bn
    · go_wp2_with fail
      refine (h3.out _).mono ?_
      rintro e w5 ⟨rfl, rfl⟩
      dsimp only
      cases b1
      · go_wp2_with fail
        refine (h4.out _).mono ?_
        rintro e w6 ⟨rfl, rfl⟩
        dsimp only
        cases b2
        · go_wp2_with fail
          go_ret
          exact ⟨by rw [← ht.out, ← hs2.out]; rfl, hb⟩
        · go_wp2_with fail
          go_ret
          exact ⟨by rw [← ht.out, ← hs.out]; rfl, hb⟩
      · go_wp2_with fail
        go_ret
        exact ⟨by rw [← ht.out, ← hs.out]; rfl, hb⟩
    · go_wp2_with fail
      go_ret
      exact ⟨by rw [← ht.out, ← hs.out]; rfl, hb⟩
  · go_wp2_with fail
    go_ret
    exact ⟨by rw [← ht.out, ← hs.out]; rfl, hb⟩
end Go.Proofs.YtdbmffagibnibaaGreatDoor
