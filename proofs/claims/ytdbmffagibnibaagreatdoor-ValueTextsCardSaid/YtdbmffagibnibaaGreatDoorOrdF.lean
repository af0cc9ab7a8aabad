/- The order of floats and strings, as the machine tells it. -/
import Derived.Test.YtdbmffagibnibaaGreatDoorFord
set_option linter.unusedSimpArgs false
set_option linter.unusedVariables false
namespace Go.Proofs.YtdbmffagibnibaaGreatDoor
set_option maxRecDepth 100000
open Go.RowKit

def wayB (a b : Bool) : Int := if a then -1 else if b then 1 else 0
theorem ref_way (a b : Bool) (w : World) : Calls Tryz.prog 42 #[.bool a, .bool b] w (Says w (.int .i64 (wayB a b))) := by
  cases a <;> cases b
  · go_enter Tryz.func42, Tryz.ntmps42
    go_wp2
    go_ret
    exact ⟨rfl, Below.refl _ _⟩
  · go_enter Tryz.func42, Tryz.ntmps42
    go_wp2
    go_ret
    exact ⟨rfl, Below.refl _ _⟩
  · go_enter Tryz.func42, Tryz.ntmps42
    go_wp2
    go_ret
    exact ⟨rfl, Below.refl _ _⟩
  · go_enter Tryz.func42, Tryz.ntmps42
    go_wp2
    go_ret
    exact ⟨rfl, Below.refl _ _⟩
theorem way_cmp (a b : Int) : wayB (decide (a < b)) (decide (b < a)) = cmpI a b := by
  unfold wayB cmpI
  by_cases h1 : a < b <;> by_cases h2 : b < a <;> simp [h1, h2]

def cmpFl (x y : Nat) : Int := if nanB x then (if nanB y then 0 else -1) else if nanB y then 1 else cmpI (keyF x) (keyF y)
theorem isnan_flt (x : Nat) (w : World) : Calls Tryz.prog 69 #[.float .f64 x] w (Says w (.bool (nanB x))) := by
  have h := order_self x
  obtain ⟨q, hq⟩ : ∃ q, nanB x = q := ⟨_, rfl⟩
  rw [hq] at h ⊢
  clear hq
  go_enter Tryz.func69, Tryz.ntmps69
  go_wp2
  go_ret
  exact ⟨rfl, Below.refl _ _⟩
theorem compare_flt (x y : Nat) (w : World) : Calls Tryz.prog 55 #[.float .f64 x, .float .f64 y] w (Says w (.int .i64 (cmpFl x y))) := by
  have hx := fun w => isnan_flt x w
  have hy := fun w => isnan_flt y w
  have hl := ord_lt x y
  have hg := ord_gt x y
  obtain ⟨r, hr⟩ : ∃ r, cmpFl x y = r := ⟨_, rfl⟩
  rw [hr]
  unfold cmpFl at hr
  cases h1 : nanB x <;> cases h2 : nanB y <;> rw [h1] at hx hl hg hr <;> rw [h2] at hy hl hg hr <;> simp only [Bool.false_eq_true, if_false, if_true, Bool.not_false, Bool.not_true, Bool.true_and, Bool.false_and, Bool.and_false] at hl hg hr
  · rcases (show keyF x < keyF y ∨ keyF y < keyF x ∨ keyF x = keyF y by omega) with h | h | h
    · rw [cmpI_lt h] at hr
      rw [decide_eq_true h] at hl
      subst hr
      clear hg h h1 h2
      go_enter Tryz.func55, Tryz.ntmps55
      go_wp2_with fail
      refine (hx _).mono ?_
      rintro e w1 ⟨rfl, hb1⟩
      dsimp only
      go_wp2_with fail
      refine (hy _).mono ?_
      rintro e w2 ⟨rfl, hb2⟩
      dsimp only
      go_wp2_with fail
      go_ret
      exact ⟨rfl, below_then hb2 hb1⟩
    · rw [cmpI_gt h] at hr
      rw [decide_eq_false (by omega)] at hl
      rw [decide_eq_true h] at hg
      subst hr
      clear h h1 h2
      go_enter Tryz.func55, Tryz.ntmps55
      go_wp2_with fail
      refine (hx _).mono ?_
      rintro e w1 ⟨rfl, hb1⟩
      dsimp only
      go_wp2_with fail
      refine (hy _).mono ?_
      rintro e w2 ⟨rfl, hb2⟩
      dsimp only
      go_wp2_with fail
      go_ret
      exact ⟨rfl, below_then hb2 hb1⟩
    · rw [h, cmpI_eq] at hr
      rw [decide_eq_false (by omega)] at hl
      rw [decide_eq_false (by omega)] at hg
      subst hr
      clear h h1 h2
      go_enter Tryz.func55, Tryz.ntmps55
      go_wp2_with fail
      refine (hx _).mono ?_
      rintro e w1 ⟨rfl, hb1⟩
      dsimp only
      go_wp2_with fail
      refine (hy _).mono ?_
      rintro e w2 ⟨rfl, hb2⟩
      dsimp only
      go_wp2_with fail
      go_ret
      exact ⟨rfl, below_then hb2 hb1⟩
  · subst hr
    clear h1 h2 hl hg
    go_enter Tryz.func55, Tryz.ntmps55
    go_wp2_with fail
    refine (hx _).mono ?_
    rintro e w1 ⟨rfl, hb1⟩
    dsimp only
    go_wp2_with fail
    refine (hy _).mono ?_
    rintro e w2 ⟨rfl, hb2⟩
    dsimp only
    go_wp2_with fail
    go_ret
    exact ⟨rfl, below_then hb2 hb1⟩
  · subst hr
    clear h1 h2 hl hg
    go_enter Tryz.func55, Tryz.ntmps55
    go_wp2_with fail
    refine (hx _).mono ?_
    rintro e w1 ⟨rfl, hb1⟩
    dsimp only
    go_wp2_with fail
    refine (hy _).mono ?_
    rintro e w2 ⟨rfl, hb2⟩
    dsimp only
    go_wp2_with fail
    go_ret
    exact ⟨rfl, below_then hb2 hb1⟩
  · subst hr
    clear h1 h2 hl hg
    go_enter Tryz.func55, Tryz.ntmps55
    go_wp2_with fail
    refine (hx _).mono ?_
    rintro e w1 ⟨rfl, hb1⟩
    dsimp only
    go_wp2_with fail
    refine (hy _).mono ?_
    rintro e w2 ⟨rfl, hb2⟩
    dsimp only
    go_wp2_with fail
    go_ret
    exact ⟨rfl, below_then hb2 hb1⟩

theorem sign_bit (x : Nat) (w : World) (hx : x < 18446744073709551616) : Calls Tryz.prog 59 #[.float .f64 x] w fun e w' => e = .returned (.bool (sgF x)) ∧ w = w' := by
  have hb := fun w => run_bits x w
  obtain ⟨q, hq⟩ : ∃ q, sgF x = q := ⟨_, rfl⟩
  have hd : decide (wrap64 (x : Int) < 0) = q := by
    rw [← hq]
    unfold sgF
    have e : wrap64 (x : Int) = if x < 9223372036854775808 then (x : Int) else (x : Int) - 18446744073709551616 := by
      unfold wrap64
      split <;> omega
    rw [e]
    by_cases h : x < 9223372036854775808
    · rw [if_pos h, decide_eq_false (by omega)]
      have : x / 9223372036854775808 % 2 = 0 := by omega
      rw [this]; rfl
    · rw [if_neg h, decide_eq_true (by omega)]
      have : x / 9223372036854775808 % 2 = 1 := by omega
      rw [this]; rfl
  rw [hq]
  clear hx hq
  go_enter Tryz.func59, Tryz.ntmps59
  go_wp2
  go_ret
  exact ⟨rfl, rfl⟩
theorem val_sign (x : Nat) (w : World) (hx : x < 18446744073709551616) : Calls Tryz.prog 54 #[.float .f64 x] w (Says w (.int .i64 (if sgF x then 0 else 1))) := by
  have hs := fun w => sign_bit x w hx
  clear hx
  cases h : sgF x <;> rw [h] at hs
  · go_enter Tryz.func54, Tryz.ntmps54
    go_wp2_with fail
    refine (hs _).mono ?_
    rintro e w1 ⟨rfl, rfl⟩
    dsimp only
    go_wp2_with fail
    go_ret
    exact ⟨rfl, Below.refl _ _⟩
  · go_enter Tryz.func54, Tryz.ntmps54
    go_wp2_with fail
    refine (hs _).mono ?_
    rintro e w1 ⟨rfl, rfl⟩
    dsimp only
    go_wp2_with fail
    go_ret
    exact ⟨rfl, Below.refl _ _⟩

theorem val_floats (x y : Nat) (w : World) (hx : x < 18446744073709551616) (hy : y < 18446744073709551616) : Calls Tryz.prog 33 #[.float .f64 x, .float .f64 y] w (Says w (.int .i64 (ordFl x y))) := by
  have zx := ord_zero x
  have zy := ord_zero y
  have hsx := fun w => val_sign x w hx
  have hsy := fun w => val_sign y w hy
  have hc := fun a b w => compare_int a b w
  have hf := fun w => compare_flt x y w
  obtain ⟨r, hr⟩ : ∃ r, ordFl x y = r := ⟨_, rfl⟩
  rw [hr]
  clear hx hy
  by_cases hz : keyF x = 0 ∧ keyF y = 0
  · have hn : nanB x = false ∧ nanB y = false := by
      have e1 := key_zero hz.1
      have e2 := key_zero hz.2
      unfold nanB
      exact ⟨decide_eq_false (by omega), decide_eq_false (by omega)⟩
    have hr' : cmpI (if sgF x then 0 else 1) (if sgF y then 0 else 1) = r := by
      rw [← hr]; unfold ordFl; rw [hn.1, hn.2, if_pos hz]; rfl
    clear hr hf
    rw [decide_eq_true hz.1] at zx
    rw [decide_eq_true hz.2] at zy
    clear hz hn
    generalize (if sgF x = true then (0 : Int) else 1) = sx at *
    generalize (if sgF y = true then (0 : Int) else 1) = sy at *
    subst hr'
    replace hc := fun w => hc sx sy w
    generalize cmpI sx sy = r at *
    go_enter Tryz.func33, Tryz.ntmps33
    go_wp2_with fail
    refine (hsx _).mono ?_
    rintro e w1 ⟨rfl, hb1⟩
    dsimp only
    go_wp2_with fail
    refine (hsy _).mono ?_
    rintro e w2 ⟨rfl, hb2⟩
    dsimp only
    go_wp2_with fail
    refine (hc _).mono ?_
    rintro e w3 ⟨rfl, hb3⟩
    dsimp only
    go_wp2_with fail
    go_ret
    exact ⟨rfl, below_then hb3 (below_then hb2 hb1)⟩
  · have hr' : cmpFl x y = r := by
      rw [← hr]; unfold ordFl cmpFl; rw [if_neg hz]
    clear hr hsx hsy hc
    rw [hr'] at hf
    clear hr'
    have hzz : (decide (keyF x = 0) && decide (keyF y = 0)) = false := by
      cases h1 : decide (keyF x = 0)
      · rfl
      · cases h2 : decide (keyF y = 0)
        · rfl
        · exact absurd ⟨of_decide_eq_true h1, of_decide_eq_true h2⟩ hz
    clear hz
    generalize decide (keyF x = 0) = a at *
    generalize decide (keyF y = 0) = b at *
    cases a
    · go_enter Tryz.func33, Tryz.ntmps33
      go_wp2_with fail
      refine (hf _).mono ?_
      rintro e w3 ⟨rfl, hb3⟩
      dsimp only
      go_wp2_with fail
      go_ret
      exact ⟨rfl, hb3⟩
    · have hb0 : b = false := hzz
      subst hb0
      go_enter Tryz.func33, Tryz.ntmps33
      go_wp2_with fail
      refine (hf _).mono ?_
      rintro e w3 ⟨rfl, hb3⟩
      dsimp only
      go_wp2_with fail
      go_ret
      exact ⟨rfl, hb3⟩

theorem cmp_string (a b : ByteArray) (w : World) : Calls Tryz.prog 56 #[.string a, .string b] w fun e w' => e = .returned (.int .i64 (Lib.compareBytes a.data.toList b.data.toList)) ∧ w = w' := by
  have hc : ∀ w, (callFunc 70 #[.string a, .string b]).run Tryz.prog w = .ok (.value (.int .i64 (Lib.compareBytes a.data.toList b.data.toList))) w := fun w => by
    rw [run_callFunc_extern Tryz.func70 (by kernel_rfl) (by kernel_rfl) (by kernel_rfl) (e := Extern.BytealgCompare.compare) (by kernel_rfl), Lib.run_compareString]
    rfl
  go_enter Tryz.func56, Tryz.ntmps56
  go_wp2
  go_ret
  exact ⟨rfl, rfl⟩
theorem str_compare (a b : ByteArray) (w : World) : Calls Tryz.prog 34 #[.string a, .string b] w fun e w' => e = .returned (.int .i64 (Lib.compareBytes a.data.toList b.data.toList)) ∧ w = w' := by
  have hc := fun w => cmp_string a b w
  generalize Lib.compareBytes a.data.toList b.data.toList = r at *
  go_enter Tryz.func34, Tryz.ntmps34
  go_wp2_with fail
  refine (hc _).mono ?_
  rintro e w1 ⟨rfl, rfl⟩
  dsimp only
  go_wp2_with fail
  go_ret
  exact ⟨rfl, rfl⟩
end Go.Proofs.YtdbmffagibnibaaGreatDoor
