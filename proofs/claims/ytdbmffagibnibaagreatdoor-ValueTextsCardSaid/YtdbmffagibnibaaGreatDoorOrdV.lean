/- The order of values: any two trees; what the machine tells of it. -/
import Derived.Test.YtdbmffagibnibaaGreatDoorOrdF
set_option linter.unusedSimpArgs false
set_option linter.unusedVariables false
namespace Go.Proofs.YtdbmffagibnibaaGreatDoor
set_option maxRecDepth 100000
open Go.RowKit

theorem ref_floats (x y : Nat) (w : World) (hx : x < 18446744073709551616) (hy : y < 18446744073709551616) : Calls Tryz.prog 43 #[.float .f64 x, .float .f64 y] w (Says w (.int .i64 (ordFl x y))) := by
  have hs1 := order_self x
  have hs2 := order_self y
  have he1 := ord_eq x x
  have he2 := ord_eq y y
  have zx := ord_zero x
  have zy := ord_zero y
  have hl := ord_lt x y
  have hg := ord_gt x y
  have hsx := fun w => sign_bit x w hx
  have hsy := fun w => sign_bit y w hy
  have hw := fun a b w => ref_way a b w
  obtain ⟨r, hr⟩ : ∃ r, ordFl x y = r := ⟨_, rfl⟩
  rw [hr]
  unfold ordFl at hr
  clear hx hy
  simp only [decide_true, Bool.and_true, Bool.and_self] at he1 he2
  cases h1 : nanB x <;> cases h2 : nanB y <;> rw [h1] at hs1 he1 hl hg hr <;> rw [h2] at hs2 he2 hl hg hr <;> simp only [Bool.false_eq_true, if_false, if_true, Bool.not_false, Bool.not_true, Bool.true_and, Bool.false_and, Bool.and_false] at he1 he2 hl hg hr
  · by_cases hz : keyF x = 0 ∧ keyF y = 0
    · rw [if_pos hz] at hr
      rw [decide_eq_true hz.1] at zx
      rw [decide_eq_true hz.2] at zy
      have hww : wayB (sgF x && !sgF y) (sgF y && !sgF x) = r := by
        rw [← hr]
        cases sgF x <;> cases sgF y <;> rfl
      clear hr hz hl hg h1 h2
      generalize sgF x = sx at *
      generalize sgF y = sy at *
      go_enter Tryz.func43, Tryz.ntmps43
      go_wp2_with fail
      refine (hsx _).mono ?_
      rintro e w1 ⟨rfl, rfl⟩
      dsimp only
      go_wp2_with fail
      refine (hsy _).mono ?_
      rintro e w1 ⟨rfl, rfl⟩
      dsimp only
      cases sx <;> cases sy
      · go_wp2_with fail
        refine (hw _ _ _).mono ?_
        rintro e w3 ⟨rfl, hb3⟩
        dsimp only
        go_wp2_with fail
        go_ret
        exact ⟨by rw [← hww]; rfl, hb3⟩
      · go_wp2_with fail
        refine (hw _ _ _).mono ?_
        rintro e w3 ⟨rfl, hb3⟩
        dsimp only
        go_wp2_with fail
        go_ret
        exact ⟨by rw [← hww]; rfl, hb3⟩
      · go_wp2_with fail
        refine (hw _ _ _).mono ?_
        rintro e w3 ⟨rfl, hb3⟩
        dsimp only
        go_wp2_with fail
        go_ret
        exact ⟨by rw [← hww]; rfl, hb3⟩
      · go_wp2_with fail
        refine (hw _ _ _).mono ?_
        rintro e w3 ⟨rfl, hb3⟩
        dsimp only
        go_wp2_with fail
        go_ret
        exact ⟨by rw [← hww]; rfl, hb3⟩
    · rw [if_neg hz, ← way_cmp] at hr
      have hzz : (decide (keyF x = 0) && decide (keyF y = 0)) = false := by
        cases h3 : decide (keyF x = 0)
        · rfl
        · cases h4 : decide (keyF y = 0)
          · rfl
          · exact absurd ⟨of_decide_eq_true h3, of_decide_eq_true h4⟩ hz
      clear hz hsx hsy h1 h2
      generalize decide (keyF x = 0) = a at *
      generalize decide (keyF y = 0) = b at *
      generalize decide (keyF x < keyF y) = c at *
      generalize decide (keyF y < keyF x) = d at *
      replace hw := fun w => hw c d w
      rw [hr] at hw
      cases a
      · go_enter Tryz.func43, Tryz.ntmps43
        go_wp2_with fail
        refine (hw _).mono ?_
        rintro e w3 ⟨rfl, hb3⟩
        dsimp only
        go_wp2_with fail
        go_ret
        exact ⟨rfl, hb3⟩
      · have hb0 : b = false := hzz
        subst hb0
        go_enter Tryz.func43, Tryz.ntmps43
        go_wp2_with fail
        refine (hw _).mono ?_
        rintro e w3 ⟨rfl, hb3⟩
        dsimp only
        go_wp2_with fail
        go_ret
        exact ⟨rfl, hb3⟩
  · clear hl hg zx zy hsx hsy h1 h2
    go_enter Tryz.func43, Tryz.ntmps43
    go_wp2_with fail
    refine (hw _ _ _).mono ?_
    rintro e w3 ⟨rfl, hb3⟩
    dsimp only
    go_wp2_with fail
    go_ret
    exact ⟨by rw [← hr]; rfl, hb3⟩
  · clear hl hg zx zy hsx hsy h1 h2
    go_enter Tryz.func43, Tryz.ntmps43
    go_wp2_with fail
    refine (hw _ _ _).mono ?_
    rintro e w3 ⟨rfl, hb3⟩
    dsimp only
    go_wp2_with fail
    go_ret
    exact ⟨by rw [← hr]; rfl, hb3⟩
  · clear hl hg zx zy hsx hsy h1 h2
    go_enter Tryz.func43, Tryz.ntmps43
    go_wp2_with fail
    refine (hw _ _ _).mono ?_
    rintro e w3 ⟨rfl, hb3⟩
    dsimp only
    go_wp2_with fail
    go_ret
    exact ⟨by rw [← hr]; rfl, hb3⟩

theorem ref_kind (k i : Int) (f : Nat) (s : ByteArray) (A : Option Addr) (n c : Nat) (w : World) :
    Calls Tryz.prog 41 #[.agg #[.int .i64 k, .int .i64 i, .float .f64 f, .string s, .slice A n c]] w (Says w (.int .i64 (kindOf k))) := by
  by_cases h0 : k < 0
  · have hk : kindOf k = 0 := by simp [kindOf, h0]
    rw [hk]
    go_enter Tryz.func41, Tryz.ntmps41
    go_wp2
    go_ret
    exact ⟨rfl, (Below.refl _ _).alloc (Nat.le_refl _) _⟩
  · by_cases h4 : 4 < k
    · have hk : kindOf k = 0 := by simp [kindOf, h4]
      rw [hk]
      go_enter Tryz.func41, Tryz.ntmps41
      go_wp2
      go_ret
      exact ⟨rfl, (Below.refl _ _).alloc (Nat.le_refl _) _⟩
    · have hk : kindOf k = k := by unfold kindOf; rw [if_neg (by omega)]
      rw [hk]
      go_enter Tryz.func41, Tryz.ntmps41
      go_wp2
      go_ret
      exact ⟨rfl, (Below.refl _ _).alloc (Nat.le_refl _) _⟩

/-- What the order of two values is, their lists' given. -/
def ordC (k1 i1 k2 i2 : Int) (f1 f2 : Nat) (s1 s2 : ByteArray) (rl : Int) : Int :=
  if kindOf k1 = kindOf k2 then (if kindOf k1 = 1 then cmpI i1 i2 else if kindOf k1 = 2 then ordFl f1 f2 else if kindOf k1 = 3 then Lib.compareBytes s1.data.toList s2.data.toList else if kindOf k1 = 4 then rl else 0) else cmpI (kindOf k1) (kindOf k2)
theorem kindOf_range (k : Int) : 0 ≤ kindOf k ∧ kindOf k ≤ 4 := by unfold kindOf; split <;> omega

set_option maxHeartbeats 3200000 in
theorem order_val (k1 i1 k2 i2 : Int) (f1 f2 : Nat) (s1 s2 : ByteArray) (A1 A2 : Option Addr) (n1 c1 n2 c2 : Nat) (rl : Int) (w : World) (hf1 : f1 < 18446744073709551616) (hf2 : f2 < 18446744073709551616)
    (hL : ∀ w5, Below w.heap.size w w5 → kindOf k1 = 4 → kindOf k2 = 4 → Calls Tryz.prog 35 #[.slice A1 n1 c1, .slice A2 n2 c2, .func (Fn.func 11) #[] #[]] w5 (Says w5 (.int .i64 rl))) :
    Calls Tryz.prog 11 #[.agg #[.int .i64 k1, .int .i64 i1, .float .f64 f1, .string s1, .slice A1 n1 c1], .agg #[.int .i64 k2, .int .i64 i2, .float .f64 f2, .string s2, .slice A2 n2 c2]] w (Says w (.int .i64 (ordC k1 i1 k2 i2 f1 f2 s1 s2 rl))) := by
  obtain ⟨q1, hq1⟩ : ∃ q, kindOf k1 = q := ⟨_, rfl⟩
  obtain ⟨q2, hq2⟩ : ∃ q, kindOf k2 = q := ⟨_, rfl⟩
  have hk1 := fun w => val_kind k1 i1 f1 s1 A1 n1 c1 w
  have hk2 := fun w => val_kind k2 i2 f2 s2 A2 n2 c2 w
  have hfl := fun w => val_floats f1 f2 w hf1 hf2
  have hr1 := kindOf_range k1
  rw [hq1] at hk1 hr1
  rw [hq2] at hk2
  obtain ⟨r, hr⟩ : ∃ r, ordC k1 i1 k2 i2 f1 f2 s1 s2 rl = r := ⟨_, rfl⟩
  rw [hr]
  unfold ordC at hr
  rw [hq1, hq2] at hr hL
  clear hq1 hq2 hf1 hf2
  replace hr := Lib.hid hr
  replace hL := Lib.hid hL
  have b1 := Blk.new w 25 #[.int .i64 k1, .int .i64 i1, .float .f64 f1, .string s1, .slice A1 n1 c1]
  have b1' := b1.alloc (.cells #[.int .i64 k2, .int .i64 i2, .float .f64 f2, .string s2, .slice A2 n2 c2] 25)
  have b2 := Blk.new (w.alloc (.cells #[.int .i64 k1, .int .i64 i1, .float .f64 f1, .string s1, .slice A1 n1 c1] 25)) 25 #[.int .i64 k2, .int .i64 i2, .float .f64 f2, .string s2, .slice A2 n2 c2]
  have hsz : (w.alloc (.cells #[.int .i64 k1, .int .i64 i1, .float .f64 f1, .string s1, .slice A1 n1 c1] 25)).heap.size = w.heap.size + 1 := by simp
  rw [hsz] at b2
  have hbl := ((Below.refl w.heap.size w).alloc (Nat.le_refl _) (.cells #[.int .i64 k1, .int .i64 i1, .float .f64 f1, .string s1, .slice A1 n1 c1] 25)).alloc (by simp) (.cells #[.int .i64 k2, .int .i64 i2, .float .f64 f2, .string s2, .slice A2 n2 c2] 25)
  go_enter Tryz.func11, Tryz.ntmps11
  go_wp2_with fail
  generalize (w.alloc (.cells #[.int .i64 k1, .int .i64 i1, .float .f64 f1, .string s1, .slice A1 n1 c1] 25)).alloc (.cells #[.int .i64 k2, .int .i64 i2, .float .f64 f2, .string s2, .slice A2 n2 c2] 25) = w1 at *
  obtain ⟨b, hb0⟩ : ∃ b, w.heap.size = b := ⟨_, rfl⟩
  rw [hb0] at b1' b2 hbl ⊢
  have hS : (w1.drew.cell? ⟨b, 0, none⟩ = some (.int .i64 k1) ∧ w1.drew.cell? ⟨b, 1, none⟩ = some (.int .i64 i1) ∧ w1.drew.cell? ⟨b, 2, none⟩ = some (.float .f64 f1) ∧ w1.drew.cell? ⟨b, 3, none⟩ = some (.string s1) ∧ w1.drew.cell? ⟨b, 4, none⟩ = some (.slice A1 n1 c1)) ∧ (w1.drew.cell? ⟨(b + 1), 0, none⟩ = some (.int .i64 k2) ∧ w1.drew.cell? ⟨(b + 1), 1, none⟩ = some (.int .i64 i2) ∧ w1.drew.cell? ⟨(b + 1), 2, none⟩ = some (.float .f64 f2) ∧ w1.drew.cell? ⟨(b + 1), 3, none⟩ = some (.string s2) ∧ w1.drew.cell? ⟨(b + 1), 4, none⟩ = some (.slice A2 n2 c2)) ∧ Below b w w1.drew ∧ b + 2 ≤ w1.drew.heap.size := ⟨⟨b1'.cell 0, b1'.cell 1, b1'.cell 2, b1'.cell 3, b1'.cell 4⟩, ⟨b2.cell 0, b2.cell 1, b2.cell 2, b2.cell 3, b2.cell 4⟩, ⟨hbl.os, hbl.tape, hbl.output, hbl.size, hbl.block⟩, b2.lt⟩
  replace hb0 := Lib.hid hb0
  clear b1 b1' b2 hbl hsz
  refine wp_region_lex (fun W => (W.cell? ⟨b, 0, none⟩ = some (.int .i64 k1) ∧ W.cell? ⟨b, 1, none⟩ = some (.int .i64 i1) ∧ W.cell? ⟨b, 2, none⟩ = some (.float .f64 f1) ∧ W.cell? ⟨b, 3, none⟩ = some (.string s1) ∧ W.cell? ⟨b, 4, none⟩ = some (.slice A1 n1 c1)) ∧ (W.cell? ⟨(b + 1), 0, none⟩ = some (.int .i64 k2) ∧ W.cell? ⟨(b + 1), 1, none⟩ = some (.int .i64 i2) ∧ W.cell? ⟨(b + 1), 2, none⟩ = some (.float .f64 f2) ∧ W.cell? ⟨(b + 1), 3, none⟩ = some (.string s2) ∧ W.cell? ⟨(b + 1), 4, none⟩ = some (.slice A2 n2 c2)) ∧ Below b w W ∧ b + 2 ≤ W.heap.size) [0, 2] [1, 3, 4] [0, 2, 1, 3, 4, 5] (by kernel_rfl) rfl (by kernel_rfl) (by kernel_rfl) (fun _ _ d _ _ h => by cases d <;> exact h) ?_
  repeat (first | (refine lexG_take _ ?_ rfl rfl rfl rfl (fun _ => ?_) ?_; rotate_left; (focus (go_simp; with_reducible rfl)); try simp only [Act.put, List.setIfInBounds_toArray, List.set_cons_zero, List.set_cons_succ]) | (refine lexG_held _ ?_ rfl rfl rfl rfl (by assumption) (fun _ hSw => ?_) ?_; rotate_left; (focus ((try dsimp only at hSw); go_simp; with_reducible rfl)); try simp only [Act.put, List.setIfInBounds_toArray, List.set_cons_zero, List.set_cons_succ]) | (refine lexG_skip _ rfl rfl (by assumption) ?_; try simp only [Act.put, List.setIfInBounds_toArray, List.set_cons_zero, List.set_cons_succ]))
  refine lexG_now _ rfl rfl rfl (fun K hK => ?_)
  go_wp2_with fail
  refine (hk1 _).mono ?_
  rintro e w2 ⟨rfl, hb⟩
  dsimp only
  obtain ⟨⟨E0, E1, E2, E3, E4⟩, ⟨F0, F1, F2, F3, F4⟩, HB, HL⟩ := hS
  have hS2 : (w2.cell? ⟨b, 0, none⟩ = some (.int .i64 k1) ∧ w2.cell? ⟨b, 1, none⟩ = some (.int .i64 i1) ∧ w2.cell? ⟨b, 2, none⟩ = some (.float .f64 f1) ∧ w2.cell? ⟨b, 3, none⟩ = some (.string s1) ∧ w2.cell? ⟨b, 4, none⟩ = some (.slice A1 n1 c1)) ∧ (w2.cell? ⟨(b + 1), 0, none⟩ = some (.int .i64 k2) ∧ w2.cell? ⟨(b + 1), 1, none⟩ = some (.int .i64 i2) ∧ w2.cell? ⟨(b + 1), 2, none⟩ = some (.float .f64 f2) ∧ w2.cell? ⟨(b + 1), 3, none⟩ = some (.string s2) ∧ w2.cell? ⟨(b + 1), 4, none⟩ = some (.slice A2 n2 c2)) ∧ Below b w w2 ∧ b + 2 ≤ w2.heap.size := ⟨⟨cell_keep hb E0, cell_keep hb E1, cell_keep hb E2, cell_keep hb E3, cell_keep hb E4⟩, ⟨cell_keep hb F0, cell_keep hb F1, cell_keep hb F2, cell_keep hb F3, cell_keep hb F4⟩, HB.trans (hb.mono (by omega)), Nat.le_trans HL hb.size⟩
  clear E0 E1 E2 E3 E4 F0 F1 F2 F3 F4 HB HL hb
  refine hK _ _ _ (fun _ h => h) hS2 ?_
  clear hK K
  try simp only [Act.put, List.setIfInBounds_toArray, List.set_cons_zero, List.set_cons_succ]
  repeat (first | (refine lexG_take _ ?_ rfl rfl rfl rfl (fun _ => ?_) ?_; rotate_left; (focus (go_simp; with_reducible rfl)); try simp only [Act.put, List.setIfInBounds_toArray, List.set_cons_zero, List.set_cons_succ]) | (refine lexG_held _ ?_ rfl rfl rfl rfl (by assumption) (fun _ hSw => ?_) ?_; rotate_left; (focus ((try dsimp only at hSw); go_simp; with_reducible rfl)); try simp only [Act.put, List.setIfInBounds_toArray, List.set_cons_zero, List.set_cons_succ]) | (refine lexG_skip _ rfl rfl (by assumption) ?_; try simp only [Act.put, List.setIfInBounds_toArray, List.set_cons_zero, List.set_cons_succ]))
  refine lexG_now _ rfl rfl rfl (fun K hK => ?_)
  go_wp2_with fail
  refine (hk2 _).mono ?_
  rintro e w3 ⟨rfl, hb⟩
  dsimp only
  obtain ⟨⟨E0, E1, E2, E3, E4⟩, ⟨F0, F1, F2, F3, F4⟩, HB, HL⟩ := hS2
  have hS3 : (w3.cell? ⟨b, 0, none⟩ = some (.int .i64 k1) ∧ w3.cell? ⟨b, 1, none⟩ = some (.int .i64 i1) ∧ w3.cell? ⟨b, 2, none⟩ = some (.float .f64 f1) ∧ w3.cell? ⟨b, 3, none⟩ = some (.string s1) ∧ w3.cell? ⟨b, 4, none⟩ = some (.slice A1 n1 c1)) ∧ (w3.cell? ⟨(b + 1), 0, none⟩ = some (.int .i64 k2) ∧ w3.cell? ⟨(b + 1), 1, none⟩ = some (.int .i64 i2) ∧ w3.cell? ⟨(b + 1), 2, none⟩ = some (.float .f64 f2) ∧ w3.cell? ⟨(b + 1), 3, none⟩ = some (.string s2) ∧ w3.cell? ⟨(b + 1), 4, none⟩ = some (.slice A2 n2 c2)) ∧ Below b w w3 ∧ b + 2 ≤ w3.heap.size := ⟨⟨cell_keep hb E0, cell_keep hb E1, cell_keep hb E2, cell_keep hb E3, cell_keep hb E4⟩, ⟨cell_keep hb F0, cell_keep hb F1, cell_keep hb F2, cell_keep hb F3, cell_keep hb F4⟩, HB.trans (hb.mono (by omega)), Nat.le_trans HL hb.size⟩
  clear E0 E1 E2 E3 E4 F0 F1 F2 F3 F4 HB HL hb
  refine hK _ _ _ (fun _ h => h) hS3 ?_
  clear hK K
  try simp only [Act.put, List.setIfInBounds_toArray, List.set_cons_zero, List.set_cons_succ]
  repeat (first | (refine lexG_take _ ?_ rfl rfl rfl rfl (fun _ => ?_) ?_; rotate_left; (focus (go_simp; with_reducible rfl)); try simp only [Act.put, List.setIfInBounds_toArray, List.set_cons_zero, List.set_cons_succ]) | (refine lexG_held _ ?_ rfl rfl rfl rfl (by assumption) (fun _ hSw => ?_) ?_; rotate_left; (focus ((try dsimp only at hSw); go_simp; with_reducible rfl)); try simp only [Act.put, List.setIfInBounds_toArray, List.set_cons_zero, List.set_cons_succ]) | (refine lexG_skip _ rfl rfl (by assumption) ?_; try simp only [Act.put, List.setIfInBounds_toArray, List.set_cons_zero, List.set_cons_succ]))
  refine lexG_now _ rfl rfl rfl (fun K hK => ?_)
  go_wp2_with fail
  refine (compare_int _ _ _).mono ?_
  rintro e w4 ⟨rfl, hb⟩
  dsimp only
  obtain ⟨⟨E0, E1, E2, E3, E4⟩, ⟨F0, F1, F2, F3, F4⟩, HB, HL⟩ := hS3
  have hS4 : (w4.cell? ⟨b, 0, none⟩ = some (.int .i64 k1) ∧ w4.cell? ⟨b, 1, none⟩ = some (.int .i64 i1) ∧ w4.cell? ⟨b, 2, none⟩ = some (.float .f64 f1) ∧ w4.cell? ⟨b, 3, none⟩ = some (.string s1) ∧ w4.cell? ⟨b, 4, none⟩ = some (.slice A1 n1 c1)) ∧ (w4.cell? ⟨(b + 1), 0, none⟩ = some (.int .i64 k2) ∧ w4.cell? ⟨(b + 1), 1, none⟩ = some (.int .i64 i2) ∧ w4.cell? ⟨(b + 1), 2, none⟩ = some (.float .f64 f2) ∧ w4.cell? ⟨(b + 1), 3, none⟩ = some (.string s2) ∧ w4.cell? ⟨(b + 1), 4, none⟩ = some (.slice A2 n2 c2)) ∧ Below b w w4 ∧ b + 2 ≤ w4.heap.size := ⟨⟨cell_keep hb E0, cell_keep hb E1, cell_keep hb E2, cell_keep hb E3, cell_keep hb E4⟩, ⟨cell_keep hb F0, cell_keep hb F1, cell_keep hb F2, cell_keep hb F3, cell_keep hb F4⟩, HB.trans (hb.mono (by omega)), Nat.le_trans HL hb.size⟩
  clear E0 E1 E2 E3 E4 F0 F1 F2 F3 F4 HB HL hb
  refine hK _ _ _ (fun _ h => h) hS4 ?_
  clear hK K
  try simp only [Act.put, List.setIfInBounds_toArray, List.set_cons_zero, List.set_cons_succ]
  repeat (first | (refine lexG_take _ ?_ rfl rfl rfl rfl (fun _ => ?_) ?_; rotate_left; (focus (go_simp; with_reducible rfl)); try simp only [Act.put, List.setIfInBounds_toArray, List.set_cons_zero, List.set_cons_succ]) | (refine lexG_held _ ?_ rfl rfl rfl rfl (by assumption) (fun _ hSw => ?_) ?_; rotate_left; (focus ((try dsimp only at hSw); go_simp; with_reducible rfl)); try simp only [Act.put, List.setIfInBounds_toArray, List.set_cons_zero, List.set_cons_succ]) | (refine lexG_skip _ rfl rfl (by assumption) ?_; try simp only [Act.put, List.setIfInBounds_toArray, List.set_cons_zero, List.set_cons_succ]))
  refine lexG_nil ?_
  by_cases hk : q1 = q2
  · subst hk
    rw [cmpI_eq]
    obtain ⟨⟨E0, E1, E2, E3, E4⟩, ⟨F0, F1, F2, F3, F4⟩, HB, HL⟩ := hS4
    go_wp2_with fail
    refine (hk1 _).mono ?_
    rintro e w5 ⟨rfl, hb⟩
    dsimp only
    obtain ⟨⟨E0, E1, E2, E3, E4⟩, ⟨F0, F1, F2, F3, F4⟩, HB, HL⟩ := (show (w4.cell? ⟨b, 0, none⟩ = some (.int .i64 k1) ∧ w4.cell? ⟨b, 1, none⟩ = some (.int .i64 i1) ∧ w4.cell? ⟨b, 2, none⟩ = some (.float .f64 f1) ∧ w4.cell? ⟨b, 3, none⟩ = some (.string s1) ∧ w4.cell? ⟨b, 4, none⟩ = some (.slice A1 n1 c1)) ∧ (w4.cell? ⟨(b + 1), 0, none⟩ = some (.int .i64 k2) ∧ w4.cell? ⟨(b + 1), 1, none⟩ = some (.int .i64 i2) ∧ w4.cell? ⟨(b + 1), 2, none⟩ = some (.float .f64 f2) ∧ w4.cell? ⟨(b + 1), 3, none⟩ = some (.string s2) ∧ w4.cell? ⟨(b + 1), 4, none⟩ = some (.slice A2 n2 c2)) ∧ Below b w w4 ∧ b + 2 ≤ w4.heap.size from ⟨⟨E0, E1, E2, E3, E4⟩, ⟨F0, F1, F2, F3, F4⟩, HB, HL⟩)
    have hS5 : (w5.cell? ⟨b, 0, none⟩ = some (.int .i64 k1) ∧ w5.cell? ⟨b, 1, none⟩ = some (.int .i64 i1) ∧ w5.cell? ⟨b, 2, none⟩ = some (.float .f64 f1) ∧ w5.cell? ⟨b, 3, none⟩ = some (.string s1) ∧ w5.cell? ⟨b, 4, none⟩ = some (.slice A1 n1 c1)) ∧ (w5.cell? ⟨(b + 1), 0, none⟩ = some (.int .i64 k2) ∧ w5.cell? ⟨(b + 1), 1, none⟩ = some (.int .i64 i2) ∧ w5.cell? ⟨(b + 1), 2, none⟩ = some (.float .f64 f2) ∧ w5.cell? ⟨(b + 1), 3, none⟩ = some (.string s2) ∧ w5.cell? ⟨(b + 1), 4, none⟩ = some (.slice A2 n2 c2)) ∧ Below b w w5 ∧ b + 2 ≤ w5.heap.size := ⟨⟨cell_keep hb E0, cell_keep hb E1, cell_keep hb E2, cell_keep hb E3, cell_keep hb E4⟩, ⟨cell_keep hb F0, cell_keep hb F1, cell_keep hb F2, cell_keep hb F3, cell_keep hb F4⟩, HB.trans (hb.mono (by omega)), Nat.le_trans HL hb.size⟩
    clear E0 E1 E2 E3 E4 F0 F1 F2 F3 F4 HB HL hb
    obtain ⟨⟨E0, E1, E2, E3, E4⟩, ⟨F0, F1, F2, F3, F4⟩, HB, HL⟩ := hS5
    have ho : r = if q1 = 1 then cmpI i1 i2 else if q1 = 2 then ordFl f1 f2 else if q1 = 3 then Lib.compareBytes s1.data.toList s2.data.toList else if q1 = 4 then rl else 0 := by rw [← hr.out]; exact if_pos (by trivial)
    clear hr hk1 hk2
    rcases (show q1 = 1 ∨ q1 = 2 ∨ q1 = 3 ∨ q1 = 4 ∨ q1 = 0 by omega) with h | h | h | h | h
    · subst h
      rw [if_pos rfl] at ho
      have hc := fun w => compare_i64 i1 i2 w
      rw [← ho] at hc
      clear ho hL hfl hr1 E0 E2 E3 E4 F0 F2 F3 F4
      go_wp2_with fail
      refine (hc _).mono ?_
      rintro e w6 ⟨rfl, hb6⟩
      dsimp only
      have HB6 := HB.trans (hb6.mono (by omega))
      go_wp2_with fail
      go_ret
      exact ⟨rfl, by rw [hb0.out]; exact HB6⟩
    · subst h
      rw [if_neg (by decide), if_pos rfl] at ho
      rw [← ho] at hfl
      clear ho hL hr1 E0 E1 E3 E4 F0 F1 F3 F4
      go_wp2_with fail
      refine (hfl _).mono ?_
      rintro e w6 ⟨rfl, hb6⟩
      dsimp only
      have HB6 := HB.trans (hb6.mono (by omega))
      go_wp2_with fail
      go_ret
      exact ⟨rfl, by rw [hb0.out]; exact HB6⟩
    · subst h
      rw [if_neg (by decide), if_neg (by decide), if_pos rfl] at ho
      have hc := fun w => str_compare s1 s2 w
      rw [← ho] at hc
      clear ho hL hr1 hfl E0 E1 E2 E4 F0 F1 F2 F4
      go_wp2_with fail
      refine (hc _).mono ?_
      rintro e w6 ⟨rfl, rfl⟩
      dsimp only
      go_wp2_with fail
      go_ret
      exact ⟨rfl, by rw [hb0.out]; exact HB⟩
    · subst h
      rw [if_neg (by decide), if_neg (by decide), if_neg (by decide), if_pos rfl] at ho
      subst ho
      clear hr1 hfl E0 E1 E2 E3 F0 F1 F2 F3
      go_wp2_with fail
      refine (hL.out _ (by rw [hb0.out]; exact HB) (by trivial) (by trivial)).mono ?_
      rintro e w6 ⟨rfl, hb6⟩
      dsimp only
      have HB6 := HB.trans (hb6.mono (by omega))
      go_wp2_with fail
      go_ret
      exact ⟨rfl, by rw [hb0.out]; exact HB6⟩
    · subst h
      rw [if_neg (by decide), if_neg (by decide), if_neg (by decide), if_neg (by decide)] at ho
      subst ho
      clear hL hr1 hfl E0 E1 E2 E3 E4 F0 F1 F2 F3 F4
      go_wp2_with fail
      go_ret
      exact ⟨rfl, by rw [hb0.out]; exact HB⟩
  · have ho : r = cmpI q1 q2 := by rw [← hr.out, if_neg hk]
    obtain ⟨-, -, HB, HL⟩ := hS4
    have hne : (cmpI q1 q2 != 0) = true := by
      rcases (show q1 < q2 ∨ q2 < q1 by omega) with h | h
      · rw [cmpI_lt h]; rfl
      · rw [cmpI_gt h]; rfl
    rw [← ho] at hne ⊢
    clear ho hr hL hfl hk1 hk2
    go_wp2_with fail
    go_ret
    exact ⟨rfl, by rw [hb0.out]; exact HB⟩
end Go.Proofs.YtdbmffagibnibaaGreatDoor
