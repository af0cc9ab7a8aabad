/- value.Order at flat values: Nil, Ints, the one NaN. -/
import Derived.Test.YtdbmffagibnibaaGreatDoorVals2
set_option linter.unusedSimpArgs false
set_option linter.unusedVariables false
namespace Go.Proofs.YtdbmffagibnibaaGreatDoor
set_option maxRecDepth 100000
open Go.RowKit

def cmpI (x y : Int) : Int := if x < y then -1 else if y < x then 1 else 0
theorem cmpI_lt {x y : Int} (h : x < y) : cmpI x y = -1 := if_pos h
theorem cmpI_gt {x y : Int} (h : y < x) : cmpI x y = 1 := by unfold cmpI; rw [if_neg (by omega), if_pos h]
theorem cmpI_eq (x : Int) : cmpI x x = 0 := by unfold cmpI; rw [if_neg (by omega), if_neg (by omega)]

theorem compare_int (x y : Int) (w : World) : Calls Tryz.prog 30 #[.int .i64 x, .int .i64 y] w (fun e w' => e = .returned (.int .i64 (cmpI x y)) ∧ Below w.heap.size w w') := by
  rcases (show x < y ∨ y < x ∨ x = y by omega) with h | h | rfl
  · rw [cmpI_lt h]
    go_enter Tryz.func30, Tryz.ntmps30
    go_wp2
    go_ret
    exact ⟨rfl, Below.refl _ _⟩
  · rw [cmpI_gt h]
    go_enter Tryz.func30, Tryz.ntmps30
    go_wp2
    go_ret
    exact ⟨rfl, Below.refl _ _⟩
  · rw [cmpI_eq]
    go_enter Tryz.func30, Tryz.ntmps30
    go_wp2
    go_ret
    exact ⟨rfl, Below.refl _ _⟩

theorem compare_i64 (x y : Int) (w : World) : Calls Tryz.prog 32 #[.int .i64 x, .int .i64 y] w (fun e w' => e = .returned (.int .i64 (cmpI x y)) ∧ Below w.heap.size w w') := by
  rcases (show x < y ∨ y < x ∨ x = y by omega) with h | h | rfl
  · rw [cmpI_lt h]
    go_enter Tryz.func32, Tryz.ntmps32
    go_wp2
    go_ret
    exact ⟨rfl, Below.refl _ _⟩
  · rw [cmpI_gt h]
    go_enter Tryz.func32, Tryz.ntmps32
    go_wp2
    go_ret
    exact ⟨rfl, Below.refl _ _⟩
  · rw [cmpI_eq]
    go_enter Tryz.func32, Tryz.ntmps32
    go_wp2
    go_ret
    exact ⟨rfl, Below.refl _ _⟩

theorem compare_nan (x y : Nat) (w : World) (hx : nanB x = true) (hy : nanB y = true) : Calls Tryz.prog 55 #[.float .f64 x, .float .f64 y] w (fun e w' => e = .returned (.int .i64 0) ∧ w = w') := by
  have h1 := order_self x
  have h2 := order_self y
  rw [hx] at h1
  rw [hy] at h2
  clear hx hy
  go_enter Tryz.func55, Tryz.ntmps55
  go_wp2
  go_ret
  exact ⟨rfl, rfl⟩

def nanBits : Nat := 9221120237041090561
theorem nan_zero : (FloatKind.f64.format.order nanBits 0 == some .eq) = false := by decide +kernel

theorem floats_nan (w : World) : Calls Tryz.prog 33 #[.float .f64 nanBits, .float .f64 nanBits] w (fun e w' => e = .returned (.int .i64 0) ∧ w = w') := by
  have h1 := nan_zero
  have hc := fun w => compare_nan nanBits nanBits w (by decide +kernel) (by decide +kernel)
  generalize nanBits = y at *
  go_enter Tryz.func33, Tryz.ntmps33
  go_wp2_with fail
  refine (hc _).mono ?_
  rintro e w2 ⟨rfl, rfl⟩
  dsimp only
  go_wp2_with fail
  go_ret
  exact ⟨rfl, rfl⟩

def ordF (k i k' i' : Int) : Int := if k = k' then (if k = 1 then cmpI i i' else 0) else cmpI k k'
/-- Nil, an Int, the one NaN. -/
def FlatV (k : Int) (f : Nat) : Prop := k = 0 ∨ k = 1 ∨ (k = 2 ∧ f = nanBits)

set_option maxHeartbeats 1600000 in
theorem order_flat (k1 i1 k2 i2 : Int) (f1 f2 : Nat) (s1 s2 : ByteArray) (A1 A2 : Option Addr) (n1 c1 n2 c2 : Nat) (w : World) (h1 : FlatV k1 f1) (h2 : FlatV k2 f2) :
    Calls Tryz.prog 11 #[.agg #[.int .i64 k1, .int .i64 i1, .float .f64 f1, .string s1, .slice A1 n1 c1], .agg #[.int .i64 k2, .int .i64 i2, .float .f64 f2, .string s2, .slice A2 n2 c2]] w (Says w (.int .i64 (ordF k1 i1 k2 i2))) := by
  have hk1 : kindOf k1 = k1 := by unfold kindOf FlatV at *; split <;> omega
  have hk2 : kindOf k2 = k2 := by unfold kindOf FlatV at *; split <;> omega
  have b1 := Blk.new w 25 #[.int .i64 k1, .int .i64 i1, .float .f64 f1, .string s1, .slice A1 n1 c1]
  have b1' := b1.alloc (.cells #[.int .i64 k2, .int .i64 i2, .float .f64 f2, .string s2, .slice A2 n2 c2] 25)
  have b2 := Blk.new (w.alloc (.cells #[.int .i64 k1, .int .i64 i1, .float .f64 f1, .string s1, .slice A1 n1 c1] 25)) 25 #[.int .i64 k2, .int .i64 i2, .float .f64 f2, .string s2, .slice A2 n2 c2]
  have hsz : (w.alloc (.cells #[.int .i64 k1, .int .i64 i1, .float .f64 f1, .string s1, .slice A1 n1 c1] 25)).heap.size = w.heap.size + 1 := by simp
  rw [hsz] at b2
  have hbl := ((Below.refl w.heap.size w).alloc (Nat.le_refl _) (.cells #[.int .i64 k1, .int .i64 i1, .float .f64 f1, .string s1, .slice A1 n1 c1] 25)).alloc (by simp) (.cells #[.int .i64 k2, .int .i64 i2, .float .f64 f2, .string s2, .slice A2 n2 c2] 25)
  obtain ⟨r, hr⟩ : ∃ r, ordF k1 i1 k2 i2 = r := ⟨_, rfl⟩
  rw [hr]
  replace hr := Lib.hid hr
  go_enter Tryz.func11, Tryz.ntmps11
  go_wp2_with fail
  generalize (w.alloc (.cells #[.int .i64 k1, .int .i64 i1, .float .f64 f1, .string s1, .slice A1 n1 c1] 25)).alloc (.cells #[.int .i64 k2, .int .i64 i2, .float .f64 f2, .string s2, .slice A2 n2 c2] 25) = w1 at *
  obtain ⟨b, hb0⟩ : ∃ b, w.heap.size = b := ⟨_, rfl⟩
  rw [hb0] at b1' b2 hbl ⊢
  have hS : (w1.drew.cell? ⟨b, 0, none⟩ = some (.int .i64 k1) ∧ w1.drew.cell? ⟨b, 1, none⟩ = some (.int .i64 i1) ∧ w1.drew.cell? ⟨b, 2, none⟩ = some (.float .f64 f1) ∧ w1.drew.cell? ⟨b, 3, none⟩ = some (.string s1) ∧ w1.drew.cell? ⟨b, 4, none⟩ = some (.slice A1 n1 c1)) ∧ (w1.drew.cell? ⟨(b + 1), 0, none⟩ = some (.int .i64 k2) ∧ w1.drew.cell? ⟨(b + 1), 1, none⟩ = some (.int .i64 i2) ∧ w1.drew.cell? ⟨(b + 1), 2, none⟩ = some (.float .f64 f2) ∧ w1.drew.cell? ⟨(b + 1), 3, none⟩ = some (.string s2) ∧ w1.drew.cell? ⟨(b + 1), 4, none⟩ = some (.slice A2 n2 c2)) ∧ Below b w w1.drew ∧ b + 1 < w1.drew.heap.size := ⟨⟨b1'.cell 0, b1'.cell 1, b1'.cell 2, b1'.cell 3, b1'.cell 4⟩, ⟨b2.cell 0, b2.cell 1, b2.cell 2, b2.cell 3, b2.cell 4⟩, hbl.drew, b2.lt⟩
  replace hb0 := Lib.hid hb0
  clear b1 b1' b2 hbl hsz
  refine wp_region_lex (fun W => (W.cell? ⟨b, 0, none⟩ = some (.int .i64 k1) ∧ W.cell? ⟨b, 1, none⟩ = some (.int .i64 i1) ∧ W.cell? ⟨b, 2, none⟩ = some (.float .f64 f1) ∧ W.cell? ⟨b, 3, none⟩ = some (.string s1) ∧ W.cell? ⟨b, 4, none⟩ = some (.slice A1 n1 c1)) ∧ (W.cell? ⟨(b + 1), 0, none⟩ = some (.int .i64 k2) ∧ W.cell? ⟨(b + 1), 1, none⟩ = some (.int .i64 i2) ∧ W.cell? ⟨(b + 1), 2, none⟩ = some (.float .f64 f2) ∧ W.cell? ⟨(b + 1), 3, none⟩ = some (.string s2) ∧ W.cell? ⟨(b + 1), 4, none⟩ = some (.slice A2 n2 c2)) ∧ Below b w W ∧ b + 1 < W.heap.size) [0, 2] [1, 3, 4] [0, 2, 1, 3, 4, 5] (by kernel_rfl) rfl (by kernel_rfl) (by kernel_rfl) (fun _ _ d _ _ h => by cases d <;> exact h) ?_
  repeat (first | (refine lexG_take _ ?_ rfl rfl rfl rfl (fun _ => ?_) ?_; rotate_left; (focus (go_simp; with_reducible rfl)); try simp only [Act.put, List.setIfInBounds_toArray, List.set_cons_zero, List.set_cons_succ]) | (refine lexG_held _ ?_ rfl rfl rfl rfl (by assumption) (fun _ hSw => ?_) ?_; rotate_left; (focus ((try dsimp only at hSw); go_simp; with_reducible rfl)); try simp only [Act.put, List.setIfInBounds_toArray, List.set_cons_zero, List.set_cons_succ]) | (refine lexG_skip _ rfl rfl (by assumption) ?_; try simp only [Act.put, List.setIfInBounds_toArray, List.set_cons_zero, List.set_cons_succ]))
  refine lexG_now _ rfl rfl rfl (fun K hK => ?_)
  go_wp2_with fail
  refine (val_kind _ _ _ _ _ _ _ _).mono ?_
  rintro e w2 ⟨rfl, hb⟩
  rw [hk1]
  dsimp only
  obtain ⟨⟨E0, E1, E2, E3, E4⟩, ⟨F0, F1, F2, F3, F4⟩, HB, HL⟩ := hS
  have hS2 : (w2.cell? ⟨b, 0, none⟩ = some (.int .i64 k1) ∧ w2.cell? ⟨b, 1, none⟩ = some (.int .i64 i1) ∧ w2.cell? ⟨b, 2, none⟩ = some (.float .f64 f1) ∧ w2.cell? ⟨b, 3, none⟩ = some (.string s1) ∧ w2.cell? ⟨b, 4, none⟩ = some (.slice A1 n1 c1)) ∧ (w2.cell? ⟨(b + 1), 0, none⟩ = some (.int .i64 k2) ∧ w2.cell? ⟨(b + 1), 1, none⟩ = some (.int .i64 i2) ∧ w2.cell? ⟨(b + 1), 2, none⟩ = some (.float .f64 f2) ∧ w2.cell? ⟨(b + 1), 3, none⟩ = some (.string s2) ∧ w2.cell? ⟨(b + 1), 4, none⟩ = some (.slice A2 n2 c2)) ∧ Below b w w2 ∧ b + 1 < w2.heap.size := ⟨⟨cell_keep hb E0, cell_keep hb E1, cell_keep hb E2, cell_keep hb E3, cell_keep hb E4⟩, ⟨cell_keep hb F0, cell_keep hb F1, cell_keep hb F2, cell_keep hb F3, cell_keep hb F4⟩, HB.trans (hb.mono (by omega)), Nat.lt_of_lt_of_le HL hb.size⟩
  refine hK _ _ _ (fun _ h => h) hS2 ?_
  clear hK K E0 E1 E2 E3 E4 F0 F1 F2 F3 F4 HB HL hb
  try simp only [Act.put, List.setIfInBounds_toArray, List.set_cons_zero, List.set_cons_succ]
  repeat (first | (refine lexG_take _ ?_ rfl rfl rfl rfl (fun _ => ?_) ?_; rotate_left; (focus (go_simp; with_reducible rfl)); try simp only [Act.put, List.setIfInBounds_toArray, List.set_cons_zero, List.set_cons_succ]) | (refine lexG_held _ ?_ rfl rfl rfl rfl (by assumption) (fun _ hSw => ?_) ?_; rotate_left; (focus ((try dsimp only at hSw); go_simp; with_reducible rfl)); try simp only [Act.put, List.setIfInBounds_toArray, List.set_cons_zero, List.set_cons_succ]) | (refine lexG_skip _ rfl rfl (by assumption) ?_; try simp only [Act.put, List.setIfInBounds_toArray, List.set_cons_zero, List.set_cons_succ]))
  refine lexG_now _ rfl rfl rfl (fun K hK => ?_)
  go_wp2_with fail
  refine (val_kind _ _ _ _ _ _ _ _).mono ?_
  rintro e w3 ⟨rfl, hb⟩
  rw [hk2]
  dsimp only
  obtain ⟨⟨E0, E1, E2, E3, E4⟩, ⟨F0, F1, F2, F3, F4⟩, HB, HL⟩ := hS2
  have hS3 : (w3.cell? ⟨b, 0, none⟩ = some (.int .i64 k1) ∧ w3.cell? ⟨b, 1, none⟩ = some (.int .i64 i1) ∧ w3.cell? ⟨b, 2, none⟩ = some (.float .f64 f1) ∧ w3.cell? ⟨b, 3, none⟩ = some (.string s1) ∧ w3.cell? ⟨b, 4, none⟩ = some (.slice A1 n1 c1)) ∧ (w3.cell? ⟨(b + 1), 0, none⟩ = some (.int .i64 k2) ∧ w3.cell? ⟨(b + 1), 1, none⟩ = some (.int .i64 i2) ∧ w3.cell? ⟨(b + 1), 2, none⟩ = some (.float .f64 f2) ∧ w3.cell? ⟨(b + 1), 3, none⟩ = some (.string s2) ∧ w3.cell? ⟨(b + 1), 4, none⟩ = some (.slice A2 n2 c2)) ∧ Below b w w3 ∧ b + 1 < w3.heap.size := ⟨⟨cell_keep hb E0, cell_keep hb E1, cell_keep hb E2, cell_keep hb E3, cell_keep hb E4⟩, ⟨cell_keep hb F0, cell_keep hb F1, cell_keep hb F2, cell_keep hb F3, cell_keep hb F4⟩, HB.trans (hb.mono (by omega)), Nat.lt_of_lt_of_le HL hb.size⟩
  refine hK _ _ _ (fun _ h => h) hS3 ?_
  clear hK K E0 E1 E2 E3 E4 F0 F1 F2 F3 F4 HB HL hb
  try simp only [Act.put, List.setIfInBounds_toArray, List.set_cons_zero, List.set_cons_succ]
  repeat (first | (refine lexG_take _ ?_ rfl rfl rfl rfl (fun _ => ?_) ?_; rotate_left; (focus (go_simp; with_reducible rfl)); try simp only [Act.put, List.setIfInBounds_toArray, List.set_cons_zero, List.set_cons_succ]) | (refine lexG_held _ ?_ rfl rfl rfl rfl (by assumption) (fun _ hSw => ?_) ?_; rotate_left; (focus ((try dsimp only at hSw); go_simp; with_reducible rfl)); try simp only [Act.put, List.setIfInBounds_toArray, List.set_cons_zero, List.set_cons_succ]) | (refine lexG_skip _ rfl rfl (by assumption) ?_; try simp only [Act.put, List.setIfInBounds_toArray, List.set_cons_zero, List.set_cons_succ]))
  refine lexG_now _ rfl rfl rfl (fun K hK => ?_)
  go_wp2_with fail
  refine (compare_int _ _ _).mono ?_
  rintro e w4 ⟨rfl, hb⟩
  dsimp only
  obtain ⟨⟨E0, E1, E2, E3, E4⟩, ⟨F0, F1, F2, F3, F4⟩, HB, HL⟩ := hS3
  have hS4 : (w4.cell? ⟨b, 0, none⟩ = some (.int .i64 k1) ∧ w4.cell? ⟨b, 1, none⟩ = some (.int .i64 i1) ∧ w4.cell? ⟨b, 2, none⟩ = some (.float .f64 f1) ∧ w4.cell? ⟨b, 3, none⟩ = some (.string s1) ∧ w4.cell? ⟨b, 4, none⟩ = some (.slice A1 n1 c1)) ∧ (w4.cell? ⟨(b + 1), 0, none⟩ = some (.int .i64 k2) ∧ w4.cell? ⟨(b + 1), 1, none⟩ = some (.int .i64 i2) ∧ w4.cell? ⟨(b + 1), 2, none⟩ = some (.float .f64 f2) ∧ w4.cell? ⟨(b + 1), 3, none⟩ = some (.string s2) ∧ w4.cell? ⟨(b + 1), 4, none⟩ = some (.slice A2 n2 c2)) ∧ Below b w w4 ∧ b + 1 < w4.heap.size := ⟨⟨cell_keep hb E0, cell_keep hb E1, cell_keep hb E2, cell_keep hb E3, cell_keep hb E4⟩, ⟨cell_keep hb F0, cell_keep hb F1, cell_keep hb F2, cell_keep hb F3, cell_keep hb F4⟩, HB.trans (hb.mono (by omega)), Nat.lt_of_lt_of_le HL hb.size⟩
  refine hK _ _ _ (fun _ h => h) hS4 ?_
  clear hK K E0 E1 E2 E3 E4 F0 F1 F2 F3 F4 HB HL hb
  try simp only [Act.put, List.setIfInBounds_toArray, List.set_cons_zero, List.set_cons_succ]
  repeat (first | (refine lexG_take _ ?_ rfl rfl rfl rfl (fun _ => ?_) ?_; rotate_left; (focus (go_simp; with_reducible rfl)); try simp only [Act.put, List.setIfInBounds_toArray, List.set_cons_zero, List.set_cons_succ]) | (refine lexG_held _ ?_ rfl rfl rfl rfl (by assumption) (fun _ hSw => ?_) ?_; rotate_left; (focus ((try dsimp only at hSw); go_simp; with_reducible rfl)); try simp only [Act.put, List.setIfInBounds_toArray, List.set_cons_zero, List.set_cons_succ]) | (refine lexG_skip _ rfl rfl (by assumption) ?_; try simp only [Act.put, List.setIfInBounds_toArray, List.set_cons_zero, List.set_cons_succ]))
  refine lexG_nil ?_
  obtain ⟨⟨E0, E1, E2, E3, E4⟩, ⟨F0, F1, F2, F3, F4⟩, HB, HL⟩ := hS4
  by_cases hk : k1 = k2
  · subst hk
    rw [cmpI_eq]
    have ho : r = if k1 = 1 then cmpI i1 i2 else 0 := by rw [← hr.out]; unfold ordF; rw [if_pos rfl]
    clear hr
    rcases h1 with h | h | ⟨h, hf⟩
    · subst h
      rw [if_neg (by decide)] at ho; subst ho
      go_wp2_with fail
      refine (val_kind _ _ _ _ _ _ _ _).mono ?_
      rintro e w5 ⟨rfl, hb⟩
      rw [hk1]
      dsimp only
      have E1' := cell_keep hb E1
      have F1' := cell_keep hb F1
      have E2' := cell_keep hb E2
      have F2' := cell_keep hb F2
      have HB5 := HB.trans (hb.mono (by omega))
      clear E0 E1 E2 E3 E4 F0 F1 F2 F3 F4
      go_wp2_with fail
      go_ret
      exact ⟨rfl, by rw [hb0.out]; exact HB5⟩
    · subst h
      rw [if_pos rfl] at ho
      obtain ⟨y, hy⟩ : ∃ y, cmpI i1 i2 = y := ⟨_, rfl⟩
      have hc := fun w => compare_i64 i1 i2 w
      rw [hy] at hc ho; subst ho
      clear hy
      go_wp2_with fail
      refine (val_kind _ _ _ _ _ _ _ _).mono ?_
      rintro e w5 ⟨rfl, hb⟩
      rw [hk1]
      dsimp only
      have E1' := cell_keep hb E1
      have F1' := cell_keep hb F1
      have E2' := cell_keep hb E2
      have F2' := cell_keep hb F2
      have HB5 := HB.trans (hb.mono (by omega))
      clear E0 E1 E2 E3 E4 F0 F1 F2 F3 F4
      go_wp2_with fail
      refine (hc _).mono ?_
      rintro e w6 ⟨rfl, hb6⟩
      dsimp only
      have HB6 := HB5.trans (hb6.mono (Nat.le_trans (by omega) hb.size))
      go_wp2_with fail
      go_ret
      exact ⟨rfl, by rw [hb0.out]; exact HB6⟩
    · subst h
      rw [if_neg (by decide)] at ho; subst ho
      have hf2 : f2 = nanBits := by unfold FlatV at h2; omega
      subst hf hf2
      have hc := fun w => floats_nan w
      generalize nanBits = y at *
      go_wp2_with fail
      refine (val_kind _ _ _ _ _ _ _ _).mono ?_
      rintro e w5 ⟨rfl, hb⟩
      rw [hk1]
      dsimp only
      have E1' := cell_keep hb E1
      have F1' := cell_keep hb F1
      have E2' := cell_keep hb E2
      have F2' := cell_keep hb F2
      have HB5 := HB.trans (hb.mono (by omega))
      clear E0 E1 E2 E3 E4 F0 F1 F2 F3 F4
      go_wp2_with fail
      refine (hc _).mono ?_
      rintro e w6 ⟨rfl, rfl⟩
      dsimp only
      go_wp2_with fail
      go_ret
      exact ⟨rfl, by rw [hb0.out]; exact HB5⟩
  · have ho : r = cmpI k1 k2 := by rw [← hr.out]; unfold ordF; rw [if_neg hk]
    clear hr
    have hne : (cmpI k1 k2 != 0) = true := by
      rcases (show k1 < k2 ∨ k2 < k1 by omega) with h | h
      · rw [cmpI_lt h]; rfl
      · rw [cmpI_gt h]; rfl
    rw [← ho] at hne ⊢
    clear ho
    go_wp2_with fail
    go_ret
    exact ⟨rfl, by rw [hb0.out]; exact HB⟩
end Go.Proofs.YtdbmffagibnibaaGreatDoor
