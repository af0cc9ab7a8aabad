/- The document's order of any two trees. -/
import Derived.Test.YtdbmffagibnibaaGreatDoorOrdT
set_option linter.unusedSimpArgs false
set_option linter.unusedVariables false
namespace Go.Proofs.YtdbmffagibnibaaGreatDoor
set_option maxRecDepth 100000
open Go.RowKit

theorem way_less (s1 s2 : ByteArray) : wayB (Op.bytesLess s1.toList s2.toList) (!Op.bytesLess s1.toList s2.toList && !s1.toList == s2.toList) = Lib.compareBytes s1.data.toList s2.data.toList := by
  have e1 : s1.toList = s1.data.toList := ByteArray.toList_eq s1
  have e2 : s2.toList = s2.data.toList := ByteArray.toList_eq s2
  rw [e1, e2, less_compare]
  have h0 := compare_eq_zero s1.data.toList s2.data.toList
  rcases compare_three s1.data.toList s2.data.toList with h | h | h
  · rw [h]; rfl
  · rw [h]
    have := h0.1 h
    rw [this]; simp [wayB]
  · rw [h]
    have : ¬ s1.data.toList = s2.data.toList := fun e => by have := h0.2 e; rw [h] at this; cases this
    have hb : (s1.data.toList == s2.data.toList) = false := beq_eq_false_iff_ne.2 this
    rw [hb]; simp [wayB]

set_option maxHeartbeats 3200000 in
/-- But for two lists. -/
theorem ref_order_flat (k1 i1 k2 i2 : Int) (f1 f2 : Nat) (s1 s2 : ByteArray) (A1 A2 : Option Addr) (n1 c1 n2 c2 : Nat) (rl : Int) (w : World) (hf1 : f1 < 18446744073709551616) (hf2 : f2 < 18446744073709551616) (hno : ¬ (k1 = 4 ∧ k2 = 4)) :
    Calls Tryz.prog 21 #[.agg #[.int .i64 k1, .int .i64 i1, .float .f64 f1, .string s1, .slice A1 n1 c1], .agg #[.int .i64 k2, .int .i64 i2, .float .f64 f2, .string s2, .slice A2 n2 c2]] w (Says w (.int .i64 (ordC k1 i1 k2 i2 f1 f2 s1 s2 rl))) := by
  obtain ⟨q1, hq1⟩ : ∃ q, kindOf k1 = q := ⟨_, rfl⟩
  obtain ⟨q2, hq2⟩ : ∃ q, kindOf k2 = q := ⟨_, rfl⟩
  have hk1 := fun w => ref_kind k1 i1 f1 s1 A1 n1 c1 w
  have hk2 := fun w => ref_kind k2 i2 f2 s2 A2 n2 c2 w
  have hfl := fun w => ref_floats f1 f2 w hf1 hf2
  have hr1 := kindOf_range k1
  have hkk : q1 = k1 ∧ 1 ≤ k1 ∧ k1 ≤ 4 ∨ q1 = 0 ∧ (k1 < 1 ∨ 4 < k1) := by rw [← hq1]; unfold kindOf; split <;> omega
  have hkk2 : q2 = k2 ∧ 1 ≤ k2 ∧ k2 ≤ 4 ∨ q2 = 0 ∧ (k2 < 1 ∨ 4 < k2) := by rw [← hq2]; unfold kindOf; split <;> omega
  rw [hq1] at hk1 hr1
  rw [hq2] at hk2
  obtain ⟨r, hr⟩ : ∃ r, ordC k1 i1 k2 i2 f1 f2 s1 s2 rl = r := ⟨_, rfl⟩
  rw [hr]
  unfold ordC at hr
  rw [hq1, hq2] at hr
  clear hq1 hq2 hf1 hf2
  replace hr := Lib.hid hr
  replace hkk := Lib.hid hkk
  replace hkk2 := Lib.hid hkk2
  replace hno := Lib.hid hno
  have b1 := Blk.new w 25 #[.int .i64 k1, .int .i64 i1, .float .f64 f1, .string s1, .slice A1 n1 c1]
  have b1' := b1.alloc (.cells #[.int .i64 k2, .int .i64 i2, .float .f64 f2, .string s2, .slice A2 n2 c2] 25)
  have b2 := Blk.new (w.alloc (.cells #[.int .i64 k1, .int .i64 i1, .float .f64 f1, .string s1, .slice A1 n1 c1] 25)) 25 #[.int .i64 k2, .int .i64 i2, .float .f64 f2, .string s2, .slice A2 n2 c2]
  have hsz : (w.alloc (.cells #[.int .i64 k1, .int .i64 i1, .float .f64 f1, .string s1, .slice A1 n1 c1] 25)).heap.size = w.heap.size + 1 := by simp
  rw [hsz] at b2
  have hbl := ((Below.refl w.heap.size w).alloc (Nat.le_refl _) (.cells #[.int .i64 k1, .int .i64 i1, .float .f64 f1, .string s1, .slice A1 n1 c1] 25)).alloc (by simp) (.cells #[.int .i64 k2, .int .i64 i2, .float .f64 f2, .string s2, .slice A2 n2 c2] 25)
  go_enter Tryz.func21, Tryz.ntmps21
  go_wp2_with fail
  generalize (w.alloc (.cells #[.int .i64 k1, .int .i64 i1, .float .f64 f1, .string s1, .slice A1 n1 c1] 25)).alloc (.cells #[.int .i64 k2, .int .i64 i2, .float .f64 f2, .string s2, .slice A2 n2 c2] 25) = w1 at *
  obtain ⟨b, hb0⟩ : ∃ b, w.heap.size = b := ⟨_, rfl⟩
  rw [hb0] at b1' b2 hbl ⊢
  have hS : (w1.drew.cell? ⟨b, 0, none⟩ = some (.int .i64 k1) ∧ w1.drew.cell? ⟨b, 1, none⟩ = some (.int .i64 i1) ∧ w1.drew.cell? ⟨b, 2, none⟩ = some (.float .f64 f1) ∧ w1.drew.cell? ⟨b, 3, none⟩ = some (.string s1) ∧ w1.drew.cell? ⟨b, 4, none⟩ = some (.slice A1 n1 c1)) ∧ (w1.drew.cell? ⟨(b + 1), 0, none⟩ = some (.int .i64 k2) ∧ w1.drew.cell? ⟨(b + 1), 1, none⟩ = some (.int .i64 i2) ∧ w1.drew.cell? ⟨(b + 1), 2, none⟩ = some (.float .f64 f2) ∧ w1.drew.cell? ⟨(b + 1), 3, none⟩ = some (.string s2) ∧ w1.drew.cell? ⟨(b + 1), 4, none⟩ = some (.slice A2 n2 c2)) ∧ Below b w w1.drew ∧ b + 2 ≤ w1.drew.heap.size := ⟨⟨b1'.cell 0, b1'.cell 1, b1'.cell 2, b1'.cell 3, b1'.cell 4⟩, ⟨b2.cell 0, b2.cell 1, b2.cell 2, b2.cell 3, b2.cell 4⟩, ⟨hbl.os, hbl.tape, hbl.output, hbl.size, hbl.block⟩, b2.lt⟩
  replace hb0 := Lib.hid hb0
  clear b1 b1' b2 hbl hsz
  refine wp_region_lex (fun W => (W.cell? ⟨b, 0, none⟩ = some (.int .i64 k1) ∧ W.cell? ⟨b, 1, none⟩ = some (.int .i64 i1) ∧ W.cell? ⟨b, 2, none⟩ = some (.float .f64 f1) ∧ W.cell? ⟨b, 3, none⟩ = some (.string s1) ∧ W.cell? ⟨b, 4, none⟩ = some (.slice A1 n1 c1)) ∧ (W.cell? ⟨(b + 1), 0, none⟩ = some (.int .i64 k2) ∧ W.cell? ⟨(b + 1), 1, none⟩ = some (.int .i64 i2) ∧ W.cell? ⟨(b + 1), 2, none⟩ = some (.float .f64 f2) ∧ W.cell? ⟨(b + 1), 3, none⟩ = some (.string s2) ∧ W.cell? ⟨(b + 1), 4, none⟩ = some (.slice A2 n2 c2)) ∧ Below b w W ∧ b + 2 ≤ W.heap.size) [0, 2] [1, 3] [0, 2, 1, 3, 4, 5] (by kernel_rfl) rfl (by kernel_rfl) (by kernel_rfl) (fun _ _ d _ _ h => by cases d <;> exact h) ?_
  repeat (first | (refine lexG_take _ ?_ rfl rfl rfl rfl (fun _ => ?_) ?_; rotate_left; (focus (go_simp; with_reducible rfl)); try simp only [Act.put, List.setIfInBounds_toArray, List.set_cons_zero, List.set_cons_succ]) | (refine lexG_held _ ?_ rfl rfl rfl rfl (by assumption) (fun _ hSw => ?_) ?_; rotate_left; (focus ((try dsimp only at hSw); go_simp; with_reducible rfl)); try simp only [Act.put, List.setIfInBounds_toArray, List.set_cons_zero, List.set_cons_succ]) | (refine lexG_skip _ rfl rfl (by assumption) ?_; try simp only [Act.put, List.setIfInBounds_toArray, List.set_cons_zero, List.set_cons_succ]))
  refine lexG_now _ rfl rfl rfl (fun K hK => ?_)
  go_wp2_with fail
  refine (hk1 _).mono ?_
  rintro e w2 ⟨rfl, hb⟩
  dsimp only
  obtain ⟨⟨E0, E1, E2, E3, E4⟩, ⟨F0, F1, F2, F3, F4⟩, HB, HL⟩ := hS
  have hS2 : (w2.cell? ⟨b, 0, none⟩ = some (.int .i64 k1) ∧ w2.cell? ⟨b, 1, none⟩ = some (.int .i64 i1) ∧ w2.cell? ⟨b, 2, none⟩ = some (.float .f64 f1) ∧ w2.cell? ⟨b, 3, none⟩ = some (.string s1) ∧ w2.cell? ⟨b, 4, none⟩ = some (.slice A1 n1 c1)) ∧ (w2.cell? ⟨(b + 1), 0, none⟩ = some (.int .i64 k2) ∧ w2.cell? ⟨(b + 1), 1, none⟩ = some (.int .i64 i2) ∧ w2.cell? ⟨(b + 1), 2, none⟩ = some (.float .f64 f2) ∧ w2.cell? ⟨(b + 1), 3, none⟩ = some (.string s2) ∧ w2.cell? ⟨(b + 1), 4, none⟩ = some (.slice A2 n2 c2)) ∧ Below b w w2 ∧ b + 2 ≤ w2.heap.size := ⟨⟨cell_keep hb E0, cell_keep hb E1, cell_keep hb E2, cell_keep hb E3, cell_keep hb E4⟩, ⟨cell_keep hb F0, cell_keep hb F1, cell_keep hb F2, cell_keep hb F3, cell_keep hb F4⟩, HB.trans (hb.mono (by omega)), Nat.le_trans HL hb.size⟩
  clear E0 E1 E2 E3 E4 F0 F1 F2 F3 F4 HB HL hb
  refine hK _ _ _ (fun _ h => h) hS2 ?_
  clear hK K
  try simp only [Act.put, List.setIfInBounds_toArray, List.set_cons_zero, List.set_cons_succ]
  repeat (first | (refine lexG_take _ ?_ rfl rfl rfl rfl (fun _ => ?_) ?_; rotate_left; (focus (go_simp; with_reducible rfl)); try simp only [Act.put, List.setIfInBounds_toArray, List.set_cons_zero, List.set_cons_succ]) | (refine lexG_held _ ?_ rfl rfl rfl rfl (by assumption) (fun _ hSw => ?_) ?_; rotate_left; (focus ((try dsimp only at hSw); go_simp; with_reducible rfl)); try simp only [Act.put, List.setIfInBounds_toArray, List.set_cons_zero, List.set_cons_succ]) | (refine lexG_skip _ rfl rfl (by assumption) ?_; try simp only [Act.put, List.setIfInBounds_toArray, List.set_cons_zero, List.set_cons_succ]))
  refine lexG_now _ rfl rfl rfl (fun K hK => ?_)
  go_wp2_with fail
  refine (hk2 _).mono ?_
  rintro e w3 ⟨rfl, hb⟩
  dsimp only
  obtain ⟨⟨E0, E1, E2, E3, E4⟩, ⟨F0, F1, F2, F3, F4⟩, HB, HL⟩ := hS2
  have hS3 : (w3.cell? ⟨b, 0, none⟩ = some (.int .i64 k1) ∧ w3.cell? ⟨b, 1, none⟩ = some (.int .i64 i1) ∧ w3.cell? ⟨b, 2, none⟩ = some (.float .f64 f1) ∧ w3.cell? ⟨b, 3, none⟩ = some (.string s1) ∧ w3.cell? ⟨b, 4, none⟩ = some (.slice A1 n1 c1)) ∧ (w3.cell? ⟨(b + 1), 0, none⟩ = some (.int .i64 k2) ∧ w3.cell? ⟨(b + 1), 1, none⟩ = some (.int .i64 i2) ∧ w3.cell? ⟨(b + 1), 2, none⟩ = some (.float .f64 f2) ∧ w3.cell? ⟨(b + 1), 3, none⟩ = some (.string s2) ∧ w3.cell? ⟨(b + 1), 4, none⟩ = some (.slice A2 n2 c2)) ∧ Below b w w3 ∧ b + 2 ≤ w3.heap.size := ⟨⟨cell_keep hb E0, cell_keep hb E1, cell_keep hb E2, cell_keep hb E3, cell_keep hb E4⟩, ⟨cell_keep hb F0, cell_keep hb F1, cell_keep hb F2, cell_keep hb F3, cell_keep hb F4⟩, HB.trans (hb.mono (by omega)), Nat.le_trans HL hb.size⟩
  clear E0 E1 E2 E3 E4 F0 F1 F2 F3 F4 HB HL hb
  refine hK _ _ _ (fun _ h => h) hS3 ?_
  clear hK K
  try simp only [Act.put, List.setIfInBounds_toArray, List.set_cons_zero, List.set_cons_succ]
  repeat (first | (refine lexG_take _ ?_ rfl rfl rfl rfl (fun _ => ?_) ?_; rotate_left; (focus (go_simp; with_reducible rfl)); try simp only [Act.put, List.setIfInBounds_toArray, List.set_cons_zero, List.set_cons_succ]) | (refine lexG_held _ ?_ rfl rfl rfl rfl (by assumption) (fun _ hSw => ?_) ?_; rotate_left; (focus ((try dsimp only at hSw); go_simp; with_reducible rfl)); try simp only [Act.put, List.setIfInBounds_toArray, List.set_cons_zero, List.set_cons_succ]) | (refine lexG_skip _ rfl rfl (by assumption) ?_; try simp only [Act.put, List.setIfInBounds_toArray, List.set_cons_zero, List.set_cons_succ]))
  refine lexG_nil ?_
  by_cases hk : q1 = q2
  · subst hk
    obtain ⟨⟨E0, E1, E2, E3, E4⟩, ⟨F0, F1, F2, F3, F4⟩, HB, HL⟩ := hS3
    have ho : r = if q1 = 1 then cmpI i1 i2 else if q1 = 2 then ordFl f1 f2 else if q1 = 3 then Lib.compareBytes s1.data.toList s2.data.toList else if q1 = 4 then rl else 0 := by rw [← hr.out]; exact if_pos (by trivial)
    have hkx := hkk.out
    have hky := hkk2.out
    have hnx := hno.out
    clear hr hk1 hk2 hkk hkk2 hno
    rcases (show q1 = 1 ∨ q1 = 2 ∨ q1 = 3 ∨ q1 = 0 by omega) with h | h | h | h
    · subst h
      rw [if_pos rfl, ← way_cmp] at ho
      have hke : k1 = 1 := by omega
      subst hke
      have hc := fun w => ref_way (decide (i1 < i2)) (decide (i2 < i1)) w
      rw [← ho] at hc
      clear ho hfl hr1 E2 E3 E4 F0 F2 F3 F4 hkx hky hnx
      go_wp2_with fail
      refine (hc _).mono ?_
      rintro e w6 ⟨rfl, hb6⟩
      dsimp only
      have HB6 := HB.trans (hb6.mono (by omega))
      go_wp2_with fail
      go_ret
      exact ⟨rfl, by rw [hb0.out]; exact HB6⟩
    · subst h
      have hke : k1 = 2 := by omega
      subst hke
      rw [if_neg (by decide), if_pos rfl] at ho
      rw [← ho] at hfl
      clear ho hr1 E1 E3 E4 F0 F1 F3 F4 hkx hky hnx
      go_wp2_with fail
      refine (hfl _).mono ?_
      rintro e w6 ⟨rfl, hb6⟩
      dsimp only
      have HB6 := HB.trans (hb6.mono (by omega))
      go_wp2_with fail
      go_ret
      exact ⟨rfl, by rw [hb0.out]; exact HB6⟩
    · subst h
      have hke : k1 = 3 := by omega
      subst hke
      rw [if_neg (by decide), if_neg (by decide), if_pos rfl, ← way_less] at ho
      have hc := fun w => ref_way (Op.bytesLess s1.toList s2.toList) (!Op.bytesLess s1.toList s2.toList && !s1.toList == s2.toList) w
      rw [← ho] at hc
      clear ho hr1 hfl E1 E2 E4 F0 F1 F2 F4 hkx hky hnx
      go_wp2_with fail
      refine (hc _).mono ?_
      rintro e w6 ⟨rfl, hb6⟩
      dsimp only
      have HB6 := HB.trans (hb6.mono (by omega))
      go_wp2_with fail
      go_ret
      exact ⟨rfl, by rw [hb0.out]; exact HB6⟩
    · subst h
      have d1 : (k1 == 1) = false := beq_eq_false_iff_ne.2 (by omega)
      have d2 : (k1 == 2) = false := beq_eq_false_iff_ne.2 (by omega)
      have d3 : (k1 == 3) = false := beq_eq_false_iff_ne.2 (by omega)
      have d4 : (k1 == 4) = false := beq_eq_false_iff_ne.2 (by omega)
      rw [if_neg (by decide), if_neg (by decide), if_neg (by decide), if_neg (by decide)] at ho
      subst ho
      clear hr1 hfl E1 E2 E3 E4 F0 F1 F2 F3 F4 hkx hky hnx
      go_wp2_with fail
      go_ret
      exact ⟨rfl, by rw [hb0.out]; exact HB⟩
  · have ho : r = cmpI q1 q2 := by rw [← hr.out, if_neg hk]
    obtain ⟨-, -, HB, HL⟩ := hS3
    rw [← way_cmp] at ho
    have hc := fun w => ref_way (decide (q1 < q2)) (decide (q2 < q1)) w
    rw [← ho] at hc
    have hne : (q1 != q2) = true := bne_iff_ne.2 hk
    clear ho hr hfl hk1 hk2
    go_wp2_with fail
    refine (hc _).mono ?_
    rintro e w6 ⟨rfl, hb6⟩
    dsimp only
    have HB6 := HB.trans (hb6.mono (by omega))
    go_wp2_with fail
    go_ret
    exact ⟨rfl, by rw [hb0.out]; exact HB6⟩

set_option maxHeartbeats 6400000 in
theorem ref_order_list {A1 A2 : Option Addr} {c1 c2 B : Nat} {l1 l2 : List Val} {xs1 xs2 : List Value} {css1 css2 : Nat → Array Value} {w : World} (i1 i2 : Int) (f1 f2 : Nat) (s1 s2 : ByteArray) (hr1 : Reads w B 5 A1 l1.length xs1) (hr2 : Reads w B 5 A2 l2.length xs2) (hB : B ≤ w.heap.size) (hxs1 : ∀ j, j < l1.length → (xs1.drop (j * 5)).take 5 = (css1 j).toList) (hxs2 : ∀ j, j < l2.length → (xs2.drop (j * 5)).take 5 = (css2 j).toList)
    (hv1 : ∀ j v, l1[j]? = some v → VReads w B v (css1 j)) (hv2 : ∀ j v, l2[j]? = some v → VReads w B v (css2 j)) (hn1 : l1.length ≤ 140737488351232) (hn2 : l2.length ≤ 140737488351232)
    (hcall : ∀ j v u, l1[j]? = some v → l2[j]? = some u → ∀ w1, Below w.heap.size w w1 → Calls Tryz.prog 21 #[.agg (css1 j), .agg (css2 j)] w1 (Says w1 (.int .i64 (ordV v u)))) :
    Calls Tryz.prog 21 #[.agg #[.int .i64 4, .int .i64 i1, .float .f64 f1, .string s1, .slice A1 l1.length c1], .agg #[.int .i64 4, .int .i64 i2, .float .f64 f2, .string s2, .slice A2 l2.length c2]] w (Says w (.int .i64 (ordL l1 l2))) := by
  have hk1 := fun w => ref_kind 4 i1 f1 s1 A1 l1.length c1 w
  have hk2 := fun w => ref_kind 4 i2 f2 s2 A2 l2.length c2 w
  have k4 : kindOf 4 = 4 := by decide
  rw [k4] at hk1 hk2
  obtain ⟨r, hr⟩ : ∃ r, ordL l1 l2 = r := ⟨_, rfl⟩
  rw [hr]
  clear k4
  replace hr := Lib.hid hr
  replace hcall := Lib.hid hcall
  have b1 := Blk.new w 25 #[.int .i64 4, .int .i64 i1, .float .f64 f1, .string s1, .slice A1 l1.length c1]
  have b1' := b1.alloc (.cells #[.int .i64 4, .int .i64 i2, .float .f64 f2, .string s2, .slice A2 l2.length c2] 25)
  have b2 := Blk.new (w.alloc (.cells #[.int .i64 4, .int .i64 i1, .float .f64 f1, .string s1, .slice A1 l1.length c1] 25)) 25 #[.int .i64 4, .int .i64 i2, .float .f64 f2, .string s2, .slice A2 l2.length c2]
  have hsz : (w.alloc (.cells #[.int .i64 4, .int .i64 i1, .float .f64 f1, .string s1, .slice A1 l1.length c1] 25)).heap.size = w.heap.size + 1 := by simp
  rw [hsz] at b2
  have hbl := ((Below.refl w.heap.size w).alloc (Nat.le_refl _) (.cells #[.int .i64 4, .int .i64 i1, .float .f64 f1, .string s1, .slice A1 l1.length c1] 25)).alloc (by simp) (.cells #[.int .i64 4, .int .i64 i2, .float .f64 f2, .string s2, .slice A2 l2.length c2] 25)
  go_enter Tryz.func21, Tryz.ntmps21
  go_wp2_with fail
  generalize (w.alloc (.cells #[.int .i64 4, .int .i64 i1, .float .f64 f1, .string s1, .slice A1 l1.length c1] 25)).alloc (.cells #[.int .i64 4, .int .i64 i2, .float .f64 f2, .string s2, .slice A2 l2.length c2] 25) = w1 at *
  obtain ⟨b, hb0⟩ : ∃ b, w.heap.size = b := ⟨_, rfl⟩
  rw [hb0] at b1' b2 hbl ⊢
  have hS : (w1.drew.cell? ⟨b, 0, none⟩ = some (.int .i64 4) ∧ w1.drew.cell? ⟨b, 1, none⟩ = some (.int .i64 i1) ∧ w1.drew.cell? ⟨b, 2, none⟩ = some (.float .f64 f1) ∧ w1.drew.cell? ⟨b, 3, none⟩ = some (.string s1) ∧ w1.drew.cell? ⟨b, 4, none⟩ = some (.slice A1 l1.length c1)) ∧ (w1.drew.cell? ⟨(b + 1), 0, none⟩ = some (.int .i64 4) ∧ w1.drew.cell? ⟨(b + 1), 1, none⟩ = some (.int .i64 i2) ∧ w1.drew.cell? ⟨(b + 1), 2, none⟩ = some (.float .f64 f2) ∧ w1.drew.cell? ⟨(b + 1), 3, none⟩ = some (.string s2) ∧ w1.drew.cell? ⟨(b + 1), 4, none⟩ = some (.slice A2 l2.length c2)) ∧ Below b w w1.drew ∧ b + 2 ≤ w1.drew.heap.size := ⟨⟨b1'.cell 0, b1'.cell 1, b1'.cell 2, b1'.cell 3, b1'.cell 4⟩, ⟨b2.cell 0, b2.cell 1, b2.cell 2, b2.cell 3, b2.cell 4⟩, ⟨hbl.os, hbl.tape, hbl.output, hbl.size, hbl.block⟩, b2.lt⟩
  replace hb0 := Lib.hid hb0
  clear b1 b1' b2 hbl hsz
  refine wp_region_lex (fun W => (W.cell? ⟨b, 0, none⟩ = some (.int .i64 4) ∧ W.cell? ⟨b, 1, none⟩ = some (.int .i64 i1) ∧ W.cell? ⟨b, 2, none⟩ = some (.float .f64 f1) ∧ W.cell? ⟨b, 3, none⟩ = some (.string s1) ∧ W.cell? ⟨b, 4, none⟩ = some (.slice A1 l1.length c1)) ∧ (W.cell? ⟨(b + 1), 0, none⟩ = some (.int .i64 4) ∧ W.cell? ⟨(b + 1), 1, none⟩ = some (.int .i64 i2) ∧ W.cell? ⟨(b + 1), 2, none⟩ = some (.float .f64 f2) ∧ W.cell? ⟨(b + 1), 3, none⟩ = some (.string s2) ∧ W.cell? ⟨(b + 1), 4, none⟩ = some (.slice A2 l2.length c2)) ∧ Below b w W ∧ b + 2 ≤ W.heap.size) [0, 2] [1, 3] [0, 2, 1, 3, 4, 5] (by kernel_rfl) rfl (by kernel_rfl) (by kernel_rfl) (fun _ _ d _ _ h => by cases d <;> exact h) ?_
  repeat (first | (refine lexG_take _ ?_ rfl rfl rfl rfl (fun _ => ?_) ?_; rotate_left; (focus (go_simp; with_reducible rfl)); try simp only [Act.put, List.setIfInBounds_toArray, List.set_cons_zero, List.set_cons_succ]) | (refine lexG_held _ ?_ rfl rfl rfl rfl (by assumption) (fun _ hSw => ?_) ?_; rotate_left; (focus ((try dsimp only at hSw); go_simp; with_reducible rfl)); try simp only [Act.put, List.setIfInBounds_toArray, List.set_cons_zero, List.set_cons_succ]) | (refine lexG_skip _ rfl rfl (by assumption) ?_; try simp only [Act.put, List.setIfInBounds_toArray, List.set_cons_zero, List.set_cons_succ]))
  refine lexG_now _ rfl rfl rfl (fun K hK => ?_)
  go_wp2_with fail
  refine (hk1 _).mono ?_
  rintro e w2 ⟨rfl, hb⟩
  dsimp only
  obtain ⟨⟨E0, E1, E2, E3, E4⟩, ⟨F0, F1, F2, F3, F4⟩, HB, HL⟩ := hS
  have hS2 : (w2.cell? ⟨b, 0, none⟩ = some (.int .i64 4) ∧ w2.cell? ⟨b, 1, none⟩ = some (.int .i64 i1) ∧ w2.cell? ⟨b, 2, none⟩ = some (.float .f64 f1) ∧ w2.cell? ⟨b, 3, none⟩ = some (.string s1) ∧ w2.cell? ⟨b, 4, none⟩ = some (.slice A1 l1.length c1)) ∧ (w2.cell? ⟨(b + 1), 0, none⟩ = some (.int .i64 4) ∧ w2.cell? ⟨(b + 1), 1, none⟩ = some (.int .i64 i2) ∧ w2.cell? ⟨(b + 1), 2, none⟩ = some (.float .f64 f2) ∧ w2.cell? ⟨(b + 1), 3, none⟩ = some (.string s2) ∧ w2.cell? ⟨(b + 1), 4, none⟩ = some (.slice A2 l2.length c2)) ∧ Below b w w2 ∧ b + 2 ≤ w2.heap.size := ⟨⟨cell_keep hb E0, cell_keep hb E1, cell_keep hb E2, cell_keep hb E3, cell_keep hb E4⟩, ⟨cell_keep hb F0, cell_keep hb F1, cell_keep hb F2, cell_keep hb F3, cell_keep hb F4⟩, HB.trans (hb.mono (by omega)), Nat.le_trans HL hb.size⟩
  clear E0 E1 E2 E3 E4 F0 F1 F2 F3 F4 HB HL hb
  refine hK _ _ _ (fun _ h => h) hS2 ?_
  clear hK K
  try simp only [Act.put, List.setIfInBounds_toArray, List.set_cons_zero, List.set_cons_succ]
  repeat (first | (refine lexG_take _ ?_ rfl rfl rfl rfl (fun _ => ?_) ?_; rotate_left; (focus (go_simp; with_reducible rfl)); try simp only [Act.put, List.setIfInBounds_toArray, List.set_cons_zero, List.set_cons_succ]) | (refine lexG_held _ ?_ rfl rfl rfl rfl (by assumption) (fun _ hSw => ?_) ?_; rotate_left; (focus ((try dsimp only at hSw); go_simp; with_reducible rfl)); try simp only [Act.put, List.setIfInBounds_toArray, List.set_cons_zero, List.set_cons_succ]) | (refine lexG_skip _ rfl rfl (by assumption) ?_; try simp only [Act.put, List.setIfInBounds_toArray, List.set_cons_zero, List.set_cons_succ]))
  refine lexG_now _ rfl rfl rfl (fun K hK => ?_)
  go_wp2_with fail
  refine (hk2 _).mono ?_
  rintro e w3 ⟨rfl, hb⟩
  dsimp only
  obtain ⟨⟨E0, E1, E2, E3, E4⟩, ⟨F0, F1, F2, F3, F4⟩, HB, HL⟩ := hS2
  have hS3 : (w3.cell? ⟨b, 0, none⟩ = some (.int .i64 4) ∧ w3.cell? ⟨b, 1, none⟩ = some (.int .i64 i1) ∧ w3.cell? ⟨b, 2, none⟩ = some (.float .f64 f1) ∧ w3.cell? ⟨b, 3, none⟩ = some (.string s1) ∧ w3.cell? ⟨b, 4, none⟩ = some (.slice A1 l1.length c1)) ∧ (w3.cell? ⟨(b + 1), 0, none⟩ = some (.int .i64 4) ∧ w3.cell? ⟨(b + 1), 1, none⟩ = some (.int .i64 i2) ∧ w3.cell? ⟨(b + 1), 2, none⟩ = some (.float .f64 f2) ∧ w3.cell? ⟨(b + 1), 3, none⟩ = some (.string s2) ∧ w3.cell? ⟨(b + 1), 4, none⟩ = some (.slice A2 l2.length c2)) ∧ Below b w w3 ∧ b + 2 ≤ w3.heap.size := ⟨⟨cell_keep hb E0, cell_keep hb E1, cell_keep hb E2, cell_keep hb E3, cell_keep hb E4⟩, ⟨cell_keep hb F0, cell_keep hb F1, cell_keep hb F2, cell_keep hb F3, cell_keep hb F4⟩, HB.trans (hb.mono (by omega)), Nat.le_trans HL hb.size⟩
  clear E0 E1 E2 E3 E4 F0 F1 F2 F3 F4 HB HL hb
  refine hK _ _ _ (fun _ h => h) hS3 ?_
  clear hK K
  try simp only [Act.put, List.setIfInBounds_toArray, List.set_cons_zero, List.set_cons_succ]
  repeat (first | (refine lexG_take _ ?_ rfl rfl rfl rfl (fun _ => ?_) ?_; rotate_left; (focus (go_simp; with_reducible rfl)); try simp only [Act.put, List.setIfInBounds_toArray, List.set_cons_zero, List.set_cons_succ]) | (refine lexG_held _ ?_ rfl rfl rfl rfl (by assumption) (fun _ hSw => ?_) ?_; rotate_left; (focus ((try dsimp only at hSw); go_simp; with_reducible rfl)); try simp only [Act.put, List.setIfInBounds_toArray, List.set_cons_zero, List.set_cons_succ]) | (refine lexG_skip _ rfl rfl (by assumption) ?_; try simp only [Act.put, List.setIfInBounds_toArray, List.set_cons_zero, List.set_cons_succ]))
  refine lexG_nil ?_
  obtain ⟨⟨E0, E1, E2, E3, E4⟩, ⟨F0, F1, F2, F3, F4⟩, HB, HL⟩ := hS3
  have e4 := Lib.hid E4
  have f4 := Lib.hid F4
  clear hk1 hk2 E1 E2 E3 F0 F1 F2 F3
  have HBw : Below w.heap.size w w3 := by rw [hb0.out]; exact HB
  go_wp2_with fail
  go_loopw [7, 8] (fun i oo wr => ∃ k : Nat, k ≤ l1.length ∧ k ≤ l2.length ∧ i = .int .i64 (k : Int) ∧ Hid (ordL (l1.drop k) (l2.drop k) = r) ∧ Below w3.heap.size w3 wr) (fun i _ _ => l1.length - (intOf i).toNat)
  case atStart => exact ⟨0, Nat.zero_le _, Nat.zero_le _, rfl, Lib.hid (by rw [List.drop_zero, List.drop_zero]; exact hr.out), Below.refl _ _⟩
  case round =>
    rename_i hrel
    obtain ⟨j, hj1, hj2, rfl, hor, hb⟩ := hrel
    have E4 := cell_keep hb e4.out
    have F4 := cell_keep hb f4.out
    by_cases hlt : j < l1.length
    · by_cases hlt2 : j < l2.length
      · have hbb : Below B w wr := (HBw.mono hB).trans (hb.mono (Nat.le_trans hB HBw.size))
        obtain ⟨ad, g1, h1, p1, t1, B1, m1, d1, rfl, hform1, hgk1, a0, a1, a2, a3, a4⟩ := kid hr1 hv1 hxs1 hbb hlt
        obtain ⟨ad', g2, h2, p2, t2, B2, m2, d2, rfl, hform2, hgk2, e0, e1, e2, e3, e5⟩ := kid hr2 hv2 hxs2 hbb hlt2
        have hst := ordL_step hlt hlt2
        have hcl := fun w1 hw1 => hcall.out j l1[j] l2[j] hgk1 hgk2 w1 hw1
        rw [hform1, hform2] at hcl
        generalize ordV l1[j] l2[j] = q at *
        replace hst := Lib.hid hst
        replace hcl := Lib.hid hcl
        clear hform1 hform2 hgk1 hgk2 hbb
        have hS5 : (wr.drew.cell? ⟨b, 4, none⟩ = some (.slice (some ad) l1.length c1) ∧ wr.drew.cell? ⟨b + 1, 4, none⟩ = some (.slice (some ad') l2.length c2)) ∧ (wr.drew.cell? (ad.add (j * 5)) = some (.int .i64 g1) ∧ wr.drew.cell? ⟨(ad.add (j * 5)).block, (ad.add (j * 5)).off + 1, none⟩ = some (.int .i64 h1) ∧ wr.drew.cell? ⟨(ad.add (j * 5)).block, (ad.add (j * 5)).off + 2, none⟩ = some (.float .f64 p1) ∧ wr.drew.cell? ⟨(ad.add (j * 5)).block, (ad.add (j * 5)).off + 3, none⟩ = some (.string t1) ∧ wr.drew.cell? ⟨(ad.add (j * 5)).block, (ad.add (j * 5)).off + 4, none⟩ = some (.slice B1 m1 d1)) ∧ (wr.drew.cell? (ad'.add (j * 5)) = some (.int .i64 g2) ∧ wr.drew.cell? ⟨(ad'.add (j * 5)).block, (ad'.add (j * 5)).off + 1, none⟩ = some (.int .i64 h2) ∧ wr.drew.cell? ⟨(ad'.add (j * 5)).block, (ad'.add (j * 5)).off + 2, none⟩ = some (.float .f64 p2) ∧ wr.drew.cell? ⟨(ad'.add (j * 5)).block, (ad'.add (j * 5)).off + 3, none⟩ = some (.string t2) ∧ wr.drew.cell? ⟨(ad'.add (j * 5)).block, (ad'.add (j * 5)).off + 4, none⟩ = some (.slice B2 m2 d2)) ∧ Below w3.heap.size w3 wr.drew := ⟨⟨E4, F4⟩, ⟨a0, a1, a2, a3, a4⟩, ⟨e0, e1, e2, e3, e5⟩, ⟨hb.os, hb.tape, hb.output, hb.size, hb.block⟩⟩
        go_wp2_with fail
        clear E4 F4 a0 a1 a2 a3 a4 e0 e1 e2 e3 e5
        refine wp_region_lex (fun W => (W.cell? ⟨b, 4, none⟩ = some (.slice (some ad) l1.length c1) ∧ W.cell? ⟨b + 1, 4, none⟩ = some (.slice (some ad') l2.length c2)) ∧ (W.cell? (ad.add (j * 5)) = some (.int .i64 g1) ∧ W.cell? ⟨(ad.add (j * 5)).block, (ad.add (j * 5)).off + 1, none⟩ = some (.int .i64 h1) ∧ W.cell? ⟨(ad.add (j * 5)).block, (ad.add (j * 5)).off + 2, none⟩ = some (.float .f64 p1) ∧ W.cell? ⟨(ad.add (j * 5)).block, (ad.add (j * 5)).off + 3, none⟩ = some (.string t1) ∧ W.cell? ⟨(ad.add (j * 5)).block, (ad.add (j * 5)).off + 4, none⟩ = some (.slice B1 m1 d1)) ∧ (W.cell? (ad'.add (j * 5)) = some (.int .i64 g2) ∧ W.cell? ⟨(ad'.add (j * 5)).block, (ad'.add (j * 5)).off + 1, none⟩ = some (.int .i64 h2) ∧ W.cell? ⟨(ad'.add (j * 5)).block, (ad'.add (j * 5)).off + 2, none⟩ = some (.float .f64 p2) ∧ W.cell? ⟨(ad'.add (j * 5)).block, (ad'.add (j * 5)).off + 3, none⟩ = some (.string t2) ∧ W.cell? ⟨(ad'.add (j * 5)).block, (ad'.add (j * 5)).off + 4, none⟩ = some (.slice B2 m2 d2)) ∧ Below w3.heap.size w3 W) [1, 4, 6, 9] [10] [0, 1, 2, 3, 4, 5, 6, 7, 8, 9, 10, 11] (by kernel_rfl) rfl (by kernel_rfl) (by kernel_rfl) (fun _ _ d _ _ h => by cases d <;> exact h) ?_
        repeat (first | (refine lexG_take _ ?_ rfl rfl rfl rfl (fun _ => ?_) ?_; rotate_left; (focus (go_simp; with_reducible rfl)); try simp only [Act.put, List.setIfInBounds_toArray, List.set_cons_zero, List.set_cons_succ]) | (refine lexG_held _ ?_ rfl rfl rfl rfl (by assumption) (fun _ hSw => ?_) ?_; rotate_left; (focus ((try dsimp only at hSw); go_simp; with_reducible rfl)); try simp only [Act.put, List.setIfInBounds_toArray, List.set_cons_zero, List.set_cons_succ]) | (refine lexG_skip _ rfl rfl (by assumption) ?_; try simp only [Act.put, List.setIfInBounds_toArray, List.set_cons_zero, List.set_cons_succ]))
        refine lexG_now _ rfl rfl rfl (fun K hK => ?_)
        go_wp2_with fail
        refine (hcl.out _ (HBw.trans (hS5.2.2.2.mono HBw.size))).mono ?_
        rintro e w5 ⟨rfl, hb5⟩
        dsimp only
        have hb5' := below_then hb5 hS5.2.2.2
        obtain ⟨⟨E4, F4⟩, ⟨a0, a1, a2, a3, a4⟩, ⟨e0, e1, e2, e3, e5⟩, -⟩ := hS5
        refine hK _ _ _ (fun _ h => h) ⟨⟨cell_keep hb5 E4, cell_keep hb5 F4⟩, ⟨cell_keep hb5 a0, cell_keep hb5 a1, cell_keep hb5 a2, cell_keep hb5 a3, cell_keep hb5 a4⟩, ⟨cell_keep hb5 e0, cell_keep hb5 e1, cell_keep hb5 e2, cell_keep hb5 e3, cell_keep hb5 e5⟩, hb5'⟩ ?_
        clear hK K E4 F4 a0 a1 a2 a3 a4 e0 e1 e2 e3 e5 hb5
        try simp only [Act.put, List.setIfInBounds_toArray, List.set_cons_zero, List.set_cons_succ]
        repeat (first | (refine lexG_take _ ?_ rfl rfl rfl rfl (fun _ => ?_) ?_; rotate_left; (focus (go_simp; with_reducible rfl)); try simp only [Act.put, List.setIfInBounds_toArray, List.set_cons_zero, List.set_cons_succ]) | (refine lexG_held _ ?_ rfl rfl rfl rfl (by assumption) (fun _ hSw => ?_) ?_; rotate_left; (focus ((try dsimp only at hSw); go_simp; with_reducible rfl)); try simp only [Act.put, List.setIfInBounds_toArray, List.set_cons_zero, List.set_cons_succ]) | (refine lexG_skip _ rfl rfl (by assumption) ?_; try simp only [Act.put, List.setIfInBounds_toArray, List.set_cons_zero, List.set_cons_succ]))
        refine lexG_nil ?_
        by_cases hq : q = 0
        · subst hq
          have hst' : ordL (l1.drop (j + 1)) (l2.drop (j + 1)) = r := by have h := hst.out; rw [hor.out, if_pos rfl] at h; exact h.symm
          replace hst' := Lib.hid hst'
          go_wp2_with fail
          go_roundw
          case rel => exact ⟨j + 1, by omega, by omega, by simp, hst', hb5'⟩
          case measure => simp [intOf]; omega
        · have hqr : q = r := by have h := hst.out; rw [hor.out, if_neg hq] at h; exact h.symm
          have hqn : (q != 0) = true := bne_iff_ne.2 hq
          subst hqr
          go_wp2_with fail
          go_ret
          exact ⟨rfl, HBw.trans (hb5'.mono HBw.size)⟩
      · have hr1' : r = 1 := by rw [← hor.out]; exact ordL_over hlt (by omega)
        subst hr1'
        have hw : wayB (decide (l1.length < l2.length)) (decide (l2.length < l1.length)) = 1 := by rw [decide_eq_false (by omega), decide_eq_true (by omega)]; rfl
        have hc := fun w => ref_way (decide (l1.length < l2.length)) (decide (l2.length < l1.length)) w
        rw [hw] at hc
        go_wp2_with fail
        refine (hc _).mono ?_
        rintro e w6 ⟨rfl, hb6⟩
        dsimp only
        have HB6 := HBw.trans ((hb.trans (hb6.mono hb.size)).mono HBw.size)
        go_wp2_with fail
        go_ret
        exact ⟨rfl, HB6⟩
    · have hk' : j = l1.length := by omega
      have he : r = if j < l2.length then -1 else 0 := by rw [← hor.out]; exact ordL_end (by omega) hj2
      clear hor
      subst hk'
      by_cases hl : l1.length < l2.length
      · rw [if_pos hl] at he
        subst he
        have hw : wayB true (decide (l2.length < l1.length)) = -1 := rfl
        have hc := fun w => ref_way true (decide (l2.length < l1.length)) w
        rw [hw] at hc
        go_wp2_with fail
        refine (hc _).mono ?_
        rintro e w6 ⟨rfl, hb6⟩
        dsimp only
        have HB6 := HBw.trans ((hb.trans (hb6.mono hb.size)).mono HBw.size)
        go_wp2_with fail
        go_ret
        exact ⟨rfl, HB6⟩
      · rw [if_neg hl] at he
        subst he
        have hl3 : l1.length = l2.length := by omega
        have hw : wayB false (decide (l2.length < l1.length)) = 0 := by rw [decide_eq_false (by omega)]; rfl
        have hc := fun w => ref_way false (decide (l2.length < l1.length)) w
        rw [hw] at hc
        clear hl3
        go_wp2_with fail
        refine (hc _).mono ?_
        rintro e w6 ⟨rfl, hb6⟩
        dsimp only
        have HB6 := HBw.trans ((hb.trans (hb6.mono hb.size)).mono HBw.size)
        go_wp2_with fail
        go_ret
        exact ⟨rfl, HB6⟩

/-- choirref1.Order at any two trees. -/
theorem ref_order_tree {w : World} {B : Nat} {v : Val} {cs : Array Value} (h : VReads w B v cs) : ∀ (u : Val) (cs' : Array Value) (w1 : World), VReads w B u cs' → OkV v → OkV u → Below B w w1 → B ≤ w1.heap.size → Calls Tryz.prog 21 #[.agg cs, .agg cs'] w1 (Says w1 (.int .i64 (ordV v u))) := by
  induction h with
  | @mk k i f s l A c xs css hn hr hx hxs ih =>
    intro u cs' w1 h' ho ho' hb1 hB1
    obtain ⟨css', hn', hr', hx', hxs'⟩ := h'
    rename_i k' i' f' s' l' A' c' xs'
    obtain ⟨hf, -, hl⟩ := ho
    obtain ⟨hf', -, hl'⟩ := ho'
    have e : ordV (.mk k i f s l) (.mk k' i' f' s' l') = ordC k i k' i' f f' (bstr s) (bstr s') (ordL l l') := by rw [ordV]
    rw [e]
    by_cases hk : k = 4 ∧ k' = 4
    · obtain ⟨rfl, rfl⟩ := hk
      have e4 : ordC 4 i 4 i' f f' (bstr s) (bstr s') (ordL l l') = ordL l l' := rfl
      rw [e4]
      exact ref_order_list i i' f f' (bstr s) (bstr s') (hr.below hb1) (hr'.below hb1) hB1 hxs hxs' (fun j v hv => (hx j v hv).under hb1) (fun j v hv => (hx' j v hv).under hb1) hn hn'
        (fun j v u hv hu w6 hb6 => ih j v hv u (css' j) w6 (hx' j u hu) (hl v (List.mem_of_getElem? hv)) (hl' u (List.mem_of_getElem? hu)) (hb1.trans (hb6.mono hB1)) (Nat.le_trans hB1 hb6.size))
    · exact ref_order_flat k i k' i' f f' (bstr s) (bstr s') A A' l.length c l'.length c' (ordL l l') w1 hf hf' hk
end Go.Proofs.YtdbmffagibnibaaGreatDoor
