/- ValueLine: the walk. (Printed by gen_vline.py.) -/
import Derived.Test.YtdbmffagibnibaaGreatDoorFfK
import Derived.Test.YtdbmffagibnibaaGreatDoorVLp
set_option linter.unusedSimpArgs false
set_option linter.unusedVariables false
namespace Go.Proofs.YtdbmffagibnibaaGreatDoor
open Go.RowKit Go.Sort Go.Lib
set_option maxRecDepth 100000

set_option maxHeartbeats 12800000 in
theorem valueLine_walk (a b c : Val) (ca cb' cc : Array Value) (w : World) (hT : TabW w) (hQ : QuoteW w) (ha : VReads w w.heap.size a ca) (hb : VReads w w.heap.size b cb') (hc : VReads w w.heap.size c cc) (oa : OkV a) (ob : OkV b) (oc : OkV c) : Calls Tryz.prog 3 #[.agg ca, .agg cb', .agg cc] w (Says w (.bool true)) := by
  have hla := fun W hW => light_any ha W hW hW.size
  have hlb := fun W hW => light_any hb W hW hW.size
  have hlc := fun W hW => light_any hc W hW hW.size
  have hab := fun W hW => order_tree ha b cb' W hb oa ob hW hW.size
  have hbc := fun W hW => order_tree hb c cc W hc ob oc hW hW.size
  have hac := fun W hW => order_tree ha c cc W hc oa oc hW hW.size
  have hba := fun W hW => order_tree hb a ca W ha ob oa hW hW.size
  have hch := chain_v a b c
  have hsw := swap_v a b
  generalize ordV a b = X at *
  generalize ordV b c = Y at *
  generalize ordV a c = Z at *
  generalize ordV b a = U at *
  obtain ⟨k1, i1, f1, s1, A1, n1, c1, rfl⟩ := ha.form
  obtain ⟨k2, i2, f2, s2, A2, n2, c2, rfl⟩ := hb.form
  obtain ⟨k3, i3, f3, s3, A3, n3, c3, rfl⟩ := hc.form
  replace hla := Lib.hid hla
  replace hlb := Lib.hid hlb
  replace hlc := Lib.hid hlc
  replace hab := Lib.hid hab
  replace hbc := Lib.hid hbc
  replace hac := Lib.hid hac
  replace hba := Lib.hid hba
  replace hch := Lib.hid hch
  replace hsw := Lib.hid hsw
  clear ha hb hc oa ob oc
  have b1 := Blk.new w 25 #[.int .i64 k1, .int .i64 i1, .float .f64 f1, .string s1, .slice A1 n1 c1]
  have e1 := (Below.refl w.heap.size w).alloc (Nat.le_refl _) (.cells #[.int .i64 k1, .int .i64 i1, .float .f64 f1, .string s1, .slice A1 n1 c1] 25)
  have b2 := Blk.new (w.alloc (.cells #[.int .i64 k1, .int .i64 i1, .float .f64 f1, .string s1, .slice A1 n1 c1] 25)) 25 #[.int .i64 k2, .int .i64 i2, .float .f64 f2, .string s2, .slice A2 n2 c2]
  have e2 := below_then ((Below.refl _ _).alloc (Nat.le_refl _) (.cells #[.int .i64 k2, .int .i64 i2, .float .f64 f2, .string s2, .slice A2 n2 c2] 25)) e1
  have b3 := Blk.new ((w.alloc (.cells #[.int .i64 k1, .int .i64 i1, .float .f64 f1, .string s1, .slice A1 n1 c1] 25)).alloc (.cells #[.int .i64 k2, .int .i64 i2, .float .f64 f2, .string s2, .slice A2 n2 c2] 25)) 25 #[.int .i64 k3, .int .i64 i3, .float .f64 f3, .string s3, .slice A3 n3 c3]
  have e3 := below_then ((Below.refl _ _).alloc (Nat.le_refl _) (.cells #[.int .i64 k3, .int .i64 i3, .float .f64 f3, .string s3, .slice A3 n3 c3] 25)) e2
  have b1' := (b1.alloc (.cells #[.int .i64 k2, .int .i64 i2, .float .f64 f2, .string s2, .slice A2 n2 c2] 25)).alloc (.cells #[.int .i64 k3, .int .i64 i3, .float .f64 f3, .string s3, .slice A3 n3 c3] 25)
  have b2' := b2.alloc (.cells #[.int .i64 k3, .int .i64 i3, .float .f64 f3, .string s3, .slice A3 n3 c3] 25)
  have z1 : (w.alloc (.cells #[.int .i64 k1, .int .i64 i1, .float .f64 f1, .string s1, .slice A1 n1 c1] 25)).heap.size = w.heap.size + 1 := by simp
  have z2 : ((w.alloc (.cells #[.int .i64 k1, .int .i64 i1, .float .f64 f1, .string s1, .slice A1 n1 c1] 25)).alloc (.cells #[.int .i64 k2, .int .i64 i2, .float .f64 f2, .string s2, .slice A2 n2 c2] 25)).heap.size = w.heap.size + 2 := by simp
  rw [z1] at b2'
  rw [z2] at b3
  clear b1 b2 e1 e2 z1 z2
  have hkn := known_true _ (hT.next e3) (hQ.next e3)
  obtain ⟨N, hN⟩ : ∃ N, w.heap.size = N := ⟨_, rfl⟩
  rw [hN] at b1' b2' b3
  replace hN := Lib.hid hN
  replace hkn := Lib.hid hkn
  go_enter Tryz.func3, Tryz.ntmps3
  go_upto_region 1 with (fail)
  try rw [hN.out]
  generalize ((w.alloc (.cells #[.int .i64 k1, .int .i64 i1, .float .f64 f1, .string s1, .slice A1 n1 c1] 25)).alloc (.cells #[.int .i64 k2, .int .i64 i2, .float .f64 f2, .string s2, .slice A2 n2 c2] 25)).alloc (.cells #[.int .i64 k3, .int .i64 i3, .float .f64 f3, .string s3, .slice A3 n3 c3] 25) = w1 at *
  go_wp2_with fail
  refine hkn.out.mono ?_
  clear hkn
  rintro e w2 ⟨rfl, hb2⟩
  dsimp only
  have q1 := b1'.below hb2 b1'.lt
  have q2 := b2'.below hb2 b2'.lt
  have q3 := b3.below hb2 b3.lt
  have l2 := below_then hb2 e3
  clear b1' b2' b3 hb2 e3
  have m10 := q1.cell 0
  have m11 := q1.cell 1
  have m12 := q1.cell 2
  have m13 := q1.cell 3
  have m14 := q1.cell 4
  have m20 := q2.cell 0
  have m21 := q2.cell 1
  have m22 := q2.cell 2
  have m23 := q2.cell 3
  have m24 := q2.cell 4
  have m30 := q3.cell 0
  have m31 := q3.cell 1
  have m32 := q3.cell 2
  have m33 := q3.cell 3
  have m34 := q3.cell 4
  go_wp2_with fail
  refine (hla.out _ l2).mono ?_
  clear m10 m11 m12 m13 m14 m20 m21 m22 m23 m24 m30 m31 m32 m33 m34
  rintro e w1' ⟨lq, rfl, hu1⟩
  dsimp only
  have q1 := q1.below hu1 q1.lt
  have q2 := q2.below hu1 q2.lt
  have q3 := q3.below hu1 q3.lt
  have l2 := below_then hu1 l2
  clear hu1
  cases lq
  · go_wp2_with fail
    go_ret
    exact ⟨rfl, l2⟩
  have m10 := q1.cell 0
  have m11 := q1.cell 1
  have m12 := q1.cell 2
  have m13 := q1.cell 3
  have m14 := q1.cell 4
  have m20 := q2.cell 0
  have m21 := q2.cell 1
  have m22 := q2.cell 2
  have m23 := q2.cell 3
  have m24 := q2.cell 4
  have m30 := q3.cell 0
  have m31 := q3.cell 1
  have m32 := q3.cell 2
  have m33 := q3.cell 3
  have m34 := q3.cell 4
  go_wp2_with fail
  refine (hlb.out _ l2).mono ?_
  clear m10 m11 m12 m13 m14 m20 m21 m22 m23 m24 m30 m31 m32 m33 m34
  rintro e w2' ⟨lq, rfl, hu2⟩
  dsimp only
  have q1 := q1.below hu2 q1.lt
  have q2 := q2.below hu2 q2.lt
  have q3 := q3.below hu2 q3.lt
  have l2 := below_then hu2 l2
  clear hu2
  cases lq
  · go_wp2_with fail
    go_ret
    exact ⟨rfl, l2⟩
  have m10 := q1.cell 0
  have m11 := q1.cell 1
  have m12 := q1.cell 2
  have m13 := q1.cell 3
  have m14 := q1.cell 4
  have m20 := q2.cell 0
  have m21 := q2.cell 1
  have m22 := q2.cell 2
  have m23 := q2.cell 3
  have m24 := q2.cell 4
  have m30 := q3.cell 0
  have m31 := q3.cell 1
  have m32 := q3.cell 2
  have m33 := q3.cell 3
  have m34 := q3.cell 4
  go_wp2_with fail
  refine (hlc.out _ l2).mono ?_
  clear m10 m11 m12 m13 m14 m20 m21 m22 m23 m24 m30 m31 m32 m33 m34
  rintro e w3' ⟨lq, rfl, hu3⟩
  dsimp only
  have q1 := q1.below hu3 q1.lt
  have q2 := q2.below hu3 q2.lt
  have q3 := q3.below hu3 q3.lt
  have l2 := below_then hu3 l2
  clear hu3
  cases lq
  · go_wp2_with fail
    go_ret
    exact ⟨rfl, l2⟩
  have m10 := q1.cell 0
  have m11 := q1.cell 1
  have m12 := q1.cell 2
  have m13 := q1.cell 3
  have m14 := q1.cell 4
  have m20 := q2.cell 0
  have m21 := q2.cell 1
  have m22 := q2.cell 2
  have m23 := q2.cell 3
  have m24 := q2.cell 4
  have m30 := q3.cell 0
  have m31 := q3.cell 1
  have m32 := q3.cell 2
  have m33 := q3.cell 3
  have m34 := q3.cell 4
  go_wp2_with fail
  refine (hab.out _ l2).mono ?_
  clear m10 m11 m12 m13 m14 m20 m21 m22 m23 m24 m30 m31 m32 m33 m34
  rintro e w4' ⟨rfl, hu4⟩
  dsimp only
  have q1 := q1.below hu4 q1.lt
  have q2 := q2.below hu4 q2.lt
  have q3 := q3.below hu4 q3.lt
  have l2 := below_then hu4 l2
  clear hu4
  by_cases hx : X ≤ 0
  · have dx : decide (X ≤ 0) = true := decide_eq_true hx
    have m10 := q1.cell 0
    have m11 := q1.cell 1
    have m12 := q1.cell 2
    have m13 := q1.cell 3
    have m14 := q1.cell 4
    have m20 := q2.cell 0
    have m21 := q2.cell 1
    have m22 := q2.cell 2
    have m23 := q2.cell 3
    have m24 := q2.cell 4
    have m30 := q3.cell 0
    have m31 := q3.cell 1
    have m32 := q3.cell 2
    have m33 := q3.cell 3
    have m34 := q3.cell 4
    go_wp2_with fail
    refine (hbc.out _ l2).mono ?_
    clear m10 m11 m12 m13 m14 m20 m21 m22 m23 m24 m30 m31 m32 m33 m34
    rintro e w5' ⟨rfl, hu5⟩
    dsimp only
    have q1 := q1.below hu5 q1.lt
    have q2 := q2.below hu5 q2.lt
    have q3 := q3.below hu5 q3.lt
    have l2 := below_then hu5 l2
    clear hu5
    by_cases hy : Y ≤ 0
    · have dy : decide (Y ≤ 0) = true := decide_eq_true hy
      obtain ⟨hz, hz0⟩ := hch.out hx hy
      have dz : decide (Z ≤ 0) = true := decide_eq_true hz
      have m10 := q1.cell 0
      have m11 := q1.cell 1
      have m12 := q1.cell 2
      have m13 := q1.cell 3
      have m14 := q1.cell 4
      have m20 := q2.cell 0
      have m21 := q2.cell 1
      have m22 := q2.cell 2
      have m23 := q2.cell 3
      have m24 := q2.cell 4
      have m30 := q3.cell 0
      have m31 := q3.cell 1
      have m32 := q3.cell 2
      have m33 := q3.cell 3
      have m34 := q3.cell 4
      go_wp2_with fail
      refine (hac.out _ l2).mono ?_
      clear m10 m11 m12 m13 m14 m20 m21 m22 m23 m24 m30 m31 m32 m33 m34
      rintro e w6' ⟨rfl, hu6⟩
      dsimp only
      have q1 := q1.below hu6 q1.lt
      have q2 := q2.below hu6 q2.lt
      have q3 := q3.below hu6 q3.lt
      have l2 := below_then hu6 l2
      clear hu6
      have m10 := q1.cell 0
      have m11 := q1.cell 1
      have m12 := q1.cell 2
      have m13 := q1.cell 3
      have m14 := q1.cell 4
      have m20 := q2.cell 0
      have m21 := q2.cell 1
      have m22 := q2.cell 2
      have m23 := q2.cell 3
      have m24 := q2.cell 4
      have m30 := q3.cell 0
      have m31 := q3.cell 1
      have m32 := q3.cell 2
      have m33 := q3.cell 3
      have m34 := q3.cell 4
      go_wp2_with fail
      refine (hac.out _ l2).mono ?_
      clear m10 m11 m12 m13 m14 m20 m21 m22 m23 m24 m30 m31 m32 m33 m34
      rintro e w7' ⟨rfl, hu7⟩
      dsimp only
      have q1 := q1.below hu7 q1.lt
      have q2 := q2.below hu7 q2.lt
      have q3 := q3.below hu7 q3.lt
      have l2 := below_then hu7 l2
      clear hu7
      by_cases hzn : Z < 0
      · have dzn : decide (Z < 0) = true := decide_eq_true hzn
        go_wp2_with fail
        go_ret
        exact ⟨rfl, l2⟩
      · have dzn : decide (Z < 0) = false := decide_eq_false hzn
        have hx0 : X = 0 := (hz0.1 (by omega)).1
        subst hx0
        have m10 := q1.cell 0
        have m11 := q1.cell 1
        have m12 := q1.cell 2
        have m13 := q1.cell 3
        have m14 := q1.cell 4
        have m20 := q2.cell 0
        have m21 := q2.cell 1
        have m22 := q2.cell 2
        have m23 := q2.cell 3
        have m24 := q2.cell 4
        have m30 := q3.cell 0
        have m31 := q3.cell 1
        have m32 := q3.cell 2
        have m33 := q3.cell 3
        have m34 := q3.cell 4
        go_wp2_with fail
        refine (hab.out _ l2).mono ?_
        clear m10 m11 m12 m13 m14 m20 m21 m22 m23 m24 m30 m31 m32 m33 m34
        rintro e w8' ⟨rfl, hu8⟩
        dsimp only
        have q1 := q1.below hu8 q1.lt
        have q2 := q2.below hu8 q2.lt
        have q3 := q3.below hu8 q3.lt
        have l2 := below_then hu8 l2
        clear hu8
        go_wp2_with fail
        go_ret
        exact ⟨rfl, l2⟩
    · have dy : decide (Y ≤ 0) = false := decide_eq_false hy
      have g1 : decide (0 < X) = false := decide_eq_false (by omega)
      have hsw' := hsw.out
      have g2 : decide (U < 0) = false := decide_eq_false (by omega)
      clear hsw'
      go_wp2_with fail
      refine wp_region_lex (fun W => Below w5'.drew.heap.size w5'.drew W) [0, 1, 4, 5] [2, 6] [0, 1, 4, 5, 2, 3, 6, 7, 8, 9] (by kernel_rfl) rfl (by kernel_rfl) (by kernel_rfl) (fun _ _ d _ _ h => by cases d <;> exact h) ?_
      have q1 : Blk w5'.drew N 25 #[.int .i64 k1, .int .i64 i1, .float .f64 f1, .string s1, .slice A1 n1 c1] := q1.drew
      have q2 : Blk w5'.drew (N + 1) 25 #[.int .i64 k2, .int .i64 i2, .float .f64 f2, .string s2, .slice A2 n2 c2] := q2.drew
      have l2 : Below w.heap.size w w5'.drew := l2.drew
      generalize w5'.drew = v at *
      have hS0 := Below.refl v.heap.size v
      repeat (first | (refine lexG_take _ ?_ rfl rfl rfl rfl (fun _ => ?_) ?_; rotate_left; (focus (go_simp; with_reducible rfl)); try simp only [Act.put, List.setIfInBounds_toArray, List.set_cons_zero, List.set_cons_succ]) | (refine lexG_held _ ?_ rfl rfl rfl rfl (by assumption) (fun _ hSw => ?_) ?_; rotate_left; (focus (have g10 := (q1.below hSw q1.lt).cell 0; have g11 := (q1.below hSw q1.lt).cell 1; have g12 := (q1.below hSw q1.lt).cell 2; have g13 := (q1.below hSw q1.lt).cell 3; have g14 := (q1.below hSw q1.lt).cell 4; have g20 := (q2.below hSw q2.lt).cell 0; have g21 := (q2.below hSw q2.lt).cell 1; have g22 := (q2.below hSw q2.lt).cell 2; have g23 := (q2.below hSw q2.lt).cell 3; have g24 := (q2.below hSw q2.lt).cell 4; clear hSw; go_simp; with_reducible rfl)); try simp only [Act.put, List.setIfInBounds_toArray, List.set_cons_zero, List.set_cons_succ]) | (refine lexG_skip _ rfl rfl (by assumption) ?_; try simp only [Act.put, List.setIfInBounds_toArray, List.set_cons_zero, List.set_cons_succ]))
      refine lexG_now _ rfl rfl rfl (fun K hK => ?_)
      go_wp2_with fail
      refine (hab.out _ l2).mono ?_
      rintro e x1 ⟨rfl, hu1⟩
      dsimp only
      refine hK _ _ _ (fun _ h => h) hu1 ?_
      clear hK K hS0
      try simp only [Act.put, List.setIfInBounds_toArray, List.set_cons_zero, List.set_cons_succ]
      repeat (refine lexG_take _ ?_ rfl rfl rfl rfl (fun _ => ?_) ?_; rotate_left; (focus (go_simp; with_reducible rfl)); try simp only [Act.put, List.setIfInBounds_toArray, List.set_cons_zero, List.set_cons_succ])
      refine lexG_now _ rfl rfl rfl (fun K hK => ?_)
      go_wp2_with fail
      refine (hba.out _ (below_then hu1 l2)).mono ?_
      rintro e x2 ⟨rfl, hu2⟩
      dsimp only
      refine hK _ _ _ (fun _ h => h) (below_then hu2 hu1) ?_
      clear hK K
      try simp only [Act.put, List.setIfInBounds_toArray, List.set_cons_zero, List.set_cons_succ]
      repeat (refine lexG_take _ ?_ rfl rfl rfl rfl (fun _ => ?_) ?_; rotate_left; (focus (go_simp; with_reducible rfl)); try simp only [Act.put, List.setIfInBounds_toArray, List.set_cons_zero, List.set_cons_succ])
      refine lexG_nil ?_
      go_wp2_with fail
      go_ret
      exact ⟨rfl, below_then (below_then hu2 hu1) l2⟩
  · have dx : decide (X ≤ 0) = false := decide_eq_false hx
    have g1 : decide (0 < X) = true := decide_eq_true (by omega)
    have hsw' := hsw.out
    have g2 : decide (U < 0) = true := decide_eq_true (by omega)
    clear hsw'
    go_wp2_with fail
    refine wp_region_lex (fun W => Below w4'.drew.heap.size w4'.drew W) [0, 1, 4, 5] [2, 6] [0, 1, 4, 5, 2, 3, 6, 7, 8, 9] (by kernel_rfl) rfl (by kernel_rfl) (by kernel_rfl) (fun _ _ d _ _ h => by cases d <;> exact h) ?_
    have q1 : Blk w4'.drew N 25 #[.int .i64 k1, .int .i64 i1, .float .f64 f1, .string s1, .slice A1 n1 c1] := q1.drew
    have q2 : Blk w4'.drew (N + 1) 25 #[.int .i64 k2, .int .i64 i2, .float .f64 f2, .string s2, .slice A2 n2 c2] := q2.drew
    have l2 : Below w.heap.size w w4'.drew := l2.drew
    generalize w4'.drew = v at *
    have hS0 := Below.refl v.heap.size v
    repeat (first | (refine lexG_take _ ?_ rfl rfl rfl rfl (fun _ => ?_) ?_; rotate_left; (focus (go_simp; with_reducible rfl)); try simp only [Act.put, List.setIfInBounds_toArray, List.set_cons_zero, List.set_cons_succ]) | (refine lexG_held _ ?_ rfl rfl rfl rfl (by assumption) (fun _ hSw => ?_) ?_; rotate_left; (focus (have g10 := (q1.below hSw q1.lt).cell 0; have g11 := (q1.below hSw q1.lt).cell 1; have g12 := (q1.below hSw q1.lt).cell 2; have g13 := (q1.below hSw q1.lt).cell 3; have g14 := (q1.below hSw q1.lt).cell 4; have g20 := (q2.below hSw q2.lt).cell 0; have g21 := (q2.below hSw q2.lt).cell 1; have g22 := (q2.below hSw q2.lt).cell 2; have g23 := (q2.below hSw q2.lt).cell 3; have g24 := (q2.below hSw q2.lt).cell 4; clear hSw; go_simp; with_reducible rfl)); try simp only [Act.put, List.setIfInBounds_toArray, List.set_cons_zero, List.set_cons_succ]) | (refine lexG_skip _ rfl rfl (by assumption) ?_; try simp only [Act.put, List.setIfInBounds_toArray, List.set_cons_zero, List.set_cons_succ]))
    refine lexG_now _ rfl rfl rfl (fun K hK => ?_)
    go_wp2_with fail
    refine (hab.out _ l2).mono ?_
    rintro e x1 ⟨rfl, hu1⟩
    dsimp only
    refine hK _ _ _ (fun _ h => h) hu1 ?_
    clear hK K hS0
    try simp only [Act.put, List.setIfInBounds_toArray, List.set_cons_zero, List.set_cons_succ]
    repeat (refine lexG_take _ ?_ rfl rfl rfl rfl (fun _ => ?_) ?_; rotate_left; (focus (go_simp; with_reducible rfl)); try simp only [Act.put, List.setIfInBounds_toArray, List.set_cons_zero, List.set_cons_succ])
    refine lexG_now _ rfl rfl rfl (fun K hK => ?_)
    go_wp2_with fail
    refine (hba.out _ (below_then hu1 l2)).mono ?_
    rintro e x2 ⟨rfl, hu2⟩
    dsimp only
    refine hK _ _ _ (fun _ h => h) (below_then hu2 hu1) ?_
    clear hK K
    try simp only [Act.put, List.setIfInBounds_toArray, List.set_cons_zero, List.set_cons_succ]
    repeat (refine lexG_take _ ?_ rfl rfl rfl rfl (fun _ => ?_) ?_; rotate_left; (focus (go_simp; with_reducible rfl)); try simp only [Act.put, List.setIfInBounds_toArray, List.set_cons_zero, List.set_cons_succ])
    refine lexG_nil ?_
    go_wp2_with fail
    go_ret
    exact ⟨rfl, below_then (below_then hu2 hu1) l2⟩
end Go.Proofs.YtdbmffagibnibaaGreatDoor
