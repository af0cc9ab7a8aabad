/- ValueFloats: the walk. (Printed by gen_vf.py.) -/
import Derived.Test.YtdbmffagibnibaaGreatDoorFfK
set_option linter.unusedSimpArgs false
set_option linter.unusedVariables false
namespace Go.Proofs.YtdbmffagibnibaaGreatDoor
open Go.RowKit Go.Sort Go.Lib
set_option maxRecDepth 100000

theorem ordV_fl (F G : Nat) : ordV (.mk 2 0 F [] []) (.mk 2 0 G [] []) = ordFl F G := by rw [ordV]; rfl
theorem eqV_fl (F G : Nat) : eqV (.mk 2 0 F [] []) (.mk 2 0 G [] []) = eqF F G := by rw [eqV]; rfl
theorem nan_cb (x : Nat) : nanB (cb x) = nanB x := by
  unfold cb
  cases h : nanB x
  · simp [h]
  · simp only [if_true]; decide
set_option maxHeartbeats 12800000 in
theorem valueFloats_walk (f g : Nat) (hf : f < 18446744073709551616) (hg : g < 18446744073709551616) (w : World) (hT : TabW w) (hQ : QuoteW w) : Calls Tryz.prog 4 #[.float .f64 f, .float .f64 g] w (Says w (.bool true)) := by
  have hsf := fun a k x m w => run_store_float (P := Tryz.prog) a k x m w
  have hbits1 := fun W => ref_bits f W
  have hbits2 := fun W => ref_bits g W
  have s1 := order_self f
  have s2 := order_self g
  have z1 := ord_zero f
  have z2 := ord_zero g
  have ol := ord_lt f g
  have og := ord_gt f g
  have oe := ord_eq f g
  have hFl := cb_lt hf
  have hGl := cb_lt hg
  have hfa := fun W => float_ref f W
  have hga := fun W => float_ref g W
  obtain ⟨F, hF⟩ : ∃ F, cb f = F := ⟨_, rfl⟩
  obtain ⟨G, hG⟩ : ∃ G, cb g = G := ⟨_, rfl⟩
  rw [hF] at hFl hfa hbits1
  rw [hG] at hGl hga hbits2
  replace hbits1 := Lib.hid hbits1
  replace hbits2 := Lib.hid hbits2
  replace hfa := Lib.hid hfa
  replace hga := Lib.hid hga
  replace s1 := Lib.hid s1
  replace s2 := Lib.hid s2
  replace z1 := Lib.hid z1
  replace z2 := Lib.hid z2
  replace ol := Lib.hid ol
  replace og := Lib.hid og
  replace oe := Lib.hid oe
  replace hF := Lib.hid hF
  replace hG := Lib.hid hG
  go_enter Tryz.func4, Tryz.ntmps4
  go_wp2_with fail
  refine (known_true w hT hQ).mono ?_
  rintro e w1 ⟨rfl, hb1⟩
  dsimp only
  go_wp2_with fail
  refine (hfa.out _).mono ?_
  rintro e w2 ⟨rfl, hb2⟩
  dsimp only
  have hb02 := below_then hb2 hb1
  go_wp2_with fail
  refine (hga.out _).mono ?_
  rintro e w3 ⟨rfl, hb3⟩
  dsimp only
  have hb03 := below_then hb3 hb02
  clear hb1 hb2 hb3 hb02
  go_upto_region 4 with (fail)
  have ha := Blk.new w3 25 #[.int .i64 2, .int .i64 0, .float .f64 F, .string ⟨#[]⟩, .slice none 0 0]
  obtain ⟨x, ex⟩ : ∃ x, w3.heap.size = x := ⟨_, rfl⟩
  have hx1 : (w3.alloc (.cells #[.int .i64 2, .int .i64 0, .float .f64 F, .string ⟨#[]⟩, .slice none 0 0] 25)).heap.size = x + 1 := by simp [ex]
  have ha1 := ha.alloc (.cells #[.int .i64 2, .int .i64 0, .float .f64 G, .string ⟨#[]⟩, .slice none 0 0] 25)
  have hb4 := Blk.new (w3.alloc (.cells #[.int .i64 2, .int .i64 0, .float .f64 F, .string ⟨#[]⟩, .slice none 0 0] 25)) 25 #[.int .i64 2, .int .i64 0, .float .f64 G, .string ⟨#[]⟩, .slice none 0 0]
  rw [hx1] at hb4
  rw [ex] at ha1
  have hbl := below_then (((Below.refl w3.heap.size w3).alloc (Nat.le_refl _) (.cells #[.int .i64 2, .int .i64 0, .float .f64 F, .string ⟨#[]⟩, .slice none 0 0] 25)).alloc (by simp) (.cells #[.int .i64 2, .int .i64 0, .float .f64 G, .string ⟨#[]⟩, .slice none 0 0] 25)) hb03
  try rw [ex]
  generalize (w3.alloc (.cells #[.int .i64 2, .int .i64 0, .float .f64 F, .string ⟨#[]⟩, .slice none 0 0] 25)).alloc (.cells #[.int .i64 2, .int .i64 0, .float .f64 G, .string ⟨#[]⟩, .slice none 0 0] 25) = v at *
  obtain ⟨y, ey⟩ : ∃ y, x + 1 = y := ⟨_, rfl⟩
  rw [ey] at hb4
  try rw [ey]
  clear ha ex hx1 ey hb03
  have okF : OkV (.mk 2 0 F [] []) := .mk hFl (by omega) (fun v h => by simp at h) (by simp)
  have okG : OkV (.mk 2 0 G [] []) := .mk hGl (by omega) (fun v h => by simp at h) (by simp)
  have hord := order_tree (flat_reads 2 0 F [] v v.heap.size) (.mk 2 0 G [] []) _ v (flat_reads 2 0 G [] v v.heap.size) okF okG (Below.refl _ _) (Nat.le_refl _)
  rw [ordV_fl] at hord
  have heq := fun W (hW : Below v.heap.size v W) => equal_tree (flat_reads 2 0 F [] v v.heap.size) (.mk 2 0 G [] []) _ W (flat_reads 2 0 G [] v v.heap.size) hW hW.size
  rw [eqV_fl] at heq
  obtain ⟨O, hO⟩ : ∃ O, ordFl F G = O := ⟨_, rfl⟩
  obtain ⟨E, hE⟩ : ∃ E, eqF F G = E := ⟨_, rfl⟩
  rw [hO] at hord
  rw [hE] at heq
  replace hO := Lib.hid hO
  replace hE := Lib.hid hE
  replace hord := Lib.hid hord
  replace heq := Lib.hid heq
  have k0 := ha1.cell 0
  have k1 := ha1.cell 1
  have k2 := ha1.cell 2
  have k3 := ha1.cell 3
  have k4 := ha1.cell 4
  have j0 := hb4.cell 0
  have j1 := hb4.cell 1
  have j2 := hb4.cell 2
  have j3 := hb4.cell 3
  have j4 := hb4.cell 4
  go_wp2_with fail
  refine hord.out.mono ?_
  clear k0 k1 k2 k3 k4 j0 j1 j2 j3 j4 hord
  rintro e v2 ⟨rfl, hv2⟩
  dsimp only
  have ha2 := ha1.below hv2 ha1.lt
  have hb5 := hb4.below hv2 hb4.lt
  have hbl2 := below_then hv2 hbl
  have k0 := ha2.cell 0
  have k1 := ha2.cell 1
  have k2 := ha2.cell 2
  have k3 := ha2.cell 3
  have k4 := ha2.cell 4
  have j0 := hb5.cell 0
  have j1 := hb5.cell 1
  have j2 := hb5.cell 2
  have j3 := hb5.cell 3
  have j4 := hb5.cell 4
  clear ha1 hb4 okF okG
  have hFo := hO.out
  have hEo := hE.out
  unfold ordFl at hFo
  unfold eqF at hEo
  rw [ord_eq] at hEo
  have nF : nanB F = nanB f := by rw [← hF.out]; exact nan_cb f
  have nG : nanB G = nanB g := by rw [← hG.out]; exact nan_cb g
  rw [nF, nG] at hFo hEo
  have s1 := s1.out
  have s2 := s2.out
  cases hp : nanB f with
  | true =>
    cases hq : nanB g with
    | true =>
      rw [hp, hq] at hFo hEo
      simp only [if_true, Bool.not_true, Bool.false_and, Bool.and_self, Bool.or_true, Bool.false_or] at hFo hEo
      subst hFo hEo
      rw [hp] at s1
      rw [hq] at s2
      skip
      go_wp2_with fail
      refine (heq.out _ hv2).mono ?_
      rintro e u1 ⟨rfl, hu1⟩
      dsimp only
      go_wp2_with fail
      go_ret
      exact ⟨rfl, below_then hu1 hbl2⟩
    | false =>
      rw [hp, hq] at hFo hEo
      simp only [if_true, if_false, Bool.false_eq_true, Bool.not_true, Bool.false_and, Bool.and_false, Bool.or_false, Bool.false_or] at hFo hEo
      subst hFo hEo
      rw [hp] at s1
      rw [hq] at s2
      skip
      go_wp2_with fail
      refine (heq.out _ hv2).mono ?_
      rintro e u1 ⟨rfl, hu1⟩
      dsimp only
      go_wp2_with fail
      go_ret
      exact ⟨rfl, below_then hu1 hbl2⟩
  | false =>
    cases hq : nanB g with
    | true =>
      rw [hp, hq] at hFo hEo
      simp only [if_true, if_false, Bool.false_eq_true, Bool.not_true, Bool.not_false, Bool.false_and, Bool.and_false, Bool.true_and, Bool.or_false, Bool.false_or] at hFo hEo
      subst hFo hEo
      rw [hp] at s1
      rw [hq] at s2
      skip
      go_wp2_with fail
      refine (heq.out _ hv2).mono ?_
      rintro e u1 ⟨rfl, hu1⟩
      dsimp only
      go_wp2_with fail
      go_ret
      exact ⟨rfl, below_then hu1 hbl2⟩
    | false =>
      have hFf : F = f := by rw [← hF.out]; unfold cb; rw [hp]; rfl
      have hGg : G = g := by rw [← hG.out]; unfold cb; rw [hq]; rfl
      subst hFf hGg
      rw [hp] at s1
      rw [hq] at s2
      have z1 := z1.out
      have z2 := z2.out
      rw [hp, hq] at hEo hFo
      simp only [Bool.not_false, Bool.true_and, Bool.and_self, Bool.or_false] at hEo
      simp only [Bool.false_eq_true, if_false] at hFo
      have ZB : keyF F = 0 → F = 0 ∨ F = 9223372036854775808 := fun h => by have := key_zero h; omega
      have ZG : keyF G = 0 → G = 0 ∨ G = 9223372036854775808 := fun h => by have := key_zero h; omega
      by_cases hz1 : keyF F = 0
      · rw [decide_eq_true hz1] at z1
        by_cases hz2 : keyF G = 0
        · rw [decide_eq_true hz2] at z2
          rw [decide_eq_true (show keyF F = keyF G from hz1.trans hz2.symm)] at hEo
          subst hEo
          clear hFo ol og oe
          have hO' := hO.out
          rcases ZB hz1 with rfl | rfl <;> rcases ZG hz2 with rfl | rfl
          · have hv : ordFl 0 0 = 0 := by decide +kernel
            rw [hv] at hO'
            subst hO'
            go_wp2_with fail
            refine (heq.out _ hv2).mono ?_
            rintro e u1 ⟨rfl, hu1⟩
            dsimp only
            go_wp2_with fail
            refine (hbits1.out _).mono ?_
            rintro e u2 ⟨rfl, rfl⟩
            dsimp only
            go_wp2_with fail
            refine (hbits2.out _).mono ?_
            rintro e u3 ⟨rfl, rfl⟩
            dsimp only
            go_wp2_with fail
            refine (hbits1.out _).mono ?_
            rintro e u4 ⟨rfl, rfl⟩
            dsimp only
            go_wp2_with fail
            refine (hbits2.out _).mono ?_
            rintro e u5 ⟨rfl, rfl⟩
            dsimp only
            go_wp2_with fail
            go_ret
            exact ⟨rfl, below_then hu1 hbl2⟩
          · have hv : ordFl 0 9223372036854775808 = 1 := by decide +kernel
            rw [hv] at hO'
            subst hO'
            go_wp2_with fail
            refine (heq.out _ hv2).mono ?_
            rintro e u1 ⟨rfl, hu1⟩
            dsimp only
            go_wp2_with fail
            refine (hbits1.out _).mono ?_
            rintro e u2 ⟨rfl, rfl⟩
            dsimp only
            go_wp2_with fail
            refine (hbits2.out _).mono ?_
            rintro e u3 ⟨rfl, rfl⟩
            dsimp only
            go_wp2_with fail
            refine (hbits1.out _).mono ?_
            rintro e u4 ⟨rfl, rfl⟩
            dsimp only
            go_wp2_with fail
            refine (hbits2.out _).mono ?_
            rintro e u5 ⟨rfl, rfl⟩
            dsimp only
            go_wp2_with fail
            go_ret
            exact ⟨rfl, below_then hu1 hbl2⟩
          · have hv : ordFl 9223372036854775808 0 = -1 := by decide +kernel
            rw [hv] at hO'
            subst hO'
            go_wp2_with fail
            refine (heq.out _ hv2).mono ?_
            rintro e u1 ⟨rfl, hu1⟩
            dsimp only
            go_wp2_with fail
            refine (hbits1.out _).mono ?_
            rintro e u2 ⟨rfl, rfl⟩
            dsimp only
            go_wp2_with fail
            refine (hbits2.out _).mono ?_
            rintro e u3 ⟨rfl, rfl⟩
            dsimp only
            go_wp2_with fail
            refine (hbits1.out _).mono ?_
            rintro e u4 ⟨rfl, rfl⟩
            dsimp only
            go_wp2_with fail
            refine (hbits2.out _).mono ?_
            rintro e u5 ⟨rfl, rfl⟩
            dsimp only
            go_wp2_with fail
            go_ret
            exact ⟨rfl, below_then hu1 hbl2⟩
          · have hv : ordFl 9223372036854775808 9223372036854775808 = 0 := by decide +kernel
            rw [hv] at hO'
            subst hO'
            go_wp2_with fail
            refine (heq.out _ hv2).mono ?_
            rintro e u1 ⟨rfl, hu1⟩
            dsimp only
            go_wp2_with fail
            refine (hbits1.out _).mono ?_
            rintro e u2 ⟨rfl, rfl⟩
            dsimp only
            go_wp2_with fail
            refine (hbits2.out _).mono ?_
            rintro e u3 ⟨rfl, rfl⟩
            dsimp only
            go_wp2_with fail
            refine (hbits1.out _).mono ?_
            rintro e u4 ⟨rfl, rfl⟩
            dsimp only
            go_wp2_with fail
            refine (hbits2.out _).mono ?_
            rintro e u5 ⟨rfl, rfl⟩
            dsimp only
            go_wp2_with fail
            go_ret
            exact ⟨rfl, below_then hu1 hbl2⟩
        · rw [decide_eq_false hz2] at z2
          rw [if_neg (fun h => hz2 h.2)] at hFo
          clear hz1 hz2 ZB ZG
          rcases Int.lt_trichotomy (keyF F) (keyF G) with hk | hk | hk
          · have l1 : (FloatKind.f64.format.order F G == some .lt) = true := by rw [ol.out, hp, hq]; simp only [Bool.not_false, Bool.true_and]; exact decide_eq_true (by omega)
            have l2 : (FloatKind.f64.format.order F G == some .eq) = false := by rw [oe.out, hp, hq]; simp only [Bool.not_false, Bool.true_and]; exact decide_eq_false (by omega)
            have l3 : (FloatKind.f64.format.order F G == some .gt) = false := by rw [og.out, hp, hq]; simp only [Bool.not_false, Bool.true_and]; exact decide_eq_false (by omega)
            have hov : O = -1 := by rw [← hFo]; unfold cmpI; rw [if_pos hk]
            rw [decide_eq_false (show ¬ keyF F = keyF G by omega)] at hEo
            subst hov hEo
            clear hFo hk
            go_wp2_with fail
            refine (heq.out _ hv2).mono ?_
            rintro e u1 ⟨rfl, hu1⟩
            dsimp only
            go_wp2_with fail
            go_ret
            exact ⟨rfl, below_then hu1 hbl2⟩
          · have l1 : (FloatKind.f64.format.order F G == some .lt) = false := by rw [ol.out, hp, hq]; simp only [Bool.not_false, Bool.true_and]; exact decide_eq_false (by omega)
            have l2 : (FloatKind.f64.format.order F G == some .eq) = true := by rw [oe.out, hp, hq]; simp only [Bool.not_false, Bool.true_and]; exact decide_eq_true (by omega)
            have l3 : (FloatKind.f64.format.order F G == some .gt) = false := by rw [og.out, hp, hq]; simp only [Bool.not_false, Bool.true_and]; exact decide_eq_false (by omega)
            have hov : O = 0 := by rw [← hFo]; unfold cmpI; rw [if_neg (by omega), if_neg (by omega)]
            rw [decide_eq_true (show keyF F = keyF G by omega)] at hEo
            subst hov hEo
            clear hFo hk
            go_wp2_with fail
            refine (heq.out _ hv2).mono ?_
            rintro e u1 ⟨rfl, hu1⟩
            dsimp only
            go_wp2_with fail
            go_ret
            exact ⟨rfl, below_then hu1 hbl2⟩
          · have l1 : (FloatKind.f64.format.order F G == some .lt) = false := by rw [ol.out, hp, hq]; simp only [Bool.not_false, Bool.true_and]; exact decide_eq_false (by omega)
            have l2 : (FloatKind.f64.format.order F G == some .eq) = false := by rw [oe.out, hp, hq]; simp only [Bool.not_false, Bool.true_and]; exact decide_eq_false (by omega)
            have l3 : (FloatKind.f64.format.order F G == some .gt) = true := by rw [og.out, hp, hq]; simp only [Bool.not_false, Bool.true_and]; exact decide_eq_true (by omega)
            have hov : O = 1 := by rw [← hFo]; unfold cmpI; rw [if_neg (by omega), if_pos hk]
            rw [decide_eq_false (show ¬ keyF F = keyF G by omega)] at hEo
            subst hov hEo
            clear hFo hk
            go_wp2_with fail
            refine (heq.out _ hv2).mono ?_
            rintro e u1 ⟨rfl, hu1⟩
            dsimp only
            go_wp2_with fail
            go_ret
            exact ⟨rfl, below_then hu1 hbl2⟩
      · rw [decide_eq_false hz1] at z1
        clear z2
        rw [if_neg (fun h => hz1 h.1)] at hFo
        clear hz1 ZB ZG
        rcases Int.lt_trichotomy (keyF F) (keyF G) with hk | hk | hk
        · have l1 : (FloatKind.f64.format.order F G == some .lt) = true := by rw [ol.out, hp, hq]; simp only [Bool.not_false, Bool.true_and]; exact decide_eq_true (by omega)
          have l2 : (FloatKind.f64.format.order F G == some .eq) = false := by rw [oe.out, hp, hq]; simp only [Bool.not_false, Bool.true_and]; exact decide_eq_false (by omega)
          have l3 : (FloatKind.f64.format.order F G == some .gt) = false := by rw [og.out, hp, hq]; simp only [Bool.not_false, Bool.true_and]; exact decide_eq_false (by omega)
          have hov : O = -1 := by rw [← hFo]; unfold cmpI; rw [if_pos hk]
          rw [decide_eq_false (show ¬ keyF F = keyF G by omega)] at hEo
          subst hov hEo
          clear hFo hk
          go_wp2_with fail
          refine (heq.out _ hv2).mono ?_
          rintro e u1 ⟨rfl, hu1⟩
          dsimp only
          go_wp2_with fail
          go_ret
          exact ⟨rfl, below_then hu1 hbl2⟩
        · have l1 : (FloatKind.f64.format.order F G == some .lt) = false := by rw [ol.out, hp, hq]; simp only [Bool.not_false, Bool.true_and]; exact decide_eq_false (by omega)
          have l2 : (FloatKind.f64.format.order F G == some .eq) = true := by rw [oe.out, hp, hq]; simp only [Bool.not_false, Bool.true_and]; exact decide_eq_true (by omega)
          have l3 : (FloatKind.f64.format.order F G == some .gt) = false := by rw [og.out, hp, hq]; simp only [Bool.not_false, Bool.true_and]; exact decide_eq_false (by omega)
          have hov : O = 0 := by rw [← hFo]; unfold cmpI; rw [if_neg (by omega), if_neg (by omega)]
          rw [decide_eq_true (show keyF F = keyF G by omega)] at hEo
          subst hov hEo
          clear hFo hk
          go_wp2_with fail
          refine (heq.out _ hv2).mono ?_
          rintro e u1 ⟨rfl, hu1⟩
          dsimp only
          go_wp2_with fail
          go_ret
          exact ⟨rfl, below_then hu1 hbl2⟩
        · have l1 : (FloatKind.f64.format.order F G == some .lt) = false := by rw [ol.out, hp, hq]; simp only [Bool.not_false, Bool.true_and]; exact decide_eq_false (by omega)
          have l2 : (FloatKind.f64.format.order F G == some .eq) = false := by rw [oe.out, hp, hq]; simp only [Bool.not_false, Bool.true_and]; exact decide_eq_false (by omega)
          have l3 : (FloatKind.f64.format.order F G == some .gt) = true := by rw [og.out, hp, hq]; simp only [Bool.not_false, Bool.true_and]; exact decide_eq_true (by omega)
          have hov : O = 1 := by rw [← hFo]; unfold cmpI; rw [if_neg (by omega), if_pos hk]
          rw [decide_eq_false (show ¬ keyF F = keyF G by omega)] at hEo
          subst hov hEo
          clear hFo hk
          go_wp2_with fail
          refine (heq.out _ hv2).mono ?_
          rintro e u1 ⟨rfl, hu1⟩
          dsimp only
          go_wp2_with fail
          go_ret
          exact ⟨rfl, below_then hu1 hbl2⟩
end Go.Proofs.YtdbmffagibnibaaGreatDoor
