/- journal.Recover. -/
import Derived.Test.YtlkokkbikkbaoaaStep
set_option linter.unusedSimpArgs false
set_option linter.unusedVariables false
set_option linter.unusedSimpArgs false
set_option linter.unusedVariables false
namespace Go.Proofs.Ytlkokkbikkbaoaa
open Go.RowKit
set_option maxRecDepth 100000

theorem opened_le (d : List UInt8) : (opened d).1.length ≤ d.length := by
  unfold opened
  split
  · simp
  split
  · simp
  split
  · simp
  split
  · simp only [List.length_take, List.length_drop]; omega
  · simp
/-- A state and how far. -/
def RcRes (w : World) (R : StD × Nat) (e : Ending) (w' : World) : Prop :=
  ∃ L' c' xs' css', e = .returned (.tuple #[.agg #[.int .u64 (R.1.v : Int), .int .u64 (R.1.last : Int), .slice L' R.1.log.length c', .int .i64 R.1.sure], .int .i64 (R.2 : Int)]) ∧ LogR w' w'.heap.size L' c' R.1.log xs' css' ∧ Below w.heap.size w w'
theorem stepD_ok {s : StD} {r : RecD} (h1 : 0 ≤ s.sure) (h2 : s.log.length ≤ 400) : 0 ≤ (stepD s r).sure ∧ (stepD s r).log.length ≤ 400 := by
  unfold stepD
  by_cases h : stepOk s r = true
  · rw [if_pos h]
    unfold stepOk at h
    split
    · exact ⟨h1, h2⟩
    rename_i hk1
    rw [if_neg hk1] at h
    split
    · rename_i hk2
      rw [if_pos hk2] at h
      have := of_decide_eq_true h
      refine ⟨h1, ?_⟩
      rw [List.length_append]
      have := this.2.2
      simp
      omega
    rename_i hk2
    rw [if_neg hk2] at h
    split
    · refine ⟨h1, ?_⟩
      rw [List.length_take]
      omega
    · split at h
      · have := of_decide_eq_true h
        exact ⟨by dsimp only; omega, h2⟩
      · cases h
  · rw [if_neg h]
    exact ⟨h1, h2⟩
structure RcRel (w wr : World) (b : List UInt8) (R : StD × Nat) (z y : Nat) (ts : TypeId) (j : Nat) (s : StD) (L : Option Addr) (c : Nat) (xs : List Value) (css : Nat → Array Value) : Prop where
  jl : j ≤ b.length
  hz : Blk wr z ts #[.int .u64 0, .int .u64 0, .slice none 0 0, .int .i64 0]
  hy : Blk wr y ts #[.int .u64 (s.v : Int), .int .u64 (s.last : Int), .slice L s.log.length c, .int .i64 s.sure]
  rob : ∀ W, Upd (fun g => g = z ∨ g = y) wr W → LogR W W.heap.size L c s.log xs css
  hb : Below w.heap.size w wr
  rec_ : ∃ f, b.length < f + j ∧ recF f b s j = R
  sure : 0 ≤ s.sure
  len : s.log.length ≤ 400

set_option maxHeartbeats 12800000 in
theorem rec_walk {A : Option Addr} {c : Nat} {b : List UInt8} {w : World} (h : Reads w w.heap.size 1 A b.length (bys b)) (hA : A = none → c = 0) (hc : b.length ≤ c) (hl : b.length ≤ 1000000000) :
    Calls Try.prog 8 #[.slice A b.length c] w (RcRes w (recD b)) := by
  obtain ⟨R, hR⟩ : ∃ R, recD b = R := ⟨_, rfl⟩
  rw [hR]
  have hf0 : ∃ f, b.length < f + 0 ∧ recF f b st0 0 = R := ⟨b.length + 1, by omega, hR⟩
  have hz0 := Blk.new w 49 #[.int .u64 0, .int .u64 0, .slice none 0 0, .int .i64 0]
  have hy0 := Blk.new (w.alloc (.cells #[.int .u64 0, .int .u64 0, .slice none 0 0, .int .i64 0] 49)) 49 #[.int .u64 0, .int .u64 0, .slice none 0 0, .int .i64 0]
  rw [World.size_alloc] at hy0
  have hz1 := hz0.alloc (.cells #[.int .u64 0, .int .u64 0, .slice none 0 0, .int .i64 0] 49)
  have hb1 := ((Below.refl w.heap.size w).alloc (Nat.le_refl _) (.cells #[.int .u64 0, .int .u64 0, .slice none 0 0, .int .i64 0] 49)).alloc (by simp only [World.size_alloc]; omega) (.cells #[.int .u64 0, .int .u64 0, .slice none 0 0, .int .i64 0] 49)
  clear hz0 hR
  replace hf0 := Lib.hid hf0
  replace h := Lib.hid h
  replace hA := Lib.hid hA
  go_enter Try.func8, Try.ntmps8
  go_wp2_with fail
  generalize (w.alloc (.cells #[.int .u64 0, .int .u64 0, .slice none 0 0, .int .i64 0] 49)).alloc (.cells #[.int .u64 0, .int .u64 0, .slice none 0 0, .int .i64 0] 49) = w1 at *
  obtain ⟨z, hzz⟩ : ∃ z, w.heap.size = z := ⟨_, rfl⟩
  have hwz : w.heap.size ≤ z := by omega
  rw [hzz] at hz1 hy0 ⊢
  obtain ⟨y, hyy⟩ : ∃ y, z + 1 = y := ⟨_, rfl⟩
  have hzy : z < y := by omega
  rw [hyy] at hy0 ⊢
  have hwy : w.heap.size ≤ y := by omega
  replace hzz := Lib.hid hzz
  replace hyy := Lib.hid hyy
  go_loopw [5] (fun ii wr => ∃ (j : Nat) (s : StD) (L : Option Addr) (cl : Nat) (xs : List Value) (css : Nat → Array Value), ii = .int .i64 (j : Int) ∧ RcRel w wr b R z y 49 j s L cl xs css) (fun ii _ => b.length + 1 - (intOf ii).toNat)
  case atStart => exact ⟨0, st0, none, 0, [], _, rfl, ⟨Nat.zero_le _, hz1, hy0, fun W _ => LogR.nil _ _, hb1, hf0.out, by decide, by decide⟩⟩
  case round =>
    obtain ⟨j, ⟨sv, sl, log, su⟩, L, cl, xs, css, rfl, Rl⟩ := hrel
    obtain ⟨hjl, hzr0, hyr0, hrob, hbr0, ⟨f, hf1, hf2⟩, hsu0, hll⟩ := Rl
    dsimp only at hyr0 hrob hsu0 hll
    obtain ⟨d, hd⟩ : ∃ d, b.drop j = d := ⟨_, rfl⟩
    have hdl : d.length = b.length - j := by rw [← hd, List.length_drop]
    have hcut := ((h.out.below hbr0).more hbr0.size).cut (k := j) (cap := c) hjl hc
    rw [Nat.mul_one, bys_drop, hd, ← hdl] at hcut
    obtain ⟨f', rfl⟩ : ∃ f', f = f' + 1 := ⟨f - 1, by omega⟩
    unfold recF at hf2
    rw [hd] at hf2
    obtain ⟨⟨p, n, E⟩, ho⟩ : ∃ o, opened d = o := ⟨_, rfl⟩
    rw [ho] at hf2
    have hoo := open_walk (b := d) (c := c - j) hcut (by omega) (by omega)
    rw [ho] at hoo
    have hfar : E = 0 → 8 ≤ n ∧ n ≤ b.length - j := fun he => by have := opened_far (b := d) (by rw [ho]; exact he); rw [ho, hdl] at this; exact this
    have hshort : p.length ≤ d.length := by
      have := opened_le d
      rw [ho] at this
      exact this
    dsimp only at hf2
    obtain ⟨N, hN⟩ : ∃ N, log.length = N := ⟨_, rfl⟩
    rw [hN] at hyr0 hll
    have hyc0 := hyr0.st4
    replace hrob := Lib.hid hrob
    replace hf2 := Lib.hid hf2
    replace hN := Lib.hid hN
    replace hfar := Lib.hid hfar
    rw [hdl] at hoo hshort
    clear hdl ho hcut
    replace hoo := Lib.hid hoo
    have hjc : (j : Int) ≤ (b.length : Int) := by omega
    by_cases hcj : c = j
    all_goals
      first | (have hoo2 := hoo.out; rw [if_pos hcj] at hoo2) | (have hoo2 := hoo.out; rw [if_neg hcj] at hoo2; obtain ⟨ad, rfl⟩ : ∃ ad, A = some ad := (by cases A with | none => (have := hA.out rfl; omega) | some a => exact ⟨a, rfl⟩))
      clear hoo
      try rw [show c - j = 0 by omega] at hoo2
      go_wp2_with fail
      refine hoo2.mono ?_
      clear hoo2
      replace hcj := Lib.hid hcj
      rintro e w5 ⟨A5, c5, rfl, ho5, hb5, hg5⟩
      dsimp only at ho5 ⊢
      by_cases hE : E = 0
      · subst hE
        have hf3 := hf2.out
        rw [if_neg (by simp)] at hf3
        obtain ⟨hn8, hnb⟩ := hfar.out rfl
        obtain ⟨Q, hQ⟩ : ∃ Q, rdRec p = Q := ⟨_, rfl⟩
        rw [hQ] at hf3
        have hrd := jread_walk (c := c5) ho5.reads_ ho5.le_cap (by omega) Q hQ
        obtain ⟨P, hP⟩ : ∃ P, p.length = P := ⟨_, rfl⟩
        rw [hP] at hrd ⊢
        clear hf2 hQ ho5 hfar hshort hg5 hP
        cases Q with
        | none =>
          dsimp only at hf3
          subst hf3
          go_wp2_with fail
          refine hrd.mono ?_
          clear hrd
          rintro e w6 ⟨rfl, hb6⟩
          dsimp only
          have hbw := (below_then hb6 hb5).alloc (below_then hb6 hb5).size (.cells #[.int .i64 0, .int .u64 0, .int .i64 0, .int .u32 0, .int .u32 0, .int .u16 0, .string ⟨#[]⟩, .string ⟨#[]⟩, .slice none 0 0] 40)
          clear hb5 hb6
          have hzX := hzr0.below hbw hzr0.lt
          have hyX := hyr0.below hbw hyr0.lt
          have hbX := below_then hbw hbr0
          have hLr := hrob.out _ ((Upd.of_below_size hbw).setRow (g := z) (fun _ => .inl rfl) #[.int .u64 (sv : Int), .int .u64 (sl : Int), .slice L N cl, .int .i64 su])
          have hyc := hyX.st4
          have hzr := hzX.row #[.int .u64 (sv : Int), .int .u64 (sl : Int), .slice L N cl, .int .i64 su]
          have hbr := below_row hbX (g := z) hwz #[.int .u64 (sv : Int), .int .u64 (sl : Int), .slice L N cl, .int .i64 su]
          go_wp2_with (refine store_row_gen rfl 49 (Operand.tmp 2) _ rfl z #[.int .u64 (sv : Int), .int .u64 (sl : Int), .slice L N cl, .int .i64 su] (by simp [go_sem]) (by simp [go_sem]) 49 _ hzX (by kernel_rfl) rfl (by simp [Value.oneCell']) (fun w9 hw9 => ?_); rw [← hw9] at hzr hbr hLr; clear hw9)
          refine bodyPost_ret (v := .tuple #[.agg #[.int .u64 (sv : Int), .int .u64 (sl : Int), .slice L N cl, .int .i64 su], .int .i64 (j : Int)]) (by exact results_ct rfl _ _ z 49 _ (0, 0) _ _ rfl rfl hzr Try.underlying49 rfl (by kernel_rfl)) rfl ?_
          refine ⟨L, cl, xs, css, ?_, hLr, hbr⟩
          dsimp only
          rw [hN.out]
        | some r =>
          obtain ⟨rk, rv, rn, ⟨oc, os_, on, og', om', ol⟩⟩ := r
          dsimp only at hf3
          replace hf3 := Lib.hid hf3
          go_wp2_with fail
          refine hrd.mono ?_
          clear hrd
          rintro e w6 ⟨A6, c6, xs6, css6, rfl, R6, hok, hb6⟩
          obtain ⟨hokv, hl16, ho1, ho2, ho3, hrv⟩ := hok
          dsimp only at R6 hokv hl16 ho1 ho2 ho3 hrv ⊢
          have hop := op_of_row (o := ⟨oc, os_, on, og', om', ol⟩) R6 (by dsimp only; omega) hokv ho1 ho2 ho3
          dsimp only at hop
          obtain ⟨og, hog⟩ : ∃ og, bstr og' = og := ⟨_, rfl⟩
          obtain ⟨om, hom⟩ : ∃ om, bstr om' = om := ⟨_, rfl⟩
          obtain ⟨oL, hoL⟩ : ∃ oL, ol.length = oL := ⟨_, rfl⟩
          rw [hog, hom, hoL] at hop ⊢
          have hbw := (below_then hb6 hb5).alloc (below_then hb6 hb5).size (.cells #[.int .i64 rk, .int .u64 (rv : Int), .int .i64 rn, .int .u32 (oc : Int), .int .u32 (os_ : Int), .int .u16 (on : Int), .string og, .string om, .slice A6 oL c6] 40)
          have hrc := (Blk.new w6 40 #[.int .i64 rk, .int .u64 (rv : Int), .int .i64 rn, .int .u32 (oc : Int), .int .u32 (os_ : Int), .int .u16 (on : Int), .string og, .string om, .slice A6 oL c6]).rec9
          have hop7 := (hop.below ((Below.refl w6.heap.size w6).alloc (Nat.le_refl _) (.cells #[.int .i64 rk, .int .u64 (rv : Int), .int .i64 rn, .int .u32 (oc : Int), .int .u32 (os_ : Int), .int .u16 (on : Int), .string og, .string om, .slice A6 oL c6] 40))).up (B' := (w6.alloc (.cells #[.int .i64 rk, .int .u64 (rv : Int), .int .i64 rn, .int .u32 (oc : Int), .int .u32 (os_ : Int), .int .u16 (on : Int), .string og, .string om, .slice A6 oL c6] 40)).heap.size) (by simp)
          have hyc7 := (hyr0.below hbw hyr0.lt).st4
          have hst := step_walk (sv := sv) (sl := sl) (su := su) (k := rk) (n := rn) (hrob.out _ (Upd.of_below_size hbw)) hop7 (Nat.le_refl _) hrv (by rw [hN.out]; omega) hsu0
          rw [hN.out] at hst
          clear hog hom hoL R6 hokv hl16 hop hop7 hb5 hb6
          obtain ⟨D, hD⟩ : ∃ D, stepD ⟨sv, sl, log, su⟩ ⟨rk, rv, rn, ⟨oc, os_, on, og', om', ol⟩⟩ = D := ⟨_, rfl⟩
          obtain ⟨O, hO⟩ : ∃ O, stepOk ⟨sv, sl, log, su⟩ ⟨rk, rv, rn, ⟨oc, os_, on, og', om', ol⟩⟩ = O := ⟨_, rfl⟩
          have hf4 := hf3.out
          rw [hD, hO] at hst hf4
          have hDok := stepD_ok (s := ⟨sv, sl, log, su⟩) (r := ⟨rk, rv, rn, ⟨oc, os_, on, og', om', ol⟩⟩) hsu0 (by dsimp only; rw [hN.out]; exact hll)
          rw [hD] at hDok
          clear hD hO hf3
          replace hf4 := Lib.hid hf4
          replace hst := Lib.hid hst
          go_wp2_with fail
          generalize w6.alloc (.cells #[.int .i64 rk, .int .u64 (rv : Int), .int .i64 rn, .int .u32 (oc : Int), .int .u32 (os_ : Int), .int .u16 (on : Int), .string og, .string om, .slice A6 oL c6] 40) = w7 at *
          refine hst.out.mono ?_
          clear hst
          rintro e w8 ⟨L', c', xs', css', rfl, hb8, hrob8⟩
          obtain ⟨dv, dl, dlog, ds⟩ := D
          dsimp only at hrob8 hDok ⊢
          obtain ⟨M, hM⟩ : ∃ M, dlog.length = M := ⟨_, rfl⟩
          rw [hM] at hDok ⊢
          have hbw9 := (below_then hb8 hbw).alloc (below_then hb8 hbw).size (.cells #[.int .u64 (dv : Int), .int .u64 (dl : Int), .slice L' M c', .int .i64 ds] 49)
          have hn9 := (Blk.new w8 49 #[.int .u64 (dv : Int), .int .u64 (dl : Int), .slice L' M c', .int .i64 ds]).st4
          cases O with
          | false =>
            have hf5 := hf4.out
            rw [if_neg (by decide)] at hf5
            subst hf5
            clear hf4 hrob8 hM
            have hzX := hzr0.below hbw9 hzr0.lt
            have hyX := hyr0.below hbw9 hyr0.lt
            have hbX := below_then hbw9 hbr0
            have hLr := hrob.out _ ((Upd.of_below_size hbw9).setRow (g := z) (fun _ => .inl rfl) #[.int .u64 (sv : Int), .int .u64 (sl : Int), .slice L N cl, .int .i64 su])
            have hyc := hyX.st4
            have hzr := hzX.row #[.int .u64 (sv : Int), .int .u64 (sl : Int), .slice L N cl, .int .i64 su]
            have hbr := below_row hbX (g := z) hwz #[.int .u64 (sv : Int), .int .u64 (sl : Int), .slice L N cl, .int .i64 su]
            go_wp2_with (refine store_row_gen rfl 49 (Operand.tmp 2) _ rfl z #[.int .u64 (sv : Int), .int .u64 (sl : Int), .slice L N cl, .int .i64 su] (by simp [go_sem]) (by simp [go_sem]) 49 _ hzX (by kernel_rfl) rfl (by simp [Value.oneCell']) (fun w9 hw9 => ?_); rw [← hw9] at hzr hbr hLr; clear hw9)
            refine bodyPost_ret (v := .tuple #[.agg #[.int .u64 (sv : Int), .int .u64 (sl : Int), .slice L N cl, .int .i64 su], .int .i64 (j : Int)]) (by exact results_ct rfl _ _ z 49 _ (0, 0) _ _ rfl rfl hzr Try.underlying49 rfl (by kernel_rfl)) rfl ?_
            refine ⟨L, cl, xs, css, ?_, hLr, hbr⟩
            dsimp only
            rw [hN.out]
          | true =>
            have hf5 := hf4.out
            rw [if_pos rfl] at hf5
            have hz10 := (hzr0.below hbw9 hzr0.lt)
            have hyl := hyr0.lt
            have hz11 : Blk ((w8.alloc (.cells #[.int .u64 (dv : Int), .int .u64 (dl : Int), .slice L' M c', .int .i64 ds] 49)).setRow y #[.int .u64 (dv : Int), .int .u64 (dl : Int), .slice L' M c', .int .i64 ds]) z 49 #[.int .u64 0, .int .u64 0, .slice none 0 0, .int .i64 0] := hz10.upd ((Upd.refl (fun g => g = y) _).setRow (g := y) (fun _ => rfl) #[.int .u64 (dv : Int), .int .u64 (dl : Int), .slice L' M c', .int .i64 ds]) (by omega)
            have hy11 := (hyr0.below hbw9 hyr0.lt).row #[.int .u64 (dv : Int), .int .u64 (dl : Int), .slice L' M c', .int .i64 ds]
            have hb11 := below_row (below_then hbw9 hbr0) (g := y) hwy #[.int .u64 (dv : Int), .int .u64 (dl : Int), .slice L' M c', .int .i64 ds]
            have hUr := (Upd.of_below_size (S := fun g => g = z ∨ g = y) hbw9).setRow (g := y) (fun _ => .inr rfl) #[.int .u64 (dv : Int), .int .u64 (dl : Int), .slice L' M c', .int .i64 ds]
            have hU8 := ((Upd.refl (fun g => g = z ∨ g = y) w8).alloc (.cells #[.int .u64 (dv : Int), .int .u64 (dl : Int), .slice L' M c', .int .i64 ds] 49)).setRow (g := y) (fun _ => .inr rfl) #[.int .u64 (dv : Int), .int .u64 (dl : Int), .slice L' M c', .int .i64 ds]
            have hnw : IntKind.i64.wrap ((j : Int) + (n : Int)) = ((j + n : Nat) : Int) := by rw [IntKind.wrap_i64]; omega
            have hyo := hyr0.below hbw9 hyr0.lt
            have hw7 := hbw.size
            have hzl := hzr0.lt
            replace hM := Lib.hid hM
            clear hf4
            go_wp2_with (refine store_row_gen rfl 49 (Operand.tmp 4) _ rfl y #[.int .u64 (dv : Int), .int .u64 (dl : Int), .slice L' M c', .int .i64 ds] (by simp [go_sem]) (by simp [go_sem]) 49 _ hyo (by kernel_rfl) rfl (by simp [Value.oneCell']) (fun w9 hw9 => ?_); rw [← hw9] at hz11 hy11 hb11 hUr hU8; clear hw9)
            go_roundw
            case rel =>
              refine ⟨j + n, ⟨dv, dl, dlog, ds⟩, L', c', xs', css', rfl, ⟨by omega, hz11, by dsimp only; rw [hM.out]; exact hy11, fun W hu => ?_, hb11, ⟨f', by omega, hf5⟩, hDok.1, by dsimp only; rw [hM.out]; exact hDok.2⟩⟩
              exact hrob8 (fun g => g = z ∨ g = y) W (hU8.trans hu (fun i _ h => h)) (fun g hg => by omega) (hrob.out W (hUr.trans hu (fun i _ h => h)))
            case measure => simp [intOf]; omega
      · have hf3 := hf2.out
        rw [if_pos hE] at hf3
        subst hf3
        have d1 : ((E : Int) == 0) = false := by rw [beq_eq_false_iff_ne]; omega
        have d2 : ((E : Int) != 0) = true := by simp [hE]
        clear hf2 hfar hshort hg5 ho5
        replace hE := Lib.hid hE
        have hzX := hzr0.below hb5 hzr0.lt
        have hyX := hyr0.below hb5 hyr0.lt
        have hbX := below_then hb5 hbr0
        have hLr := hrob.out _ ((Upd.of_below_size hb5).setRow (g := z) (fun _ => .inl rfl) #[.int .u64 (sv : Int), .int .u64 (sl : Int), .slice L N cl, .int .i64 su])
        have hyc := hyX.st4
        have hzr := hzX.row #[.int .u64 (sv : Int), .int .u64 (sl : Int), .slice L N cl, .int .i64 su]
        have hbr := below_row hbX (g := z) hwz #[.int .u64 (sv : Int), .int .u64 (sl : Int), .slice L N cl, .int .i64 su]
        go_wp2_with (refine store_row_gen rfl 49 (Operand.tmp 2) _ rfl z #[.int .u64 (sv : Int), .int .u64 (sl : Int), .slice L N cl, .int .i64 su] (by simp [go_sem]) (by simp [go_sem]) 49 _ hzX (by kernel_rfl) rfl (by simp [Value.oneCell']) (fun w9 hw9 => ?_); rw [← hw9] at hzr hbr hLr; clear hw9)
        refine bodyPost_ret (v := .tuple #[.agg #[.int .u64 (sv : Int), .int .u64 (sl : Int), .slice L N cl, .int .i64 su], .int .i64 (j : Int)]) (by exact results_ct rfl _ _ z 49 _ (0, 0) _ _ rfl rfl hzr Try.underlying49 rfl (by kernel_rfl)) rfl ?_
        refine ⟨L, cl, xs, css, ?_, hLr, hbr⟩
        dsimp only
        rw [hN.out]
end Go.Proofs.Ytlkokkbikkbaoaa
