/- journal.Recover. -/
import Derived.Test.YtjljlgkghlphnaaJ2
import Derived.Test.YtjljlgkghlphnaaJ1
set_option linter.unusedSimpArgs false
set_option linter.unusedVariables false
namespace Go.Proofs.Ytjljlgkghlphnaa
open Go.RowKit
set_option maxRecDepth 100000

theorem opened_le (d : List UInt8) : (opened d).1.length ≤ d.length := by
  unfold opened
  split
  · simp
  split
  · simp
  split
  · simp
  split
  · simp only [List.length_take, List.length_drop]; omega
  · simp
/-- A state and how far. -/
def RcRes (w : World) (R : StD × Nat) (e : Ending) (w' : World) : Prop :=
  ∃ L' c' xs' css', e = .returned (.tuple #[.agg #[.int .u64 (R.1.v : Int), .int .u64 (R.1.last : Int), .slice L' R.1.log.length c', .int .i64 R.1.sure], .int .i64 (R.2 : Int)]) ∧ LogR w' w'.heap.size L' c' R.1.log xs' css' ∧ Below w.heap.size w w'
theorem stepD_ok {s : StD} {r : RecD} (h1 : 0 ≤ s.sure) (h2 : s.log.length ≤ 400) : 0 ≤ (stepD s r).sure ∧ (stepD s r).log.length ≤ 400 := by
  unfold stepD
  by_cases h : stepOk s r = true
  · rw [if_pos h]
    unfold stepOk at h
    split
    · exact ⟨h1, h2⟩
    rename_i hk1
    rw [if_neg hk1] at h
    split
    · rename_i hk2
      rw [if_pos hk2] at h
      have := of_decide_eq_true h
      refine ⟨h1, ?_⟩
      rw [List.length_append]
      have := this.2.2
      simp
      omega
    rename_i hk2
    rw [if_neg hk2] at h
    split
    · refine ⟨h1, ?_⟩
      rw [List.length_take]
      omega
    · split at h
      · have := of_decide_eq_true h
        exact ⟨by dsimp only; omega, h2⟩
      · cases h
  · rw [if_neg h]
    exact ⟨h1, h2⟩
structure RcRel (w wr : World) (b : List UInt8) (R : StD × Nat) (z y : Nat) (ts : TypeId) (j : Nat) (s : StD) (L : Option Addr) (c : Nat) (xs : List Value) (css : Nat → Array Value) : Prop where
  jl : j ≤ b.length
  hz : Blk wr z ts #[.int .u64 0, .int .u64 0, .slice none 0 0, .int .i64 0]
  hy : Blk wr y ts #[.int .u64 (s.v : Int), .int .u64 (s.last : Int), .slice L s.log.length c, .int .i64 s.sure]
  rob : ∀ W, Upd (fun g => g = z ∨ g = y) wr W → LogR W W.heap.size L c s.log xs css
  hb : Below w.heap.size w wr
  rec_ : ∃ f, b.length < f + j ∧ recF f b s j = R
  sure : 0 ≤ s.sure
  len : s.log.length ≤ 400

set_option maxHeartbeats 12800000 in
theorem rec_walk {A : Option Addr} {c : Nat} {b : List UInt8} {w : World} (h : Reads w w.heap.size 1 A b.length (bys b)) (hA : A = none → c = 0) (hc : b.length ≤ c) (hl : b.length ≤ 1000000000) :
    Calls Try.prog 19 #[.slice A b.length c] w (RcRes w (recD b)) := by
  obtain ⟨R, hR⟩ : ∃ R, recD b = R := ⟨_, rfl⟩
  rw [hR]
  have hf0 : ∃ f, b.length < f + 0 ∧ recF f b st0 0 = R := ⟨b.length + 1, by omega, hR⟩
  have hz0 := Blk.new w 58 #[.int .u64 0, .int .u64 0, .slice none 0 0, .int .i64 0]
  have hy0 := Blk.new (w.alloc (.cells #[.int .u64 0, .int .u64 0, .slice none 0 0, .int .i64 0] 58)) 58 #[.int .u64 0, .int .u64 0, .slice none 0 0, .int .i64 0]
  rw [World.size_alloc] at hy0
  have hz1 := hz0.alloc (.cells #[.int .u64 0, .int .u64 0, .slice none 0 0, .int .i64 0] 58)
  have hb1 := ((Below.refl w.heap.size w).alloc (Nat.le_refl _) (.cells #[.int .u64 0, .int .u64 0, .slice none 0 0, .int .i64 0] 58)).alloc (by simp only [World.size_alloc]; omega) (.cells #[.int .u64 0, .int .u64 0, .slice none 0 0, .int .i64 0] 58)
  clear hz0 hR
  replace hf0 := Lib.hid hf0
  replace h := Lib.hid h
  replace hA := Lib.hid hA
  go_enter Try.func19, Try.ntmps19
  go_wp2_with fail
  generalize (w.alloc (.cells #[.int .u64 0, .int .u64 0, .slice none 0 0, .int .i64 0] 58)).alloc (.cells #[.int .u64 0, .int .u64 0, .slice none 0 0, .int .i64 0] 58) = w1 at *
  obtain ⟨z, hzz⟩ : ∃ z, w.heap.size = z := ⟨_, rfl⟩
  have hwz : w.heap.size ≤ z := by omega
  rw [hzz] at hz1 hy0 ⊢
  obtain ⟨y, hyy⟩ : ∃ y, z + 1 = y := ⟨_, rfl⟩
  have hzy : z < y := by omega
  rw [hyy] at hy0 ⊢
  have hwy : w.heap.size ≤ y := by omega
  replace hzz := Lib.hid hzz
  replace hyy := Lib.hid hyy
  go_loopw [5] (fun ii wr => ∃ (j : Nat) (s : StD) (L : Option Addr) (cl : Nat) (xs : List Value) (css : Nat → Array Value), ii = .int .i64 (j : Int) ∧ RcRel w wr b R z y 58 j s L cl xs css) (fun ii _ => b.length + 1 - (intOf ii).toNat)
  case atStart => exact ⟨0, st0, none, 0, [], _, rfl, ⟨Nat.zero_le _, hz1, hy0, fun W _ => LogR.nil _ _, hb1, hf0.out, by decide, by decide⟩⟩
  case round =>
    obtain ⟨j, ⟨sv, sl, log, su⟩, L, cl, xs, css, rfl, Rl⟩ := hrel
    obtain ⟨hjl, hzr0, hyr0, hrob, hbr0, ⟨f, hf1, hf2⟩, hsu0, hll⟩ := Rl
    dsimp only at hyr0 hrob hsu0 hll
    obtain ⟨d, hd⟩ : ∃ d, b.drop j = d := ⟨_, rfl⟩
    have hdl : d.length = b.length - j := by rw [← hd, List.length_drop]
    have hcut := ((h.out.below hbr0).more hbr0.size).cut (k := j) (cap := c) hjl hc
    rw [Nat.mul_one, bys_drop, hd, ← hdl] at hcut
    obtain ⟨f', rfl⟩ : ∃ f', f = f' + 1 := ⟨f - 1, by omega⟩
    unfold recF at hf2
    rw [hd] at hf2
    obtain ⟨⟨p, n, E⟩, ho⟩ : ∃ o, opened d = o := ⟨_, rfl⟩
    rw [ho] at hf2
    have hoo := open_walk (b := d) (c := c - j) hcut (by omega) (by omega)
    rw [ho] at hoo
    have hfar : E = 0 → 8 ≤ n ∧ n ≤ b.length - j := fun he => by have := opened_far (b := d) (by rw [ho]; exact he); rw [ho, hdl] at this; exact this
    have hshort : p.length ≤ d.length := by
      have := opened_le d
      rw [ho] at this
      exact this
    dsimp only at hf2
    obtain ⟨N, hN⟩ : ∃ N, log.length = N := ⟨_, rfl⟩
    rw [hN] at hyr0 hll
    have hyc0 := hyr0.st4
    replace hrob := Lib.hid hrob
    replace hf2 := Lib.hid hf2
    replace hN := Lib.hid hN
    replace hfar := Lib.hid hfar
    rw [hdl] at hoo hshort
    clear hdl ho hcut
    replace hoo := Lib.hid hoo
    have hjc : (j : Int) ≤ (b.length : Int) := by omega
    by_cases hcj : c = j
    all_goals
      first | (have hoo2 := hoo.out; rw [if_pos hcj] at hoo2) | (have hoo2 := hoo.out; rw [if_neg hcj] at hoo2; obtain ⟨ad, rfl⟩ : ∃ ad, A = some ad := (by cases A with | none => (have := hA.out rfl; omega) | some a => exact ⟨a, rfl⟩))
      clear hoo
      try rw [show c - j = 0 by omega] at hoo2
      go_wp2_with fail
      refine hoo2.mono ?_
      clear hoo2
      replace hcj := Lib.hid hcj
      rintro e w5 ⟨A5, c5, rfl, ho5, hb5, hg5⟩
      dsimp only at ho5 ⊢
      by_cases hE : E = 0
      · subst hE
        have hf3 := hf2.out
        rw [if_neg (by simp)] at hf3
        obtain ⟨hn8, hnb⟩ := hfar.out rfl
        obtain ⟨Q, hQ⟩ : ∃ Q, rdRec p = Q := ⟨_, rfl⟩
        rw [hQ] at hf3
        have hrd := jread_walk (c := c5) ho5.reads_ ho5.le_cap (by omega) Q hQ
        obtain ⟨P, hP⟩ : ∃ P, p.length = P := ⟨_, rfl⟩
        rw [hP] at hrd ⊢
        clear hf2 hQ ho5 hfar hshort hg5 hP
        cases Q with
        | none =>
          dsimp only at hf3
          subst hf3
          go_wp2_with fail
          refine hrd.mono ?_
          clear hrd
          rintro e w6 ⟨rfl, hb6⟩
          dsimp only
          have hbw := (below_then hb6 hb5).alloc (below_then hb6 hb5).size (.cells #[.int .i64 0, .int .u64 0, .int .i64 0, .int .u32 0, .int .u32 0, .int .u16 0, .string ⟨#[]⟩, .string ⟨#[]⟩, .slice none 0 0] 32)
          clear hb5 hb6
          have hzX := hzr0.below hbw hzr0.lt
          have hyX := hyr0.below hbw hyr0.lt
          have hbX := below_then hbw hbr0
          have hLr := hrob.out _ ((Upd.of_below_size hbw).setRow (g := z) (fun _ => .inl rfl) #[.int .u64 (sv : Int), .int .u64 (sl : Int), .slice L N cl, .int .i64 su])
          have hyc := hyX.st4
          have hzr := hzX.row #[.int .u64 (sv : Int), .int .u64 (sl : Int), .slice L N cl, .int .i64 su]
          have hbr := below_row hbX (g := z) hwz #[.int .u64 (sv : Int), .int .u64 (sl : Int), .slice L N cl, .int .i64 su]
          go_wp2_with (refine store_row_gen rfl 58 (Operand.tmp 2) _ rfl z #[.int .u64 (sv : Int), .int .u64 (sl : Int), .slice L N cl, .int .i64 su] (by simp [go_sem]) (by simp [go_sem]) 58 _ hzX (by kernel_rfl) rfl (by simp [Value.oneCell']) (fun w9 hw9 => ?_); rw [← hw9] at hzr hbr hLr; clear hw9)
          refine bodyPost_ret (v := .tuple #[.agg #[.int .u64 (sv : Int), .int .u64 (sl : Int), .slice L N cl, .int .i64 su], .int .i64 (j : Int)]) (by exact results_ct rfl _ _ z 58 _ (0, 0) _ _ rfl rfl hzr Try.underlying58 rfl (by kernel_rfl)) rfl ?_
          refine ⟨L, cl, xs, css, ?_, hLr, hbr⟩
          dsimp only
          rw [hN.out]
        | some r =>
          obtain ⟨rk, rv, rn, ⟨oc, os_, on, og', om', ol⟩⟩ := r
          dsimp only at hf3
          replace hf3 := Lib.hid hf3
          go_wp2_with fail
          refine hrd.mono ?_
          clear hrd
          rintro e w6 ⟨A6, c6, xs6, css6, rfl, R6, hok, hb6⟩
          obtain ⟨hokv, hl16, ho1, ho2, ho3, hrv⟩ := hok
          dsimp only at R6 hokv hl16 ho1 ho2 ho3 hrv ⊢
          have hop := op_of_row (o := ⟨oc, os_, on, og', om', ol⟩) R6 (by dsimp only; omega) hokv ho1 ho2 ho3
          dsimp only at hop
          obtain ⟨og, hog⟩ : ∃ og, bstr og' = og := ⟨_, rfl⟩
          obtain ⟨om, hom⟩ : ∃ om, bstr om' = om := ⟨_, rfl⟩
          obtain ⟨oL, hoL⟩ : ∃ oL, ol.length = oL := ⟨_, rfl⟩
          rw [hog, hom, hoL] at hop ⊢
          have hbw := (below_then hb6 hb5).alloc (below_then hb6 hb5).size (.cells #[.int .i64 rk, .int .u64 (rv : Int), .int .i64 rn, .int .u32 (oc : Int), .int .u32 (os_ : Int), .int .u16 (on : Int), .string og, .string om, .slice A6 oL c6] 32)
          have hrc := (Blk.new w6 32 #[.int .i64 rk, .int .u64 (rv : Int), .int .i64 rn, .int .u32 (oc : Int), .int .u32 (os_ : Int), .int .u16 (on : Int), .string og, .string om, .slice A6 oL c6]).rec9
          have hop7 := (hop.below ((Below.refl w6.heap.size w6).alloc (Nat.le_refl _) (.cells #[.int .i64 rk, .int .u64 (rv : Int), .int .i64 rn, .int .u32 (oc : Int), .int .u32 (os_ : Int), .int .u16 (on : Int), .string og, .string om, .slice A6 oL c6] 32))).up (B' := (w6.alloc (.cells #[.int .i64 rk, .int .u64 (rv : Int), .int .i64 rn, .int .u32 (oc : Int), .int .u32 (os_ : Int), .int .u16 (on : Int), .string og, .string om, .slice A6 oL c6] 32)).heap.size) (by simp)
          have hyc7 := (hyr0.below hbw hyr0.lt).st4
          have hst := step_walk (sv := sv) (sl := sl) (su := su) (k := rk) (n := rn) (hrob.out _ (Upd.of_below_size hbw)) hop7 (Nat.le_refl _) hrv (by rw [hN.out]; omega) hsu0
          rw [hN.out] at hst
          clear hog hom hoL R6 hokv hl16 hop hop7 hb5 hb6
          obtain ⟨D, hD⟩ : ∃ D, stepD ⟨sv, sl, log, su⟩ ⟨rk, rv, rn, ⟨oc, os_, on, og', om', ol⟩⟩ = D := ⟨_, rfl⟩
          obtain ⟨O, hO⟩ : ∃ O, stepOk ⟨sv, sl, log, su⟩ ⟨rk, rv, rn, ⟨oc, os_, on, og', om', ol⟩⟩ = O := ⟨_, rfl⟩
          have hf4 := hf3.out
          rw [hD, hO] at hst hf4
          have hDok := stepD_ok (s := ⟨sv, sl, log, su⟩) (r := ⟨rk, rv, rn, ⟨oc, os_, on, og', om', ol⟩⟩) hsu0 (by dsimp only; rw [hN.out]; exact hll)
          rw [hD] at hDok
          clear hD hO hf3
          replace hf4 := Lib.hid hf4
          replace hst := Lib.hid hst
          go_wp2_with fail
          generalize w6.alloc (.cells #[.int .i64 rk, .int .u64 (rv : Int), .int .i64 rn, .int .u32 (oc : Int), .int .u32 (os_ : Int), .int .u16 (on : Int), .string og, .string om, .slice A6 oL c6] 32) = w7 at *
          refine hst.out.mono ?_
          clear hst
          rintro e w8 ⟨L', c', xs', css', rfl, hb8, hrob8⟩
          obtain ⟨dv, dl, dlog, ds⟩ := D
          dsimp only at hrob8 hDok ⊢
          obtain ⟨M, hM⟩ : ∃ M, dlog.length = M := ⟨_, rfl⟩
          rw [hM] at hDok ⊢
          have hbw9 := (below_then hb8 hbw).alloc (below_then hb8 hbw).size (.cells #[.int .u64 (dv : Int), .int .u64 (dl : Int), .slice L' M c', .int .i64 ds] 58)
          have hn9 := (Blk.new w8 58 #[.int .u64 (dv : Int), .int .u64 (dl : Int), .slice L' M c', .int .i64 ds]).st4
          cases O with
          | false =>
            have hf5 := hf4.out
            rw [if_neg (by decide)] at hf5
            subst hf5
            clear hf4 hrob8 hM
            have hzX := hzr0.below hbw9 hzr0.lt
            have hyX := hyr0.below hbw9 hyr0.lt
            have hbX := below_then hbw9 hbr0
            have hLr := hrob.out _ ((Upd.of_below_size hbw9).setRow (g := z) (fun _ => .inl rfl) #[.int .u64 (sv : Int), .int .u64 (sl : Int), .slice L N cl, .int .i64 su])
            have hyc := hyX.st4
            have hzr := hzX.row #[.int .u64 (sv : Int), .int .u64 (sl : Int), .slice L N cl, .int .i64 su]
            have hbr := below_row hbX (g := z) hwz #[.int .u64 (sv : Int), .int .u64 (sl : Int), .slice L N cl, .int .i64 su]
            go_wp2_with (refine store_row_gen rfl 58 (Operand.tmp 2) _ rfl z #[.int .u64 (sv : Int), .int .u64 (sl : Int), .slice L N cl, .int .i64 su] (by simp [go_sem]) (by simp [go_sem]) 58 _ hzX (by kernel_rfl) rfl (by simp [Value.oneCell']) (fun w9 hw9 => ?_); rw [← hw9] at hzr hbr hLr; clear hw9)
            refine bodyPost_ret (v := .tuple #[.agg #[.int .u64 (sv : Int), .int .u64 (sl : Int), .slice L N cl, .int .i64 su], .int .i64 (j : Int)]) (by exact results_ct rfl _ _ z 58 _ (0, 0) _ _ rfl rfl hzr Try.underlying58 rfl (by kernel_rfl)) rfl ?_
            refine ⟨L, cl, xs, css, ?_, hLr, hbr⟩
            dsimp only
            rw [hN.out]
          | true =>
            have hf5 := hf4.out
            rw [if_pos rfl] at hf5
            have hz10 := (hzr0.below hbw9 hzr0.lt)
            have hyl := hyr0.lt
            have hz11 : Blk ((w8.alloc (.cells #[.int .u64 (dv : Int), .int .u64 (dl : Int), .slice L' M c', .int .i64 ds] 58)).setRow y #[.int .u64 (dv : Int), .int .u64 (dl : Int), .slice L' M c', .int .i64 ds]) z 58 #[.int .u64 0, .int .u64 0, .slice none 0 0, .int .i64 0] := hz10.upd ((Upd.refl (fun g => g = y) _).setRow (g := y) (fun _ => rfl) #[.int .u64 (dv : Int), .int .u64 (dl : Int), .slice L' M c', .int .i64 ds]) (by omega)
            have hy11 := (hyr0.below hbw9 hyr0.lt).row #[.int .u64 (dv : Int), .int .u64 (dl : Int), .slice L' M c', .int .i64 ds]
            have hb11 := below_row (below_then hbw9 hbr0) (g := y) hwy #[.int .u64 (dv : Int), .int .u64 (dl : Int), .slice L' M c', .int .i64 ds]
            have hUr := (Upd.of_below_size (S := fun g => g = z ∨ g = y) hbw9).setRow (g := y) (fun _ => .inr rfl) #[.int .u64 (dv : Int), .int .u64 (dl : Int), .slice L' M c', .int .i64 ds]
            have hU8 := ((Upd.refl (fun g => g = z ∨ g = y) w8).alloc (.cells #[.int .u64 (dv : Int), .int .u64 (dl : Int), .slice L' M c', .int .i64 ds] 58)).setRow (g := y) (fun _ => .inr rfl) #[.int .u64 (dv : Int), .int .u64 (dl : Int), .slice L' M c', .int .i64 ds]
            have hnw : IntKind.i64.wrap ((j : Int) + (n : Int)) = ((j + n : Nat) : Int) := by rw [IntKind.wrap_i64]; omega
            have hyo := hyr0.below hbw9 hyr0.lt
            have hw7 := hbw.size
            have hzl := hzr0.lt
            replace hM := Lib.hid hM
            clear hf4
            go_wp2_with (refine store_row_gen rfl 58 (Operand.tmp 4) _ rfl y #[.int .u64 (dv : Int), .int .u64 (dl : Int), .slice L' M c', .int .i64 ds] (by simp [go_sem]) (by simp [go_sem]) 58 _ hyo (by kernel_rfl) rfl (by simp [Value.oneCell']) (fun w9 hw9 => ?_); rw [← hw9] at hz11 hy11 hb11 hUr hU8; clear hw9)
            go_roundw
            case rel =>
              refine ⟨j + n, ⟨dv, dl, dlog, ds⟩, L', c', xs', css', rfl, ⟨by omega, hz11, by dsimp only; rw [hM.out]; exact hy11, fun W hu => ?_, hb11, ⟨f', by omega, hf5⟩, hDok.1, by dsimp only; rw [hM.out]; exact hDok.2⟩⟩
              exact hrob8 (fun g => g = z ∨ g = y) W (hU8.trans hu (fun i _ h => h)) (fun g hg => by omega) (hrob.out W (hUr.trans hu (fun i _ h => h)))
            case measure => simp [intOf]; omega
      · have hf3 := hf2.out
        rw [if_pos hE] at hf3
        subst hf3
        have d1 : ((E : Int) == 0) = false := by rw [beq_eq_false_iff_ne]; omega
        have d2 : ((E : Int) != 0) = true := by simp [hE]
        clear hf2 hfar hshort hg5 ho5
        replace hE := Lib.hid hE
        have hzX := hzr0.below hb5 hzr0.lt
        have hyX := hyr0.below hb5 hyr0.lt
        have hbX := below_then hb5 hbr0
        have hLr := hrob.out _ ((Upd.of_below_size hb5).setRow (g := z) (fun _ => .inl rfl) #[.int .u64 (sv : Int), .int .u64 (sl : Int), .slice L N cl, .int .i64 su])
        have hyc := hyX.st4
        have hzr := hzX.row #[.int .u64 (sv : Int), .int .u64 (sl : Int), .slice L N cl, .int .i64 su]
        have hbr := below_row hbX (g := z) hwz #[.int .u64 (sv : Int), .int .u64 (sl : Int), .slice L N cl, .int .i64 su]
        go_wp2_with (refine store_row_gen rfl 58 (Operand.tmp 2) _ rfl z #[.int .u64 (sv : Int), .int .u64 (sl : Int), .slice L N cl, .int .i64 su] (by simp [go_sem]) (by simp [go_sem]) 58 _ hzX (by kernel_rfl) rfl (by simp [Value.oneCell']) (fun w9 hw9 => ?_); rw [← hw9] at hzr hbr hLr; clear hw9)
        refine bodyPost_ret (v := .tuple #[.agg #[.int .u64 (sv : Int), .int .u64 (sl : Int), .slice L N cl, .int .i64 su], .int .i64 (j : Int)]) (by exact results_ct rfl _ _ z 58 _ (0, 0) _ _ rfl rfl hzr Try.underlying58 rfl (by kernel_rfl)) rfl ?_
        refine ⟨L, cl, xs, css, ?_, hLr, hbr⟩
        dsimp only
        rw [hN.out]
end Go.Proofs.Ytjljlgkghlphnaa
namespace Go.Proofs.Ytjljlgkghlphnaa
open Go.RowKit
set_option maxRecDepth 100000

def kr1 : RecD := ⟨1, 3, 1, ⟨0, 0, 0, [], [], []⟩⟩
def kr2 : RecD := ⟨2, 3, 0, ⟨1, 1, 0, [103], [109], []⟩⟩
def kb1 : List UInt8 := [] ++ framed (bytesP kr1)
def kb2 : List UInt8 := kb1 ++ framed (bytesP kr2)
def kb3 : List UInt8 := kb2 ++ [1, 2, 3]
theorem kr1_err : errJ ⟨1, 3, 1, ⟨0, 0, 0, [], [], []⟩⟩ = 0 := by decide +kernel
theorem kr2_err : errJ ⟨2, 3, 0, ⟨1, 1, 0, [103], [109], []⟩⟩ = 0 := by decide +kernel
theorem kr9_err : errJ ⟨9, 0, 0, ⟨0, 0, 0, [], [], []⟩⟩ = 22 := by decide +kernel
theorem kb1_len : kb1.length = 21 := by decide +kernel
theorem kb2_len : kb2.length = 55 := by decide +kernel
theorem kb3_len : kb3.length = 58 := by decide +kernel
theorem kb3_rec : (recD kb3).2 = 55 ∧ (recD kb3).1.v = 3 ∧ (recD kb3).1.last = 3 ∧ (recD kb3).1.log.length = 1 ∧ (recD kb3).1.sure = 0 := by decide +kernel
theorem op_none (w : World) (B : Nat) {c s n : Nat} (g m : List UInt8) (hc : c < 4294967296) (hs : s < 4294967296) (hn : n < 65536) : OpReads w B ⟨c, s, n, g, m, []⟩ #[.int .u32 (c : Int), .int .u32 (s : Int), .int .u16 (n : Int), .string (bstr g), .string (bstr m), .slice none 0 0] :=
  ⟨none, 0, [], fun _ => #[], rfl, Reads.none_, by simp, by simp, by simp, by simp, hc, hs, hn⟩

set_option maxHeartbeats 6400000 in
theorem known_true (w : World) : Calls Try.prog 8 #[] w (Says w (.bool true)) := by
  obtain ⟨i0, hi, hz0, hz1, hz2⟩ := info_parts info_u8
  have hp1 := jput_walk (k := 1) (n := 1) (v := 3) (A0 := none) (c0 := 0) (bs := []) (op_none w 0 (c := 0) (s := 0) (n := 0) [] [] (by decide) (by decide) (by decide)) (Nat.zero_le _) (by decide) (by decide) (by decide) ⟨rfl, by simp⟩ (by simp)
  rw [kr1_err] at hp1
  rw [show ([] : List UInt8) ++ framed (bytesP ⟨1, 3, 1, ⟨0, 0, 0, [], [], []⟩⟩) = kb1 from rfl] at hp1
  replace hp1 := Lib.hid hp1
  go_enter Try.func8, Try.ntmps8
  go_wp2_with fail
  refine hp1.out.mono ?_
  clear hp1
  rintro e w1 ⟨hok, -⟩
  obtain ⟨A1, c1, rfl, ho1, hb1, hg1⟩ := hok rfl
  dsimp only
  clear hok
  have hp2 := jput_walk (k := 2) (n := 0) (v := 3) (A0 := A1) (c0 := c1) (bs := kb1) (op_none w1 0 (c := 1) (s := 1) (n := 0) [103] [109] (by decide) (by decide) (by decide)) (Nat.zero_le _) (by decide) (by decide) (by decide) ho1.reads_ (by rw [kb1_len]; decide)
  rw [kr2_err] at hp2
  rw [show kb1 ++ framed (bytesP ⟨2, 3, 0, ⟨1, 1, 0, [103], [109], []⟩⟩) = kb2 from rfl, kb1_len] at hp2
  rw [kb1_len]
  clear ho1
  go_wp2_with fail
  refine hp2.mono ?_
  clear hp2
  rintro e w2 ⟨hok, -⟩
  obtain ⟨A2, c2, rfl, ho2, hb2, hg2⟩ := hok rfl
  dsimp only
  clear hok
  have hb2' := below_then hb2 hb1
  have hsrc := Reads.lit (size := 1) w2 #[.int .u8 1, .int .u8 2, .int .u8 3] 5 (0, 0) 3 [.int .u8 1, .int .u8 2, .int .u8 3] rfl rfl
  have hb3 := hb2'.alloc hb2'.size (.cells #[.int .u8 1, .int .u8 2, .int .u8 3] 5)
  have ho3 := ho2.alloc (.cells #[.int .u8 1, .int .u8 2, .int .u8 3] 5)
  have hlt : ∀ g, bOf A2 = some g → w.heap.size ≤ g := fun g hg => by have := hg2 g hg; have := hb1.size; omega
  rw [kb2_len] at ho3 ⊢
  clear ho2 hg2 hg1 hb1 hb2
  go_wp2_with (at_builtin; go_must (refine wpList_append_mine rfl _ _ 22 22 rfl 5 i0 (.int .u8 0) 1 1 Try.underlying22 hi hz0 hz1 hz2 rfl rfl ho3 rfl (Src.ofReads Try.underlying22 _ hsrc (by intro u hu; simp at hu; rcases hu with rfl | rfl | rfl <;> rfl)) (by decide) (by decide) (fun A4 c4 w4 ho4 hg4 hat4 => ?_)))
  have hb4 := hb3.grown hg4 hb3.size (fun k hk => hlt k hk)
  have ho4' : Own w4 5 1 A4 kb3.length c4 (bys kb3) := by
    rw [kb3_len]
    exact ho4
  have hrc := rec_walk (c := c4) ho4'.reads_ (fun h => ho4'.none_cap h) ho4'.le_cap (by rw [kb3_len]; decide)
  rw [kb3_len] at hrc
  obtain ⟨r1, r2, r3, r4, r5⟩ := kb3_rec
  obtain ⟨⟨⟨sv, sl, log, su⟩, n⟩, hR⟩ : ∃ R, recD kb3 = R := ⟨_, rfl⟩
  rw [hR] at hrc r1 r2 r3 r4 r5
  dsimp only at r1 r2 r3 r4 r5
  subst r1 r2 r3 r5
  clear hR ho4 ho4' hg4 hat4 hb3 ho3 hsrc hlt hb2'
  go_wp2_with fail
  refine hrc.mono ?_
  clear hrc
  rintro e w5 ⟨L, c5, xs5, css5, rfl, -, hb5'⟩
  dsimp only
  rw [r4]
  have hb5 := below_then hb5' hb4
  have hst := (Blk.new w5 58 #[.int .u64 ((3 : Nat) : Int), .int .u64 ((3 : Nat) : Int), .slice L 1 c5, .int .i64 0])
  have hb6 := hb5.alloc hb5.size (.cells #[.int .u64 ((3 : Nat) : Int), .int .u64 ((3 : Nat) : Int), .slice L 1 c5, .int .i64 0] 58)
  have hp3 := fun W => jput_walk (w := W) (k := 9) (n := 0) (v := 0) (A0 := none) (c0 := 0) (bs := []) (op_none W 0 (c := 0) (s := 0) (n := 0) [] [] (by decide) (by decide) (by decide)) (Nat.zero_le _) (by decide) (by decide) (by decide) ⟨rfl, by simp⟩ (by simp)
  rw [kr9_err] at hp3
  replace hp3 := Lib.hid hp3
  clear hb5 hb5' hb4 r4
  go_wp2_with fail
  refine (hp3.out _).mono ?_
  clear hp3
  rintro e w7 ⟨-, hno⟩
  obtain ⟨rfl, hb7⟩ := hno (by decide)
  dsimp only
  have hc := (hst.below hb7 hst.lt).st4
  have hb8 := below_then hb7 hb6
  clear hst hno hb6 hb7
  go_wp2_with fail
  go_ret
  exact ⟨rfl, hb8⟩

/-- The document's record of a record. -/
theorem ref_same {k v n c s m : Int} {gg mm : ByteArray} {A : Option Addr} {K cc : Nat} (w : World) :
    Calls Try.prog 12 #[.agg #[.int .i64 k, .int .u64 v, .int .i64 n, .int .u32 c, .int .u32 s, .int .u16 m, .string gg, .string mm, .slice A K cc]] w (fun e w' => e = .returned (.agg #[.int .i64 k, .int .u64 v, .int .i64 n, .int .u32 c, .int .u32 s, .int .u16 m, .string gg, .string mm, .slice A K cc]) ∧ Below w.heap.size w w') := by
  have hx := (Blk.new w 32 #[.int .i64 k, .int .u64 v, .int .i64 n, .int .u32 c, .int .u32 s, .int .u16 m, .string gg, .string mm, .slice A K cc]).alloc (.cells #[.int .i64 0, .int .u64 0, .int .i64 0, .int .u32 0, .int .u32 0, .int .u16 0, .string ⟨#[]⟩, .string ⟨#[]⟩, .slice none 0 0] 41)
  have hy := Blk.new (w.alloc (.cells #[.int .i64 k, .int .u64 v, .int .i64 n, .int .u32 c, .int .u32 s, .int .u16 m, .string gg, .string mm, .slice A K cc] 32)) 41 #[.int .i64 0, .int .u64 0, .int .i64 0, .int .u32 0, .int .u32 0, .int .u16 0, .string ⟨#[]⟩, .string ⟨#[]⟩, .slice none 0 0]
  rw [World.size_alloc] at hy
  have hb := ((Below.refl w.heap.size w).alloc (Nat.le_refl _) (.cells #[.int .i64 k, .int .u64 v, .int .i64 n, .int .u32 c, .int .u32 s, .int .u16 m, .string gg, .string mm, .slice A K cc] 32)).alloc (by simp only [World.size_alloc]; omega) (.cells #[.int .i64 0, .int .u64 0, .int .i64 0, .int .u32 0, .int .u32 0, .int .u16 0, .string ⟨#[]⟩, .string ⟨#[]⟩, .slice none 0 0] 41)
  have hc := hx.rec9
  go_enter Try.func12, Try.ntmps12
  go_upto_region 1 with (fail)
  generalize (w.alloc (.cells #[.int .i64 k, .int .u64 v, .int .i64 n, .int .u32 c, .int .u32 s, .int .u16 m, .string gg, .string mm, .slice A K cc] 32)).alloc (.cells #[.int .i64 0, .int .u64 0, .int .i64 0, .int .u32 0, .int .u32 0, .int .u16 0, .string ⟨#[]⟩, .string ⟨#[]⟩, .slice none 0 0] 41) = w2 at *
  obtain ⟨z, hzz⟩ : ∃ z, w.heap.size + 1 = z := ⟨_, rfl⟩
  have hwz : w.heap.size ≤ z := by omega
  rw [hzz] at hy ⊢
  have hzr := hy.row #[.int .i64 k, .int .u64 v, .int .i64 n, .int .u32 c, .int .u32 s, .int .u16 m, .string gg, .string mm, .slice A K cc]
  have hbr := below_row hb (g := z) hwz #[.int .i64 k, .int .u64 v, .int .i64 n, .int .u32 c, .int .u32 s, .int .u16 m, .string gg, .string mm, .slice A K cc]
  go_wp2_with (refine store_row_gen rfl 41 (Operand.tmp 2) _ rfl z #[.int .i64 k, .int .u64 v, .int .i64 n, .int .u32 c, .int .u32 s, .int .u16 m, .string gg, .string mm, .slice A K cc] (by simp [go_sem]) (by simp [go_sem]) 41 _ hy (by kernel_rfl) rfl (by simp [Value.oneCell']) (fun w9 hw9 => ?_); rw [← hw9] at hzr hbr; clear hw9)
  refine bodyPost_ret ?hr rfl ⟨rfl, hbr⟩
  case hr => exact results_cell_row rfl _ _ z 41 _ (0, 0) _ rfl hzr Try.underlying41 rfl (by kernel_rfl)
end Go.Proofs.Ytjljlgkghlphnaa
