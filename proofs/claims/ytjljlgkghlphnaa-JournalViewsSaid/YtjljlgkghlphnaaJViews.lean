/- JournalViews' walk. -/
import Derived.Test.YtjljlgkghlphnaaJ3
import Derived.Test.YtjljlgkghlphnaaB5
import Derived.Deep.CutRange
set_option linter.unusedSimpArgs false
set_option linter.unusedVariables false
namespace Go.Proofs.Ytjljlgkghlphnaa
open Go.RowKit
set_option maxRecDepth 100000

theorem LogR.any {w w' : World} {B B' c : Nat} {A : Option Addr} {xs : List Value} {css : Nat → Array Value} (h : LogR w B A c [] xs css) : LogR w' B' A c [] xs css :=
  ⟨⟨h.r.1, fun hh => absurd hh (by simp)⟩, h.hc, h.hA, by simp, by simp, by simp, h.one⟩

theorem step_view (sv sl v q : Nat) (o : OpD) : ∃ dv dl, stepD ⟨sv, sl, [], 0⟩ ⟨1, v, (q : Int), o⟩ = ⟨dv, dl, [], 0⟩ ∧ ((sv < v ∨ (v = sv ∧ q = 1)) → stepOk ⟨sv, sl, [], 0⟩ ⟨1, v, (q : Int), o⟩ = true ∧ dv = v ∧ dl = if q = 1 then v else sl) ∧ (¬ (sv < v ∨ (v = sv ∧ q = 1)) → stepOk ⟨sv, sl, [], 0⟩ ⟨1, v, (q : Int), o⟩ = false ∧ dv = sv ∧ dl = sl) := by
  by_cases h : sv < v ∨ (v = sv ∧ q = 1)
  · have hO : stepOk ⟨sv, sl, [], 0⟩ ⟨1, v, (q : Int), o⟩ = true := by
      unfold stepOk
      rw [if_pos rfl]
      exact decide_eq_true (by dsimp only; omega)
    refine ⟨v, if q = 1 then v else sl, ?_, fun _ => ⟨hO, rfl, rfl⟩, fun hn => absurd h hn⟩
    unfold stepD
    rw [if_pos hO, if_pos rfl]
    dsimp only
    by_cases hq : q = 1
    · rw [if_pos hq, if_pos (by omega)]
    · rw [if_neg hq, if_neg (by omega)]
  · have hO : stepOk ⟨sv, sl, [], 0⟩ ⟨1, v, (q : Int), o⟩ = false := by
      unfold stepOk
      rw [if_pos rfl]
      exact decide_eq_false (by dsimp only; omega)
    refine ⟨sv, sl, ?_, fun hp => absurd hp h, fun _ => ⟨hO, rfl, rfl⟩⟩
    unfold stepD
    rw [hO, if_neg (by decide)]

structure VwRel (w wr : World) (N z : Nat) (j sv sl : Nat) (L : Option Addr) (c : Nat) (xs : List Value) (css : Nat → Array Value) : Prop where
  jn : j ≤ N
  hz : Blk wr z 58 #[.int .u64 (sv : Int), .int .u64 (sl : Int), .slice L 0 c, .int .i64 0]
  lg : LogR wr 0 L c [] xs css
  hb : Below w.heap.size w wr
  le : sl ≤ sv

set_option maxHeartbeats 12800000 in
theorem journalViews_walk (A : Option Addr) (c : Nat) (b : List UInt8) (w : World) (h : Reads w w.heap.size 1 A b.length (bys b)) (hc : b.length ≤ c) :
    Calls Try.prog 6 #[.slice A b.length c] w (Says w (.bool true)) := by
  go_enter Try.func6, Try.ntmps6
  go_wp2_with fail
  refine (known_true _).mono ?_
  rintro e w1 ⟨rfl, hb1⟩
  dsimp only
  obtain ⟨N, hN⟩ : ∃ N, b.length = N := ⟨_, rfl⟩
  have hrd : ∀ W, Below w.heap.size w W → Reads W w.heap.size 1 A b.length (bys b) := fun W hW => h.below hW
  rw [hN] at hc ⊢
  replace hrd := Lib.hid hrd
  clear h
  by_cases h60 : 60 < N
  · have d1 : decide ((60 : Int) < (N : Int)) = true := decide_eq_true (by omega)
    go_wp2_with fail
    go_ret
    exact ⟨rfl, hb1⟩
  have d1 : decide ((60 : Int) < (N : Int)) = false := decide_eq_false (by omega)
  have hz2 := Blk.new w1 58 #[.int .u64 0, .int .u64 0, .slice none 0 0, .int .i64 0]
  have hb2 := hb1.alloc hb1.size (.cells #[.int .u64 0, .int .u64 0, .slice none 0 0, .int .i64 0] 58)
  go_wp2_with fail
  generalize w1.alloc (.cells #[.int .u64 0, .int .u64 0, .slice none 0 0, .int .i64 0] 58) = w2 at *
  obtain ⟨z, hzz⟩ : ∃ z, w1.heap.size = z := ⟨_, rfl⟩
  have hwz : w.heap.size ≤ z := by have := hb1.size; omega
  rw [hzz] at hz2 ⊢
  clear hzz hb1 d1
  go_loopw [4] (fun ii wr => ∃ (j sv sl : Nat) (L : Option Addr) (c : Nat) (xs : List Value) (css : Nat → Array Value), ii = .int .i64 (j : Int) ∧ VwRel w wr N z j sv sl L c xs css) (fun ii _ => N + 1 - (intOf ii).toNat)
  case atStart => exact ⟨0, 0, 0, none, 0, [], _, rfl, ⟨Nat.zero_le _, hz2, LogR.nil _ _, hb2, Nat.le_refl _⟩⟩
  case round =>
    obtain ⟨j, sv, sl, L, cl, xs, css, rfl, R⟩ := hrel
    obtain ⟨hjN, hzr, hlg, hbr, hle⟩ := R
    by_cases hlt : j < N
    · obtain ⟨ad, u, rfl, hadb, hxu, -⟩ := (hrd.out _ hbr).at_ (k := j) (by rw [hN]; exact hlt)
      obtain ⟨x, hx, rfl⟩ : ∃ x : UInt8, b[j]? = some x ∧ u = byv x := by
        rw [bys, List.getElem?_map] at hxu
        cases hbj : b[j]? with
        | none => rw [hbj] at hxu; cases hxu
        | some x => rw [hbj] at hxu; cases hxu; exact ⟨x, rfl, rfl⟩
      have hcW : ∀ W, Below w.heap.size w W → W.cell? (ad.add j) = some (.int .u8 ((x.toNat : Nat) : Int)) := fun W hW => by
        obtain ⟨ad', u', e1, -, e2, e3⟩ := (hrd.out W hW).at_ (k := j) (by rw [hN]; exact hlt)
        cases e1
        rw [hxu] at e2
        cases e2
        exact e3
      obtain ⟨k, hk⟩ : ∃ k, x.toNat = k := ⟨_, rfl⟩
      have hk8 : k < 256 := by rw [← hk]; exact x.toNat_lt
      rw [hk] at hcW
      replace hcW := Lib.hid hcW
      clear hxu hx hk
      obtain ⟨v, hv⟩ : ∃ v, k % 16 = v := ⟨_, rfl⟩
      obtain ⟨q, hq⟩ : ∃ q, k / 128 = q := ⟨_, rfl⟩
      have hv16 : v < 16 := by omega
      have hq1 : q ≤ 1 := by omega
      have hqk : q = 1 ↔ 128 ≤ k := by omega
      have ev : IntKind.u64.wrap ((k : Int).tmod 16) = (v : Int) := by
        rw [Int.tmod_eq_emod_of_nonneg (by omega), show (k : Int) % 16 = (v : Int) by omega]
        exact wrap_u64_nat v (by omega)
      have eq1 : IntKind.u8.wrap ((k : Int) / 128) = (q : Int) := by
        rw [show (k : Int) / 128 = (q : Int) by omega]
        have : q = 0 ∨ q = 1 := by omega
        rcases this with h | h <;> rw [h] <;> rfl
      have eq2 : IntKind.i64.wrap (q : Int) = (q : Int) := w64_le (by omega)
      obtain ⟨dv, dl, hD, hyes, hno⟩ := step_view sv sl v q ⟨0, 0, 0, [], [], []⟩
      obtain ⟨O, hO⟩ : ∃ O, stepOk ⟨sv, sl, [], 0⟩ ⟨1, v, (q : Int), ⟨0, 0, 0, [], [], []⟩⟩ = O := ⟨_, rfl⟩
      rw [hO] at hyes hno
      replace hv := Lib.hid hv
      replace hq := Lib.hid hq
      replace hqk := Lib.hid hqk
      replace hyes := Lib.hid hyes
      replace hno := Lib.hid hno
      have hzl := hzr.lt
      go_upto_region 9 with (fail)
      go_cut [5, 6] from 19 to 36 (fun x5 x6 wx => ∃ (t : Nat) (L' : Option Addr) (c' : Nat) (xs' : List Value) (css' : Nat → Array Value), x5 = .pointer (some ⟨t, 0, none⟩) ∧ x6 = .bool O ∧ Blk wx t 58 #[.int .u64 (dv : Int), .int .u64 (dl : Int), .slice L' 0 c', .int .i64 0] ∧ LogR wx 0 L' c' [] xs' css' ∧ Below wr.heap.size wr wx ∧ t ≠ z)
      case first =>
        have hS0 : Below wr.heap.size wr wr.drew := (Below.refl _ _).drew
        refine wp_region_alts (fun W => Below wr.heap.size wr W) [0, 4, 10] [14, 18, 19] (.one 0 (.one 1 (.one 2 (.one 3 (.one 4 (.one 5 (.one 6 (.one 7 (.one 8 (.one 9 (.one 10 (.one 11 (.one 12 (.one 13 (.alt 14 (.one 15 (.one 16 (.one 17 (.one 18 (.one 19 (.one 20 .nil)))))) (.one 18 (.one 14 (.one 15 (.one 16 (.one 17 (.one 19 (.one 20 .nil)))))))))))))))))))))) (by kernel_rfl) rfl rfl (by kernel_rfl) (by kernel_rfl) (fun _ _ d _ _ h => by cases d <;> exact h) ?_
        repeat (first | (refine altG_take _ ?_ rfl rfl rfl rfl (fun _ => ?_) ?_; rotate_left; (focus (go_simp; with_reducible rfl)); try simp only [Act.put, List.setIfInBounds_toArray, List.set_cons_zero, List.set_cons_succ]) | (refine altG_held _ ?_ rfl rfl rfl rfl (by assumption) (fun _ hSw => ?_) ?_; rotate_left; (focus (have h1 := (hzr.below hSw hzr.lt).st4; have h2 := hcW.out _ (below_then hSw hbr); clear hSw; go_simp; with_reducible rfl)); try simp only [Act.put, List.setIfInBounds_toArray, List.set_cons_zero, List.set_cons_succ]) | (refine altG_skip _ rfl rfl (by assumption) ?_; try simp only [Act.put, List.setIfInBounds_toArray, List.set_cons_zero, List.set_cons_succ]))
        refine altG_alt rfl ?_ ?_
        · refine altG_now _ rfl rfl rfl (fun K0 hK => ?_)
          have hp := step_walk (w := wr.drew) (B := 0) (sv := sv) (sl := sl) (su := 0) (log := []) (k := 1) (n := (q : Int)) hlg.any (op_none wr.drew 0 (c := 0) (s := 0) (n := 0) [] [] (by decide) (by decide) (by decide)) (Nat.zero_le _) (show v < 18446744073709551616 by omega) (by decide) (by decide)
          rw [hD] at hp
          rw [hO] at hp
          go_wp2_with fail
          refine hp.mono ?_
          clear hp
          rintro e w5 ⟨L', c', xs', css', rfl, hb5, hrob⟩
          dsimp only
          have hlg5 := hrob (fun _ => False) w5 (Upd.refl _ _) (fun _ h => h.elim) hlg.any
          have hS5 := below_then hb5 hS0
          have hs5 := hS5.size
          refine hK _ _ _ (fun _ h => h) hS5 ?_
          clear hK K0 hrob
          try simp only [Act.put, List.setIfInBounds_toArray, List.set_cons_zero, List.set_cons_succ]
          repeat (first | (refine altG_take _ ?_ rfl rfl rfl rfl (fun _ => ?_) ?_; rotate_left; (focus (go_simp; with_reducible rfl)); try simp only [Act.put, List.setIfInBounds_toArray, List.set_cons_zero, List.set_cons_succ]) | (refine altG_held _ ?_ rfl rfl rfl rfl (by assumption) (fun _ hSw => ?_) ?_; rotate_left; (focus (have h1 := (hzr.below hSw hzr.lt).st4; have h2 := hcW.out _ (below_then hSw hbr); clear hSw; go_simp; with_reducible rfl)); try simp only [Act.put, List.setIfInBounds_toArray, List.set_cons_zero, List.set_cons_succ]) | (refine altG_skip _ rfl rfl (by assumption) ?_; try simp only [Act.put, List.setIfInBounds_toArray, List.set_cons_zero, List.set_cons_succ]))
          refine altG_now _ rfl rfl rfl (fun K0 hK => ?_)
          have hS6 := hS5.alloc hs5 (.cells #[.int .u64 0, .int .u64 0, .slice none 0 0, .int .i64 0] 58)
          have ht6 := Blk.new w5 58 #[.int .u64 0, .int .u64 0, .slice none 0 0, .int .i64 0]
          go_wp2_with fail
          refine hK _ _ _ (fun _ h => h) hS6 ?_
          clear hK K0
          try simp only [Act.put, List.setIfInBounds_toArray, List.set_cons_zero, List.set_cons_succ]
          repeat (first | (refine altG_take _ ?_ rfl rfl rfl rfl (fun _ => ?_) ?_; rotate_left; (focus (go_simp; with_reducible rfl)); try simp only [Act.put, List.setIfInBounds_toArray, List.set_cons_zero, List.set_cons_succ]) | (refine altG_held _ ?_ rfl rfl rfl rfl (by assumption) (fun _ hSw => ?_) ?_; rotate_left; (focus (have h1 := (hzr.below hSw hzr.lt).st4; have h2 := hcW.out _ (below_then hSw hbr); clear hSw; go_simp; with_reducible rfl)); try simp only [Act.put, List.setIfInBounds_toArray, List.set_cons_zero, List.set_cons_succ]) | (refine altG_skip _ rfl rfl (by assumption) ?_; try simp only [Act.put, List.setIfInBounds_toArray, List.set_cons_zero, List.set_cons_succ]))
          generalize w5.alloc (.cells #[.int .u64 0, .int .u64 0, .slice none 0 0, .int .i64 0] 58) = w6 at *
          have htr := ht6.row #[.int .u64 (dv : Int), .int .u64 (dl : Int), .slice L' 0 c', .int .i64 0]
          have hSr := below_row hS6 (g := w5.heap.size) hs5 #[.int .u64 (dv : Int), .int .u64 (dl : Int), .slice L' 0 c', .int .i64 0]
          refine altG_nowF _ rfl rfl rfl (by kernel_rfl) (fun K0 hK => ?_)
          refine wp_store_row 58 (Operand.tmp 5) _ rfl w5.heap.size #[.int .u64 (dv : Int), .int .u64 (dl : Int), .slice L' 0 c', .int .i64 0] (by simp [go_sem]) (by simp [go_sem]) 58 _ ht6 (by kernel_rfl) rfl (by simp [Value.oneCell']) ?_
          go_simp
          refine hK _ _ ?_
          clear hK K0
          try simp only [Act.put, List.setIfInBounds_toArray, List.set_cons_zero, List.set_cons_succ]
          repeat (first | (refine altG_take _ ?_ rfl rfl rfl rfl (fun _ => ?_) ?_; rotate_left; (focus (go_simp; with_reducible rfl)); try simp only [Act.put, List.setIfInBounds_toArray, List.set_cons_zero, List.set_cons_succ]) | (refine altG_held _ ?_ rfl rfl rfl rfl (by assumption) (fun _ hSw => ?_) ?_; rotate_left; (focus (have h1 := (hzr.below hSw hzr.lt).st4; have h2 := hcW.out _ (below_then hSw hbr); clear hSw; go_simp; with_reducible rfl)); try simp only [Act.put, List.setIfInBounds_toArray, List.set_cons_zero, List.set_cons_succ]) | (refine altG_skip _ rfl rfl (by assumption) ?_; try simp only [Act.put, List.setIfInBounds_toArray, List.set_cons_zero, List.set_cons_succ]))
          refine altG_nil ?_
          go_wp2_with fail
          go_meet
          exact ⟨w5.heap.size, L', c', xs', css', rfl, rfl, htr, hlg5.any, hSr, by omega⟩
        · refine altG_now _ rfl rfl rfl (fun K0 hK => ?_)
          have hS5 := ((Below.refl wr.heap.size wr).alloc (Nat.le_refl _) (.cells #[.int .u64 0, .int .u64 0, .slice none 0 0, .int .i64 0] 58)).drew
          have ht5 := (Blk.new wr 58 #[.int .u64 0, .int .u64 0, .slice none 0 0, .int .i64 0]).drew
          go_wp2_with fail
          generalize hw5 : (wr.alloc (.cells #[.int .u64 0, .int .u64 0, .slice none 0 0, .int .i64 0] 58)).drew = w5 at *
          refine hK _ _ _ (fun _ h => h) hS5 ?_
          clear hK K0
          try simp only [Act.put, List.setIfInBounds_toArray, List.set_cons_zero, List.set_cons_succ]
          repeat (first | (refine altG_take _ ?_ rfl rfl rfl rfl (fun _ => ?_) ?_; rotate_left; (focus (go_simp; with_reducible rfl)); try simp only [Act.put, List.setIfInBounds_toArray, List.set_cons_zero, List.set_cons_succ]) | (refine altG_held _ ?_ rfl rfl rfl rfl (by assumption) (fun _ hSw => ?_) ?_; rotate_left; (focus (have h1 := (hzr.below hSw hzr.lt).st4; have h2 := hcW.out _ (below_then hSw hbr); clear hSw; go_simp; with_reducible rfl)); try simp only [Act.put, List.setIfInBounds_toArray, List.set_cons_zero, List.set_cons_succ]) | (refine altG_skip _ rfl rfl (by assumption) ?_; try simp only [Act.put, List.setIfInBounds_toArray, List.set_cons_zero, List.set_cons_succ]))
          refine altG_now _ rfl rfl rfl (fun K0 hK => ?_)
          have hp := step_walk (w := w5) (B := 0) (sv := sv) (sl := sl) (su := 0) (log := []) (k := 1) (n := (q : Int)) hlg.any (op_none w5 0 (c := 0) (s := 0) (n := 0) [] [] (by decide) (by decide) (by decide)) (Nat.zero_le _) (show v < 18446744073709551616 by omega) (by decide) (by decide)
          rw [hD] at hp
          rw [hO] at hp
          go_wp2_with fail
          refine hp.mono ?_
          clear hp
          rintro e w6 ⟨L', c', xs', css', rfl, hb6, hrob⟩
          dsimp only
          have hlg6 := hrob (fun _ => False) w6 (Upd.refl _ _) (fun _ h => h.elim) hlg.any
          have hS6 := below_then hb6 hS5
          have ht6 := ht5.below hb6 ht5.lt
          refine hK _ _ _ (fun _ h => h) hS6 ?_
          clear hK K0 hrob
          try simp only [Act.put, List.setIfInBounds_toArray, List.set_cons_zero, List.set_cons_succ]
          repeat (first | (refine altG_take _ ?_ rfl rfl rfl rfl (fun _ => ?_) ?_; rotate_left; (focus (go_simp; with_reducible rfl)); try simp only [Act.put, List.setIfInBounds_toArray, List.set_cons_zero, List.set_cons_succ]) | (refine altG_held _ ?_ rfl rfl rfl rfl (by assumption) (fun _ hSw => ?_) ?_; rotate_left; (focus (have h1 := (hzr.below hSw hzr.lt).st4; have h2 := hcW.out _ (below_then hSw hbr); clear hSw; go_simp; with_reducible rfl)); try simp only [Act.put, List.setIfInBounds_toArray, List.set_cons_zero, List.set_cons_succ]) | (refine altG_skip _ rfl rfl (by assumption) ?_; try simp only [Act.put, List.setIfInBounds_toArray, List.set_cons_zero, List.set_cons_succ]))
          have htr := ht6.row #[.int .u64 (dv : Int), .int .u64 (dl : Int), .slice L' 0 c', .int .i64 0]
          have hSr := below_row hS6 (g := wr.heap.size) (Nat.le_refl _) #[.int .u64 (dv : Int), .int .u64 (dl : Int), .slice L' 0 c', .int .i64 0]
          refine altG_nowF _ rfl rfl rfl (by kernel_rfl) (fun K0 hK => ?_)
          refine wp_store_row 58 (Operand.tmp 5) _ rfl wr.heap.size #[.int .u64 (dv : Int), .int .u64 (dl : Int), .slice L' 0 c', .int .i64 0] (by simp [go_sem]) (by simp [go_sem]) 58 _ ht6 (by kernel_rfl) rfl (by simp [Value.oneCell']) ?_
          go_simp
          refine hK _ _ ?_
          clear hK K0
          try simp only [Act.put, List.setIfInBounds_toArray, List.set_cons_zero, List.set_cons_succ]
          repeat (first | (refine altG_take _ ?_ rfl rfl rfl rfl (fun _ => ?_) ?_; rotate_left; (focus (go_simp; with_reducible rfl)); try simp only [Act.put, List.setIfInBounds_toArray, List.set_cons_zero, List.set_cons_succ]) | (refine altG_held _ ?_ rfl rfl rfl rfl (by assumption) (fun _ hSw => ?_) ?_; rotate_left; (focus (have h1 := (hzr.below hSw hzr.lt).st4; have h2 := hcW.out _ (below_then hSw hbr); clear hSw; go_simp; with_reducible rfl)); try simp only [Act.put, List.setIfInBounds_toArray, List.set_cons_zero, List.set_cons_succ]) | (refine altG_skip _ rfl rfl (by assumption) ?_; try simp only [Act.put, List.setIfInBounds_toArray, List.set_cons_zero, List.set_cons_succ]))
          refine altG_nil ?_
          go_wp2_with fail
          go_meet
          exact ⟨wr.heap.size, L', c', xs', css', rfl, rfl, htr, hlg6.any, hSr, by omega⟩
      case rest =>
        obtain ⟨t, L', c', xs', css', rfl, rfl, ht6, hlg6, hb6', htz⟩ := hcut
        have hz6 := hzr.below hb6' hzr.lt
        have hb6 := below_then hb6' hbr
        clear hzr hb6' hbr hlg hD hO
        have hc1 := ht6.st4
        have hc2 := hz6.st4
        by_cases hvs : sv < v
        · skip
          obtain ⟨rfl, rfl, hdl⟩ := hyes.out (by omega)
          have hdl1 : dl ≤ dv := by rw [hdl]; split <;> omega
          have hdl2 : sl ≤ dl := by rw [hdl]; split <;> omega
          clear hyes hno hdl
          have hqk' := hqk.out
          have e1 : decide ((dv : Int) < (sv : Int)) = false := decide_eq_false (by omega)
          have e1' : decide (dv < sv) = false := decide_eq_false (by omega)
          have e2 : decide ((dv : Int) < (dl : Int)) = false := decide_eq_false (by omega)
          have e2' : decide (dv < dl) = false := decide_eq_false (by omega)
          have e3 : decide ((dl : Int) < (sl : Int)) = false := decide_eq_false (by omega)
          have e3' : decide (dl < sl) = false := decide_eq_false (by omega)
          have f1 : decide ((sv : Int) < (dv : Int)) = true := decide_eq_true (by omega)
          have f1' : decide (sv < dv) = true := decide_eq_true (by omega)
          replace hvs := Lib.hid hvs
          clear hqk'
          go_upto_region 12 with (fail)
          have hS0 : Below wc.heap.size wc wc.drew := (Below.refl _ _).drew
          refine wp_region_lex (fun W => Below wc.heap.size wc W) [3, 7, 13, 17, 23] [] [0, 1, 2, 3, 4, 5, 6, 7, 8, 9, 10, 11, 12, 13, 14, 15, 16, 17, 18, 19, 20, 21, 22, 23, 24, 25, 26, 27] (by kernel_rfl) rfl (by kernel_rfl) (by kernel_rfl) (fun _ _ d _ _ h => by cases d <;> exact h) ?_
          repeat (first | (refine lexG_take _ ?_ rfl rfl rfl rfl (fun _ => ?_) ?_; rotate_left; (focus (go_simp; with_reducible rfl)); try simp only [Act.put, List.setIfInBounds_toArray, List.set_cons_zero, List.set_cons_succ]) | (refine lexG_held _ ?_ rfl rfl rfl rfl (by assumption) (fun _ hSw => ?_) ?_; rotate_left; (focus (have h1 := (hz6.below hSw hz6.lt).st4; have h2 := hcW.out _ (below_then hSw hb6); clear hSw; go_simp; with_reducible rfl)); try simp only [Act.put, List.setIfInBounds_toArray, List.set_cons_zero, List.set_cons_succ]) | (refine lexG_skip _ rfl rfl (by assumption) ?_; try simp only [Act.put, List.setIfInBounds_toArray, List.set_cons_zero, List.set_cons_succ]))
          refine lexG_nil ?_
          have hz7 := hz6.drew.row #[.int .u64 (dv : Int), .int .u64 (dl : Int), .slice L' 0 c', .int .i64 0]
          have hb7 := below_row hb6.drew (g := z) hwz #[.int .u64 (dv : Int), .int .u64 (dl : Int), .slice L' 0 c', .int .i64 0]
          have hzd := hz6.drew
          have ht7 := ht6.drew.st4
          clear hS0 hc1 hc2
          generalize wc.drew = w8 at *
          have hlg8 : LogR (w8.setRow z #[.int .u64 (dv : Int), .int .u64 (dl : Int), .slice L' 0 c', .int .i64 0]) 0 L' c' [] xs' css' := hlg6.any
          go_wp2_with (refine store_row_gen rfl 58 (Operand.tmp 3) _ rfl z #[.int .u64 (dv : Int), .int .u64 (dl : Int), .slice L' 0 c', .int .i64 0] (by simp [go_sem]) (by simp [go_sem]) 58 _ hzd (by kernel_rfl) rfl (by simp [Value.oneCell']) (fun w9 hw9 => ?_); rw [← hw9] at hz7 hb7 hlg8; clear hw9)
          have hnw : IntKind.i64.wrap ((j : Int) + 1) = ((j + 1 : Nat) : Int) := by rw [IntKind.wrap_i64]; omega
          go_roundw
          case rel => exact ⟨j + 1, dv, dl, L', c', xs', css', rfl, ⟨by omega, hz7, hlg8, hb7, by omega⟩⟩
          case measure => simp [intOf]; omega
        by_cases hv2 : v = sv ∧ q = 1
        · skip
          obtain ⟨rfl, rfl, hdl⟩ := hyes.out (by omega)
          have hdl1 : dl ≤ dv := by rw [hdl]; split <;> omega
          have hdl2 : sl ≤ dl := by rw [hdl]; split <;> omega
          clear hyes hno hdl
          have hqk' := hqk.out
          have e1 : decide ((dv : Int) < (sv : Int)) = false := decide_eq_false (by omega)
          have e1' : decide (dv < sv) = false := decide_eq_false (by omega)
          have e2 : decide ((dv : Int) < (dl : Int)) = false := decide_eq_false (by omega)
          have e2' : decide (dv < dl) = false := decide_eq_false (by omega)
          have e3 : decide ((dl : Int) < (sl : Int)) = false := decide_eq_false (by omega)
          have e3' : decide (dl < sl) = false := decide_eq_false (by omega)
          have f1 : decide ((sv : Int) < (dv : Int)) = false := decide_eq_false (by omega)
          have f1' : decide (sv < dv) = false := decide_eq_false (by omega)
          have f2 : ((dv : Int) == (sv : Int)) = true := by rw [beq_iff_eq]; omega
          have f2' : (dv == sv) = true := by rw [beq_iff_eq]; omega
          have f3 : decide ((128 : Int) ≤ (k : Int)) = true := decide_eq_true (by omega)
          replace hv2 := Lib.hid hv2
          clear hqk'
          go_upto_region 12 with (fail)
          have hS0 : Below wc.heap.size wc wc.drew := (Below.refl _ _).drew
          refine wp_region_lex (fun W => Below wc.heap.size wc W) [3, 7, 13, 17, 23] [] [0, 1, 2, 3, 4, 5, 6, 7, 8, 9, 10, 11, 12, 13, 14, 15, 16, 17, 18, 19, 20, 21, 22, 23, 24, 25, 26, 27] (by kernel_rfl) rfl (by kernel_rfl) (by kernel_rfl) (fun _ _ d _ _ h => by cases d <;> exact h) ?_
          repeat (first | (refine lexG_take _ ?_ rfl rfl rfl rfl (fun _ => ?_) ?_; rotate_left; (focus (go_simp; with_reducible rfl)); try simp only [Act.put, List.setIfInBounds_toArray, List.set_cons_zero, List.set_cons_succ]) | (refine lexG_held _ ?_ rfl rfl rfl rfl (by assumption) (fun _ hSw => ?_) ?_; rotate_left; (focus (have h1 := (hz6.below hSw hz6.lt).st4; have h2 := hcW.out _ (below_then hSw hb6); clear hSw; go_simp; with_reducible rfl)); try simp only [Act.put, List.setIfInBounds_toArray, List.set_cons_zero, List.set_cons_succ]) | (refine lexG_skip _ rfl rfl (by assumption) ?_; try simp only [Act.put, List.setIfInBounds_toArray, List.set_cons_zero, List.set_cons_succ]))
          refine lexG_nil ?_
          have hz7 := hz6.drew.row #[.int .u64 (dv : Int), .int .u64 (dl : Int), .slice L' 0 c', .int .i64 0]
          have hb7 := below_row hb6.drew (g := z) hwz #[.int .u64 (dv : Int), .int .u64 (dl : Int), .slice L' 0 c', .int .i64 0]
          have hzd := hz6.drew
          have ht7 := ht6.drew.st4
          clear hS0 hc1 hc2
          generalize wc.drew = w8 at *
          have hlg8 : LogR (w8.setRow z #[.int .u64 (dv : Int), .int .u64 (dl : Int), .slice L' 0 c', .int .i64 0]) 0 L' c' [] xs' css' := hlg6.any
          go_wp2_with (refine store_row_gen rfl 58 (Operand.tmp 3) _ rfl z #[.int .u64 (dv : Int), .int .u64 (dl : Int), .slice L' 0 c', .int .i64 0] (by simp [go_sem]) (by simp [go_sem]) 58 _ hzd (by kernel_rfl) rfl (by simp [Value.oneCell']) (fun w9 hw9 => ?_); rw [← hw9] at hz7 hb7 hlg8; clear hw9)
          have hnw : IntKind.i64.wrap ((j : Int) + 1) = ((j + 1 : Nat) : Int) := by rw [IntKind.wrap_i64]; omega
          go_roundw
          case rel => exact ⟨j + 1, dv, dl, L', c', xs', css', rfl, ⟨by omega, hz7, hlg8, hb7, by omega⟩⟩
          case measure => simp [intOf]; omega
        by_cases hv3 : v = sv
        · skip
          obtain ⟨rfl, rfl, rfl⟩ := hno.out (by omega)
          clear hyes hno
          have hqk' := hqk.out
          have e1 : decide ((dv : Int) < (dv : Int)) = false := decide_eq_false (by omega)
          have e2 : decide ((dv : Int) < (dl : Int)) = false := decide_eq_false (by omega)
          have e2' : decide (dv < dl) = false := decide_eq_false (by omega)
          have f1 : decide ((dv : Int) < (v : Int)) = false := decide_eq_false (by omega)
          have f1' : decide (dv < v) = false := decide_eq_false (by omega)
          have f2 : ((v : Int) == (dv : Int)) = true := by rw [beq_iff_eq]; omega
          have f2' : (v == dv) = true := by rw [beq_iff_eq]; omega
          have f3 : decide ((128 : Int) ≤ (k : Int)) = false := decide_eq_false (by omega)
          replace hv3 := Lib.hid hv3
          clear hqk'
          go_upto_region 12 with (fail)
          have hS0 : Below wc.heap.size wc wc.drew := (Below.refl _ _).drew
          refine wp_region_lex (fun W => Below wc.heap.size wc W) [3, 7, 13, 17, 23] [] [0, 1, 2, 3, 4, 5, 6, 7, 8, 9, 10, 11, 12, 13, 14, 15, 16, 17, 18, 19, 20, 21, 22, 23, 24, 25, 26, 27] (by kernel_rfl) rfl (by kernel_rfl) (by kernel_rfl) (fun _ _ d _ _ h => by cases d <;> exact h) ?_
          repeat (first | (refine lexG_take _ ?_ rfl rfl rfl rfl (fun _ => ?_) ?_; rotate_left; (focus (go_simp; with_reducible rfl)); try simp only [Act.put, List.setIfInBounds_toArray, List.set_cons_zero, List.set_cons_succ]) | (refine lexG_held _ ?_ rfl rfl rfl rfl (by assumption) (fun _ hSw => ?_) ?_; rotate_left; (focus (have h1 := (hz6.below hSw hz6.lt).st4; have h2 := hcW.out _ (below_then hSw hb6); clear hSw; go_simp; with_reducible rfl)); try simp only [Act.put, List.setIfInBounds_toArray, List.set_cons_zero, List.set_cons_succ]) | (refine lexG_skip _ rfl rfl (by assumption) ?_; try simp only [Act.put, List.setIfInBounds_toArray, List.set_cons_zero, List.set_cons_succ]))
          refine lexG_nil ?_
          have hz7 := hz6.drew.row #[.int .u64 (dv : Int), .int .u64 (dl : Int), .slice L' 0 c', .int .i64 0]
          have hb7 := below_row hb6.drew (g := z) hwz #[.int .u64 (dv : Int), .int .u64 (dl : Int), .slice L' 0 c', .int .i64 0]
          have hzd := hz6.drew
          have ht7 := ht6.drew.st4
          clear hS0 hc1 hc2
          generalize wc.drew = w8 at *
          have hlg8 : LogR (w8.setRow z #[.int .u64 (dv : Int), .int .u64 (dl : Int), .slice L' 0 c', .int .i64 0]) 0 L' c' [] xs' css' := hlg6.any
          go_wp2_with (refine store_row_gen rfl 58 (Operand.tmp 3) _ rfl z #[.int .u64 (dv : Int), .int .u64 (dl : Int), .slice L' 0 c', .int .i64 0] (by simp [go_sem]) (by simp [go_sem]) 58 _ hzd (by kernel_rfl) rfl (by simp [Value.oneCell']) (fun w9 hw9 => ?_); rw [← hw9] at hz7 hb7 hlg8; clear hw9)
          have hnw : IntKind.i64.wrap ((j : Int) + 1) = ((j + 1 : Nat) : Int) := by rw [IntKind.wrap_i64]; omega
          go_roundw
          case rel => exact ⟨j + 1, dv, dl, L', c', xs', css', rfl, ⟨by omega, hz7, hlg8, hb7, by omega⟩⟩
          case measure => simp [intOf]; omega
        obtain ⟨rfl, rfl, rfl⟩ := hno.out (by omega)
        clear hyes hno
        have hqk' := hqk.out
        have e1 : decide ((dv : Int) < (dv : Int)) = false := decide_eq_false (by omega)
        have e2 : decide ((dv : Int) < (dl : Int)) = false := decide_eq_false (by omega)
        have e2' : decide (dv < dl) = false := decide_eq_false (by omega)
        have f1 : decide ((dv : Int) < (v : Int)) = false := decide_eq_false (by omega)
        have f1' : decide (dv < v) = false := decide_eq_false (by omega)
        have f2 : ((v : Int) == (dv : Int)) = false := by rw [beq_eq_false_iff_ne]; omega
        have f2' : (v == dv) = false := by rw [beq_eq_false_iff_ne]; omega
        replace hv3 := Lib.hid hv3
        clear hqk'
        go_upto_region 12 with (fail)
        have hS0 : Below wc.heap.size wc wc.drew := (Below.refl _ _).drew
        refine wp_region_lex (fun W => Below wc.heap.size wc W) [3, 7, 13, 17, 23] [] [0, 1, 2, 3, 4, 5, 6, 7, 8, 9, 10, 11, 12, 13, 14, 15, 16, 17, 18, 19, 20, 21, 22, 23, 24, 25, 26, 27] (by kernel_rfl) rfl (by kernel_rfl) (by kernel_rfl) (fun _ _ d _ _ h => by cases d <;> exact h) ?_
        repeat (first | (refine lexG_take _ ?_ rfl rfl rfl rfl (fun _ => ?_) ?_; rotate_left; (focus (go_simp; with_reducible rfl)); try simp only [Act.put, List.setIfInBounds_toArray, List.set_cons_zero, List.set_cons_succ]) | (refine lexG_held _ ?_ rfl rfl rfl rfl (by assumption) (fun _ hSw => ?_) ?_; rotate_left; (focus (have h1 := (hz6.below hSw hz6.lt).st4; have h2 := hcW.out _ (below_then hSw hb6); clear hSw; go_simp; with_reducible rfl)); try simp only [Act.put, List.setIfInBounds_toArray, List.set_cons_zero, List.set_cons_succ]) | (refine lexG_skip _ rfl rfl (by assumption) ?_; try simp only [Act.put, List.setIfInBounds_toArray, List.set_cons_zero, List.set_cons_succ]))
        refine lexG_nil ?_
        have hz7 := hz6.drew.row #[.int .u64 (dv : Int), .int .u64 (dl : Int), .slice L' 0 c', .int .i64 0]
        have hb7 := below_row hb6.drew (g := z) hwz #[.int .u64 (dv : Int), .int .u64 (dl : Int), .slice L' 0 c', .int .i64 0]
        have hzd := hz6.drew
        have ht7 := ht6.drew.st4
        clear hS0 hc1 hc2
        generalize wc.drew = w8 at *
        have hlg8 : LogR (w8.setRow z #[.int .u64 (dv : Int), .int .u64 (dl : Int), .slice L' 0 c', .int .i64 0]) 0 L' c' [] xs' css' := hlg6.any
        go_wp2_with (refine store_row_gen rfl 58 (Operand.tmp 3) _ rfl z #[.int .u64 (dv : Int), .int .u64 (dl : Int), .slice L' 0 c', .int .i64 0] (by simp [go_sem]) (by simp [go_sem]) 58 _ hzd (by kernel_rfl) rfl (by simp [Value.oneCell']) (fun w9 hw9 => ?_); rw [← hw9] at hz7 hb7 hlg8; clear hw9)
        have hnw : IntKind.i64.wrap ((j : Int) + 1) = ((j + 1 : Nat) : Int) := by rw [IntKind.wrap_i64]; omega
        go_roundw
        case rel => exact ⟨j + 1, dv, dl, L', c', xs', css', rfl, ⟨by omega, hz7, hlg8, hb7, by omega⟩⟩
        case measure => simp [intOf]; omega
    · have d2 : decide ((j : Int) < (N : Int)) = false := decide_eq_false (by omega)
      go_wp2_with fail
      go_ret
      exact ⟨rfl, hbr⟩
end Go.Proofs.Ytjljlgkghlphnaa
