/- choirref23.Choose. -/
import Derived.Test.YtfmmabkekjchjaaVl6
set_option linter.unusedSimpArgs false
set_option linter.unusedVariables false
namespace Go.Proofs.Ytfmmabkekjchjaa
open Go.RowKit
set_option maxRecDepth 100000

/-- What choirref23.Choose tells. -/
def ChRf (w : World) (B : Nat) (n : Int) (rs : List RpD) (e : Ending) (w' : World) : Prop :=
  Below w.heap.size w w' ∧ ((chOk n rs = false ∧ e = .returned (.tuple #[.agg #[.int .i64 0, .int .u64 0, .slice none 0 0, .int .i64 0], .bool false])) ∨
    (chOk n rs = true ∧ ∃ A c xs css, e = .returned (.tuple #[.agg #[.int .i64 (chooseS n rs).1.f, .int .u64 ((chooseS n rs).1.v : Int), .slice A (chooseS n rs).1.l.length c, .int .i64 (chSure n rs)], .bool true]) ∧ LogR w' B A c (chooseS n rs).1.l xs css))

set_option maxHeartbeats 12800000 in
theorem ref_choose {w : World} {B c : Nat} {A : Option Addr} {rs : List RpD} {xs : List Value} {LA : Nat → Option Addr} {LC : Nat → Nat} {n : Int} (h : RpsR w B A rs xs LA LC) (hB : B ≤ w.heap.size) (hl : rs.length ≤ 1000) :
    Calls Try.prog 14 #[.int .i64 n, .slice A rs.length c] w (ChRf w B n rs) := by
  obtain ⟨i0, hi, hz0, hz1, hz2⟩ := info_parts info_int
  have hrng := clampI_rng n
  have hnd := fun w => ref_nodes n w
  obtain ⟨K, hK⟩ : ∃ K, clampI n = K := ⟨_, rfl⟩
  rw [hK] at hrng hnd
  obtain ⟨N, hN⟩ : ∃ N, rs.length = N := ⟨_, rfl⟩
  rw [hN] at hl ⊢
  replace hN := Lib.hid hN
  replace h := Lib.hid h
  replace hK := Lib.hid hK
  replace hnd := Lib.hid hnd
  have hz1' := (Blk.new w 31 #[.int .i64 0, .int .u64 0, .slice none 0 0, .int .i64 0]).alloc (.cells #[.int .i64 0, .int .u64 0, .slice none 0 0, .int .i64 0] 31)
  have hb1' := Blk.new (w.alloc (.cells #[.int .i64 0, .int .u64 0, .slice none 0 0, .int .i64 0] 31)) 31 #[.int .i64 0, .int .u64 0, .slice none 0 0, .int .i64 0]
  rw [World.size_alloc] at hb1'
  have hbl1 := ((Below.refl w.heap.size w).alloc (Nat.le_refl _) (.cells #[.int .i64 0, .int .u64 0, .slice none 0 0, .int .i64 0] 31)).alloc (by simp) (.cells #[.int .i64 0, .int .u64 0, .slice none 0 0, .int .i64 0] 31)
  go_enter Try.func14, Try.ntmps14
  go_wp2_with fail
  generalize (w.alloc (.cells #[.int .i64 0, .int .u64 0, .slice none 0 0, .int .i64 0] 31)).alloc (.cells #[.int .i64 0, .int .u64 0, .slice none 0 0, .int .i64 0] 31) = w1 at *
  go_loopw [6, 8, 9] (fun s7 s8 s16 wr => ∃ (j : Nat) (bf bs_ : Int) (bv bn : Nat) (bl : List (Nat × OpD)) (who : List Int) (L : Nat) (su : Int) (Ab : Option Addr) (cb' : Nat) (A7 : Option Addr) (c7 : Nat), s7 = .slice A7 L c7 ∧ s8 = .int .i64 su ∧ s16 = .int .i64 (j : Int) ∧ j ≤ N ∧ L ≤ j ∧ ChRel w wr B K rs j bf bs_ bv bn bl who L su Ab cb' A7 c7) (fun _ _ i _ => N - (intOf i).toNat)
  case atStart => exact ⟨0, 0, 0, 0, 0, [], [], 0, 0, none, 0, none, 0, rfl, rfl, rfl, Nat.zero_le _, Nat.le_refl _, rfl, rfl, rfl, hb1', hz1', ⟨[], _, LogR.nil _ _⟩, Own.none_, by simp [bOf], hbl1, by decide⟩
  case round =>
    obtain ⟨j, bf, bs_, bv, bn, bl, who, L, su, Ab, cb', A7, c7, rfl, rfl, rfl, hj, hLj, R⟩ := hrel
    obtain ⟨wo, rfl⟩ : ∃ wo, wo = wr := ⟨_, rfl⟩
    have hnw : IntKind.i64.wrap ((j : Int) + 1) = ((j + 1 : Nat) : Int) := by rw [IntKind.wrap_i64]; omega
    by_cases hlt : j < N
    · have hlt' : j < rs.length := by rw [hN.out]; exact hlt
      have hx : rs[j]? = some rs[j] := List.getElem?_eq_getElem _
      have hxl := h.out.hl rs[j] (List.getElem_mem hlt')
      generalize rs[j] = x at hx hxl
      have hbr := R.hb
      have hLw := h.out.hx j x hx
      obtain ⟨ad, rfl, -, hcx⟩ := h.out.cells hx
      obtain ⟨xf, xv, xs_, xl⟩ := x
      dsimp only at hcx hxl hLw
      obtain ⟨xn, hxn⟩ : ∃ xn, xl.length = xn := ⟨_, rfl⟩
      rw [hxn] at hcx
      have hx1 : xn ≤ 1000 := by omega
      generalize LA j = Ax at *
      generalize LC j = cx at *
      have hxw := fun W (hW : Below w.heap.size w W) => hcx W (hW.mono hB)
      have hcw := hxw wo hbr
      have d2 : decide ((j : Int) < (N : Int)) = true := decide_eq_true (by omega)
      have hown := R.own
      have hAw := R.hA
      have hbest := R.b
      have hzz := R.z
      have hwl := hzz.lt
      have hbtl := hbest.lt
      have hwne : ∀ g, bOf A7 = some g → g ≠ w.heap.size + 1 := fun g hg => by have := hAw g hg; omega
      replace hxw := Lib.hid hxw
      replace hxn := Lib.hid hxn
      replace hLw := Lib.hid hLw
      replace hx := Lib.hid hx
      replace R := Lib.hid R
      replace hAw := Lib.hid hAw
      clear hcx
      by_cases h0 : xf < 0
      · have d3 : decide (xf < 0) = true := decide_eq_true h0
        go_wp2_with fail
        exact ⟨⟨j + 1, bf, bs_, bv, bn, bl, who, L, su, Ab, cb', A7, c7, by rfl, rfl, by simp [hnw], by omega, by omega, R.out.skip hx.out (.inl h0) (Below.refl _ _)⟩, by simp [intOf]; omega⟩
      have d3 : decide (xf < 0) = false := decide_eq_false h0
      by_cases hK' : K ≤ xf
      · have d4 : decide (K ≤ xf) = true := decide_eq_true hK'
        go_wp2_with fail
        refine (hnd.out _).mono ?_
        rintro e w4 ⟨rfl, rfl⟩
        try dsimp only
        go_wp2_with fail
        exact ⟨⟨j + 1, bf, bs_, bv, bn, bl, who, L, su, Ab, cb', A7, c7, by rfl, rfl, by simp [hnw], by omega, by omega, R.out.skip hx.out (.inr (.inl hK')) (Below.refl _ _)⟩, by simp [intOf]; omega⟩
      have d4 : decide (K ≤ xf) = false := decide_eq_false hK'
      go_wp2_with fail
      refine (hnd.out _).mono ?_
      rintro e w4 ⟨rfl, rfl⟩
      try dsimp only
      go_wp2_with fail
      go_loopw [11, 12] (fun s11 s12 wr => ∃ (k : Nat) (q : Bool), s11 = .bool q ∧ s12 = .int .i64 (k : Int) ∧ k ≤ L ∧ Hid (q = decide (xf ∈ who.take k)) ∧ wr = w4) (fun _ i _ => L - (intOf i).toNat)
      case atStart => exact ⟨0, false, rfl, rfl, Nat.zero_le _, Lib.hid (by simp), rfl⟩
      case round =>
        obtain ⟨k, q, rfl, rfl, hk, hq, rfl⟩ := hrel
        have hkw : IntKind.i64.wrap ((k : Int) + 1) = ((k + 1 : Nat) : Int) := by rw [IntKind.wrap_i64]; omega
        by_cases hkt : k < L
        · have hkt' : k < who.length := by rw [R.out.hL]; exact hkt
          have hy : who[k]? = some who[k] := List.getElem?_eq_getElem _
          have htk : decide (xf ∈ who.take (k + 1)) = (decide (xf ∈ who.take k) || decide (xf = who[k])) := by
            rw [List.take_succ_eq_append_getElem hkt', Bool.eq_iff_iff, Bool.or_eq_true, decide_eq_true_iff, decide_eq_true_iff, decide_eq_true_iff, List.mem_append, List.mem_singleton]
          generalize who[k] = y at hy htk
          obtain ⟨ad', rfl, hcy⟩ := hown.reads_.int1 hy hkt
          have hyw := hcy _ (Below.refl _ _)
          have d5 : decide ((k : Int) < (L : Int)) = true := decide_eq_true (by omega)
          rw [← hq.out] at htk
          clear hy hcy
          by_cases hxy : y = xf
          · subst hxy
            rw [decide_eq_true (rfl : y = y)] at htk
            replace htk := Lib.hid htk
            cases q
            all_goals (
              go_wp2_with fail
              exact ⟨⟨k + 1, true, by simp, by simp [hkw], by omega, Lib.hid (by rw [htk.out]; simp), by first | rfl | trivial⟩, by simp [intOf]; omega⟩)
          · have d6 : (y == xf) = false := by rw [beq_eq_false_iff_ne]; exact hxy
            rw [decide_eq_false (fun e : xf = y => hxy e.symm), Bool.or_false] at htk
            replace htk := Lib.hid htk
            cases q
            · go_wp2_with fail
              exact ⟨⟨k + 1, false, by simp, by simp [hkw], by omega, Lib.hid htk.out.symm, by first | rfl | trivial⟩, by simp [intOf]; omega⟩
            · go_wp2_with fail
              exact ⟨⟨k + 1, true, by simp, by simp [hkw], by omega, Lib.hid htk.out.symm, by first | rfl | trivial⟩, by simp [intOf]; omega⟩
        · have hkL : k = L := by omega
          have hqf : q = decide (xf ∈ who) := by rw [hq.out, List.take_of_length_le (by rw [R.out.hL]; omega)]
          have d5 : decide ((k : Int) < (L : Int)) = false := decide_eq_false (by omega)
          have d5' : decide (k < L) = false := decide_eq_false (by omega)
          obtain ⟨w4, rfl⟩ : ∃ w4, w4 = wr := ⟨_, rfl⟩
          clear hq
          replace hkL := Lib.hid hkL
          by_cases hmem : xf ∈ who
          · obtain rfl : q = true := by rw [hqf]; exact decide_eq_true hmem
            clear hqf
            go_wp2_with fail
            exact ⟨⟨j + 1, bf, bs_, bv, bn, bl, who, L, su, Ab, cb', A7, c7, by rfl, rfl, by simp [hnw], by omega, by omega, R.out.skip hx.out (.inr (.inr hmem)) (Below.refl _ _)⟩, by simp [intOf]; omega⟩
          obtain rfl : q = false := by rw [hqf]; exact decide_eq_false hmem
          clear hqf
          have hS0 : Below w4.heap.size w4 w4.drew := (Below.refl _ _).drew
          by_cases hL0 : L = 0
          · have d6 : ((L : Int) == 0) = true := by simp [hL0]
            have hst : (if who = [] ∨ betterR ⟨xf, xv, xs_, xl⟩ ⟨bf, bv, bs_, bl⟩ = true then (⟨xf, xv, xs_, xl⟩ : RpD) else ⟨bf, bv, bs_, bl⟩) = ⟨xf, xv, xs_, xl⟩ := if_pos (.inl (List.eq_nil_of_length_eq_zero (by rw [R.out.hL]; exact hL0)))
            replace hst := Lib.hid hst
            replace hL0 := Lib.hid hL0
            go_upto_region 15 with (fail)
            refine wp_region_lex (fun W => Below w4.heap.size w4 W) [7, 8] [9] [0, 1, 2, 3, 4, 5, 6, 7, 8, 9, 10] (by kernel_rfl) rfl (by kernel_rfl) (by kernel_rfl) (fun _ _ d _ _ h => by cases d <;> exact h) ?_
            repeat (first | (refine lexG_take _ ?_ rfl rfl rfl rfl (fun _ => ?_) ?_; rotate_left; (focus (go_simp; with_reducible rfl)); try simp only [Act.put, List.setIfInBounds_toArray, List.set_cons_zero, List.set_cons_succ]) | (refine lexG_held _ ?_ rfl rfl rfl rfl (by assumption) (fun _ hSw => ?_) ?_; rotate_left; (focus ((try dsimp only at hSw); go_simp; with_reducible rfl)); try simp only [Act.put, List.setIfInBounds_toArray, List.set_cons_zero, List.set_cons_succ]) | (refine lexG_skip _ rfl rfl (by assumption) ?_; try simp only [Act.put, List.setIfInBounds_toArray, List.set_cons_zero, List.set_cons_succ]))
            refine lexG_nil ?_
            have hb4 := hbest.drew
            have hz4 := hzz.drew
            have how4 := hown.drew
            have hbr4 := below_then hS0 hbr
            have hcw4 := hxw.out _ hbr4
            generalize w4.drew = w4 at *
            go_upto_region 17 with (refine store_row_gen rfl 31 (Operand.tmp 7) _ rfl (w.heap.size + 1) #[.int .i64 xf, .int .u64 (xv : Int), .slice Ax xn cx, .int .i64 xs_] (by simp [go_sem]) (by simp [go_sem]) 31 _ hb4 (by kernel_rfl) rfl (by simp [Value.oneCell']) (fun w5 hw5 => ?_); have hb5 := hb4.row #[.int .i64 xf, .int .u64 (xv : Int), .slice Ax xn cx, .int .i64 xs_]; have hz5 := hz4.farRow (g := w.heap.size + 1) (by omega) #[.int .i64 xf, .int .u64 (xv : Int), .slice Ax xn cx, .int .i64 xs_]; have how5 := how4.upd ((Upd.refl (fun g => g = w.heap.size + 1) w4).setRow (g := w.heap.size + 1) (fun _ => rfl) #[.int .i64 xf, .int .u64 (xv : Int), .slice Ax xn cx, .int .i64 xs_]) hwne; have hbl5 := below_row hbr4 (g := w.heap.size + 1) (by omega) #[.int .i64 xf, .int .u64 (xv : Int), .slice Ax xn cx, .int .i64 xs_]; rw [← hw5] at hb5 hz5 how5 hbl5; clear hw5)
            clear hcw4 hb4 hz4 how4 hbr4
            have hsrc := Reads.lit (size := 1) w5 #[.int .i64 xf] 3 (0, 0) 1 [.int .i64 xf] rfl rfl
            have how6 := how5.alloc (.cells #[.int .i64 xf] 3)
            have hb6' := hb5.alloc (.cells #[.int .i64 xf] 3)
            have hz6 := hz5.alloc (.cells #[.int .i64 xf] 3)
            have hbl6 := hbl5.alloc hbl5.size (.cells #[.int .i64 xf] 3)
            obtain ⟨su', hsu⟩ : ∃ s', (if su < xs_ then xs_ else su) = s' := ⟨_, rfl⟩
            go_wp2_with (at_builtin; go_must (refine wpList_append_mine rfl _ _ 35 35 rfl 3 i0 _ 1 8 Try.underlying35 hi hz0 hz1 hz2 rfl rfl how6 rfl (Src.ofReads Try.underlying35 _ hsrc (by intro u hu; simp at hu; subst hu; rfl)) (by unfold maxLen; omega) (by omega) (fun A8 c8 w8 ho8 hg8 hat8 => ?_)); have hbl8 := hbl6.grown hg8 hbl6.size (fun g hg => by have := hAw.out g hg; omega); have hxc8 := (hxw.out w8 hbl8).2.2.2)
            have hb8 := hb6'.grown hg8 (by intro e; have := hAw.out _ e.symm; omega)
            have hz8 := hz6.grown hg8 (by intro e; have := hAw.out _ e.symm; omega)
            have hA8 : ∀ g, bOf A8 = some g → w.heap.size + 2 ≤ g := fun g hg => by
              rcases hat8 with h | h <;> rw [h] at hg
              · exact hAw.out g hg
              · cases hg; have := hb5.lt; simp; omega
            rw [← ints_snoc] at ho8
            exact ⟨⟨j + 1, xf, xs_, xv, xn, xl, _, L + 1, su', Ax, cx, A8, c8, by rfl, by simp [hsu], by simp [hnw], by omega, by omega, R.out.take hx.out (fun e => by dsimp only at e; omega) (fun e => by dsimp only at e; omega) hmem hst.out hsu, hxn.out, by rw [List.length_append, R.out.hL]; rfl, hb8, hz8, hLw.out, ho8, hA8, hbl8, hx1⟩, by simp [intOf]; omega⟩
          · have d6 : ((L : Int) == 0) = false := by rw [beq_eq_false_iff_ne]; omega
            have hwn : who ≠ [] := fun e => hL0 (by rw [← R.out.hL, e]; rfl)
            have hbt : betterR ⟨xf, xv, xs_, xl⟩ ⟨bf, bv, bs_, bl⟩ = betterB xv bv xn bn xf bf := by unfold betterR; dsimp only; rw [hxn.out, R.out.hn]
            have hst : (if who = [] ∨ betterR ⟨xf, xv, xs_, xl⟩ ⟨bf, bv, bs_, bl⟩ = true then (⟨xf, xv, xs_, xl⟩ : RpD) else ⟨bf, bv, bs_, bl⟩) = (if betterB xv bv xn bn xf bf = true then (⟨xf, xv, xs_, xl⟩ : RpD) else ⟨bf, bv, bs_, bl⟩) := by rw [hbt]; simp [hwn]
            have hbw := fun w4 => ref_better (w := w4) (f1 := xf) (f2 := bf) (s1 := xs_) (s2 := bs_) (v1 := xv) (v2 := bv) (n1 := xn) (n2 := bn) (c1 := cx) (c2 := cb') (A1 := Ax) (A2 := Ab)
            generalize betterB xv bv xn bn xf bf = q at hst hbw
            clear hwn hbt
            replace hst := Lib.hid hst
            replace hbw := Lib.hid hbw
            go_upto_region 15 with (fail)
            have hld := fun W (hW : Below w4.heap.size w4 W) => And.intro (hxw.out W (below_then hW hbr)) (hbest.below hW hbest.lt).st4
            replace hld := Lib.hid hld
            clear hcw
            refine wp_region_lex (fun W => Below w4.heap.size w4 W) [7, 8] [9] [0, 1, 2, 3, 4, 5, 6, 7, 8, 9, 10] (by kernel_rfl) rfl (by kernel_rfl) (by kernel_rfl) (fun _ _ d _ _ h => by cases d <;> exact h) ?_
            repeat (first | (refine lexG_take _ ?_ rfl rfl rfl rfl (fun _ => ?_) ?_; rotate_left; (focus (go_simp; with_reducible rfl)); try simp only [Act.put, List.setIfInBounds_toArray, List.set_cons_zero, List.set_cons_succ]) | (refine lexG_held _ ?_ rfl rfl rfl rfl (by assumption) (fun _ hSw => ?_) ?_; rotate_left; (focus (have h1 := hld.out _ hSw; clear hSw; go_simp; with_reducible rfl)); try simp only [Act.put, List.setIfInBounds_toArray, List.set_cons_zero, List.set_cons_succ]) | (refine lexG_skip _ rfl rfl (by assumption) ?_; try simp only [Act.put, List.setIfInBounds_toArray, List.set_cons_zero, List.set_cons_succ]))
            refine lexG_now _ rfl rfl rfl (fun K0 hK => ?_)
            go_wp2_with fail
            refine (hbw.out _).mono ?_
            rintro e w6 ⟨rfl, hb6⟩
            try dsimp only
            have hS6 := below_then hb6 hS0
            refine hK _ _ _ (fun _ h => h) hS6 ?_
            clear hK K0
            try simp only [Act.put, List.setIfInBounds_toArray, List.set_cons_zero, List.set_cons_succ]
            repeat (first | (refine lexG_take _ ?_ rfl rfl rfl rfl (fun _ => ?_) ?_; rotate_left; (focus (go_simp; with_reducible rfl)); try simp only [Act.put, List.setIfInBounds_toArray, List.set_cons_zero, List.set_cons_succ]) | (refine lexG_held _ ?_ rfl rfl rfl rfl (by assumption) (fun _ hSw => ?_) ?_; rotate_left; (focus (have h1 := hld.out _ hSw; clear hSw; go_simp; with_reducible rfl)); try simp only [Act.put, List.setIfInBounds_toArray, List.set_cons_zero, List.set_cons_succ]) | (refine lexG_skip _ rfl rfl (by assumption) ?_; try simp only [Act.put, List.setIfInBounds_toArray, List.set_cons_zero, List.set_cons_succ]))
            refine lexG_nil ?_
            have hb4 := hbest.below hS6 hbest.lt
            have hz4 := hzz.below hS6 hzz.lt
            have how4 := hown.below hS6 (Nat.le_refl _)
            have hbr4 := below_then hS6 hbr
            have hcw4 := hxw.out _ hbr4
            clear hld hbw hb6 hS6 hS0
            generalize w6 = w4' at *
            clear hbest hzz hown hbr
            generalize w4 = wold at *
            obtain ⟨w4, rfl⟩ : ∃ w4, w4 = w4' := ⟨_, rfl⟩
            cases q
            · replace hst := Lib.hid (hst.out.trans (if_neg (by simp)))
              go_upto_region 17 with (fail)
              have hb5 := hb4
              have hz5 := hz4
              have how5 := how4
              have hbl5 := hbr4
              obtain ⟨w5, rfl⟩ : ∃ w5, w5 = w4 := ⟨_, rfl⟩
              clear hcw4 hb4 hz4 how4 hbr4
              have hsrc := Reads.lit (size := 1) w5 #[.int .i64 xf] 3 (0, 0) 1 [.int .i64 xf] rfl rfl
              have how6 := how5.alloc (.cells #[.int .i64 xf] 3)
              have hb6' := hb5.alloc (.cells #[.int .i64 xf] 3)
              have hz6 := hz5.alloc (.cells #[.int .i64 xf] 3)
              have hbl6 := hbl5.alloc hbl5.size (.cells #[.int .i64 xf] 3)
              obtain ⟨su', hsu⟩ : ∃ s', (if su < xs_ then xs_ else su) = s' := ⟨_, rfl⟩
              go_wp2_with (at_builtin; go_must (refine wpList_append_mine rfl _ _ 35 35 rfl 3 i0 _ 1 8 Try.underlying35 hi hz0 hz1 hz2 rfl rfl how6 rfl (Src.ofReads Try.underlying35 _ hsrc (by intro u hu; simp at hu; subst hu; rfl)) (by unfold maxLen; omega) (by omega) (fun A8 c8 w8 ho8 hg8 hat8 => ?_)); have hbl8 := hbl6.grown hg8 hbl6.size (fun g hg => by have := hAw.out g hg; omega); have hxc8 := (hxw.out w8 hbl8).2.2.2)
              have hb8 := hb6'.grown hg8 (by intro e; have := hAw.out _ e.symm; omega)
              have hz8 := hz6.grown hg8 (by intro e; have := hAw.out _ e.symm; omega)
              have hA8 : ∀ g, bOf A8 = some g → w.heap.size + 2 ≤ g := fun g hg => by
                rcases hat8 with h | h <;> rw [h] at hg
                · exact hAw.out g hg
                · cases hg; have := hb5.lt; simp; omega
              rw [← ints_snoc] at ho8
              exact ⟨⟨j + 1, bf, bs_, bv, bn, bl, _, L + 1, su', Ab, cb', A8, c8, by rfl, by simp [hsu], by simp [hnw], by omega, by omega, R.out.take hx.out (fun e => by dsimp only at e; omega) (fun e => by dsimp only at e; omega) hmem hst.out hsu, R.out.hn, by rw [List.length_append, R.out.hL]; rfl, hb8, hz8, R.out.lg, ho8, hA8, hbl8, R.out.b1⟩, by simp [intOf]; omega⟩
            · replace hst := Lib.hid (hst.out.trans (if_pos rfl))
              go_upto_region 17 with (refine store_row_gen rfl 31 (Operand.tmp 7) _ rfl (w.heap.size + 1) #[.int .i64 xf, .int .u64 (xv : Int), .slice Ax xn cx, .int .i64 xs_] (by simp [go_sem]) (by simp [go_sem]) 31 _ hb4 (by kernel_rfl) rfl (by simp [Value.oneCell']) (fun w5 hw5 => ?_); have hb5 := hb4.row #[.int .i64 xf, .int .u64 (xv : Int), .slice Ax xn cx, .int .i64 xs_]; have hz5 := hz4.farRow (g := w.heap.size + 1) (by omega) #[.int .i64 xf, .int .u64 (xv : Int), .slice Ax xn cx, .int .i64 xs_]; have how5 := how4.upd ((Upd.refl (fun g => g = w.heap.size + 1) w4).setRow (g := w.heap.size + 1) (fun _ => rfl) #[.int .i64 xf, .int .u64 (xv : Int), .slice Ax xn cx, .int .i64 xs_]) hwne; have hbl5 := below_row hbr4 (g := w.heap.size + 1) (by omega) #[.int .i64 xf, .int .u64 (xv : Int), .slice Ax xn cx, .int .i64 xs_]; rw [← hw5] at hb5 hz5 how5 hbl5; clear hw5)
              clear hcw4 hb4 hz4 how4 hbr4
              have hsrc := Reads.lit (size := 1) w5 #[.int .i64 xf] 3 (0, 0) 1 [.int .i64 xf] rfl rfl
              have how6 := how5.alloc (.cells #[.int .i64 xf] 3)
              have hb6' := hb5.alloc (.cells #[.int .i64 xf] 3)
              have hz6 := hz5.alloc (.cells #[.int .i64 xf] 3)
              have hbl6 := hbl5.alloc hbl5.size (.cells #[.int .i64 xf] 3)
              obtain ⟨su', hsu⟩ : ∃ s', (if su < xs_ then xs_ else su) = s' := ⟨_, rfl⟩
              go_wp2_with (at_builtin; go_must (refine wpList_append_mine rfl _ _ 35 35 rfl 3 i0 _ 1 8 Try.underlying35 hi hz0 hz1 hz2 rfl rfl how6 rfl (Src.ofReads Try.underlying35 _ hsrc (by intro u hu; simp at hu; subst hu; rfl)) (by unfold maxLen; omega) (by omega) (fun A8 c8 w8 ho8 hg8 hat8 => ?_)); have hbl8 := hbl6.grown hg8 hbl6.size (fun g hg => by have := hAw.out g hg; omega); have hxc8 := (hxw.out w8 hbl8).2.2.2)
              have hb8 := hb6'.grown hg8 (by intro e; have := hAw.out _ e.symm; omega)
              have hz8 := hz6.grown hg8 (by intro e; have := hAw.out _ e.symm; omega)
              have hA8 : ∀ g, bOf A8 = some g → w.heap.size + 2 ≤ g := fun g hg => by
                rcases hat8 with h | h <;> rw [h] at hg
                · exact hAw.out g hg
                · cases hg; have := hb5.lt; simp; omega
              rw [← ints_snoc] at ho8
              exact ⟨⟨j + 1, xf, xs_, xv, xn, xl, _, L + 1, su', Ax, cx, A8, c8, by rfl, by simp [hsu], by simp [hnw], by omega, by omega, R.out.take hx.out (fun e => by dsimp only at e; omega) (fun e => by dsimp only at e; omega) hmem hst.out hsu, hxn.out, by rw [List.length_append, R.out.hL]; rfl, hb8, hz8, hLw.out, ho8, hA8, hbl8, hx1⟩, by simp [intOf]; omega⟩
    · have hjN : j = N := by omega
      have hst := R.st
      rw [List.take_of_length_le (by rw [hN.out]; omega), ← hK.out] at hst
      have hgo := goodC_fold (clampI n) rs (zeroR, [], 0) ⟨by simp, by simp⟩
      rw [hst] at hgo
      have hch : chooseS n rs = (⟨bf, bv, bs_, bl⟩, who, su) := hst
      have hqh := fun W (hW : Below wo.heap.size wo W) => ref_has (w := W) (c := c7) (n := n) (by have := R.own.reads_.below hW; rw [R.hL]; exact this) (hW.size) (by rw [R.hL]; omega) hgo.1 hgo.2
      rw [R.hL] at hqh
      have hok : chOk n rs = hasB n L := by unfold chOk; rw [hch, R.hL]
      have hbest := R.b
      have hzz := R.z
      have hbr := R.hb
      have hbn := R.hn
      obtain ⟨ysb, cstb, hLb⟩ := R.lg
      obtain ⟨mn, hmn⟩ : ∃ m : Int, (if (bn : Int) < su then (bn : Int) else su) = m := ⟨_, rfl⟩
      have hsu : chSure n rs = mn := by unfold chSure; rw [hch]; dsimp only; rw [hbn]; exact hmn
      have no : ∀ e w', Below w.heap.size w w' → hasB n L = false → e = .returned (.tuple #[.agg #[.int .i64 0, .int .u64 0, .slice none 0 0, .int .i64 0], .bool false]) → ChRf w B n rs e w' := fun e w' hb hc he => ⟨hb, .inl ⟨by rw [hok]; exact hc, he⟩⟩
      have yes : ∀ e w', Below w.heap.size w w' → hasB n L = true → e = .returned (.tuple #[.agg #[.int .i64 bf, .int .u64 (bv : Int), .slice Ab bn cb', .int .i64 mn], .bool true]) → ChRf w B n rs e w' := fun e w' hb hc he => ⟨hb, .inr ⟨by rw [hok]; exact hc, Ab, cb', ysb, cstb, by rw [hch, hsu]; dsimp only; rw [hbn]; exact he, by rw [hch]; exact hLb.below (hb.mono hB)⟩⟩
      have d2 : decide ((j : Int) < (N : Int)) = false := decide_eq_false (by omega)
      have d2' : decide (j < N) = false := decide_eq_false (by omega)
      generalize hasB n L = q at hqh no yes
      replace hqh := Lib.hid hqh
      replace no := Lib.hid no
      replace yes := Lib.hid yes
      clear hst hgo hch hok R hLb hsu hbn hjN
      go_wp2_with fail
      refine (hqh.out _ (Below.refl _ _)).mono ?_
      rintro e w3 ⟨rfl, hb3⟩
      try dsimp only
      replace hbr := below_then hb3 hbr
      replace hzz := hzz.below hb3 hzz.lt
      replace hbest := hbest.below hb3 hbest.lt
      clear hqh hb3
      cases q
      · have hzr := hzz.row #[.int .i64 0, .int .u64 0, .slice none 0 0, .int .i64 0]
        have hbz := below_row hbr (g := w.heap.size) (Nat.le_refl _) #[.int .i64 0, .int .u64 0, .slice none 0 0, .int .i64 0]
        go_wp2_with (refine store_row_gen rfl 31 (Operand.tmp 4) _ rfl w.heap.size #[.int .i64 0, .int .u64 0, .slice none 0 0, .int .i64 0] (by simp [go_sem]) (by simp [go_sem]) 31 _ hzz (by kernel_rfl) rfl (by simp [Value.oneCell']) (fun w5 hw5 => ?_); rw [← hw5] at hzr hbz; clear hw5)
        refine bodyPost_ret (v := .tuple #[.agg #[.int .i64 0, .int .u64 0, .slice none 0 0, .int .i64 0], .bool false]) (by exact results_ct rfl _ _ w.heap.size 31 _ (0, 0) _ _ rfl rfl hzr Try.underlying31 rfl (by kernel_rfl)) rfl ?_
        exact no.out _ _ hbz (by first | rfl | trivial) rfl
      · have hbc := hbest.st4
        have hf3 := hbest.frozen 3
        have hb9 := hbest.set_ 3 (.int .i64 mn)
        have hz9 := hzz.far (p := ⟨w.heap.size + 1, 3, none⟩) (by simp) (.int .i64 mn)
        have hbl9 := hbr.setCell (p := ⟨w.heap.size + 1, 3, none⟩) (by simp) (.int .i64 mn)
        go_upto_region 22 with (fail)
        generalize w3.setCell ⟨w.heap.size + 1, 3, none⟩ (.int .i64 mn) = w9 at *
        clear hbc hf3
        have hbc := Blk.st4 (a := .int .i64 bf) (b := .int .u64 (bv : Int)) (c := .slice Ab bn cb') (d := .int .i64 mn) hb9
        have hzr := hz9.row #[.int .i64 bf, .int .u64 (bv : Int), .slice Ab bn cb', .int .i64 mn]
        have hbz := below_row hbl9 (g := w.heap.size) (Nat.le_refl _) #[.int .i64 bf, .int .u64 (bv : Int), .slice Ab bn cb', .int .i64 mn]
        go_wp2_with (refine store_row_gen rfl 31 (Operand.tmp 4) _ rfl w.heap.size #[.int .i64 bf, .int .u64 (bv : Int), .slice Ab bn cb', .int .i64 mn] (by simp [go_sem]) (by simp [go_sem]) 31 _ hz9 (by kernel_rfl) rfl (by simp [Value.oneCell']) (fun w5 hw5 => ?_); rw [← hw5] at hzr hbz; clear hw5)
        refine bodyPost_ret (v := .tuple #[.agg #[.int .i64 bf, .int .u64 (bv : Int), .slice Ab bn cb', .int .i64 mn], .bool true]) (by exact results_ct rfl _ _ w.heap.size 31 _ (0, 0) _ _ rfl rfl hzr Try.underlying31 rfl (by kernel_rfl)) rfl ?_
        exact yes.out _ _ hbz (by first | rfl | trivial) rfl
end Go.Proofs.Ytfmmabkekjchjaa
