/- choirref20.Step. -/
import Derived.Test.YtjljlgkghlphnaaJ2
import Derived.Test.YtjljlgkghlphnaaJ4
import Derived.Test.YtjljlgkghlphnaaJ3
set_option linter.unusedSimpArgs false
set_option linter.unusedVariables false
namespace Go.Proofs.Ytjljlgkghlphnaa
open Go.RowKit
set_option maxRecDepth 100000

set_option maxHeartbeats 12800000 in
theorem rstep_walk {w : World} {B : Nat} {L : Option Addr} {cl sv sl : Nat} {su : Int} {log : List (Nat × OpD)} {xs : List Value} {css : Nat → Array Value} {k n : Int} {v c1 s1 n1 : Nat} {g m : List UInt8} {gg mm : ByteArray} {l : List Val} {A : Option Addr} {K cc : Nat}
    (hlog : LogR w B L cl log xs css) (ho : OpReads w B ⟨c1, s1, n1, g, m, l⟩ #[.int .u32 (c1 : Int), .int .u32 (s1 : Int), .int .u16 (n1 : Int), .string gg, .string mm, .slice A K cc]) (hB : B ≤ w.heap.size) (hv : v < 18446744073709551616) (hll : log.length ≤ 1000) (hsu0 : 0 ≤ su) :
    Calls Try.prog 38 #[.agg #[.int .u64 (sv : Int), .int .u64 (sl : Int), .slice L log.length cl, .int .i64 su], .agg #[.int .i64 k, .int .u64 (v : Int), .int .i64 n, .int .u32 (c1 : Int), .int .u32 (s1 : Int), .int .u16 (n1 : Int), .string gg, .string mm, .slice A K cc]] w (StRes w L cl log xs css (stepD ⟨sv, sl, log, su⟩ ⟨k, v, n, ⟨c1, s1, n1, g, m, l⟩⟩) (stepOk ⟨sv, sl, log, su⟩ ⟨k, v, n, ⟨c1, s1, n1, g, m, l⟩⟩)) := by
  have hop0 := ho
  replace hop0 := Lib.hid hop0
  have hs0 := Blk.new w 61 #[.int .u64 (sv : Int), .int .u64 (sl : Int), .slice L log.length cl, .int .i64 su]
  have hr0 := Blk.new (w.alloc (.cells #[.int .u64 (sv : Int), .int .u64 (sl : Int), .slice L log.length cl, .int .i64 su] 61)) 41 #[.int .i64 k, .int .u64 (v : Int), .int .i64 n, .int .u32 (c1 : Int), .int .u32 (s1 : Int), .int .u16 (n1 : Int), .string gg, .string mm, .slice A K cc]
  have hz0 := Blk.new ((w.alloc (.cells #[.int .u64 (sv : Int), .int .u64 (sl : Int), .slice L log.length cl, .int .i64 su] 61)).alloc (.cells #[.int .i64 k, .int .u64 (v : Int), .int .i64 n, .int .u32 (c1 : Int), .int .u32 (s1 : Int), .int .u16 (n1 : Int), .string gg, .string mm, .slice A K cc] 41)) 61 #[.int .u64 0, .int .u64 0, .slice none 0 0, .int .i64 0]
  rw [World.size_alloc] at hr0
  rw [World.size_alloc, World.size_alloc] at hz0
  have hs4 := ((hs0).alloc (.cells #[.int .i64 k, .int .u64 (v : Int), .int .i64 n, .int .u32 (c1 : Int), .int .u32 (s1 : Int), .int .u16 (n1 : Int), .string gg, .string mm, .slice A K cc] 41)).alloc (.cells #[.int .u64 0, .int .u64 0, .slice none 0 0, .int .i64 0] 61)
  have hr4 := (hr0).alloc (.cells #[.int .u64 0, .int .u64 0, .slice none 0 0, .int .i64 0] 61)
  have hz4 := hz0
  have hb4 := ((((Below.refl w.heap.size w)).alloc (by first | exact Nat.le_refl _ | (simp only [World.size_alloc]; omega)) (.cells #[.int .u64 (sv : Int), .int .u64 (sl : Int), .slice L log.length cl, .int .i64 su] 61)).alloc (by first | exact Nat.le_refl _ | (simp only [World.size_alloc]; omega)) (.cells #[.int .i64 k, .int .u64 (v : Int), .int .i64 n, .int .u32 (c1 : Int), .int .u32 (s1 : Int), .int .u16 (n1 : Int), .string gg, .string mm, .slice A K cc] 41)).alloc (by first | exact Nat.le_refl _ | (simp only [World.size_alloc]; omega)) (.cells #[.int .u64 0, .int .u64 0, .slice none 0 0, .int .i64 0] 61)
  clear hs0 hr0 hz0
  obtain ⟨D, hD⟩ : ∃ D, stepD ⟨sv, sl, log, su⟩ ⟨k, v, n, ⟨c1, s1, n1, g, m, l⟩⟩ = D := ⟨_, rfl⟩
  obtain ⟨O, hO⟩ : ∃ O, stepOk ⟨sv, sl, log, su⟩ ⟨k, v, n, ⟨c1, s1, n1, g, m, l⟩⟩ = O := ⟨_, rfl⟩
  rw [hD, hO]
  have hlog0 := hlog
  have hbs : ∀ W, Below w.heap.size w W → OpReads W B ⟨c1, s1, n1, g, m, l⟩ #[.int .u32 (c1 : Int), .int .u32 (s1 : Int), .int .u16 (n1 : Int), .string gg, .string mm, .slice A K cc] := fun W hW => ho.below (hW.mono hB)
  have fin : ∀ W, Below w.heap.size w W → LogR W W.heap.size L cl log xs css := fun W hW => ((hlog.below (hW.mono hB)).up (Nat.le_trans hB hW.size))
  have hcl := hlog.hc
  have hLn := hlog.hA
  obtain ⟨N, hN⟩ : ∃ N, log.length = N := ⟨_, rfl⟩
  rw [hN] at hs4 hr4 hz4 hb4 hcl hll ⊢
  replace hN := Lib.hid hN
  replace fin := Lib.hid fin
  replace hbs := Lib.hid hbs
  replace hLn := Lib.hid hLn
  replace hlog0 := Lib.hid hlog0
  replace hD := Lib.hid hD
  replace hO := Lib.hid hO
  clear hlog ho
  go_enter Try.func38, Try.ntmps38
  go_upto_region 3 with (fail)
  generalize ((w.alloc (.cells #[.int .u64 (sv : Int), .int .u64 (sl : Int), .slice L N cl, .int .i64 su] 61)).alloc (.cells #[.int .i64 k, .int .u64 (v : Int), .int .i64 n, .int .u32 (c1 : Int), .int .u32 (s1 : Int), .int .u16 (n1 : Int), .string gg, .string mm, .slice A K cc] 41)).alloc (.cells #[.int .u64 0, .int .u64 0, .slice none 0 0, .int .i64 0] 61) = w4 at *
  obtain ⟨z, hzz⟩ : ∃ z, w.heap.size = z := ⟨_, rfl⟩
  have hwz : w.heap.size ≤ z := by omega
  rw [hzz] at hs4 hr4 hz4 ⊢
  obtain ⟨y, hyy⟩ : ∃ y, z + 1 = y := ⟨_, rfl⟩
  have hzy : z < y := by omega
  obtain ⟨q, hqq⟩ : ∃ q, z + 2 = q := ⟨_, rfl⟩
  have hyq : y < q := by omega
  rw [show z + 1 + 1 = q from hqq] at hz4
  rw [show z + 1 + 1 = q from hqq]
  rw [hyy] at hr4 ⊢
  replace hzz := Lib.hid hzz
  replace hyy := Lib.hid hyy
  replace hqq := Lib.hid hqq
  have hwq : w.heap.size ≤ q := by omega
  have hrc := hr4.rec9
  have hsc := hs4.st4
  by_cases hk1 : k = 1
  · subst hk1
    rcases Nat.lt_trichotomy v sv with hvs | hvs | hvs
    all_goals by_cases hn1 : n = 1
    · skip
      have e1 : decide ((sv : Int) < (v : Int)) = false := decide_eq_false (by omega)
      have e1' : decide (sv < v) = false := decide_eq_false (by omega)
      have e2 : ((v : Int) == (sv : Int)) = false := by rw [beq_eq_false_iff_ne]; omega
      have e2' : (v == sv) = false := by rw [beq_eq_false_iff_ne]; omega
      have e3 : decide ((v : Int) < (sv : Int)) = true := decide_eq_true (by omega)
      have e3' : decide (v < sv) = true := decide_eq_true (by omega)
      have en : (n == 1) = true := by rw [beq_iff_eq]; exact hn1
      have en' : (n != 1) = false := by simp [hn1]
      have hOe : O = false := by rw [← hO.out]; unfold stepOk; rw [if_pos rfl]; dsimp only; exact decide_eq_false (by omega)
      have hDe : D = ⟨sv, sl, log, su⟩ := by rw [← hD.out]; unfold stepD; rw [hO.out, hOe]; rw [if_neg (by decide)]
      subst hOe hDe
      clear hO hD
      replace hn1 := Lib.hid hn1
      replace hvs := Lib.hid hvs
      go_upto_region 5 with (fail)
      have hzr := hz4.row #[.int .u64 (sv : Int), .int .u64 (sl : Int), .slice L N cl, .int .i64 su]
      have hbr := below_row hb4 (g := q) hwq #[.int .u64 (sv : Int), .int .u64 (sl : Int), .slice L N cl, .int .i64 su]
      go_wp2_with (refine store_row_gen rfl 61 (Operand.tmp 4) _ rfl q #[.int .u64 (sv : Int), .int .u64 (sl : Int), .slice L N cl, .int .i64 su] (by simp [go_sem]) (by simp [go_sem]) 61 _ hz4 (by kernel_rfl) rfl (by simp [Value.oneCell']) (fun w9 hw9 => ?_); rw [← hw9] at hzr hbr; clear hw9)
      refine bodyPost_ret (v := .tuple #[.agg #[.int .u64 (sv : Int), .int .u64 (sl : Int), .slice L N cl, .int .i64 su], .bool false]) (by exact results_ct rfl _ _ q 61 _ (0, 0) _ _ rfl rfl hzr Try.underlying61 rfl (by kernel_rfl)) rfl ?_
      refine ⟨L, cl, xs, css, ?_, hbr, fun _ _ _ _ h => h⟩
      dsimp only
      rw [hN.out]
    · skip
      have e1 : decide ((sv : Int) < (v : Int)) = false := decide_eq_false (by omega)
      have e1' : decide (sv < v) = false := decide_eq_false (by omega)
      have e2 : ((v : Int) == (sv : Int)) = false := by rw [beq_eq_false_iff_ne]; omega
      have e2' : (v == sv) = false := by rw [beq_eq_false_iff_ne]; omega
      have e3 : decide ((v : Int) < (sv : Int)) = true := decide_eq_true (by omega)
      have e3' : decide (v < sv) = true := decide_eq_true (by omega)
      have en : (n == 1) = false := by rw [beq_eq_false_iff_ne]; exact hn1
      have en' : (n != 1) = true := by simp [hn1]
      have hOe : O = false := by rw [← hO.out]; unfold stepOk; rw [if_pos rfl]; dsimp only; exact decide_eq_false (by omega)
      have hDe : D = ⟨sv, sl, log, su⟩ := by rw [← hD.out]; unfold stepD; rw [hO.out, hOe]; rw [if_neg (by decide)]
      subst hOe hDe
      clear hO hD
      replace hn1 := Lib.hid hn1
      replace hvs := Lib.hid hvs
      go_upto_region 5 with (fail)
      have hzr := hz4.row #[.int .u64 (sv : Int), .int .u64 (sl : Int), .slice L N cl, .int .i64 su]
      have hbr := below_row hb4 (g := q) hwq #[.int .u64 (sv : Int), .int .u64 (sl : Int), .slice L N cl, .int .i64 su]
      go_wp2_with (refine store_row_gen rfl 61 (Operand.tmp 4) _ rfl q #[.int .u64 (sv : Int), .int .u64 (sl : Int), .slice L N cl, .int .i64 su] (by simp [go_sem]) (by simp [go_sem]) 61 _ hz4 (by kernel_rfl) rfl (by simp [Value.oneCell']) (fun w9 hw9 => ?_); rw [← hw9] at hzr hbr; clear hw9)
      refine bodyPost_ret (v := .tuple #[.agg #[.int .u64 (sv : Int), .int .u64 (sl : Int), .slice L N cl, .int .i64 su], .bool false]) (by exact results_ct rfl _ _ q 61 _ (0, 0) _ _ rfl rfl hzr Try.underlying61 rfl (by kernel_rfl)) rfl ?_
      refine ⟨L, cl, xs, css, ?_, hbr, fun _ _ _ _ h => h⟩
      dsimp only
      rw [hN.out]
    · skip
      have e1 : decide ((sv : Int) < (v : Int)) = false := decide_eq_false (by omega)
      have e1' : decide (sv < v) = false := decide_eq_false (by omega)
      have e2 : ((v : Int) == (sv : Int)) = true := by rw [beq_iff_eq]; omega
      have e2' : (v == sv) = true := by rw [beq_iff_eq]; omega
      have e3 : decide ((v : Int) < (sv : Int)) = false := decide_eq_false (by omega)
      have e3' : decide (v < sv) = false := decide_eq_false (by omega)
      have en : (n == 1) = true := by rw [beq_iff_eq]; exact hn1
      have en' : (n != 1) = false := by simp [hn1]
      have hOe : O = true := by rw [← hO.out]; unfold stepOk; rw [if_pos rfl]; dsimp only; exact decide_eq_true (by omega)
      have hDe : D = ⟨v, v, log, su⟩ := by rw [← hD.out]; unfold stepD; rw [hO.out, hOe]; rw [if_pos rfl, if_pos rfl, if_pos hn1]
      subst hOe hDe
      clear hO hD
      replace hn1 := Lib.hid hn1
      replace hvs := Lib.hid hvs
      have hf0 := hs4.frozen 0
      have hc0 := hs4.st4
      have hs_0 : Blk ((w4).setCell ⟨z, 0, none⟩ (.int .u64 (v : Int))) z 61 #[.int .u64 (v : Int), .int .u64 (sl : Int), .slice L N cl, .int .i64 su] := hs4.set_ 0 (.int .u64 (v : Int))
      have hr_0 := hr4.far (p := ⟨z, 0, none⟩) (show y ≠ z by omega) (.int .u64 (v : Int))
      have hz_0 := hz4.far (p := ⟨z, 0, none⟩) (show q ≠ z by omega) (.int .u64 (v : Int))
      have hb_0 := hb4.setCell (p := ⟨z, 0, none⟩) hwz (.int .u64 (v : Int))
      have hrc0 := hr_0.rec9
      have hf1 := hs_0.frozen 1
      have hc1 := hs_0.st4
      have hs_1 : Blk (((w4).setCell ⟨z, 0, none⟩ (.int .u64 (v : Int))).setCell ⟨z, 1, none⟩ (.int .u64 (v : Int))) z 61 #[.int .u64 (v : Int), .int .u64 (v : Int), .slice L N cl, .int .i64 su] := hs_0.set_ 1 (.int .u64 (v : Int))
      have hr_1 := hr_0.far (p := ⟨z, 1, none⟩) (show y ≠ z by omega) (.int .u64 (v : Int))
      have hz_1 := hz_0.far (p := ⟨z, 1, none⟩) (show q ≠ z by omega) (.int .u64 (v : Int))
      have hb_1 := hb_0.setCell (p := ⟨z, 1, none⟩) hwz (.int .u64 (v : Int))
      have hrc1 := hr_1.rec9
      have hcL := hs_1.st4
      go_upto_region 9 with (fail)
      generalize ((w4).setCell ⟨z, 0, none⟩ (.int .u64 (v : Int))).setCell ⟨z, 1, none⟩ (.int .u64 (v : Int)) = w5 at *
      have hsc5 := hs_1.st4
      have hzr := hz_1.row #[.int .u64 (v : Int), .int .u64 (v : Int), .slice L N cl, .int .i64 su]
      have hbr := below_row hb_1 (g := q) hwq #[.int .u64 (v : Int), .int .u64 (v : Int), .slice L N cl, .int .i64 su]
      go_wp2_with (refine store_row_gen rfl 61 (Operand.tmp 4) _ rfl q #[.int .u64 (v : Int), .int .u64 (v : Int), .slice L N cl, .int .i64 su] (by simp [go_sem]) (by simp [go_sem]) 61 _ hz_1 (by kernel_rfl) rfl (by simp [Value.oneCell']) (fun w9 hw9 => ?_); rw [← hw9] at hzr hbr; clear hw9)
      refine bodyPost_ret (v := .tuple #[.agg #[.int .u64 (v : Int), .int .u64 (v : Int), .slice L N cl, .int .i64 su], .bool true]) (by exact results_ct rfl _ _ q 61 _ (0, 0) _ _ rfl rfl hzr Try.underlying61 rfl (by kernel_rfl)) rfl ?_
      refine ⟨L, cl, xs, css, ?_, hbr, fun _ _ _ _ h => h⟩
      dsimp only
      rw [hN.out]
    · skip
      have e1 : decide ((sv : Int) < (v : Int)) = false := decide_eq_false (by omega)
      have e1' : decide (sv < v) = false := decide_eq_false (by omega)
      have e2 : ((v : Int) == (sv : Int)) = true := by rw [beq_iff_eq]; omega
      have e2' : (v == sv) = true := by rw [beq_iff_eq]; omega
      have e3 : decide ((v : Int) < (sv : Int)) = false := decide_eq_false (by omega)
      have e3' : decide (v < sv) = false := decide_eq_false (by omega)
      have en : (n == 1) = false := by rw [beq_eq_false_iff_ne]; exact hn1
      have en' : (n != 1) = true := by simp [hn1]
      have hOe : O = false := by rw [← hO.out]; unfold stepOk; rw [if_pos rfl]; dsimp only; exact decide_eq_false (by omega)
      have hDe : D = ⟨sv, sl, log, su⟩ := by rw [← hD.out]; unfold stepD; rw [hO.out, hOe]; rw [if_neg (by decide)]
      subst hOe hDe
      clear hO hD
      replace hn1 := Lib.hid hn1
      replace hvs := Lib.hid hvs
      go_upto_region 5 with (fail)
      have hzr := hz4.row #[.int .u64 (sv : Int), .int .u64 (sl : Int), .slice L N cl, .int .i64 su]
      have hbr := below_row hb4 (g := q) hwq #[.int .u64 (sv : Int), .int .u64 (sl : Int), .slice L N cl, .int .i64 su]
      go_wp2_with (refine store_row_gen rfl 61 (Operand.tmp 4) _ rfl q #[.int .u64 (sv : Int), .int .u64 (sl : Int), .slice L N cl, .int .i64 su] (by simp [go_sem]) (by simp [go_sem]) 61 _ hz4 (by kernel_rfl) rfl (by simp [Value.oneCell']) (fun w9 hw9 => ?_); rw [← hw9] at hzr hbr; clear hw9)
      refine bodyPost_ret (v := .tuple #[.agg #[.int .u64 (sv : Int), .int .u64 (sl : Int), .slice L N cl, .int .i64 su], .bool false]) (by exact results_ct rfl _ _ q 61 _ (0, 0) _ _ rfl rfl hzr Try.underlying61 rfl (by kernel_rfl)) rfl ?_
      refine ⟨L, cl, xs, css, ?_, hbr, fun _ _ _ _ h => h⟩
      dsimp only
      rw [hN.out]
    · skip
      have e1 : decide ((sv : Int) < (v : Int)) = true := decide_eq_true (by omega)
      have e1' : decide (sv < v) = true := decide_eq_true (by omega)
      have e2 : ((v : Int) == (sv : Int)) = false := by rw [beq_eq_false_iff_ne]; omega
      have e2' : (v == sv) = false := by rw [beq_eq_false_iff_ne]; omega
      have e3 : decide ((v : Int) < (sv : Int)) = false := decide_eq_false (by omega)
      have e3' : decide (v < sv) = false := decide_eq_false (by omega)
      have en : (n == 1) = true := by rw [beq_iff_eq]; exact hn1
      have en' : (n != 1) = false := by simp [hn1]
      have hOe : O = true := by rw [← hO.out]; unfold stepOk; rw [if_pos rfl]; dsimp only; exact decide_eq_true (by omega)
      have hDe : D = ⟨v, v, log, su⟩ := by rw [← hD.out]; unfold stepD; rw [hO.out, hOe]; rw [if_pos rfl, if_pos rfl, if_pos hn1]
      subst hOe hDe
      clear hO hD
      replace hn1 := Lib.hid hn1
      replace hvs := Lib.hid hvs
      have hf0 := hs4.frozen 0
      have hc0 := hs4.st4
      have hs_0 : Blk ((w4).setCell ⟨z, 0, none⟩ (.int .u64 (v : Int))) z 61 #[.int .u64 (v : Int), .int .u64 (sl : Int), .slice L N cl, .int .i64 su] := hs4.set_ 0 (.int .u64 (v : Int))
      have hr_0 := hr4.far (p := ⟨z, 0, none⟩) (show y ≠ z by omega) (.int .u64 (v : Int))
      have hz_0 := hz4.far (p := ⟨z, 0, none⟩) (show q ≠ z by omega) (.int .u64 (v : Int))
      have hb_0 := hb4.setCell (p := ⟨z, 0, none⟩) hwz (.int .u64 (v : Int))
      have hrc0 := hr_0.rec9
      have hf1 := hs_0.frozen 1
      have hc1 := hs_0.st4
      have hs_1 : Blk (((w4).setCell ⟨z, 0, none⟩ (.int .u64 (v : Int))).setCell ⟨z, 1, none⟩ (.int .u64 (v : Int))) z 61 #[.int .u64 (v : Int), .int .u64 (v : Int), .slice L N cl, .int .i64 su] := hs_0.set_ 1 (.int .u64 (v : Int))
      have hr_1 := hr_0.far (p := ⟨z, 1, none⟩) (show y ≠ z by omega) (.int .u64 (v : Int))
      have hz_1 := hz_0.far (p := ⟨z, 1, none⟩) (show q ≠ z by omega) (.int .u64 (v : Int))
      have hb_1 := hb_0.setCell (p := ⟨z, 1, none⟩) hwz (.int .u64 (v : Int))
      have hrc1 := hr_1.rec9
      have hcL := hs_1.st4
      go_upto_region 9 with (fail)
      generalize ((w4).setCell ⟨z, 0, none⟩ (.int .u64 (v : Int))).setCell ⟨z, 1, none⟩ (.int .u64 (v : Int)) = w5 at *
      have hsc5 := hs_1.st4
      have hzr := hz_1.row #[.int .u64 (v : Int), .int .u64 (v : Int), .slice L N cl, .int .i64 su]
      have hbr := below_row hb_1 (g := q) hwq #[.int .u64 (v : Int), .int .u64 (v : Int), .slice L N cl, .int .i64 su]
      go_wp2_with (refine store_row_gen rfl 61 (Operand.tmp 4) _ rfl q #[.int .u64 (v : Int), .int .u64 (v : Int), .slice L N cl, .int .i64 su] (by simp [go_sem]) (by simp [go_sem]) 61 _ hz_1 (by kernel_rfl) rfl (by simp [Value.oneCell']) (fun w9 hw9 => ?_); rw [← hw9] at hzr hbr; clear hw9)
      refine bodyPost_ret (v := .tuple #[.agg #[.int .u64 (v : Int), .int .u64 (v : Int), .slice L N cl, .int .i64 su], .bool true]) (by exact results_ct rfl _ _ q 61 _ (0, 0) _ _ rfl rfl hzr Try.underlying61 rfl (by kernel_rfl)) rfl ?_
      refine ⟨L, cl, xs, css, ?_, hbr, fun _ _ _ _ h => h⟩
      dsimp only
      rw [hN.out]
    · skip
      have e1 : decide ((sv : Int) < (v : Int)) = true := decide_eq_true (by omega)
      have e1' : decide (sv < v) = true := decide_eq_true (by omega)
      have e2 : ((v : Int) == (sv : Int)) = false := by rw [beq_eq_false_iff_ne]; omega
      have e2' : (v == sv) = false := by rw [beq_eq_false_iff_ne]; omega
      have e3 : decide ((v : Int) < (sv : Int)) = false := decide_eq_false (by omega)
      have e3' : decide (v < sv) = false := decide_eq_false (by omega)
      have en : (n == 1) = false := by rw [beq_eq_false_iff_ne]; exact hn1
      have en' : (n != 1) = true := by simp [hn1]
      have hOe : O = true := by rw [← hO.out]; unfold stepOk; rw [if_pos rfl]; dsimp only; exact decide_eq_true (by omega)
      have hDe : D = ⟨v, sl, log, su⟩ := by rw [← hD.out]; unfold stepD; rw [hO.out, hOe]; rw [if_pos rfl, if_pos rfl, if_neg hn1]
      subst hOe hDe
      clear hO hD
      replace hn1 := Lib.hid hn1
      replace hvs := Lib.hid hvs
      have hf0 := hs4.frozen 0
      have hc0 := hs4.st4
      have hs_0 : Blk ((w4).setCell ⟨z, 0, none⟩ (.int .u64 (v : Int))) z 61 #[.int .u64 (v : Int), .int .u64 (sl : Int), .slice L N cl, .int .i64 su] := hs4.set_ 0 (.int .u64 (v : Int))
      have hr_0 := hr4.far (p := ⟨z, 0, none⟩) (show y ≠ z by omega) (.int .u64 (v : Int))
      have hz_0 := hz4.far (p := ⟨z, 0, none⟩) (show q ≠ z by omega) (.int .u64 (v : Int))
      have hb_0 := hb4.setCell (p := ⟨z, 0, none⟩) hwz (.int .u64 (v : Int))
      have hrc0 := hr_0.rec9
      have hcL := hs_0.st4
      go_upto_region 9 with (fail)
      generalize (w4).setCell ⟨z, 0, none⟩ (.int .u64 (v : Int)) = w5 at *
      have hsc5 := hs_0.st4
      have hzr := hz_0.row #[.int .u64 (v : Int), .int .u64 (sl : Int), .slice L N cl, .int .i64 su]
      have hbr := below_row hb_0 (g := q) hwq #[.int .u64 (v : Int), .int .u64 (sl : Int), .slice L N cl, .int .i64 su]
      go_wp2_with (refine store_row_gen rfl 61 (Operand.tmp 4) _ rfl q #[.int .u64 (v : Int), .int .u64 (sl : Int), .slice L N cl, .int .i64 su] (by simp [go_sem]) (by simp [go_sem]) 61 _ hz_0 (by kernel_rfl) rfl (by simp [Value.oneCell']) (fun w9 hw9 => ?_); rw [← hw9] at hzr hbr; clear hw9)
      refine bodyPost_ret (v := .tuple #[.agg #[.int .u64 (v : Int), .int .u64 (sl : Int), .slice L N cl, .int .i64 su], .bool true]) (by exact results_ct rfl _ _ q 61 _ (0, 0) _ _ rfl rfl hzr Try.underlying61 rfl (by kernel_rfl)) rfl ?_
      refine ⟨L, cl, xs, css, ?_, hbr, fun _ _ _ _ h => h⟩
      dsimp only
      rw [hN.out]
  by_cases hk2 : k = 2
  · subst hk2
    obtain ⟨pl, hpl⟩ : ∃ pl, lastV log = pl := ⟨_, rfl⟩
    have hS0 : Below w4.heap.size w4 w4.drew := (Below.refl _ _).drew
    have hlast : 0 < N → ∃ x, log[N - 1]? = some x ∧ pl = x.1 := fun h => by
      obtain ⟨x, h1, h2⟩ := lastV_get (l := log) (by rw [hN.out]; exact h)
      rw [hN.out] at h1
      exact ⟨x, h1, by rw [← hpl, h2]⟩
    have hpl0 : N = 0 → pl = 0 := fun h => by
      have : log = [] := List.eq_nil_of_length_eq_zero (by rw [hN.out]; exact h)
      rw [← hpl, this]
      rfl
    replace hlast := Lib.hid hlast
    replace hpl0 := Lib.hid hpl0
    replace hpl := Lib.hid hpl
    by_cases hv0 : v = 0
    · skip
      have e1 : decide ((0 : Int) < (v : Int)) = false := decide_eq_false (by omega)
      have e1' : decide (0 < v) = false := decide_eq_false (by omega)
      have e2 : ((v : Int) == 0) = true := by rw [beq_iff_eq]; omega
      have e2' : (v == 0) = true := by rw [beq_iff_eq]; omega
      have hOe : O = false := by rw [← hO.out]; unfold stepOk; rw [if_neg (show ¬ ((2 : Int) = 1) by decide), if_pos rfl]; dsimp only; rw [hpl.out, hN.out]; exact decide_eq_false (by omega)
      have hDe : D = ⟨sv, sl, log, su⟩ := by rw [← hD.out]; unfold stepD; rw [hO.out, hOe]; rw [if_neg (by decide)]
      subst hOe hDe
      clear hO hD
      replace hv0 := Lib.hid hv0
      go_wp2_with fail
      refine wp_region_lex (fun W => Below w4.heap.size w4 W) [1, 8, 10, 15] [] [0, 1, 2, 3, 4, 5, 6, 7, 8, 9, 10, 11, 12, 13, 14, 15, 16, 17, 18, 19, 20, 21, 22] (by kernel_rfl) rfl (by kernel_rfl) (by kernel_rfl) (fun _ _ d _ _ h => by cases d <;> exact h) ?_
      repeat (first | (refine lexG_take _ ?_ rfl rfl rfl rfl (fun _ => ?_) ?_; rotate_left; (focus (go_simp; with_reducible rfl)); try simp only [Act.put, List.setIfInBounds_toArray, List.set_cons_zero, List.set_cons_succ]) | (refine lexG_held _ ?_ rfl rfl rfl rfl (by assumption) (fun _ hSw => ?_) ?_; rotate_left; (focus (have h1 := (hr4.below hSw hr4.lt).rec9; have h2 := (hs4.below hSw hs4.lt).st4; clear hSw; go_simp; with_reducible rfl)); try simp only [Act.put, List.setIfInBounds_toArray, List.set_cons_zero, List.set_cons_succ]) | (refine lexG_skip _ rfl rfl (by assumption) ?_; try simp only [Act.put, List.setIfInBounds_toArray, List.set_cons_zero, List.set_cons_succ]))
      refine lexG_nil ?_
      clear hS0
      generalize hwd : w4.drew = wd at *
      have hs5 : Blk wd z 61 #[.int .u64 (sv : Int), .int .u64 (sl : Int), .slice L N cl, .int .i64 su] := by rw [← hwd]; exact hs4.drew
      have hr5 : Blk wd y 41 #[.int .i64 2, .int .u64 (v : Int), .int .i64 n, .int .u32 (c1 : Int), .int .u32 (s1 : Int), .int .u16 (n1 : Int), .string gg, .string mm, .slice A K cc] := by rw [← hwd]; exact hr4.drew
      have hz5 : Blk wd q 61 #[.int .u64 0, .int .u64 0, .slice none 0 0, .int .i64 0] := by rw [← hwd]; exact hz4.drew
      have hb5 : Below w.heap.size w wd := by rw [← hwd]; exact hb4.drew
      clear hwd hs4 hr4 hz4 hb4 hrc hsc
      have hsc := hs5.st4
      go_upto_region 12 with (fail)
      have hzr := hz5.row #[.int .u64 (sv : Int), .int .u64 (sl : Int), .slice L N cl, .int .i64 su]
      have hbr := below_row hb5 (g := q) hwq #[.int .u64 (sv : Int), .int .u64 (sl : Int), .slice L N cl, .int .i64 su]
      go_wp2_with (refine store_row_gen rfl 61 (Operand.tmp 4) _ rfl q #[.int .u64 (sv : Int), .int .u64 (sl : Int), .slice L N cl, .int .i64 su] (by simp [go_sem]) (by simp [go_sem]) 61 _ hz5 (by kernel_rfl) rfl (by simp [Value.oneCell']) (fun w9 hw9 => ?_); rw [← hw9] at hzr hbr; clear hw9)
      refine bodyPost_ret (v := .tuple #[.agg #[.int .u64 (sv : Int), .int .u64 (sl : Int), .slice L N cl, .int .i64 su], .bool false]) (by exact results_ct rfl _ _ q 61 _ (0, 0) _ _ rfl rfl hzr Try.underlying61 rfl (by kernel_rfl)) rfl ?_
      refine ⟨_, cl, xs, css, ?_, hbr, fun _ _ _ _ h => h⟩
      dsimp only
      rw [hN.out]
    by_cases hvl : v < pl
    · skip
      have e1 : decide ((0 : Int) < (v : Int)) = true := decide_eq_true (by omega)
      have e1' : decide (0 < v) = true := decide_eq_true (by omega)
      have e2 : ((v : Int) == 0) = false := by rw [beq_eq_false_iff_ne]; omega
      have e2' : (v == 0) = false := by rw [beq_eq_false_iff_ne]; omega
      have e3 : decide ((pl : Int) ≤ (v : Int)) = false := decide_eq_false (by omega)
      have e3' : decide (pl ≤ v) = false := decide_eq_false (by omega)
      have e4 : decide ((v : Int) < (pl : Int)) = true := decide_eq_true (by omega)
      have e4' : decide (v < pl) = true := decide_eq_true (by omega)
      have hOe : O = false := by rw [← hO.out]; unfold stepOk; rw [if_neg (show ¬ ((2 : Int) = 1) by decide), if_pos rfl]; dsimp only; rw [hpl.out, hN.out]; exact decide_eq_false (by omega)
      have hDe : D = ⟨sv, sl, log, su⟩ := by rw [← hD.out]; unfold stepD; rw [hO.out, hOe]; rw [if_neg (by decide)]
      subst hOe hDe
      clear hO hD
      by_cases hN0 : N = 0
      · have hp0 := hpl0.out hN0
        have eN : decide ((0 : Int) < (N : Int)) = false := decide_eq_false (by omega)
        have eN' : decide (0 < N) = false := decide_eq_false (by omega)
        exfalso; omega
      · have eN : decide ((0 : Int) < (N : Int)) = true := decide_eq_true (by omega)
        have eN' : decide (0 < N) = true := decide_eq_true (by omega)
        obtain ⟨x, hx, rfl⟩ := hlast.out (by omega)
        obtain ⟨ad, rfl, hadb, hcell⟩ := hlog0.out.cell hx
        obtain ⟨m', hm'⟩ : ∃ m', N - 1 = m' := ⟨_, rfl⟩
        rw [hm'] at hcell
        have hc0 := hcell 0 _ rfl
        rw [Nat.add_zero] at hc0
        have hcW : ∀ W, Below w4.heap.size w4 W → W.cell? (ad.add (m' * 7)) = some (.int .u64 (x.1 : Int)) := fun W hW => by
          have hbb := (below_then hW hb4).mono hB
          rw [hbb.cell (p := ad.add (m' * 7)) (by rw [block_of_add]; exact hadb)]
          exact hc0
        have hw1 : IntKind.i64.wrap ((N : Int) - 1) = (m' : Int) := by
          rw [show (N : Int) - 1 = (m' : Int) by omega]; exact w64_id _ (by omega) (by omega)
        have hmn : m' < N := by omega
        have hN1 : (1 : Int) ≤ (N : Int) := by omega
        generalize x.1 = pl at *
        replace hm' := Lib.hid hm'
        replace hcW := Lib.hid hcW
        clear hcell hc0 hx
        go_wp2_with fail
        refine wp_region_lex (fun W => Below w4.heap.size w4 W) [1, 8, 10, 15] [] [0, 1, 2, 3, 4, 5, 6, 7, 8, 9, 10, 11, 12, 13, 14, 15, 16, 17, 18, 19, 20, 21, 22] (by kernel_rfl) rfl (by kernel_rfl) (by kernel_rfl) (fun _ _ d _ _ h => by cases d <;> exact h) ?_
        repeat (first | (refine lexG_take _ ?_ rfl rfl rfl rfl (fun _ => ?_) ?_; rotate_left; (focus (go_simp; with_reducible rfl)); try simp only [Act.put, List.setIfInBounds_toArray, List.set_cons_zero, List.set_cons_succ]) | (refine lexG_held _ ?_ rfl rfl rfl rfl (by assumption) (fun _ hSw => ?_) ?_; rotate_left; (focus (have h1 := (hr4.below hSw hr4.lt).rec9; have h2 := (hs4.below hSw hs4.lt).st4; have h3 := hcW.out _ hSw; clear hSw; go_simp; with_reducible rfl)); try simp only [Act.put, List.setIfInBounds_toArray, List.set_cons_zero, List.set_cons_succ]) | (refine lexG_skip _ rfl rfl (by assumption) ?_; try simp only [Act.put, List.setIfInBounds_toArray, List.set_cons_zero, List.set_cons_succ]))
        refine lexG_nil ?_
        clear hS0
        generalize hwd : w4.drew = wd at *
        have hs5 : Blk wd z 61 #[.int .u64 (sv : Int), .int .u64 (sl : Int), .slice (some ad) N cl, .int .i64 su] := by rw [← hwd]; exact hs4.drew
        have hr5 : Blk wd y 41 #[.int .i64 2, .int .u64 (v : Int), .int .i64 n, .int .u32 (c1 : Int), .int .u32 (s1 : Int), .int .u16 (n1 : Int), .string gg, .string mm, .slice A K cc] := by rw [← hwd]; exact hr4.drew
        have hz5 : Blk wd q 61 #[.int .u64 0, .int .u64 0, .slice none 0 0, .int .i64 0] := by rw [← hwd]; exact hz4.drew
        have hb5 : Below w.heap.size w wd := by rw [← hwd]; exact hb4.drew
        clear hwd hs4 hr4 hz4 hb4 hrc hsc
        have hsc := hs5.st4
        go_upto_region 12 with (fail)
        have hzr := hz5.row #[.int .u64 (sv : Int), .int .u64 (sl : Int), .slice (some ad) N cl, .int .i64 su]
        have hbr := below_row hb5 (g := q) hwq #[.int .u64 (sv : Int), .int .u64 (sl : Int), .slice (some ad) N cl, .int .i64 su]
        go_wp2_with (refine store_row_gen rfl 61 (Operand.tmp 4) _ rfl q #[.int .u64 (sv : Int), .int .u64 (sl : Int), .slice (some ad) N cl, .int .i64 su] (by simp [go_sem]) (by simp [go_sem]) 61 _ hz5 (by kernel_rfl) rfl (by simp [Value.oneCell']) (fun w9 hw9 => ?_); rw [← hw9] at hzr hbr; clear hw9)
        refine bodyPost_ret (v := .tuple #[.agg #[.int .u64 (sv : Int), .int .u64 (sl : Int), .slice (some ad) N cl, .int .i64 su], .bool false]) (by exact results_ct rfl _ _ q 61 _ (0, 0) _ _ rfl rfl hzr Try.underlying61 rfl (by kernel_rfl)) rfl ?_
        refine ⟨_, cl, xs, css, ?_, hbr, fun _ _ _ _ h => h⟩
        dsimp only
        rw [hN.out]
    by_cases hful : 400 ≤ N
    · skip
      have e1 : decide ((0 : Int) < (v : Int)) = true := decide_eq_true (by omega)
      have e1' : decide (0 < v) = true := decide_eq_true (by omega)
      have e2 : ((v : Int) == 0) = false := by rw [beq_eq_false_iff_ne]; omega
      have e2' : (v == 0) = false := by rw [beq_eq_false_iff_ne]; omega
      have e3 : decide ((pl : Int) ≤ (v : Int)) = true := decide_eq_true (by omega)
      have e3' : decide (pl ≤ v) = true := decide_eq_true (by omega)
      have e4 : decide ((v : Int) < (pl : Int)) = false := decide_eq_false (by omega)
      have e4' : decide (v < pl) = false := decide_eq_false (by omega)
      have e5 : decide ((N : Int) < 400) = false := decide_eq_false (by omega)
      have e5' : decide (N < 400) = false := decide_eq_false (by omega)
      have e6 : decide ((400 : Int) ≤ (N : Int)) = true := decide_eq_true (by omega)
      have hOe : O = false := by rw [← hO.out]; unfold stepOk; rw [if_neg (show ¬ ((2 : Int) = 1) by decide), if_pos rfl]; dsimp only; rw [hpl.out, hN.out]; exact decide_eq_false (by omega)
      have hDe : D = ⟨sv, sl, log, su⟩ := by rw [← hD.out]; unfold stepD; rw [hO.out, hOe]; rw [if_neg (by decide)]
      subst hOe hDe
      clear hO hD
      by_cases hN0 : N = 0
      · have hp0 := hpl0.out hN0
        have eN : decide ((0 : Int) < (N : Int)) = false := decide_eq_false (by omega)
        have eN' : decide (0 < N) = false := decide_eq_false (by omega)
        exfalso; omega
      · have eN : decide ((0 : Int) < (N : Int)) = true := decide_eq_true (by omega)
        have eN' : decide (0 < N) = true := decide_eq_true (by omega)
        obtain ⟨x, hx, rfl⟩ := hlast.out (by omega)
        obtain ⟨ad, rfl, hadb, hcell⟩ := hlog0.out.cell hx
        obtain ⟨m', hm'⟩ : ∃ m', N - 1 = m' := ⟨_, rfl⟩
        rw [hm'] at hcell
        have hc0 := hcell 0 _ rfl
        rw [Nat.add_zero] at hc0
        have hcW : ∀ W, Below w4.heap.size w4 W → W.cell? (ad.add (m' * 7)) = some (.int .u64 (x.1 : Int)) := fun W hW => by
          have hbb := (below_then hW hb4).mono hB
          rw [hbb.cell (p := ad.add (m' * 7)) (by rw [block_of_add]; exact hadb)]
          exact hc0
        have hw1 : IntKind.i64.wrap ((N : Int) - 1) = (m' : Int) := by
          rw [show (N : Int) - 1 = (m' : Int) by omega]; exact w64_id _ (by omega) (by omega)
        have hmn : m' < N := by omega
        have hN1 : (1 : Int) ≤ (N : Int) := by omega
        generalize x.1 = pl at *
        replace hm' := Lib.hid hm'
        replace hcW := Lib.hid hcW
        clear hcell hc0 hx
        go_wp2_with fail
        refine wp_region_lex (fun W => Below w4.heap.size w4 W) [1, 8, 10, 15] [] [0, 1, 2, 3, 4, 5, 6, 7, 8, 9, 10, 11, 12, 13, 14, 15, 16, 17, 18, 19, 20, 21, 22] (by kernel_rfl) rfl (by kernel_rfl) (by kernel_rfl) (fun _ _ d _ _ h => by cases d <;> exact h) ?_
        repeat (first | (refine lexG_take _ ?_ rfl rfl rfl rfl (fun _ => ?_) ?_; rotate_left; (focus (go_simp; with_reducible rfl)); try simp only [Act.put, List.setIfInBounds_toArray, List.set_cons_zero, List.set_cons_succ]) | (refine lexG_held _ ?_ rfl rfl rfl rfl (by assumption) (fun _ hSw => ?_) ?_; rotate_left; (focus (have h1 := (hr4.below hSw hr4.lt).rec9; have h2 := (hs4.below hSw hs4.lt).st4; have h3 := hcW.out _ hSw; clear hSw; go_simp; with_reducible rfl)); try simp only [Act.put, List.setIfInBounds_toArray, List.set_cons_zero, List.set_cons_succ]) | (refine lexG_skip _ rfl rfl (by assumption) ?_; try simp only [Act.put, List.setIfInBounds_toArray, List.set_cons_zero, List.set_cons_succ]))
        refine lexG_nil ?_
        clear hS0
        generalize hwd : w4.drew = wd at *
        have hs5 : Blk wd z 61 #[.int .u64 (sv : Int), .int .u64 (sl : Int), .slice (some ad) N cl, .int .i64 su] := by rw [← hwd]; exact hs4.drew
        have hr5 : Blk wd y 41 #[.int .i64 2, .int .u64 (v : Int), .int .i64 n, .int .u32 (c1 : Int), .int .u32 (s1 : Int), .int .u16 (n1 : Int), .string gg, .string mm, .slice A K cc] := by rw [← hwd]; exact hr4.drew
        have hz5 : Blk wd q 61 #[.int .u64 0, .int .u64 0, .slice none 0 0, .int .i64 0] := by rw [← hwd]; exact hz4.drew
        have hb5 : Below w.heap.size w wd := by rw [← hwd]; exact hb4.drew
        clear hwd hs4 hr4 hz4 hb4 hrc hsc
        have hsc := hs5.st4
        go_upto_region 12 with (fail)
        have hzr := hz5.row #[.int .u64 (sv : Int), .int .u64 (sl : Int), .slice (some ad) N cl, .int .i64 su]
        have hbr := below_row hb5 (g := q) hwq #[.int .u64 (sv : Int), .int .u64 (sl : Int), .slice (some ad) N cl, .int .i64 su]
        go_wp2_with (refine store_row_gen rfl 61 (Operand.tmp 4) _ rfl q #[.int .u64 (sv : Int), .int .u64 (sl : Int), .slice (some ad) N cl, .int .i64 su] (by simp [go_sem]) (by simp [go_sem]) 61 _ hz5 (by kernel_rfl) rfl (by simp [Value.oneCell']) (fun w9 hw9 => ?_); rw [← hw9] at hzr hbr; clear hw9)
        refine bodyPost_ret (v := .tuple #[.agg #[.int .u64 (sv : Int), .int .u64 (sl : Int), .slice (some ad) N cl, .int .i64 su], .bool false]) (by exact results_ct rfl _ _ q 61 _ (0, 0) _ _ rfl rfl hzr Try.underlying61 rfl (by kernel_rfl)) rfl ?_
        refine ⟨_, cl, xs, css, ?_, hbr, fun _ _ _ _ h => h⟩
        dsimp only
        rw [hN.out]
    skip
    have e1 : decide ((0 : Int) < (v : Int)) = true := decide_eq_true (by omega)
    have e1' : decide (0 < v) = true := decide_eq_true (by omega)
    have e2 : ((v : Int) == 0) = false := by rw [beq_eq_false_iff_ne]; omega
    have e2' : (v == 0) = false := by rw [beq_eq_false_iff_ne]; omega
    have e3 : decide ((pl : Int) ≤ (v : Int)) = true := decide_eq_true (by omega)
    have e3' : decide (pl ≤ v) = true := decide_eq_true (by omega)
    have e4 : decide ((v : Int) < (pl : Int)) = false := decide_eq_false (by omega)
    have e4' : decide (v < pl) = false := decide_eq_false (by omega)
    have e5 : decide ((N : Int) < 400) = true := decide_eq_true (by omega)
    have e5' : decide (N < 400) = true := decide_eq_true (by omega)
    have e6 : decide ((400 : Int) ≤ (N : Int)) = false := decide_eq_false (by omega)
    have hOe : O = true := by rw [← hO.out]; unfold stepOk; rw [if_neg (show ¬ ((2 : Int) = 1) by decide), if_pos rfl]; dsimp only; rw [hpl.out, hN.out]; exact decide_eq_true (by omega)
    have hDe : D = ⟨sv, sl, log ++ [(v, ⟨c1, s1, n1, g, m, l.map cleanV⟩)], su⟩ := by rw [← hD.out]; unfold stepD; rw [hO.out, hOe]; rw [if_pos rfl, if_neg (show ¬ ((2 : Int) = 1) by decide), if_pos rfl]; rfl
    subst hOe hDe
    clear hO hD
    by_cases hN0 : N = 0
    · have hp0 := hpl0.out hN0
      have eN : decide ((0 : Int) < (N : Int)) = false := decide_eq_false (by omega)
      have eN' : decide (0 < N) = false := decide_eq_false (by omega)
      replace hN0 := Lib.hid hN0
      replace hp0 := Lib.hid hp0
      go_wp2_with fail
      refine wp_region_lex (fun W => Below w4.heap.size w4 W) [1, 8, 10, 15] [] [0, 1, 2, 3, 4, 5, 6, 7, 8, 9, 10, 11, 12, 13, 14, 15, 16, 17, 18, 19, 20, 21, 22] (by kernel_rfl) rfl (by kernel_rfl) (by kernel_rfl) (fun _ _ d _ _ h => by cases d <;> exact h) ?_
      repeat (first | (refine lexG_take _ ?_ rfl rfl rfl rfl (fun _ => ?_) ?_; rotate_left; (focus (go_simp; with_reducible rfl)); try simp only [Act.put, List.setIfInBounds_toArray, List.set_cons_zero, List.set_cons_succ]) | (refine lexG_held _ ?_ rfl rfl rfl rfl (by assumption) (fun _ hSw => ?_) ?_; rotate_left; (focus (have h1 := (hr4.below hSw hr4.lt).rec9; have h2 := (hs4.below hSw hs4.lt).st4; clear hSw; go_simp; with_reducible rfl)); try simp only [Act.put, List.setIfInBounds_toArray, List.set_cons_zero, List.set_cons_succ]) | (refine lexG_skip _ rfl rfl (by assumption) ?_; try simp only [Act.put, List.setIfInBounds_toArray, List.set_cons_zero, List.set_cons_succ]))
      refine lexG_nil ?_
      clear hS0
      generalize hwd : w4.drew = wd at *
      have hs5 : Blk wd z 61 #[.int .u64 (sv : Int), .int .u64 (sl : Int), .slice L N cl, .int .i64 su] := by rw [← hwd]; exact hs4.drew
      have hr5 : Blk wd y 41 #[.int .i64 2, .int .u64 (v : Int), .int .i64 n, .int .u32 (c1 : Int), .int .u32 (s1 : Int), .int .u16 (n1 : Int), .string gg, .string mm, .slice A K cc] := by rw [← hwd]; exact hr4.drew
      have hz5 : Blk wd q 61 #[.int .u64 0, .int .u64 0, .slice none 0 0, .int .i64 0] := by rw [← hwd]; exact hz4.drew
      have hb5 : Below w.heap.size w wd := by rw [← hwd]; exact hb4.drew
      clear hwd hs4 hr4 hz4 hb4 hrc hsc
      have hzl := hs5.lt
      have hql := hz5.lt
      have hS0 : Below wd.heap.size wd wd.drew := (Below.refl _ _).drew
      go_wp2_with fail
      refine wp_region_lex (fun W => Below wd.heap.size wd W) [1, 6, 8] [9, 11, 12, 14] [0, 1, 2, 3, 4, 5, 6, 7, 8, 9, 10, 11, 12, 13, 14] (by kernel_rfl) rfl (by kernel_rfl) (by kernel_rfl) (fun _ _ d _ _ h => by cases d <;> exact h) ?_
      repeat (first | (refine lexG_take _ ?_ rfl rfl rfl rfl (fun _ => ?_) ?_; rotate_left; (focus (go_simp; with_reducible rfl)); try simp only [Act.put, List.setIfInBounds_toArray, List.set_cons_zero, List.set_cons_succ]) | (refine lexG_held _ ?_ rfl rfl rfl rfl (by assumption) (fun _ hSw => ?_) ?_; rotate_left; (focus (have h1 := (hr5.below hSw hr5.lt).rec9; have h2 := (hs5.below hSw hs5.lt).st4; clear hSw; go_simp; with_reducible rfl)); try simp only [Act.put, List.setIfInBounds_toArray, List.set_cons_zero, List.set_cons_succ]) | (refine lexG_skip _ rfl rfl (by assumption) ?_; try simp only [Act.put, List.setIfInBounds_toArray, List.set_cons_zero, List.set_cons_succ]))
      refine lexG_now _ rfl rfl rfl (fun K0 hK => ?_)
      have hp := clean_refV (hbs.out wd.drew (below_then hS0 hb5)) (Nat.le_trans hB (below_then hS0 hb5).size)
      go_wp2_with fail
      refine hp.mono ?_
      clear hp
      rintro e w6 ⟨A6, c6, xs6, css6, rfl, R6, hb6⟩
      dsimp only
      have hS6 := below_then hb6 hS0
      refine hK _ _ _ (fun _ h => h) hS6 ?_
      clear hK K0
      try simp only [Act.put, List.setIfInBounds_toArray, List.set_cons_zero, List.set_cons_succ]
      repeat (first | (refine lexG_take _ ?_ rfl rfl rfl rfl (fun _ => ?_) ?_; rotate_left; (focus (go_simp; with_reducible rfl)); try simp only [Act.put, List.setIfInBounds_toArray, List.set_cons_zero, List.set_cons_succ]) | (refine lexG_held _ ?_ rfl rfl rfl rfl (by assumption) (fun _ hSw => ?_) ?_; rotate_left; (focus (have h1 := (hr5.below hSw hr5.lt).rec9; have h2 := (hs5.below hSw hs5.lt).st4; clear hSw; go_simp; with_reducible rfl)); try simp only [Act.put, List.setIfInBounds_toArray, List.set_cons_zero, List.set_cons_succ]) | (refine lexG_skip _ rfl rfl (by assumption) ?_; try simp only [Act.put, List.setIfInBounds_toArray, List.set_cons_zero, List.set_cons_succ]))
      have hS7 := hS6.alloc hS6.size (.cells #[.int .u64 (v : Int), .int .u32 (c1 : Int), .int .u32 (s1 : Int), .int .u16 (n1 : Int), .string gg, .string mm, .slice A6 K c6] 73)
      have hsrc := Reads.lit (size := 7) w6 #[.int .u64 (v : Int), .int .u32 (c1 : Int), .int .u32 (s1 : Int), .int .u16 (n1 : Int), .string gg, .string mm, .slice A6 K c6] 73 (0, 0) 1 [.int .u64 (v : Int), .int .u32 (c1 : Int), .int .u32 (s1 : Int), .int .u16 (n1 : Int), .string gg, .string mm, .slice A6 K c6] rfl rfl
      have R7 := R6.upd ((Upd.refl (fun x => x = z ∨ x = q) w6).alloc (.cells #[.int .u64 (v : Int), .int .u32 (c1 : Int), .int .u32 (s1 : Int), .int .u16 (n1 : Int), .string gg, .string mm, .slice A6 K c6] 73)) (fun g hg e => by have hg' : wd.heap.size ≤ g := hg; omega)
      refine lexG_now _ rfl rfl rfl (fun K0 hK => ?_)
      go_wp2_with fail
      generalize hw7 : w6.alloc (.cells #[.int .u64 (v : Int), .int .u32 (c1 : Int), .int .u32 (s1 : Int), .int .u16 (n1 : Int), .string gg, .string mm, .slice A6 K c6] 73) = w7 at *
      have hw7s : w7.heap.size = w6.heap.size + 1 := by rw [← hw7]; simp
      refine hK _ _ _ (fun _ h => h) hS7 ?_
      clear hK K0
      try simp only [Act.put, List.setIfInBounds_toArray, List.set_cons_zero, List.set_cons_succ]
      repeat (first | (refine lexG_take _ ?_ rfl rfl rfl rfl (fun _ => ?_) ?_; rotate_left; (focus (go_simp; with_reducible rfl)); try simp only [Act.put, List.setIfInBounds_toArray, List.set_cons_zero, List.set_cons_succ]) | (refine lexG_held _ ?_ rfl rfl rfl rfl (by assumption) (fun _ hSw => ?_) ?_; rotate_left; (focus (have h1 := (hr5.below hSw hr5.lt).rec9; have h2 := (hs5.below hSw hs5.lt).st4; clear hSw; go_simp; with_reducible rfl)); try simp only [Act.put, List.setIfInBounds_toArray, List.set_cons_zero, List.set_cons_succ]) | (refine lexG_skip _ rfl rfl (by assumption) ?_; try simp only [Act.put, List.setIfInBounds_toArray, List.set_cons_zero, List.set_cons_succ]))
      have hlw := (hlog0.out.below ((below_then hS7 hb5).mono hB)).r
      rw [hN.out] at hlw
      obtain ⟨i0, hi, hz0, hz1, hz2⟩ := info_parts info_ent
      refine lexG_now _ rfl rfl rfl (fun K0 hK => ?_)
      refine wp_append_grows _ _ 56 56 rfl 73 i0 _ 7 80 Try.underlying56 hi hz0 hz1 hz2 rfl rfl (Grows.full hlw (Nat.le_trans hB (below_then hS7 hb5).size) (Nat.le_refl _)) rfl (Src.ofReads Try.underlying56 _ hsrc (by intro u hu; simp at hu; rcases hu with rfl | rfl | rfl | rfl | rfl | rfl | rfl <;> rfl)) (by decide) (by unfold maxLen; omega) (by omega) (fun A8 c8 w8 ho8 hg8 hat8 => ?_)
      have hb78 : Below w7.heap.size w7 w8 := (Below.refl _ _).grown hg8 (Nat.le_refl _) (fun k hk => by cases hk)
      have hS8 := below_then hb78 hS7
      have hb8 := below_then hS8 hb5
      have hs67 := hb6.size
      have hsd := hS0.size
      have hA8 : bOf A8 = some w7.heap.size := by
        rcases hat8 with h | h
        · exfalso
          rcases ho8.2 with ⟨_, h0, _⟩ | ⟨g, cur, hA, _⟩
          · omega
          · rw [hA] at h; cases h
        · exact h
      refine hK _ _ _ (fun _ h => h) hS8 ?_
      clear hK K0
      try simp only [Act.put, List.setIfInBounds_toArray, List.set_cons_zero, List.set_cons_succ]
      repeat (first | (refine lexG_take _ ?_ rfl rfl rfl rfl (fun _ => ?_) ?_; rotate_left; (focus (go_simp; with_reducible rfl)); try simp only [Act.put, List.setIfInBounds_toArray, List.set_cons_zero, List.set_cons_succ]) | (refine lexG_held _ ?_ rfl rfl rfl rfl (by assumption) (fun _ hSw => ?_) ?_; rotate_left; (focus (have h1 := (hr5.below hSw hr5.lt).rec9; have h2 := (hs5.below hSw hs5.lt).st4; clear hSw; go_simp; with_reducible rfl)); try simp only [Act.put, List.setIfInBounds_toArray, List.set_cons_zero, List.set_cons_succ]) | (refine lexG_skip _ rfl rfl (by assumption) ?_; try simp only [Act.put, List.setIfInBounds_toArray, List.set_cons_zero, List.set_cons_succ]))
      have hz8 := (hz5.below hS8 hz5.lt).far (p := ⟨z, 2, none⟩) (show q ≠ z by omega) (.slice A8 (N + 1) c8)
      have hs8' := hs5.below hS8 hs5.lt
      have hf0 := hs8'.frozen 2
      have hc0 := hs8'.st4
      have hs9 : Blk (w8.setCell ⟨z, 2, none⟩ (.slice A8 (N + 1) c8)) z 61 #[.int .u64 (sv : Int), .int .u64 (sl : Int), .slice A8 (N + 1) c8, .int .i64 su] := hs8'.set_ 2 (.slice A8 (N + 1) c8)
      have hb9 := hb8.setCell (p := ⟨z, 2, none⟩) hwz (.slice A8 (N + 1) c8)
      have hO9 := ho8.upd ((Upd.refl (fun x => x = z ∨ x = q) w8).setCell (p := ⟨z, 2, none⟩) (fun _ => .inl rfl) (.slice A8 (N + 1) c8)) (fun g hg e => by rw [hA8] at hg; cases hg; omega)
      have R8 := (R7.upd (Upd.of_below_size hb78) (fun g hg e => by have hg' : wd.heap.size ≤ g := hg; omega)).upd ((Upd.refl (fun x => x = z ∨ x = q) w8).setCell (p := ⟨z, 2, none⟩) (fun _ => .inl rfl) (.slice A8 (N + 1) c8)) (fun g hg e => by have hg' : wd.heap.size ≤ g := hg; omega)
      refine lexG_nowF _ rfl rfl rfl (by kernel_rfl) (fun K0 hK => ?_)
      go_simp
      generalize w8.setCell ⟨z, 2, none⟩ (.slice A8 (N + 1) c8) = w9 at *
      refine hK _ _ ?_
      clear hK K0
      refine lexG_nil ?_
      have hco := hs9.st4
      clear hf0 hc0 hlw hsrc
      go_upto_region 14 with (fail)
      have hOr := hO9.upd ((Upd.refl (fun x => x = z ∨ x = q) w9).setRow (g := q) (fun _ => .inr rfl) #[.int .u64 (sv : Int), .int .u64 (sl : Int), .slice A8 (N + 1) c8, .int .i64 su]) (fun g hg e => by rw [hA8] at hg; cases hg; omega)
      have Rr := R8.upd ((Upd.refl (fun x => x = z ∨ x = q) w9).setRow (g := q) (fun _ => .inr rfl) #[.int .u64 (sv : Int), .int .u64 (sl : Int), .slice A8 (N + 1) c8, .int .i64 su]) (fun g hg e => by have hg' : wd.heap.size ≤ g := hg; omega)
      have hzr := hz8.row #[.int .u64 (sv : Int), .int .u64 (sl : Int), .slice A8 (N + 1) c8, .int .i64 su]
      have hbr := below_row hb9 (g := q) hwq #[.int .u64 (sv : Int), .int .u64 (sl : Int), .slice A8 (N + 1) c8, .int .i64 su]
      go_wp2_with (refine store_row_gen rfl 61 (Operand.tmp 4) _ rfl q #[.int .u64 (sv : Int), .int .u64 (sl : Int), .slice A8 (N + 1) c8, .int .i64 su] (by simp [go_sem]) (by simp [go_sem]) 61 _ hz8 (by kernel_rfl) rfl (by simp [Value.oneCell']) (fun w9 hw9 => ?_); rw [← hw9] at hzr hbr hOr Rr; clear hw9)
      refine bodyPost_ret (v := .tuple #[.agg #[.int .u64 (sv : Int), .int .u64 (sl : Int), .slice A8 (N + 1) c8, .int .i64 su], .bool true]) (by exact results_ct rfl _ _ q 61 _ (0, 0) _ _ rfl rfl hzr Try.underlying61 rfl (by kernel_rfl)) rfl ?_
      refine ⟨A8, c8, _, _, ?_, hbr, fun S W hu hSu h => h.push (o := ⟨c1, s1, n1, g, m, l.map cleanV⟩) (Below.refl _ _) (Nat.le_refl _) (by rw [hN.out]; exact hOr.upd hu (fun g hg e => by rw [hA8] at hg; cases hg; have := hSu _ e; have := hb5.size; omega)) (op_of_clean hop0.out (Rr.upd hu (fun g hg e => by have hg' : wd.heap.size ≤ g := hg; have := hSu g e; have := hb5.size; omega))) hv⟩
      dsimp only
      rw [List.length_append, hN.out]
      rfl
    · have eN : decide ((0 : Int) < (N : Int)) = true := decide_eq_true (by omega)
      have eN' : decide (0 < N) = true := decide_eq_true (by omega)
      obtain ⟨x, hx, rfl⟩ := hlast.out (by omega)
      obtain ⟨ad, rfl, hadb, hcell⟩ := hlog0.out.cell hx
      obtain ⟨m', hm'⟩ : ∃ m', N - 1 = m' := ⟨_, rfl⟩
      rw [hm'] at hcell
      have hc0 := hcell 0 _ rfl
      rw [Nat.add_zero] at hc0
      have hcW : ∀ W, Below w4.heap.size w4 W → W.cell? (ad.add (m' * 7)) = some (.int .u64 (x.1 : Int)) := fun W hW => by
        have hbb := (below_then hW hb4).mono hB
        rw [hbb.cell (p := ad.add (m' * 7)) (by rw [block_of_add]; exact hadb)]
        exact hc0
      have hw1 : IntKind.i64.wrap ((N : Int) - 1) = (m' : Int) := by
        rw [show (N : Int) - 1 = (m' : Int) by omega]; exact w64_id _ (by omega) (by omega)
      have hmn : m' < N := by omega
      have hN1 : (1 : Int) ≤ (N : Int) := by omega
      generalize x.1 = pl at *
      replace hm' := Lib.hid hm'
      replace hcW := Lib.hid hcW
      clear hcell hc0 hx
      go_wp2_with fail
      refine wp_region_lex (fun W => Below w4.heap.size w4 W) [1, 8, 10, 15] [] [0, 1, 2, 3, 4, 5, 6, 7, 8, 9, 10, 11, 12, 13, 14, 15, 16, 17, 18, 19, 20, 21, 22] (by kernel_rfl) rfl (by kernel_rfl) (by kernel_rfl) (fun _ _ d _ _ h => by cases d <;> exact h) ?_
      repeat (first | (refine lexG_take _ ?_ rfl rfl rfl rfl (fun _ => ?_) ?_; rotate_left; (focus (go_simp; with_reducible rfl)); try simp only [Act.put, List.setIfInBounds_toArray, List.set_cons_zero, List.set_cons_succ]) | (refine lexG_held _ ?_ rfl rfl rfl rfl (by assumption) (fun _ hSw => ?_) ?_; rotate_left; (focus (have h1 := (hr4.below hSw hr4.lt).rec9; have h2 := (hs4.below hSw hs4.lt).st4; have h3 := hcW.out _ hSw; clear hSw; go_simp; with_reducible rfl)); try simp only [Act.put, List.setIfInBounds_toArray, List.set_cons_zero, List.set_cons_succ]) | (refine lexG_skip _ rfl rfl (by assumption) ?_; try simp only [Act.put, List.setIfInBounds_toArray, List.set_cons_zero, List.set_cons_succ]))
      refine lexG_nil ?_
      clear hS0
      generalize hwd : w4.drew = wd at *
      have hs5 : Blk wd z 61 #[.int .u64 (sv : Int), .int .u64 (sl : Int), .slice (some ad) N cl, .int .i64 su] := by rw [← hwd]; exact hs4.drew
      have hr5 : Blk wd y 41 #[.int .i64 2, .int .u64 (v : Int), .int .i64 n, .int .u32 (c1 : Int), .int .u32 (s1 : Int), .int .u16 (n1 : Int), .string gg, .string mm, .slice A K cc] := by rw [← hwd]; exact hr4.drew
      have hz5 : Blk wd q 61 #[.int .u64 0, .int .u64 0, .slice none 0 0, .int .i64 0] := by rw [← hwd]; exact hz4.drew
      have hb5 : Below w.heap.size w wd := by rw [← hwd]; exact hb4.drew
      clear hwd hs4 hr4 hz4 hb4 hrc hsc
      have hzl := hs5.lt
      have hql := hz5.lt
      have hS0 : Below wd.heap.size wd wd.drew := (Below.refl _ _).drew
      go_wp2_with fail
      refine wp_region_lex (fun W => Below wd.heap.size wd W) [1, 6, 8] [9, 11, 12, 14] [0, 1, 2, 3, 4, 5, 6, 7, 8, 9, 10, 11, 12, 13, 14] (by kernel_rfl) rfl (by kernel_rfl) (by kernel_rfl) (fun _ _ d _ _ h => by cases d <;> exact h) ?_
      repeat (first | (refine lexG_take _ ?_ rfl rfl rfl rfl (fun _ => ?_) ?_; rotate_left; (focus (go_simp; with_reducible rfl)); try simp only [Act.put, List.setIfInBounds_toArray, List.set_cons_zero, List.set_cons_succ]) | (refine lexG_held _ ?_ rfl rfl rfl rfl (by assumption) (fun _ hSw => ?_) ?_; rotate_left; (focus (have h1 := (hr5.below hSw hr5.lt).rec9; have h2 := (hs5.below hSw hs5.lt).st4; clear hSw; go_simp; with_reducible rfl)); try simp only [Act.put, List.setIfInBounds_toArray, List.set_cons_zero, List.set_cons_succ]) | (refine lexG_skip _ rfl rfl (by assumption) ?_; try simp only [Act.put, List.setIfInBounds_toArray, List.set_cons_zero, List.set_cons_succ]))
      refine lexG_now _ rfl rfl rfl (fun K0 hK => ?_)
      have hp := clean_refV (hbs.out wd.drew (below_then hS0 hb5)) (Nat.le_trans hB (below_then hS0 hb5).size)
      go_wp2_with fail
      refine hp.mono ?_
      clear hp
      rintro e w6 ⟨A6, c6, xs6, css6, rfl, R6, hb6⟩
      dsimp only
      have hS6 := below_then hb6 hS0
      refine hK _ _ _ (fun _ h => h) hS6 ?_
      clear hK K0
      try simp only [Act.put, List.setIfInBounds_toArray, List.set_cons_zero, List.set_cons_succ]
      repeat (first | (refine lexG_take _ ?_ rfl rfl rfl rfl (fun _ => ?_) ?_; rotate_left; (focus (go_simp; with_reducible rfl)); try simp only [Act.put, List.setIfInBounds_toArray, List.set_cons_zero, List.set_cons_succ]) | (refine lexG_held _ ?_ rfl rfl rfl rfl (by assumption) (fun _ hSw => ?_) ?_; rotate_left; (focus (have h1 := (hr5.below hSw hr5.lt).rec9; have h2 := (hs5.below hSw hs5.lt).st4; clear hSw; go_simp; with_reducible rfl)); try simp only [Act.put, List.setIfInBounds_toArray, List.set_cons_zero, List.set_cons_succ]) | (refine lexG_skip _ rfl rfl (by assumption) ?_; try simp only [Act.put, List.setIfInBounds_toArray, List.set_cons_zero, List.set_cons_succ]))
      have hS7 := hS6.alloc hS6.size (.cells #[.int .u64 (v : Int), .int .u32 (c1 : Int), .int .u32 (s1 : Int), .int .u16 (n1 : Int), .string gg, .string mm, .slice A6 K c6] 73)
      have hsrc := Reads.lit (size := 7) w6 #[.int .u64 (v : Int), .int .u32 (c1 : Int), .int .u32 (s1 : Int), .int .u16 (n1 : Int), .string gg, .string mm, .slice A6 K c6] 73 (0, 0) 1 [.int .u64 (v : Int), .int .u32 (c1 : Int), .int .u32 (s1 : Int), .int .u16 (n1 : Int), .string gg, .string mm, .slice A6 K c6] rfl rfl
      have R7 := R6.upd ((Upd.refl (fun x => x = z ∨ x = q) w6).alloc (.cells #[.int .u64 (v : Int), .int .u32 (c1 : Int), .int .u32 (s1 : Int), .int .u16 (n1 : Int), .string gg, .string mm, .slice A6 K c6] 73)) (fun g hg e => by have hg' : wd.heap.size ≤ g := hg; omega)
      refine lexG_now _ rfl rfl rfl (fun K0 hK => ?_)
      go_wp2_with fail
      generalize hw7 : w6.alloc (.cells #[.int .u64 (v : Int), .int .u32 (c1 : Int), .int .u32 (s1 : Int), .int .u16 (n1 : Int), .string gg, .string mm, .slice A6 K c6] 73) = w7 at *
      have hw7s : w7.heap.size = w6.heap.size + 1 := by rw [← hw7]; simp
      refine hK _ _ _ (fun _ h => h) hS7 ?_
      clear hK K0
      try simp only [Act.put, List.setIfInBounds_toArray, List.set_cons_zero, List.set_cons_succ]
      repeat (first | (refine lexG_take _ ?_ rfl rfl rfl rfl (fun _ => ?_) ?_; rotate_left; (focus (go_simp; with_reducible rfl)); try simp only [Act.put, List.setIfInBounds_toArray, List.set_cons_zero, List.set_cons_succ]) | (refine lexG_held _ ?_ rfl rfl rfl rfl (by assumption) (fun _ hSw => ?_) ?_; rotate_left; (focus (have h1 := (hr5.below hSw hr5.lt).rec9; have h2 := (hs5.below hSw hs5.lt).st4; clear hSw; go_simp; with_reducible rfl)); try simp only [Act.put, List.setIfInBounds_toArray, List.set_cons_zero, List.set_cons_succ]) | (refine lexG_skip _ rfl rfl (by assumption) ?_; try simp only [Act.put, List.setIfInBounds_toArray, List.set_cons_zero, List.set_cons_succ]))
      have hlw := (hlog0.out.below ((below_then hS7 hb5).mono hB)).r
      rw [hN.out] at hlw
      obtain ⟨i0, hi, hz0, hz1, hz2⟩ := info_parts info_ent
      refine lexG_now _ rfl rfl rfl (fun K0 hK => ?_)
      refine wp_append_grows _ _ 56 56 rfl 73 i0 _ 7 80 Try.underlying56 hi hz0 hz1 hz2 rfl rfl (Grows.full hlw (Nat.le_trans hB (below_then hS7 hb5).size) (Nat.le_refl _)) rfl (Src.ofReads Try.underlying56 _ hsrc (by intro u hu; simp at hu; rcases hu with rfl | rfl | rfl | rfl | rfl | rfl | rfl <;> rfl)) (by decide) (by unfold maxLen; omega) (by omega) (fun A8 c8 w8 ho8 hg8 hat8 => ?_)
      have hb78 : Below w7.heap.size w7 w8 := (Below.refl _ _).grown hg8 (Nat.le_refl _) (fun k hk => by cases hk)
      have hS8 := below_then hb78 hS7
      have hb8 := below_then hS8 hb5
      have hs67 := hb6.size
      have hsd := hS0.size
      have hA8 : bOf A8 = some w7.heap.size := by
        rcases hat8 with h | h
        · exfalso
          rcases ho8.2 with ⟨_, h0, _⟩ | ⟨g, cur, hA, _⟩
          · omega
          · rw [hA] at h; cases h
        · exact h
      refine hK _ _ _ (fun _ h => h) hS8 ?_
      clear hK K0
      try simp only [Act.put, List.setIfInBounds_toArray, List.set_cons_zero, List.set_cons_succ]
      repeat (first | (refine lexG_take _ ?_ rfl rfl rfl rfl (fun _ => ?_) ?_; rotate_left; (focus (go_simp; with_reducible rfl)); try simp only [Act.put, List.setIfInBounds_toArray, List.set_cons_zero, List.set_cons_succ]) | (refine lexG_held _ ?_ rfl rfl rfl rfl (by assumption) (fun _ hSw => ?_) ?_; rotate_left; (focus (have h1 := (hr5.below hSw hr5.lt).rec9; have h2 := (hs5.below hSw hs5.lt).st4; clear hSw; go_simp; with_reducible rfl)); try simp only [Act.put, List.setIfInBounds_toArray, List.set_cons_zero, List.set_cons_succ]) | (refine lexG_skip _ rfl rfl (by assumption) ?_; try simp only [Act.put, List.setIfInBounds_toArray, List.set_cons_zero, List.set_cons_succ]))
      have hz8 := (hz5.below hS8 hz5.lt).far (p := ⟨z, 2, none⟩) (show q ≠ z by omega) (.slice A8 (N + 1) c8)
      have hs8' := hs5.below hS8 hs5.lt
      have hf0 := hs8'.frozen 2
      have hc0 := hs8'.st4
      have hs9 : Blk (w8.setCell ⟨z, 2, none⟩ (.slice A8 (N + 1) c8)) z 61 #[.int .u64 (sv : Int), .int .u64 (sl : Int), .slice A8 (N + 1) c8, .int .i64 su] := hs8'.set_ 2 (.slice A8 (N + 1) c8)
      have hb9 := hb8.setCell (p := ⟨z, 2, none⟩) hwz (.slice A8 (N + 1) c8)
      have hO9 := ho8.upd ((Upd.refl (fun x => x = z ∨ x = q) w8).setCell (p := ⟨z, 2, none⟩) (fun _ => .inl rfl) (.slice A8 (N + 1) c8)) (fun g hg e => by rw [hA8] at hg; cases hg; omega)
      have R8 := (R7.upd (Upd.of_below_size hb78) (fun g hg e => by have hg' : wd.heap.size ≤ g := hg; omega)).upd ((Upd.refl (fun x => x = z ∨ x = q) w8).setCell (p := ⟨z, 2, none⟩) (fun _ => .inl rfl) (.slice A8 (N + 1) c8)) (fun g hg e => by have hg' : wd.heap.size ≤ g := hg; omega)
      refine lexG_nowF _ rfl rfl rfl (by kernel_rfl) (fun K0 hK => ?_)
      go_simp
      generalize w8.setCell ⟨z, 2, none⟩ (.slice A8 (N + 1) c8) = w9 at *
      refine hK _ _ ?_
      clear hK K0
      refine lexG_nil ?_
      have hco := hs9.st4
      clear hf0 hc0 hlw hsrc
      go_upto_region 14 with (fail)
      have hOr := hO9.upd ((Upd.refl (fun x => x = z ∨ x = q) w9).setRow (g := q) (fun _ => .inr rfl) #[.int .u64 (sv : Int), .int .u64 (sl : Int), .slice A8 (N + 1) c8, .int .i64 su]) (fun g hg e => by rw [hA8] at hg; cases hg; omega)
      have Rr := R8.upd ((Upd.refl (fun x => x = z ∨ x = q) w9).setRow (g := q) (fun _ => .inr rfl) #[.int .u64 (sv : Int), .int .u64 (sl : Int), .slice A8 (N + 1) c8, .int .i64 su]) (fun g hg e => by have hg' : wd.heap.size ≤ g := hg; omega)
      have hzr := hz8.row #[.int .u64 (sv : Int), .int .u64 (sl : Int), .slice A8 (N + 1) c8, .int .i64 su]
      have hbr := below_row hb9 (g := q) hwq #[.int .u64 (sv : Int), .int .u64 (sl : Int), .slice A8 (N + 1) c8, .int .i64 su]
      go_wp2_with (refine store_row_gen rfl 61 (Operand.tmp 4) _ rfl q #[.int .u64 (sv : Int), .int .u64 (sl : Int), .slice A8 (N + 1) c8, .int .i64 su] (by simp [go_sem]) (by simp [go_sem]) 61 _ hz8 (by kernel_rfl) rfl (by simp [Value.oneCell']) (fun w9 hw9 => ?_); rw [← hw9] at hzr hbr hOr Rr; clear hw9)
      refine bodyPost_ret (v := .tuple #[.agg #[.int .u64 (sv : Int), .int .u64 (sl : Int), .slice A8 (N + 1) c8, .int .i64 su], .bool true]) (by exact results_ct rfl _ _ q 61 _ (0, 0) _ _ rfl rfl hzr Try.underlying61 rfl (by kernel_rfl)) rfl ?_
      refine ⟨A8, c8, _, _, ?_, hbr, fun S W hu hSu h => h.push (o := ⟨c1, s1, n1, g, m, l.map cleanV⟩) (Below.refl _ _) (Nat.le_refl _) (by rw [hN.out]; exact hOr.upd hu (fun g hg e => by rw [hA8] at hg; cases hg; have := hSu _ e; have := hb5.size; omega)) (op_of_clean hop0.out (Rr.upd hu (fun g hg e => by have hg' : wd.heap.size ≤ g := hg; have := hSu g e; have := hb5.size; omega))) hv⟩
      dsimp only
      rw [List.length_append, hN.out]
      rfl
  by_cases hk3 : k = 3
  · subst hk3
    by_cases hlo : n < su
    · skip
      have e1 : decide (su ≤ n) = false := decide_eq_false (by omega)
      have e2 : decide (n < su) = true := decide_eq_true hlo
      have hOe : O = false := by rw [← hO.out]; unfold stepOk; rw [if_neg (show ¬ ((3 : Int) = 1) by decide), if_neg (show ¬ ((3 : Int) = 2) by decide), if_pos (show ((3 : Int) = 3 ∨ (3 : Int) = 4) by decide)]; dsimp only; rw [hN.out]; exact decide_eq_false (by omega)
      have hDe : D = ⟨sv, sl, log, su⟩ := by rw [← hD.out]; unfold stepD; rw [hO.out, hOe]; rw [if_neg (by decide)]
      subst hOe hDe
      clear hO hD
      have hzr := hz4.row #[.int .u64 (sv : Int), .int .u64 (sl : Int), .slice L N cl, .int .i64 su]
      have hbr := below_row hb4 (g := q) hwq #[.int .u64 (sv : Int), .int .u64 (sl : Int), .slice L N cl, .int .i64 su]
      go_wp2_with (refine store_row_gen rfl 61 (Operand.tmp 4) _ rfl q #[.int .u64 (sv : Int), .int .u64 (sl : Int), .slice L N cl, .int .i64 su] (by simp [go_sem]) (by simp [go_sem]) 61 _ hz4 (by kernel_rfl) rfl (by simp [Value.oneCell']) (fun w9 hw9 => ?_); rw [← hw9] at hzr hbr; clear hw9)
      refine bodyPost_ret (v := .tuple #[.agg #[.int .u64 (sv : Int), .int .u64 (sl : Int), .slice L N cl, .int .i64 su], .bool false]) (by exact results_ct rfl _ _ q 61 _ (0, 0) _ _ rfl rfl hzr Try.underlying61 rfl (by kernel_rfl)) rfl ?_
      refine ⟨L, cl, xs, css, ?_, hbr, fun _ _ _ _ h => h⟩
      dsimp only
      rw [hN.out]
    by_cases hhi : (N : Int) < n
    · skip
      have e1 : decide (su ≤ n) = true := decide_eq_true (by omega)
      have e2 : decide (n < su) = false := decide_eq_false (by omega)
      have e3 : decide (n ≤ (N : Int)) = false := decide_eq_false (by omega)
      have e4 : decide ((N : Int) < n) = true := decide_eq_true hhi
      have hOe : O = false := by rw [← hO.out]; unfold stepOk; rw [if_neg (show ¬ ((3 : Int) = 1) by decide), if_neg (show ¬ ((3 : Int) = 2) by decide), if_pos (show ((3 : Int) = 3 ∨ (3 : Int) = 4) by decide)]; dsimp only; rw [hN.out]; exact decide_eq_false (by omega)
      have hDe : D = ⟨sv, sl, log, su⟩ := by rw [← hD.out]; unfold stepD; rw [hO.out, hOe]; rw [if_neg (by decide)]
      subst hOe hDe
      clear hO hD
      have hzr := hz4.row #[.int .u64 (sv : Int), .int .u64 (sl : Int), .slice L N cl, .int .i64 su]
      have hbr := below_row hb4 (g := q) hwq #[.int .u64 (sv : Int), .int .u64 (sl : Int), .slice L N cl, .int .i64 su]
      go_wp2_with (refine store_row_gen rfl 61 (Operand.tmp 4) _ rfl q #[.int .u64 (sv : Int), .int .u64 (sl : Int), .slice L N cl, .int .i64 su] (by simp [go_sem]) (by simp [go_sem]) 61 _ hz4 (by kernel_rfl) rfl (by simp [Value.oneCell']) (fun w9 hw9 => ?_); rw [← hw9] at hzr hbr; clear hw9)
      refine bodyPost_ret (v := .tuple #[.agg #[.int .u64 (sv : Int), .int .u64 (sl : Int), .slice L N cl, .int .i64 su], .bool false]) (by exact results_ct rfl _ _ q 61 _ (0, 0) _ _ rfl rfl hzr Try.underlying61 rfl (by kernel_rfl)) rfl ?_
      refine ⟨L, cl, xs, css, ?_, hbr, fun _ _ _ _ h => h⟩
      dsimp only
      rw [hN.out]
    by_cases hneg : n < 0
    · skip
      exact absurd hsu0 (by omega)
    obtain ⟨j, rfl⟩ : ∃ j : Nat, n = (j : Int) := ⟨n.toNat, by omega⟩
    have hjN : j ≤ N := by omega
    have hjc : j ≤ cl := by omega
    have e1 : decide (su ≤ (j : Int)) = true := decide_eq_true (by omega)
    have e2 : decide ((j : Int) < su) = false := decide_eq_false (by omega)
    have e3 : decide ((j : Int) ≤ (N : Int)) = true := decide_eq_true (by omega)
    have e4 : decide ((N : Int) < (j : Int)) = false := decide_eq_false (by omega)
    have e3' : decide (j ≤ N) = true := decide_eq_true (by omega)
    have e4' : decide (N < j) = false := decide_eq_false (by omega)
    have hOe : O = true := by rw [← hO.out]; unfold stepOk; rw [if_neg (show ¬ ((3 : Int) = 1) by decide), if_neg (show ¬ ((3 : Int) = 2) by decide), if_pos (show ((3 : Int) = 3 ∨ (3 : Int) = 4) by decide)]; dsimp only; rw [hN.out]; exact decide_eq_true (by omega)
    have hDe : D = ⟨sv, sl, log.take j, su⟩ := by rw [← hD.out]; unfold stepD; rw [hO.out, hOe]; rw [if_pos rfl, if_neg (show ¬ ((3 : Int) = 1) by decide), if_neg (show ¬ ((3 : Int) = 2) by decide), if_pos rfl]; rfl
    subst hOe hDe
    clear hO hD
    have hll2 : (log.take j).length = j := by rw [List.length_take, hN.out]; omega
    replace hll2 := Lib.hid hll2
    replace hjN := Lib.hid hjN
    have hf0 := hs4.frozen 2
    have hz5 := hz4.far (p := ⟨z, 2, none⟩) (show q ≠ z by omega) (.slice L j cl)
    have hs5 : Blk (w4.setCell ⟨z, 2, none⟩ (.slice L j cl)) z 61 #[.int .u64 (sv : Int), .int .u64 (sl : Int), .slice L j cl, .int .i64 su] := hs4.set_ 2 (.slice L j cl)
    have hb5 := hb4.setCell (p := ⟨z, 2, none⟩) hwz (.slice L j cl)
    have hco := hs5.st4
    have hlr : ∀ W, Below w.heap.size w W → LogR W W.heap.size L cl (log.take j) (xs.take (j * 7)) css := fun W hW => (((hlog0.out.first (k := j) (by rw [hN.out]; exact hjN.out)).below (hW.mono hB)).up (Nat.le_trans hB hW.size))
    replace hlr := Lib.hid hlr
    go_upto_region 19 with (fail)
    generalize w4.setCell ⟨z, 2, none⟩ (.slice L j cl) = w5 at *
    have hzr := hz5.row #[.int .u64 (sv : Int), .int .u64 (sl : Int), .slice L j cl, .int .i64 su]
    have hbr := below_row hb5 (g := q) hwq #[.int .u64 (sv : Int), .int .u64 (sl : Int), .slice L j cl, .int .i64 su]
    go_wp2_with (refine store_row_gen rfl 61 (Operand.tmp 4) _ rfl q #[.int .u64 (sv : Int), .int .u64 (sl : Int), .slice L j cl, .int .i64 su] (by simp [go_sem]) (by simp [go_sem]) 61 _ hz5 (by kernel_rfl) rfl (by simp [Value.oneCell']) (fun w9 hw9 => ?_); rw [← hw9] at hzr hbr; clear hw9)
    refine bodyPost_ret (v := .tuple #[.agg #[.int .u64 (sv : Int), .int .u64 (sl : Int), .slice L j cl, .int .i64 su], .bool true]) (by exact results_ct rfl _ _ q 61 _ (0, 0) _ _ rfl rfl hzr Try.underlying61 rfl (by kernel_rfl)) rfl ?_
    refine ⟨L, cl, xs.take (j * 7), css, ?_, hbr, fun S W hu hSu h => h.first (k := j) (by rw [hN.out]; exact hjN.out)⟩
    dsimp only
    rw [hll2.out]
  by_cases hk4 : k = 4
  · subst hk4
    by_cases hlo : n < su
    · skip
      have e1 : decide (su ≤ n) = false := decide_eq_false (by omega)
      have e2 : decide (n < su) = true := decide_eq_true hlo
      have hOe : O = false := by rw [← hO.out]; unfold stepOk; rw [if_neg (show ¬ ((4 : Int) = 1) by decide), if_neg (show ¬ ((4 : Int) = 2) by decide), if_pos (show ((4 : Int) = 3 ∨ (4 : Int) = 4) by decide)]; dsimp only; rw [hN.out]; exact decide_eq_false (by omega)
      have hDe : D = ⟨sv, sl, log, su⟩ := by rw [← hD.out]; unfold stepD; rw [hO.out, hOe]; rw [if_neg (by decide)]
      subst hOe hDe
      clear hO hD
      have hzr := hz4.row #[.int .u64 (sv : Int), .int .u64 (sl : Int), .slice L N cl, .int .i64 su]
      have hbr := below_row hb4 (g := q) hwq #[.int .u64 (sv : Int), .int .u64 (sl : Int), .slice L N cl, .int .i64 su]
      go_wp2_with (refine store_row_gen rfl 61 (Operand.tmp 4) _ rfl q #[.int .u64 (sv : Int), .int .u64 (sl : Int), .slice L N cl, .int .i64 su] (by simp [go_sem]) (by simp [go_sem]) 61 _ hz4 (by kernel_rfl) rfl (by simp [Value.oneCell']) (fun w9 hw9 => ?_); rw [← hw9] at hzr hbr; clear hw9)
      refine bodyPost_ret (v := .tuple #[.agg #[.int .u64 (sv : Int), .int .u64 (sl : Int), .slice L N cl, .int .i64 su], .bool false]) (by exact results_ct rfl _ _ q 61 _ (0, 0) _ _ rfl rfl hzr Try.underlying61 rfl (by kernel_rfl)) rfl ?_
      refine ⟨L, cl, xs, css, ?_, hbr, fun _ _ _ _ h => h⟩
      dsimp only
      rw [hN.out]
    by_cases hhi : (N : Int) < n
    · skip
      have e1 : decide (su ≤ n) = true := decide_eq_true (by omega)
      have e2 : decide (n < su) = false := decide_eq_false (by omega)
      have e3 : decide (n ≤ (N : Int)) = false := decide_eq_false (by omega)
      have e4 : decide ((N : Int) < n) = true := decide_eq_true hhi
      have hOe : O = false := by rw [← hO.out]; unfold stepOk; rw [if_neg (show ¬ ((4 : Int) = 1) by decide), if_neg (show ¬ ((4 : Int) = 2) by decide), if_pos (show ((4 : Int) = 3 ∨ (4 : Int) = 4) by decide)]; dsimp only; rw [hN.out]; exact decide_eq_false (by omega)
      have hDe : D = ⟨sv, sl, log, su⟩ := by rw [← hD.out]; unfold stepD; rw [hO.out, hOe]; rw [if_neg (by decide)]
      subst hOe hDe
      clear hO hD
      have hzr := hz4.row #[.int .u64 (sv : Int), .int .u64 (sl : Int), .slice L N cl, .int .i64 su]
      have hbr := below_row hb4 (g := q) hwq #[.int .u64 (sv : Int), .int .u64 (sl : Int), .slice L N cl, .int .i64 su]
      go_wp2_with (refine store_row_gen rfl 61 (Operand.tmp 4) _ rfl q #[.int .u64 (sv : Int), .int .u64 (sl : Int), .slice L N cl, .int .i64 su] (by simp [go_sem]) (by simp [go_sem]) 61 _ hz4 (by kernel_rfl) rfl (by simp [Value.oneCell']) (fun w9 hw9 => ?_); rw [← hw9] at hzr hbr; clear hw9)
      refine bodyPost_ret (v := .tuple #[.agg #[.int .u64 (sv : Int), .int .u64 (sl : Int), .slice L N cl, .int .i64 su], .bool false]) (by exact results_ct rfl _ _ q 61 _ (0, 0) _ _ rfl rfl hzr Try.underlying61 rfl (by kernel_rfl)) rfl ?_
      refine ⟨L, cl, xs, css, ?_, hbr, fun _ _ _ _ h => h⟩
      dsimp only
      rw [hN.out]
    skip
    have e1 : decide (su ≤ n) = true := decide_eq_true (by omega)
    have e2 : decide (n < su) = false := decide_eq_false (by omega)
    have e3 : decide (n ≤ (N : Int)) = true := decide_eq_true (by omega)
    have e4 : decide ((N : Int) < n) = false := decide_eq_false (by omega)
    have hOe : O = true := by rw [← hO.out]; unfold stepOk; rw [if_neg (show ¬ ((4 : Int) = 1) by decide), if_neg (show ¬ ((4 : Int) = 2) by decide), if_pos (show ((4 : Int) = 3 ∨ (4 : Int) = 4) by decide)]; dsimp only; rw [hN.out]; exact decide_eq_true (by omega)
    have hDe : D = ⟨sv, sl, log, n⟩ := by rw [← hD.out]; unfold stepD; rw [hO.out, hOe]; rw [if_pos rfl, if_neg (show ¬ ((4 : Int) = 1) by decide), if_neg (show ¬ ((4 : Int) = 2) by decide), if_neg (show ¬ ((4 : Int) = 3) by decide)]
    subst hOe hDe
    clear hO hD
    have hf0 := hs4.frozen 3
    have hc0 := hs4.st4
    have hs_0 : Blk ((w4).setCell ⟨z, 3, none⟩ (.int .i64 n)) z 61 #[.int .u64 (sv : Int), .int .u64 (sl : Int), .slice L N cl, .int .i64 n] := hs4.set_ 3 (.int .i64 n)
    have hr_0 := hr4.far (p := ⟨z, 3, none⟩) (show y ≠ z by omega) (.int .i64 n)
    have hz_0 := hz4.far (p := ⟨z, 3, none⟩) (show q ≠ z by omega) (.int .i64 n)
    have hb_0 := hb4.setCell (p := ⟨z, 3, none⟩) hwz (.int .i64 n)
    have hrc0 := hr_0.rec9
    have hcL := hs_0.st4
    go_upto_region 24 with (fail)
    generalize (w4).setCell ⟨z, 3, none⟩ (.int .i64 n) = w5 at *
    have hsc5 := hs_0.st4
    have hzr := hz_0.row #[.int .u64 (sv : Int), .int .u64 (sl : Int), .slice L N cl, .int .i64 n]
    have hbr := below_row hb_0 (g := q) hwq #[.int .u64 (sv : Int), .int .u64 (sl : Int), .slice L N cl, .int .i64 n]
    go_wp2_with (refine store_row_gen rfl 61 (Operand.tmp 4) _ rfl q #[.int .u64 (sv : Int), .int .u64 (sl : Int), .slice L N cl, .int .i64 n] (by simp [go_sem]) (by simp [go_sem]) 61 _ hz_0 (by kernel_rfl) rfl (by simp [Value.oneCell']) (fun w9 hw9 => ?_); rw [← hw9] at hzr hbr; clear hw9)
    refine bodyPost_ret (v := .tuple #[.agg #[.int .u64 (sv : Int), .int .u64 (sl : Int), .slice L N cl, .int .i64 n], .bool true]) (by exact results_ct rfl _ _ q 61 _ (0, 0) _ _ rfl rfl hzr Try.underlying61 rfl (by kernel_rfl)) rfl ?_
    refine ⟨L, cl, xs, css, ?_, hbr, fun _ _ _ _ h => h⟩
    dsimp only
    rw [hN.out]
  have d1 : (k == 1) = false := by rw [beq_eq_false_iff_ne]; exact hk1
  have d2 : (k == 2) = false := by rw [beq_eq_false_iff_ne]; exact hk2
  have d3 : (k == 3) = false := by rw [beq_eq_false_iff_ne]; exact hk3
  have d4 : (k == 4) = false := by rw [beq_eq_false_iff_ne]; exact hk4
  have hOe : O = false := by rw [← hO.out]; unfold stepOk; rw [if_neg hk1, if_neg hk2, if_neg (fun h => h.elim hk3 hk4)]
  have hDe : D = ⟨sv, sl, log, su⟩ := by rw [← hD.out]; unfold stepD; rw [hO.out, hOe]; rw [if_neg (by decide)]
  subst hOe hDe
  clear hO hD
  have hzr := hz4.row #[.int .u64 (sv : Int), .int .u64 (sl : Int), .slice L N cl, .int .i64 su]
  have hbr := below_row hb4 (g := q) hwq #[.int .u64 (sv : Int), .int .u64 (sl : Int), .slice L N cl, .int .i64 su]
  go_wp2_with (refine store_row_gen rfl 61 (Operand.tmp 4) _ rfl q #[.int .u64 (sv : Int), .int .u64 (sl : Int), .slice L N cl, .int .i64 su] (by simp [go_sem]) (by simp [go_sem]) 61 _ hz4 (by kernel_rfl) rfl (by simp [Value.oneCell']) (fun w9 hw9 => ?_); rw [← hw9] at hzr hbr; clear hw9)
  refine bodyPost_ret (v := .tuple #[.agg #[.int .u64 (sv : Int), .int .u64 (sl : Int), .slice L N cl, .int .i64 su], .bool false]) (by exact results_ct rfl _ _ q 61 _ (0, 0) _ _ rfl rfl hzr Try.underlying61 rfl (by kernel_rfl)) rfl ?_
  refine ⟨L, cl, xs, css, ?_, hbr, fun _ _ _ _ h => h⟩
  dsimp only
  rw [hN.out]
end Go.Proofs.Ytjljlgkghlphnaa
namespace Go.Proofs.Ytjljlgkghlphnaa
open Go.RowKit
set_option maxRecDepth 100000

set_option maxHeartbeats 12800000 in
theorem rrec_walk {A : Option Addr} {c : Nat} {b : List UInt8} {w : World} (h : Reads w w.heap.size 1 A b.length (bys b)) (hA : A = none → c = 0) (hc : b.length ≤ c) (hl : b.length ≤ 1000000000) :
    Calls Try.prog 20 #[.slice A b.length c] w (RcRes w (recD b)) := by
  obtain ⟨R, hR⟩ : ∃ R, recD b = R := ⟨_, rfl⟩
  rw [hR]
  have hf0 : ∃ f, b.length < f + 0 ∧ recF f b st0 0 = R := ⟨b.length + 1, by omega, hR⟩
  have hz0 := Blk.new w 61 #[.int .u64 0, .int .u64 0, .slice none 0 0, .int .i64 0]
  have hy0 := Blk.new (w.alloc (.cells #[.int .u64 0, .int .u64 0, .slice none 0 0, .int .i64 0] 61)) 61 #[.int .u64 0, .int .u64 0, .slice none 0 0, .int .i64 0]
  rw [World.size_alloc] at hy0
  have hz1 := hz0.alloc (.cells #[.int .u64 0, .int .u64 0, .slice none 0 0, .int .i64 0] 61)
  have hb1 := ((Below.refl w.heap.size w).alloc (Nat.le_refl _) (.cells #[.int .u64 0, .int .u64 0, .slice none 0 0, .int .i64 0] 61)).alloc (by simp only [World.size_alloc]; omega) (.cells #[.int .u64 0, .int .u64 0, .slice none 0 0, .int .i64 0] 61)
  clear hz0 hR
  replace hf0 := Lib.hid hf0
  replace h := Lib.hid h
  replace hA := Lib.hid hA
  go_enter Try.func20, Try.ntmps20
  go_wp2_with fail
  generalize (w.alloc (.cells #[.int .u64 0, .int .u64 0, .slice none 0 0, .int .i64 0] 61)).alloc (.cells #[.int .u64 0, .int .u64 0, .slice none 0 0, .int .i64 0] 61) = w1 at *
  obtain ⟨z, hzz⟩ : ∃ z, w.heap.size = z := ⟨_, rfl⟩
  have hwz : w.heap.size ≤ z := by omega
  rw [hzz] at hz1 hy0 ⊢
  obtain ⟨y, hyy⟩ : ∃ y, z + 1 = y := ⟨_, rfl⟩
  have hzy : z < y := by omega
  rw [hyy] at hy0 ⊢
  have hwy : w.heap.size ≤ y := by omega
  replace hzz := Lib.hid hzz
  replace hyy := Lib.hid hyy
  go_loopw [5] (fun ii wr => ∃ (j : Nat) (s : StD) (L : Option Addr) (cl : Nat) (xs : List Value) (css : Nat → Array Value), ii = .int .i64 (j : Int) ∧ RcRel w wr b R z y 61 j s L cl xs css) (fun ii _ => b.length + 1 - (intOf ii).toNat)
  case atStart => exact ⟨0, st0, none, 0, [], _, rfl, ⟨Nat.zero_le _, hz1, hy0, fun W _ => LogR.nil _ _, hb1, hf0.out, by decide, by decide⟩⟩
  case round =>
    obtain ⟨j, ⟨sv, sl, log, su⟩, L, cl, xs, css, rfl, Rl⟩ := hrel
    obtain ⟨hjl, hzr0, hyr0, hrob, hbr0, ⟨f, hf1, hf2⟩, hsu0, hll⟩ := Rl
    dsimp only at hyr0 hrob hsu0 hll
    obtain ⟨d, hd⟩ : ∃ d, b.drop j = d := ⟨_, rfl⟩
    have hdl : d.length = b.length - j := by rw [← hd, List.length_drop]
    have hcut := ((h.out.below hbr0).more hbr0.size).cut (k := j) (cap := c) hjl hc
    rw [Nat.mul_one, bys_drop, hd, ← hdl] at hcut
    obtain ⟨f', rfl⟩ : ∃ f', f = f' + 1 := ⟨f - 1, by omega⟩
    unfold recF at hf2
    rw [hd] at hf2
    obtain ⟨⟨p, n, E⟩, ho⟩ : ∃ o, opened d = o := ⟨_, rfl⟩
    rw [ho] at hf2
    have hoo := open_ref (b := d) (c := c - j) hcut (by omega) (by omega)
    rw [ho] at hoo
    have hfar : E = 0 → 8 ≤ n ∧ n ≤ b.length - j := fun he => by have := opened_far (b := d) (by rw [ho]; exact he); rw [ho, hdl] at this; exact this
    have hshort : p.length ≤ d.length := by
      have := opened_le d
      rw [ho] at this
      exact this
    dsimp only at hf2
    obtain ⟨N, hN⟩ : ∃ N, log.length = N := ⟨_, rfl⟩
    rw [hN] at hyr0 hll
    have hyc0 := hyr0.st4
    replace hrob := Lib.hid hrob
    replace hf2 := Lib.hid hf2
    replace hN := Lib.hid hN
    replace hfar := Lib.hid hfar
    rw [hdl] at hoo hshort
    clear hdl ho hcut
    replace hoo := Lib.hid hoo
    have hjc : (j : Int) ≤ (b.length : Int) := by omega
    by_cases hcj : c = j
    all_goals
      first | (have hoo2 := hoo.out; rw [if_pos hcj] at hoo2) | (have hoo2 := hoo.out; rw [if_neg hcj] at hoo2; obtain ⟨ad, rfl⟩ : ∃ ad, A = some ad := (by cases A with | none => (have := hA.out rfl; omega) | some a => exact ⟨a, rfl⟩))
      clear hoo
      try rw [show c - j = 0 by omega] at hoo2
      go_wp2_with fail
      refine hoo2.mono ?_
      clear hoo2
      replace hcj := Lib.hid hcj
      rintro e w5 ⟨A5, c5, rfl, ho5, hb5, hg5⟩
      dsimp only at ho5 ⊢
      by_cases hE : E = 0
      · subst hE
        have hf3 := hf2.out
        rw [if_neg (by simp)] at hf3
        obtain ⟨hn8, hnb⟩ := hfar.out rfl
        obtain ⟨Q, hQ⟩ : ∃ Q, rdRec p = Q := ⟨_, rfl⟩
        rw [hQ] at hf3
        have hrd := rread_walk (c := c5) ho5.reads_ ho5.le_cap (by omega) Q hQ
        obtain ⟨P, hP⟩ : ∃ P, p.length = P := ⟨_, rfl⟩
        rw [hP] at hrd ⊢
        clear hf2 hQ ho5 hfar hshort hg5 hP
        cases Q with
        | none =>
          dsimp only at hf3
          subst hf3
          go_wp2_with fail
          refine hrd.mono ?_
          clear hrd
          rintro e w6 ⟨rfl, hb6⟩
          dsimp only
          have hbw := (below_then hb6 hb5).alloc (below_then hb6 hb5).size (.cells #[.int .i64 0, .int .u64 0, .int .i64 0, .int .u32 0, .int .u32 0, .int .u16 0, .string ⟨#[]⟩, .string ⟨#[]⟩, .slice none 0 0] 41)
          clear hb5 hb6
          have hzX := hzr0.below hbw hzr0.lt
          have hyX := hyr0.below hbw hyr0.lt
          have hbX := below_then hbw hbr0
          have hLr := hrob.out _ ((Upd.of_below_size hbw).setRow (g := z) (fun _ => .inl rfl) #[.int .u64 (sv : Int), .int .u64 (sl : Int), .slice L N cl, .int .i64 su])
          have hyc := hyX.st4
          have hzr := hzX.row #[.int .u64 (sv : Int), .int .u64 (sl : Int), .slice L N cl, .int .i64 su]
          have hbr := below_row hbX (g := z) hwz #[.int .u64 (sv : Int), .int .u64 (sl : Int), .slice L N cl, .int .i64 su]
          go_wp2_with (refine store_row_gen rfl 61 (Operand.tmp 2) _ rfl z #[.int .u64 (sv : Int), .int .u64 (sl : Int), .slice L N cl, .int .i64 su] (by simp [go_sem]) (by simp [go_sem]) 61 _ hzX (by kernel_rfl) rfl (by simp [Value.oneCell']) (fun w9 hw9 => ?_); rw [← hw9] at hzr hbr hLr; clear hw9)
          refine bodyPost_ret (v := .tuple #[.agg #[.int .u64 (sv : Int), .int .u64 (sl : Int), .slice L N cl, .int .i64 su], .int .i64 (j : Int)]) (by exact results_ct rfl _ _ z 61 _ (0, 0) _ _ rfl rfl hzr Try.underlying61 rfl (by kernel_rfl)) rfl ?_
          refine ⟨L, cl, xs, css, ?_, hLr, hbr⟩
          dsimp only
          rw [hN.out]
        | some r =>
          obtain ⟨rk, rv, rn, ⟨oc, os_, on, og', om', ol⟩⟩ := r
          dsimp only at hf3
          replace hf3 := Lib.hid hf3
          go_wp2_with fail
          refine hrd.mono ?_
          clear hrd
          rintro e w6 ⟨A6, c6, xs6, css6, rfl, R6, hok, hb6⟩
          obtain ⟨hokv, hl16, ho1, ho2, ho3, hrv⟩ := hok
          dsimp only at R6 hokv hl16 ho1 ho2 ho3 hrv ⊢
          have hop := op_of_row (o := ⟨oc, os_, on, og', om', ol⟩) R6 (by dsimp only; omega) hokv ho1 ho2 ho3
          dsimp only at hop
          obtain ⟨og, hog⟩ : ∃ og, bstr og' = og := ⟨_, rfl⟩
          obtain ⟨om, hom⟩ : ∃ om, bstr om' = om := ⟨_, rfl⟩
          obtain ⟨oL, hoL⟩ : ∃ oL, ol.length = oL := ⟨_, rfl⟩
          rw [hog, hom, hoL] at hop ⊢
          have hbw := (below_then hb6 hb5).alloc (below_then hb6 hb5).size (.cells #[.int .i64 rk, .int .u64 (rv : Int), .int .i64 rn, .int .u32 (oc : Int), .int .u32 (os_ : Int), .int .u16 (on : Int), .string og, .string om, .slice A6 oL c6] 41)
          have hrc := (Blk.new w6 41 #[.int .i64 rk, .int .u64 (rv : Int), .int .i64 rn, .int .u32 (oc : Int), .int .u32 (os_ : Int), .int .u16 (on : Int), .string og, .string om, .slice A6 oL c6]).rec9
          have hop7 := (hop.below ((Below.refl w6.heap.size w6).alloc (Nat.le_refl _) (.cells #[.int .i64 rk, .int .u64 (rv : Int), .int .i64 rn, .int .u32 (oc : Int), .int .u32 (os_ : Int), .int .u16 (on : Int), .string og, .string om, .slice A6 oL c6] 41))).up (B' := (w6.alloc (.cells #[.int .i64 rk, .int .u64 (rv : Int), .int .i64 rn, .int .u32 (oc : Int), .int .u32 (os_ : Int), .int .u16 (on : Int), .string og, .string om, .slice A6 oL c6] 41)).heap.size) (by simp)
          have hyc7 := (hyr0.below hbw hyr0.lt).st4
          have hst := rstep_walk (sv := sv) (sl := sl) (su := su) (k := rk) (n := rn) (hrob.out _ (Upd.of_below_size hbw)) hop7 (Nat.le_refl _) hrv (by rw [hN.out]; omega) hsu0
          rw [hN.out] at hst
          clear hog hom hoL R6 hokv hl16 hop hop7 hb5 hb6
          obtain ⟨D, hD⟩ : ∃ D, stepD ⟨sv, sl, log, su⟩ ⟨rk, rv, rn, ⟨oc, os_, on, og', om', ol⟩⟩ = D := ⟨_, rfl⟩
          obtain ⟨O, hO⟩ : ∃ O, stepOk ⟨sv, sl, log, su⟩ ⟨rk, rv, rn, ⟨oc, os_, on, og', om', ol⟩⟩ = O := ⟨_, rfl⟩
          have hf4 := hf3.out
          rw [hD, hO] at hst hf4
          have hDok := stepD_ok (s := ⟨sv, sl, log, su⟩) (r := ⟨rk, rv, rn, ⟨oc, os_, on, og', om', ol⟩⟩) hsu0 (by dsimp only; rw [hN.out]; exact hll)
          rw [hD] at hDok
          clear hD hO hf3
          replace hf4 := Lib.hid hf4
          replace hst := Lib.hid hst
          go_wp2_with fail
          generalize w6.alloc (.cells #[.int .i64 rk, .int .u64 (rv : Int), .int .i64 rn, .int .u32 (oc : Int), .int .u32 (os_ : Int), .int .u16 (on : Int), .string og, .string om, .slice A6 oL c6] 41) = w7 at *
          refine hst.out.mono ?_
          clear hst
          rintro e w8 ⟨L', c', xs', css', rfl, hb8, hrob8⟩
          obtain ⟨dv, dl, dlog, ds⟩ := D
          dsimp only at hrob8 hDok ⊢
          obtain ⟨M, hM⟩ : ∃ M, dlog.length = M := ⟨_, rfl⟩
          rw [hM] at hDok ⊢
          have hbw9 := (below_then hb8 hbw).alloc (below_then hb8 hbw).size (.cells #[.int .u64 (dv : Int), .int .u64 (dl : Int), .slice L' M c', .int .i64 ds] 61)
          have hn9 := (Blk.new w8 61 #[.int .u64 (dv : Int), .int .u64 (dl : Int), .slice L' M c', .int .i64 ds]).st4
          cases O with
          | false =>
            have hf5 := hf4.out
            rw [if_neg (by decide)] at hf5
            subst hf5
            clear hf4 hrob8 hM
            have hzX := hzr0.below hbw9 hzr0.lt
            have hyX := hyr0.below hbw9 hyr0.lt
            have hbX := below_then hbw9 hbr0
            have hLr := hrob.out _ ((Upd.of_below_size hbw9).setRow (g := z) (fun _ => .inl rfl) #[.int .u64 (sv : Int), .int .u64 (sl : Int), .slice L N cl, .int .i64 su])
            have hyc := hyX.st4
            have hzr := hzX.row #[.int .u64 (sv : Int), .int .u64 (sl : Int), .slice L N cl, .int .i64 su]
            have hbr := below_row hbX (g := z) hwz #[.int .u64 (sv : Int), .int .u64 (sl : Int), .slice L N cl, .int .i64 su]
            go_wp2_with (refine store_row_gen rfl 61 (Operand.tmp 2) _ rfl z #[.int .u64 (sv : Int), .int .u64 (sl : Int), .slice L N cl, .int .i64 su] (by simp [go_sem]) (by simp [go_sem]) 61 _ hzX (by kernel_rfl) rfl (by simp [Value.oneCell']) (fun w9 hw9 => ?_); rw [← hw9] at hzr hbr hLr; clear hw9)
            refine bodyPost_ret (v := .tuple #[.agg #[.int .u64 (sv : Int), .int .u64 (sl : Int), .slice L N cl, .int .i64 su], .int .i64 (j : Int)]) (by exact results_ct rfl _ _ z 61 _ (0, 0) _ _ rfl rfl hzr Try.underlying61 rfl (by kernel_rfl)) rfl ?_
            refine ⟨L, cl, xs, css, ?_, hLr, hbr⟩
            dsimp only
            rw [hN.out]
          | true =>
            have hf5 := hf4.out
            rw [if_pos rfl] at hf5
            have hz10 := (hzr0.below hbw9 hzr0.lt)
            have hyl := hyr0.lt
            have hz11 : Blk ((w8.alloc (.cells #[.int .u64 (dv : Int), .int .u64 (dl : Int), .slice L' M c', .int .i64 ds] 61)).setRow y #[.int .u64 (dv : Int), .int .u64 (dl : Int), .slice L' M c', .int .i64 ds]) z 61 #[.int .u64 0, .int .u64 0, .slice none 0 0, .int .i64 0] := hz10.upd ((Upd.refl (fun g => g = y) _).setRow (g := y) (fun _ => rfl) #[.int .u64 (dv : Int), .int .u64 (dl : Int), .slice L' M c', .int .i64 ds]) (by omega)
            have hy11 := (hyr0.below hbw9 hyr0.lt).row #[.int .u64 (dv : Int), .int .u64 (dl : Int), .slice L' M c', .int .i64 ds]
            have hb11 := below_row (below_then hbw9 hbr0) (g := y) hwy #[.int .u64 (dv : Int), .int .u64 (dl : Int), .slice L' M c', .int .i64 ds]
            have hUr := (Upd.of_below_size (S := fun g => g = z ∨ g = y) hbw9).setRow (g := y) (fun _ => .inr rfl) #[.int .u64 (dv : Int), .int .u64 (dl : Int), .slice L' M c', .int .i64 ds]
            have hU8 := ((Upd.refl (fun g => g = z ∨ g = y) w8).alloc (.cells #[.int .u64 (dv : Int), .int .u64 (dl : Int), .slice L' M c', .int .i64 ds] 61)).setRow (g := y) (fun _ => .inr rfl) #[.int .u64 (dv : Int), .int .u64 (dl : Int), .slice L' M c', .int .i64 ds]
            have hnw : IntKind.i64.wrap ((j : Int) + (n : Int)) = ((j + n : Nat) : Int) := by rw [IntKind.wrap_i64]; omega
            have hyo := hyr0.below hbw9 hyr0.lt
            have hw7 := hbw.size
            have hzl := hzr0.lt
            replace hM := Lib.hid hM
            clear hf4
            go_wp2_with (refine store_row_gen rfl 61 (Operand.tmp 4) _ rfl y #[.int .u64 (dv : Int), .int .u64 (dl : Int), .slice L' M c', .int .i64 ds] (by simp [go_sem]) (by simp [go_sem]) 61 _ hyo (by kernel_rfl) rfl (by simp [Value.oneCell']) (fun w9 hw9 => ?_); rw [← hw9] at hz11 hy11 hb11 hUr hU8; clear hw9)
            go_roundw
            case rel =>
              refine ⟨j + n, ⟨dv, dl, dlog, ds⟩, L', c', xs', css', rfl, ⟨by omega, hz11, by dsimp only; rw [hM.out]; exact hy11, fun W hu => ?_, hb11, ⟨f', by omega, hf5⟩, hDok.1, by dsimp only; rw [hM.out]; exact hDok.2⟩⟩
              exact hrob8 (fun g => g = z ∨ g = y) W (hU8.trans hu (fun i _ h => h)) (fun g hg => by omega) (hrob.out W (hUr.trans hu (fun i _ h => h)))
            case measure => simp [intOf]; omega
      · have hf3 := hf2.out
        rw [if_pos hE] at hf3
        subst hf3
        have d1 : ((E : Int) == 0) = false := by rw [beq_eq_false_iff_ne]; omega
        have d2 : ((E : Int) != 0) = true := by simp [hE]
        clear hf2 hfar hshort hg5 ho5
        replace hE := Lib.hid hE
        have hzX := hzr0.below hb5 hzr0.lt
        have hyX := hyr0.below hb5 hyr0.lt
        have hbX := below_then hb5 hbr0
        have hLr := hrob.out _ ((Upd.of_below_size hb5).setRow (g := z) (fun _ => .inl rfl) #[.int .u64 (sv : Int), .int .u64 (sl : Int), .slice L N cl, .int .i64 su])
        have hyc := hyX.st4
        have hzr := hzX.row #[.int .u64 (sv : Int), .int .u64 (sl : Int), .slice L N cl, .int .i64 su]
        have hbr := below_row hbX (g := z) hwz #[.int .u64 (sv : Int), .int .u64 (sl : Int), .slice L N cl, .int .i64 su]
        go_wp2_with (refine store_row_gen rfl 61 (Operand.tmp 2) _ rfl z #[.int .u64 (sv : Int), .int .u64 (sl : Int), .slice L N cl, .int .i64 su] (by simp [go_sem]) (by simp [go_sem]) 61 _ hzX (by kernel_rfl) rfl (by simp [Value.oneCell']) (fun w9 hw9 => ?_); rw [← hw9] at hzr hbr hLr; clear hw9)
        refine bodyPost_ret (v := .tuple #[.agg #[.int .u64 (sv : Int), .int .u64 (sl : Int), .slice L N cl, .int .i64 su], .int .i64 (j : Int)]) (by exact results_ct rfl _ _ z 61 _ (0, 0) _ _ rfl rfl hzr Try.underlying61 rfl (by kernel_rfl)) rfl ?_
        refine ⟨L, cl, xs, css, ?_, hLr, hbr⟩
        dsimp only
        rw [hN.out]
end Go.Proofs.Ytjljlgkghlphnaa
