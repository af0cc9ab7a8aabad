/- choirseat.args. -/
import Derived.Test.YtlkokkbikkbaoaaSt3
set_option linter.unusedSimpArgs false
set_option linter.unusedVariables false
set_option linter.unusedSimpArgs false
set_option linter.unusedVariables false
namespace Go.Proofs.Ytlkokkbikkbaoaa
open Go.RowKit
set_option maxRecDepth 100000

theorem int_any {i : Int} (w : World) (hi : -9223372036854775808 ≤ i ∧ i ≤ 9223372036854775807) : Calls Try.prog 31 #[.int .i64 i] w (ValS 0 103 w) := (int_val w hi).mono fun e w' ⟨h1, h2, h3, h4⟩ => ⟨_, _, h1, h2, h3, h4⟩
theorem float_any {f : Nat} (w : World) (hf : f < 18446744073709551616) : Calls Try.prog 30 #[.float .f64 f] w (ValS 0 103 w) := (float_val w hf).mono fun e w' ⟨h1, h2, h3, h4⟩ => ⟨_, _, h1, h2, h3, h4⟩
theorem text_any {S : ByteArray} (w : World) (h : S.size ≤ 100) : Calls Try.prog 23 #[.string S] w (ValS 0 103 w) := (text_val w h).mono fun e w' ⟨h1, h2, h3, h4⟩ => ⟨_, _, h1, h2, h3, h4⟩
theorem row_three {w : World} {b : Nat} {u v x : Val} {a0 a1 a2 a3 a4 b0 b1 b2 b3 b4 d0 d1 d2 d3 d4 : Value} (hu : VOwn w (fun g => b ≤ g) u #[a0, a1, a2, a3, a4]) (hv : VOwn w (fun g => b ≤ g) v #[b0, b1, b2, b3, b4]) (hx : VOwn w (fun g => b ≤ g) x #[d0, d1, d2, d3, d4]) (hb : b ≤ w.heap.size) :
    VRow (w.alloc (.cells #[a0, a1, a2, a3, a4, b0, b1, b2, b3, b4, d0, d1, d2, d3, d4] 64)) b [u, v, x] (some ⟨w.heap.size, 0, none⟩) 3 [a0, a1, a2, a3, a4, b0, b1, b2, b3, b4, d0, d1, d2, d3, d4] (fun k => if k = 0 then #[a0, a1, a2, a3, a4] else if k = 1 then #[b0, b1, b2, b3, b4] else #[d0, d1, d2, d3, d4]) := by
  have hk : ∀ y cs, VOwn w (fun g => b ≤ g) y cs → VOwn (w.alloc (.cells #[a0, a1, a2, a3, a4, b0, b1, b2, b3, b4, d0, d1, d2, d3, d4] 64)) (fun g => b ≤ g ∧ some g ≠ bOf (some (⟨w.heap.size, 0, none⟩ : Addr))) y cs := fun y cs h => by
    have h1 := h.mono (Q := fun g => b ≤ g ∧ some g ≠ bOf (some (⟨w.heap.size, 0, none⟩ : Addr))) (fun g hg hb => ⟨hb, fun e => by simp [bOf] at e; omega⟩)
    exact h1.upd ((Upd.refl (fun _ => False) w).alloc _) (fun _ _ h => h)
  refine ⟨Own.new w 64 5 3 _ rfl (by decide), fun g hg => by simp [bOf] at hg; omega, fun k y hy => ?_, fun k hk => ?_⟩
  · rcases k with _ | _ | _ | k
    · cases hy; exact hk _ _ hu
    · cases hy; exact hk _ _ hv
    · cases hy; exact hk _ _ hx
    · cases hy
  · have : k = 0 ∨ k = 1 ∨ k = 2 := by simp at hk; omega
    rcases this with rfl | rfl | rfl <;> rfl

theorem all_1 {P : Val → Prop} {a : Val} (h1 : P a) : ∀ u ∈ [a], P u := fun u hu => by
  simp only [List.mem_cons, List.not_mem_nil, or_false] at hu
  subst hu; exact h1
theorem all_2 {P : Val → Prop} {a b : Val} (h1 : P a) (h2 : P b) : ∀ u ∈ [a, b], P u := fun u hu => by
  simp only [List.mem_cons, List.not_mem_nil, or_false] at hu
  rcases hu with rfl | rfl
  · exact h1
  · exact h2
theorem all_3 {P : Val → Prop} {a b c : Val} (h1 : P a) (h2 : P b) (h3 : P c) : ∀ u ∈ [a, b, c], P u := fun u hu => by
  simp only [List.mem_cons, List.not_mem_nil, or_false] at hu
  rcases hu with rfl | rfl | rfl
  · exact h1
  · exact h2
  · exact h3
/-- Arguments as the seat makes them, in new memory. -/
def ArgS (w : World) (e : Ending) (w' : World) : Prop :=
  ∃ A c l xs css, e = .returned (.slice A l.length c) ∧ VRow w' w.heap.size l A c xs css ∧ (∀ v ∈ l, SeatV 1 220 v) ∧ l.length ≤ 3 ∧ Below w.heap.size w w'

set_option maxHeartbeats 25600000 in
theorem seat_args_walk (w : World) {S1 S2 : ByteArray} {G M K N : Int} {F : Nat} (hs1 : S1.size ≤ 100) (hs2 : S2.size ≤ 100) (k0 : 0 ≤ K) (k9 : K ≤ 255) (n0 : -32768 ≤ N) (n9 : N ≤ 32767) (hF : F < 18446744073709551616) : Calls Try.prog 17 #[.string S1, .string S2, .agg #[.int .u8 G, .int .u8 M, .int .u8 K, .int .i16 N, .float .f64 F]] w (ArgS w) := by
  have htm : K.tmod 2 = K % 2 := Int.tmod_eq_emod_of_nonneg k0
  have hNw : IntKind.i64.wrap N = N := w64_id _ (by omega) (by omega)
  have hN5 : -5 < N.tmod 5 ∧ N.tmod 5 < 5 := ⟨by have := Int.tmod_lt_of_pos (-N) (show (0 : Int) < 5 by decide); rw [Int.neg_tmod] at this; omega, Int.tmod_lt_of_pos N (by decide)⟩
  have hNw5 : IntKind.i64.wrap (N.tmod 5) = N.tmod 5 := w64_id _ (by omega) (by omega)
  have hK5 : IntKind.u8.wrap (K / 5) = K / 5 := by
    unfold IntKind.wrap
    simp [IntKind.bits, IntKind.signed]
    omega
  have hq1 := Blk.new w 47 #[.int .u8 G, .int .u8 M, .int .u8 K, .int .i16 N, .float .f64 F]
  have hb1 := (Below.refl w.heap.size w).alloc (Nat.le_refl _) (.cells #[.int .u8 G, .int .u8 M, .int .u8 K, .int .i16 N, .float .f64 F] 47)
  have hqc := hq1.val5
  obtain ⟨X, hX⟩ : ∃ X, S1 ++ (⟨#[46]⟩ : ByteArray) ++ S2 = X := ⟨_, rfl⟩
  go_enter Try.func17, Try.ntmps17
  go_upto_region 2 with (fail)
  generalize w.alloc (.cells #[.int .u8 G, .int .u8 M, .int .u8 K, .int .i16 N, .float .f64 F] 47) = w1 at *
  clear hX
  by_cases hx0 : (X.toList == [99, 111, 117, 110, 116, 101, 114, 46, 97, 100, 100]) = true
  · by_cases hk2 : K % 2 = 0
    · have dk : (K % 2 == 0) = true := by rw [beq_iff_eq]; exact hk2
      go_wp2_with fail
      refine (float_any w1 hF).mono ?_
      rintro e w3 ⟨v, cs, rfl, hv, hs, hb3'⟩
      obtain ⟨k1, i1, f1, s1, A1, n1, c1, rfl⟩ := hv.reads.form
      try dsimp only
      have R4 := row_one hv (Nat.le_trans hb1.size hb3'.size |> fun _ => hb3'.size)
      have hb4 := (below_then hb3' hb1).alloc (below_then hb3' hb1).size (.cells #[.int .i64 k1, .int .i64 i1, .float .f64 f1, .string s1, .slice A1 n1 c1] 64)
      have fin : ArgS w (.returned (.slice (some ⟨w3.heap.size, 0, none⟩) 1 1)) (w3.alloc (.cells #[.int .i64 k1, .int .i64 i1, .float .f64 f1, .string s1, .slice A1 n1 c1] 64)) := ⟨_, _, [v], _, _, rfl, R4.down hb1.size, all_1 (hs.mono (by decide) (by decide)), by simp, hb4⟩
      replace fin := Lib.hid fin
      go_wp2_with fail
      go_ret
      exact fin.out
    · have dk : (K % 2 == 0) = false := by rw [beq_eq_false_iff_ne]; exact hk2
      go_wp2_with fail
      refine (int_any w1 (i := N) (by omega)).mono ?_
      rintro e w3 ⟨v, cs, rfl, hv, hs, hb3'⟩
      obtain ⟨k1, i1, f1, s1, A1, n1, c1, rfl⟩ := hv.reads.form
      try dsimp only
      have R4 := row_one hv (Nat.le_trans hb1.size hb3'.size |> fun _ => hb3'.size)
      have hb4 := (below_then hb3' hb1).alloc (below_then hb3' hb1).size (.cells #[.int .i64 k1, .int .i64 i1, .float .f64 f1, .string s1, .slice A1 n1 c1] 64)
      have fin : ArgS w (.returned (.slice (some ⟨w3.heap.size, 0, none⟩) 1 1)) (w3.alloc (.cells #[.int .i64 k1, .int .i64 i1, .float .f64 f1, .string s1, .slice A1 n1 c1] 64)) := ⟨_, _, [v], _, _, rfl, R4.down hb1.size, all_1 (hs.mono (by decide) (by decide)), by simp, hb4⟩
      replace fin := Lib.hid fin
      go_wp2_with fail
      go_ret
      exact fin.out
  replace hx0 : (X.toList == [99, 111, 117, 110, 116, 101, 114, 46, 97, 100, 100]) = false := by simpa using hx0
  by_cases hx1 : (X.toList == [108, 101, 100, 103, 101, 114, 46, 98, 97, 108, 97, 110, 99, 101]) = true
  · go_wp2_with fail
    refine (seat_text_walk w1 k0 k9).mono ?_
    rintro e w3 ⟨v, cs, rfl, hv, hs, hb3'⟩
    obtain ⟨k1, i1, f1, s1, A1, n1, c1, rfl⟩ := hv.reads.form
    try dsimp only
    have R4 := row_one hv (Nat.le_trans hb1.size hb3'.size |> fun _ => hb3'.size)
    have hb4 := (below_then hb3' hb1).alloc (below_then hb3' hb1).size (.cells #[.int .i64 k1, .int .i64 i1, .float .f64 f1, .string s1, .slice A1 n1 c1] 64)
    have fin : ArgS w (.returned (.slice (some ⟨w3.heap.size, 0, none⟩) 1 1)) (w3.alloc (.cells #[.int .i64 k1, .int .i64 i1, .float .f64 f1, .string s1, .slice A1 n1 c1] 64)) := ⟨_, _, [v], _, _, rfl, R4.down hb1.size, all_1 (hs.mono (by decide) (by decide)), by simp, hb4⟩
    replace fin := Lib.hid fin
    go_wp2_with fail
    go_ret
    exact fin.out
  replace hx1 : (X.toList == [108, 101, 100, 103, 101, 114, 46, 98, 97, 108, 97, 110, 99, 101]) = false := by simpa using hx1
  by_cases hx2 : (X.toList == [108, 101, 100, 103, 101, 114, 46, 99, 108, 111, 115, 101]) = true
  · go_wp2_with fail
    refine (seat_text_walk w1 k0 k9).mono ?_
    rintro e w3 ⟨v, cs, rfl, hv, hs, hb3'⟩
    obtain ⟨k1, i1, f1, s1, A1, n1, c1, rfl⟩ := hv.reads.form
    try dsimp only
    have R4 := row_one hv (Nat.le_trans hb1.size hb3'.size |> fun _ => hb3'.size)
    have hb4 := (below_then hb3' hb1).alloc (below_then hb3' hb1).size (.cells #[.int .i64 k1, .int .i64 i1, .float .f64 f1, .string s1, .slice A1 n1 c1] 64)
    have fin : ArgS w (.returned (.slice (some ⟨w3.heap.size, 0, none⟩) 1 1)) (w3.alloc (.cells #[.int .i64 k1, .int .i64 i1, .float .f64 f1, .string s1, .slice A1 n1 c1] 64)) := ⟨_, _, [v], _, _, rfl, R4.down hb1.size, all_1 (hs.mono (by decide) (by decide)), by simp, hb4⟩
    replace fin := Lib.hid fin
    go_wp2_with fail
    go_ret
    exact fin.out
  replace hx2 : (X.toList == [108, 101, 100, 103, 101, 114, 46, 99, 108, 111, 115, 101]) = false := by simpa using hx2
  by_cases hx3 : (X.toList == [108, 101, 100, 103, 101, 114, 46, 111, 112, 101, 110]) = true
  · go_wp2_with fail
    refine (seat_text_walk w1 k0 k9).mono ?_
    rintro e w3 ⟨v, cs, rfl, hv, hs, hb3'⟩
    obtain ⟨k1, i1, f1, s1, A1, n1, c1, rfl⟩ := hv.reads.form
    try dsimp only
    have R4 := row_one hv (Nat.le_trans hb1.size hb3'.size |> fun _ => hb3'.size)
    have hb4 := (below_then hb3' hb1).alloc (below_then hb3' hb1).size (.cells #[.int .i64 k1, .int .i64 i1, .float .f64 f1, .string s1, .slice A1 n1 c1] 64)
    have fin : ArgS w (.returned (.slice (some ⟨w3.heap.size, 0, none⟩) 1 1)) (w3.alloc (.cells #[.int .i64 k1, .int .i64 i1, .float .f64 f1, .string s1, .slice A1 n1 c1] 64)) := ⟨_, _, [v], _, _, rfl, R4.down hb1.size, all_1 (hs.mono (by decide) (by decide)), by simp, hb4⟩
    replace fin := Lib.hid fin
    go_wp2_with fail
    go_ret
    exact fin.out
  replace hx3 : (X.toList == [108, 101, 100, 103, 101, 114, 46, 111, 112, 101, 110]) = false := by simpa using hx3
  by_cases hx4 : (X.toList == [116, 97, 98, 108, 101, 46, 100, 101, 108]) = true
  · go_wp2_with fail
    refine (seat_text_walk w1 k0 k9).mono ?_
    rintro e w3 ⟨v, cs, rfl, hv, hs, hb3'⟩
    obtain ⟨k1, i1, f1, s1, A1, n1, c1, rfl⟩ := hv.reads.form
    try dsimp only
    have R4 := row_one hv (Nat.le_trans hb1.size hb3'.size |> fun _ => hb3'.size)
    have hb4 := (below_then hb3' hb1).alloc (below_then hb3' hb1).size (.cells #[.int .i64 k1, .int .i64 i1, .float .f64 f1, .string s1, .slice A1 n1 c1] 64)
    have fin : ArgS w (.returned (.slice (some ⟨w3.heap.size, 0, none⟩) 1 1)) (w3.alloc (.cells #[.int .i64 k1, .int .i64 i1, .float .f64 f1, .string s1, .slice A1 n1 c1] 64)) := ⟨_, _, [v], _, _, rfl, R4.down hb1.size, all_1 (hs.mono (by decide) (by decide)), by simp, hb4⟩
    replace fin := Lib.hid fin
    go_wp2_with fail
    go_ret
    exact fin.out
  replace hx4 : (X.toList == [116, 97, 98, 108, 101, 46, 100, 101, 108]) = false := by simpa using hx4
  by_cases hx5 : (X.toList == [116, 97, 98, 108, 101, 46, 103, 101, 116]) = true
  · go_wp2_with fail
    refine (seat_text_walk w1 k0 k9).mono ?_
    rintro e w3 ⟨v, cs, rfl, hv, hs, hb3'⟩
    obtain ⟨k1, i1, f1, s1, A1, n1, c1, rfl⟩ := hv.reads.form
    try dsimp only
    have R4 := row_one hv (Nat.le_trans hb1.size hb3'.size |> fun _ => hb3'.size)
    have hb4 := (below_then hb3' hb1).alloc (below_then hb3' hb1).size (.cells #[.int .i64 k1, .int .i64 i1, .float .f64 f1, .string s1, .slice A1 n1 c1] 64)
    have fin : ArgS w (.returned (.slice (some ⟨w3.heap.size, 0, none⟩) 1 1)) (w3.alloc (.cells #[.int .i64 k1, .int .i64 i1, .float .f64 f1, .string s1, .slice A1 n1 c1] 64)) := ⟨_, _, [v], _, _, rfl, R4.down hb1.size, all_1 (hs.mono (by decide) (by decide)), by simp, hb4⟩
    replace fin := Lib.hid fin
    go_wp2_with fail
    go_ret
    exact fin.out
  replace hx5 : (X.toList == [116, 97, 98, 108, 101, 46, 103, 101, 116]) = false := by simpa using hx5
  by_cases hx6 : (X.toList == [108, 101, 100, 103, 101, 114, 46, 100, 101, 112, 111, 115, 105, 116]) = true
  · have hS0 : Below w1.heap.size w1 w1.drew := (Below.refl _ _).drew
    go_wp2_with fail
    refine wp_region_lex (fun W => Below w1.heap.size w1 W) [1, 4, 7, 9] [2, 11, 12] [0, 1, 3, 4, 5, 6, 7, 8, 9, 10, 2, 11, 12, 13] (by kernel_rfl) rfl (by kernel_rfl) (by kernel_rfl) (fun _ _ d _ _ h => by cases d <;> exact h) ?_
    repeat (first | (refine lexG_take _ ?_ rfl rfl rfl rfl (fun _ => ?_) ?_; rotate_left; (focus (go_simp; with_reducible rfl)); try simp only [Act.put, List.setIfInBounds_toArray, List.set_cons_zero, List.set_cons_succ]) | (refine lexG_held _ ?_ rfl rfl rfl rfl (by assumption) (fun _ hSw => ?_) ?_; rotate_left; (focus (have h1 := (hq1.below hSw hq1.lt).val5; clear hSw; go_simp; with_reducible rfl)); try simp only [Act.put, List.setIfInBounds_toArray, List.set_cons_zero, List.set_cons_succ]) | (refine lexG_skip _ rfl rfl (by assumption) ?_; try simp only [Act.put, List.setIfInBounds_toArray, List.set_cons_zero, List.set_cons_succ]))
    refine lexG_now _ rfl rfl rfl (fun K0 hK => ?_)
    go_wp2_with fail
    refine (seat_text_walk w1.drew k0 k9).mono ?_
    rintro e wa1 ⟨v1, cs1, rfl, hv1, hs1, hb1'⟩
    obtain ⟨k1, i1, f1, s1, A1, n1, c1, rfl⟩ := hv1.reads.form
    try dsimp only
    have hS1 := below_then hb1' hS0
    refine hK _ _ _ (fun _ h => h) hS1 ?_
    clear hK K0
    try simp only [Act.put, List.setIfInBounds_toArray, List.set_cons_zero, List.set_cons_succ]
    repeat (first | (refine lexG_take _ ?_ rfl rfl rfl rfl (fun _ => ?_) ?_; rotate_left; (focus (go_simp; with_reducible rfl)); try simp only [Act.put, List.setIfInBounds_toArray, List.set_cons_zero, List.set_cons_succ]) | (refine lexG_held _ ?_ rfl rfl rfl rfl (by assumption) (fun _ hSw => ?_) ?_; rotate_left; (focus (have h1 := (hq1.below hSw hq1.lt).val5; clear hSw; go_simp; with_reducible rfl)); try simp only [Act.put, List.setIfInBounds_toArray, List.set_cons_zero, List.set_cons_succ]) | (refine lexG_skip _ rfl rfl (by assumption) ?_; try simp only [Act.put, List.setIfInBounds_toArray, List.set_cons_zero, List.set_cons_succ]))
    refine lexG_now _ rfl rfl rfl (fun K0 hK => ?_)
    go_wp2_with fail
    refine (seat_value_walk (G := 0) (M := 0) (K := K / 5) wa1 (by omega) (by omega) n0 n9 hF).mono ?_
    rintro e wa2 ⟨v2, cs2, rfl, hv2, hs2, hb2'⟩
    obtain ⟨k2, i2, f2, s2, A2, n2, c2, rfl⟩ := hv2.reads.form
    try dsimp only
    have hS2 := below_then hb2' hS1
    refine hK _ _ _ (fun _ h => h) hS2 ?_
    clear hK K0
    try simp only [Act.put, List.setIfInBounds_toArray, List.set_cons_zero, List.set_cons_succ]
    repeat (first | (refine lexG_take _ ?_ rfl rfl rfl rfl (fun _ => ?_) ?_; rotate_left; (focus (go_simp; with_reducible rfl)); try simp only [Act.put, List.setIfInBounds_toArray, List.set_cons_zero, List.set_cons_succ]) | (refine lexG_held _ ?_ rfl rfl rfl rfl (by assumption) (fun _ hSw => ?_) ?_; rotate_left; (focus (have h1 := (hq1.below hSw hq1.lt).val5; clear hSw; go_simp; with_reducible rfl)); try simp only [Act.put, List.setIfInBounds_toArray, List.set_cons_zero, List.set_cons_succ]) | (refine lexG_skip _ rfl rfl (by assumption) ?_; try simp only [Act.put, List.setIfInBounds_toArray, List.set_cons_zero, List.set_cons_succ]))
    have hu1 := ((hv1.upd (Upd.of_below_size (S := fun _ => False) hb2') (fun _ _ h => h))).mono (Q := fun g => w1.heap.size ≤ g) (fun g _ hg => Nat.le_trans hS0.size hg)
    have hu2 := (hv2).mono (Q := fun g => w1.heap.size ≤ g) (fun g _ hg => Nat.le_trans hS1.size hg)
    have R5 := row_two (w1 := w1) (w2 := w1) hu1 hu2 hS2.size
    have hS9 := hS2.alloc hS2.size (.cells #[.int .i64 k1, .int .i64 i1, .float .f64 f1, .string s1, .slice A1 n1 c1, .int .i64 k2, .int .i64 i2, .float .f64 f2, .string s2, .slice A2 n2 c2] 64)
    refine lexG_now _ rfl rfl rfl (fun K0 hK => ?_)
    go_wp2_with fail
    generalize wa2.alloc (.cells #[.int .i64 k1, .int .i64 i1, .float .f64 f1, .string s1, .slice A1 n1 c1, .int .i64 k2, .int .i64 i2, .float .f64 f2, .string s2, .slice A2 n2 c2] 64) = w9 at *
    refine hK _ _ _ (fun _ h => h) hS9 ?_
    clear hK K0
    try simp only [Act.put, List.setIfInBounds_toArray, List.set_cons_zero, List.set_cons_succ]
    repeat (first | (refine lexG_take _ ?_ rfl rfl rfl rfl (fun _ => ?_) ?_; rotate_left; (focus (go_simp; with_reducible rfl)); try simp only [Act.put, List.setIfInBounds_toArray, List.set_cons_zero, List.set_cons_succ]) | (refine lexG_held _ ?_ rfl rfl rfl rfl (by assumption) (fun _ hSw => ?_) ?_; rotate_left; (focus (have h1 := (hq1.below hSw hq1.lt).val5; clear hSw; go_simp; with_reducible rfl)); try simp only [Act.put, List.setIfInBounds_toArray, List.set_cons_zero, List.set_cons_succ]) | (refine lexG_skip _ rfl rfl (by assumption) ?_; try simp only [Act.put, List.setIfInBounds_toArray, List.set_cons_zero, List.set_cons_succ]))
    refine lexG_nil ?_
    have fin : ArgS w (.returned (.slice (some ⟨wa2.heap.size, 0, none⟩) 2 2)) w9 := ⟨_, _, [v1, v2], _, _, rfl, R5.down hb1.size, all_2 (hs1.mono (by decide) (by decide)) (hs2.mono (by decide) (by decide)), by simp, below_then hS9 hb1⟩
    replace fin := Lib.hid fin
    go_wp2_with fail
    go_ret
    exact fin.out
  replace hx6 : (X.toList == [108, 101, 100, 103, 101, 114, 46, 100, 101, 112, 111, 115, 105, 116]) = false := by simpa using hx6
  by_cases hx7 : (X.toList == [108, 101, 100, 103, 101, 114, 46, 116, 114, 97, 110, 115, 102, 101, 114]) = true
  · have hS0 : Below w1.heap.size w1 w1.drew := (Below.refl _ _).drew
    go_wp2_with fail
    refine wp_region_lex (fun W => Below w1.heap.size w1 W) [1, 4, 8] [2, 6, 9, 10] [0, 1, 3, 4, 5, 7, 8, 2, 6, 9, 10, 11] (by kernel_rfl) rfl (by kernel_rfl) (by kernel_rfl) (fun _ _ d _ _ h => by cases d <;> exact h) ?_
    repeat (first | (refine lexG_take _ ?_ rfl rfl rfl rfl (fun _ => ?_) ?_; rotate_left; (focus (go_simp; with_reducible rfl)); try simp only [Act.put, List.setIfInBounds_toArray, List.set_cons_zero, List.set_cons_succ]) | (refine lexG_held _ ?_ rfl rfl rfl rfl (by assumption) (fun _ hSw => ?_) ?_; rotate_left; (focus (have h1 := (hq1.below hSw hq1.lt).val5; clear hSw; go_simp; with_reducible rfl)); try simp only [Act.put, List.setIfInBounds_toArray, List.set_cons_zero, List.set_cons_succ]) | (refine lexG_skip _ rfl rfl (by assumption) ?_; try simp only [Act.put, List.setIfInBounds_toArray, List.set_cons_zero, List.set_cons_succ]))
    refine lexG_now _ rfl rfl rfl (fun K0 hK => ?_)
    go_wp2_with fail
    refine (seat_text_walk w1.drew k0 k9).mono ?_
    rintro e wa1 ⟨v1, cs1, rfl, hv1, hs1, hb1'⟩
    obtain ⟨k1, i1, f1, s1, A1, n1, c1, rfl⟩ := hv1.reads.form
    try dsimp only
    have hS1 := below_then hb1' hS0
    refine hK _ _ _ (fun _ h => h) hS1 ?_
    clear hK K0
    try simp only [Act.put, List.setIfInBounds_toArray, List.set_cons_zero, List.set_cons_succ]
    repeat (first | (refine lexG_take _ ?_ rfl rfl rfl rfl (fun _ => ?_) ?_; rotate_left; (focus (go_simp; with_reducible rfl)); try simp only [Act.put, List.setIfInBounds_toArray, List.set_cons_zero, List.set_cons_succ]) | (refine lexG_held _ ?_ rfl rfl rfl rfl (by assumption) (fun _ hSw => ?_) ?_; rotate_left; (focus (have h1 := (hq1.below hSw hq1.lt).val5; clear hSw; go_simp; with_reducible rfl)); try simp only [Act.put, List.setIfInBounds_toArray, List.set_cons_zero, List.set_cons_succ]) | (refine lexG_skip _ rfl rfl (by assumption) ?_; try simp only [Act.put, List.setIfInBounds_toArray, List.set_cons_zero, List.set_cons_succ]))
    refine lexG_now _ rfl rfl rfl (fun K0 hK => ?_)
    go_wp2_with fail
    refine (seat_text_walk wa1 (k := K / 5) (by omega) (by omega)).mono ?_
    rintro e wa2 ⟨v2, cs2, rfl, hv2, hs2, hb2'⟩
    obtain ⟨k2, i2, f2, s2, A2, n2, c2, rfl⟩ := hv2.reads.form
    try dsimp only
    have hS2 := below_then hb2' hS1
    refine hK _ _ _ (fun _ h => h) hS2 ?_
    clear hK K0
    try simp only [Act.put, List.setIfInBounds_toArray, List.set_cons_zero, List.set_cons_succ]
    repeat (first | (refine lexG_take _ ?_ rfl rfl rfl rfl (fun _ => ?_) ?_; rotate_left; (focus (go_simp; with_reducible rfl)); try simp only [Act.put, List.setIfInBounds_toArray, List.set_cons_zero, List.set_cons_succ]) | (refine lexG_held _ ?_ rfl rfl rfl rfl (by assumption) (fun _ hSw => ?_) ?_; rotate_left; (focus (have h1 := (hq1.below hSw hq1.lt).val5; clear hSw; go_simp; with_reducible rfl)); try simp only [Act.put, List.setIfInBounds_toArray, List.set_cons_zero, List.set_cons_succ]) | (refine lexG_skip _ rfl rfl (by assumption) ?_; try simp only [Act.put, List.setIfInBounds_toArray, List.set_cons_zero, List.set_cons_succ]))
    refine lexG_now _ rfl rfl rfl (fun K0 hK => ?_)
    go_wp2_with fail
    refine (float_any wa2 hF).mono ?_
    rintro e wa3 ⟨v3, cs3, rfl, hv3, hs3, hb3'⟩
    obtain ⟨k3, i3, f3, s3, A3, n3, c3, rfl⟩ := hv3.reads.form
    try dsimp only
    have hS3 := below_then hb3' hS2
    refine hK _ _ _ (fun _ h => h) hS3 ?_
    clear hK K0
    try simp only [Act.put, List.setIfInBounds_toArray, List.set_cons_zero, List.set_cons_succ]
    repeat (first | (refine lexG_take _ ?_ rfl rfl rfl rfl (fun _ => ?_) ?_; rotate_left; (focus (go_simp; with_reducible rfl)); try simp only [Act.put, List.setIfInBounds_toArray, List.set_cons_zero, List.set_cons_succ]) | (refine lexG_held _ ?_ rfl rfl rfl rfl (by assumption) (fun _ hSw => ?_) ?_; rotate_left; (focus (have h1 := (hq1.below hSw hq1.lt).val5; clear hSw; go_simp; with_reducible rfl)); try simp only [Act.put, List.setIfInBounds_toArray, List.set_cons_zero, List.set_cons_succ]) | (refine lexG_skip _ rfl rfl (by assumption) ?_; try simp only [Act.put, List.setIfInBounds_toArray, List.set_cons_zero, List.set_cons_succ]))
    have hu1 := (((hv1.upd (Upd.of_below_size (S := fun _ => False) hb2') (fun _ _ h => h)).upd (Upd.of_below_size (S := fun _ => False) hb3') (fun _ _ h => h))).mono (Q := fun g => w1.heap.size ≤ g) (fun g _ hg => Nat.le_trans hS0.size hg)
    have hu2 := ((hv2.upd (Upd.of_below_size (S := fun _ => False) hb3') (fun _ _ h => h))).mono (Q := fun g => w1.heap.size ≤ g) (fun g _ hg => Nat.le_trans hS1.size hg)
    have hu3 := (hv3).mono (Q := fun g => w1.heap.size ≤ g) (fun g _ hg => Nat.le_trans hS2.size hg)
    have R5 := row_three hu1 hu2 hu3 hS3.size
    have hS9 := hS3.alloc hS3.size (.cells #[.int .i64 k1, .int .i64 i1, .float .f64 f1, .string s1, .slice A1 n1 c1, .int .i64 k2, .int .i64 i2, .float .f64 f2, .string s2, .slice A2 n2 c2, .int .i64 k3, .int .i64 i3, .float .f64 f3, .string s3, .slice A3 n3 c3] 64)
    refine lexG_now _ rfl rfl rfl (fun K0 hK => ?_)
    go_wp2_with fail
    generalize wa3.alloc (.cells #[.int .i64 k1, .int .i64 i1, .float .f64 f1, .string s1, .slice A1 n1 c1, .int .i64 k2, .int .i64 i2, .float .f64 f2, .string s2, .slice A2 n2 c2, .int .i64 k3, .int .i64 i3, .float .f64 f3, .string s3, .slice A3 n3 c3] 64) = w9 at *
    refine hK _ _ _ (fun _ h => h) hS9 ?_
    clear hK K0
    try simp only [Act.put, List.setIfInBounds_toArray, List.set_cons_zero, List.set_cons_succ]
    repeat (first | (refine lexG_take _ ?_ rfl rfl rfl rfl (fun _ => ?_) ?_; rotate_left; (focus (go_simp; with_reducible rfl)); try simp only [Act.put, List.setIfInBounds_toArray, List.set_cons_zero, List.set_cons_succ]) | (refine lexG_held _ ?_ rfl rfl rfl rfl (by assumption) (fun _ hSw => ?_) ?_; rotate_left; (focus (have h1 := (hq1.below hSw hq1.lt).val5; clear hSw; go_simp; with_reducible rfl)); try simp only [Act.put, List.setIfInBounds_toArray, List.set_cons_zero, List.set_cons_succ]) | (refine lexG_skip _ rfl rfl (by assumption) ?_; try simp only [Act.put, List.setIfInBounds_toArray, List.set_cons_zero, List.set_cons_succ]))
    refine lexG_nil ?_
    have fin : ArgS w (.returned (.slice (some ⟨wa3.heap.size, 0, none⟩) 3 3)) w9 := ⟨_, _, [v1, v2, v3], _, _, rfl, R5.down hb1.size, all_3 (hs1.mono (by decide) (by decide)) (hs2.mono (by decide) (by decide)) (hs3.mono (by decide) (by decide)), by simp, below_then hS9 hb1⟩
    replace fin := Lib.hid fin
    go_wp2_with fail
    go_ret
    exact fin.out
  replace hx7 : (X.toList == [108, 101, 100, 103, 101, 114, 46, 116, 114, 97, 110, 115, 102, 101, 114]) = false := by simpa using hx7
  by_cases hx8 : (X.toList == [113, 117, 101, 117, 101, 46, 110, 116, 104]) = true
  · go_wp2_with fail
    refine (int_any w1 (i := N.tmod 5) (by omega)).mono ?_
    rintro e w3 ⟨v, cs, rfl, hv, hs, hb3'⟩
    obtain ⟨k1, i1, f1, s1, A1, n1, c1, rfl⟩ := hv.reads.form
    try dsimp only
    have R4 := row_one hv (Nat.le_trans hb1.size hb3'.size |> fun _ => hb3'.size)
    have hb4 := (below_then hb3' hb1).alloc (below_then hb3' hb1).size (.cells #[.int .i64 k1, .int .i64 i1, .float .f64 f1, .string s1, .slice A1 n1 c1] 64)
    have fin : ArgS w (.returned (.slice (some ⟨w3.heap.size, 0, none⟩) 1 1)) (w3.alloc (.cells #[.int .i64 k1, .int .i64 i1, .float .f64 f1, .string s1, .slice A1 n1 c1] 64)) := ⟨_, _, [v], _, _, rfl, R4.down hb1.size, all_1 (hs.mono (by decide) (by decide)), by simp, hb4⟩
    replace fin := Lib.hid fin
    go_wp2_with fail
    go_ret
    exact fin.out
  replace hx8 : (X.toList == [113, 117, 101, 117, 101, 46, 110, 116, 104]) = false := by simpa using hx8
  by_cases hx9 : (X.toList == [113, 117, 101, 117, 101, 46, 112, 117, 115, 104]) = true
  · go_wp2_with fail
    refine (seat_value_walk (G := G) (M := M) w1 k0 k9 n0 n9 hF).mono ?_
    rintro e w3 ⟨v, cs, rfl, hv, hs, hb3'⟩
    obtain ⟨k1, i1, f1, s1, A1, n1, c1, rfl⟩ := hv.reads.form
    try dsimp only
    have R4 := row_one hv (Nat.le_trans hb1.size hb3'.size |> fun _ => hb3'.size)
    have hb4 := (below_then hb3' hb1).alloc (below_then hb3' hb1).size (.cells #[.int .i64 k1, .int .i64 i1, .float .f64 f1, .string s1, .slice A1 n1 c1] 64)
    have fin : ArgS w (.returned (.slice (some ⟨w3.heap.size, 0, none⟩) 1 1)) (w3.alloc (.cells #[.int .i64 k1, .int .i64 i1, .float .f64 f1, .string s1, .slice A1 n1 c1] 64)) := ⟨_, _, [v], _, _, rfl, R4.down hb1.size, all_1 (hs.mono (by decide) (by decide)), by simp, hb4⟩
    replace fin := Lib.hid fin
    go_wp2_with fail
    go_ret
    exact fin.out
  replace hx9 : (X.toList == [113, 117, 101, 117, 101, 46, 112, 117, 115, 104]) = false := by simpa using hx9
  by_cases hx10 : (X.toList == [114, 101, 103, 105, 115, 116, 101, 114, 46, 115, 101, 116]) = true
  · go_wp2_with fail
    refine (seat_value_walk (G := G) (M := M) w1 k0 k9 n0 n9 hF).mono ?_
    rintro e w3 ⟨v, cs, rfl, hv, hs, hb3'⟩
    obtain ⟨k1, i1, f1, s1, A1, n1, c1, rfl⟩ := hv.reads.form
    try dsimp only
    have R4 := row_one hv (Nat.le_trans hb1.size hb3'.size |> fun _ => hb3'.size)
    have hb4 := (below_then hb3' hb1).alloc (below_then hb3' hb1).size (.cells #[.int .i64 k1, .int .i64 i1, .float .f64 f1, .string s1, .slice A1 n1 c1] 64)
    have fin : ArgS w (.returned (.slice (some ⟨w3.heap.size, 0, none⟩) 1 1)) (w3.alloc (.cells #[.int .i64 k1, .int .i64 i1, .float .f64 f1, .string s1, .slice A1 n1 c1] 64)) := ⟨_, _, [v], _, _, rfl, R4.down hb1.size, all_1 (hs.mono (by decide) (by decide)), by simp, hb4⟩
    replace fin := Lib.hid fin
    go_wp2_with fail
    go_ret
    exact fin.out
  replace hx10 : (X.toList == [114, 101, 103, 105, 115, 116, 101, 114, 46, 115, 101, 116]) = false := by simpa using hx10
  by_cases hx11 : (X.toList == [114, 101, 103, 105, 115, 116, 101, 114, 46, 99, 97, 115]) = true
  · have hS0 : Below w1.heap.size w1 w1.drew := (Below.refl _ _).drew
    go_wp2_with fail
    refine wp_region_lex (fun W => Below w1.heap.size w1 W) [1, 4] [3, 5, 6] [0, 1, 2, 4, 3, 5, 6, 7] (by kernel_rfl) rfl (by kernel_rfl) (by kernel_rfl) (fun _ _ d _ _ h => by cases d <;> exact h) ?_
    repeat (first | (refine lexG_take _ ?_ rfl rfl rfl rfl (fun _ => ?_) ?_; rotate_left; (focus (go_simp; with_reducible rfl)); try simp only [Act.put, List.setIfInBounds_toArray, List.set_cons_zero, List.set_cons_succ]) | (refine lexG_held _ ?_ rfl rfl rfl rfl (by assumption) (fun _ hSw => ?_) ?_; rotate_left; (focus (have h1 := (hq1.below hSw hq1.lt).val5; clear hSw; go_simp; with_reducible rfl)); try simp only [Act.put, List.setIfInBounds_toArray, List.set_cons_zero, List.set_cons_succ]) | (refine lexG_skip _ rfl rfl (by assumption) ?_; try simp only [Act.put, List.setIfInBounds_toArray, List.set_cons_zero, List.set_cons_succ]))
    refine lexG_now _ rfl rfl rfl (fun K0 hK => ?_)
    go_wp2_with fail
    refine (seat_value_walk (G := 0) (M := 0) (K := 1) (N := 0) w1.drew (by decide) (by decide) (by decide) (by decide) hF).mono ?_
    rintro e wa1 ⟨v1, cs1, rfl, hv1, hs1, hb1'⟩
    obtain ⟨k1, i1, f1, s1, A1, n1, c1, rfl⟩ := hv1.reads.form
    try dsimp only
    have hS1 := below_then hb1' hS0
    refine hK _ _ _ (fun _ h => h) hS1 ?_
    clear hK K0
    try simp only [Act.put, List.setIfInBounds_toArray, List.set_cons_zero, List.set_cons_succ]
    repeat (first | (refine lexG_take _ ?_ rfl rfl rfl rfl (fun _ => ?_) ?_; rotate_left; (focus (go_simp; with_reducible rfl)); try simp only [Act.put, List.setIfInBounds_toArray, List.set_cons_zero, List.set_cons_succ]) | (refine lexG_held _ ?_ rfl rfl rfl rfl (by assumption) (fun _ hSw => ?_) ?_; rotate_left; (focus (have h1 := (hq1.below hSw hq1.lt).val5; clear hSw; go_simp; with_reducible rfl)); try simp only [Act.put, List.setIfInBounds_toArray, List.set_cons_zero, List.set_cons_succ]) | (refine lexG_skip _ rfl rfl (by assumption) ?_; try simp only [Act.put, List.setIfInBounds_toArray, List.set_cons_zero, List.set_cons_succ]))
    refine lexG_now _ rfl rfl rfl (fun K0 hK => ?_)
    go_wp2_with fail
    refine (seat_value_walk (G := G) (M := M) wa1 k0 k9 n0 n9 hF).mono ?_
    rintro e wa2 ⟨v2, cs2, rfl, hv2, hs2, hb2'⟩
    obtain ⟨k2, i2, f2, s2, A2, n2, c2, rfl⟩ := hv2.reads.form
    try dsimp only
    have hS2 := below_then hb2' hS1
    refine hK _ _ _ (fun _ h => h) hS2 ?_
    clear hK K0
    try simp only [Act.put, List.setIfInBounds_toArray, List.set_cons_zero, List.set_cons_succ]
    repeat (first | (refine lexG_take _ ?_ rfl rfl rfl rfl (fun _ => ?_) ?_; rotate_left; (focus (go_simp; with_reducible rfl)); try simp only [Act.put, List.setIfInBounds_toArray, List.set_cons_zero, List.set_cons_succ]) | (refine lexG_held _ ?_ rfl rfl rfl rfl (by assumption) (fun _ hSw => ?_) ?_; rotate_left; (focus (have h1 := (hq1.below hSw hq1.lt).val5; clear hSw; go_simp; with_reducible rfl)); try simp only [Act.put, List.setIfInBounds_toArray, List.set_cons_zero, List.set_cons_succ]) | (refine lexG_skip _ rfl rfl (by assumption) ?_; try simp only [Act.put, List.setIfInBounds_toArray, List.set_cons_zero, List.set_cons_succ]))
    have hu1 := ((hv1.upd (Upd.of_below_size (S := fun _ => False) hb2') (fun _ _ h => h))).mono (Q := fun g => w1.heap.size ≤ g) (fun g _ hg => Nat.le_trans hS0.size hg)
    have hu2 := (hv2).mono (Q := fun g => w1.heap.size ≤ g) (fun g _ hg => Nat.le_trans hS1.size hg)
    have R5 := row_two (w1 := w1) (w2 := w1) hu1 hu2 hS2.size
    have hS9 := hS2.alloc hS2.size (.cells #[.int .i64 k1, .int .i64 i1, .float .f64 f1, .string s1, .slice A1 n1 c1, .int .i64 k2, .int .i64 i2, .float .f64 f2, .string s2, .slice A2 n2 c2] 64)
    refine lexG_now _ rfl rfl rfl (fun K0 hK => ?_)
    go_wp2_with fail
    generalize wa2.alloc (.cells #[.int .i64 k1, .int .i64 i1, .float .f64 f1, .string s1, .slice A1 n1 c1, .int .i64 k2, .int .i64 i2, .float .f64 f2, .string s2, .slice A2 n2 c2] 64) = w9 at *
    refine hK _ _ _ (fun _ h => h) hS9 ?_
    clear hK K0
    try simp only [Act.put, List.setIfInBounds_toArray, List.set_cons_zero, List.set_cons_succ]
    repeat (first | (refine lexG_take _ ?_ rfl rfl rfl rfl (fun _ => ?_) ?_; rotate_left; (focus (go_simp; with_reducible rfl)); try simp only [Act.put, List.setIfInBounds_toArray, List.set_cons_zero, List.set_cons_succ]) | (refine lexG_held _ ?_ rfl rfl rfl rfl (by assumption) (fun _ hSw => ?_) ?_; rotate_left; (focus (have h1 := (hq1.below hSw hq1.lt).val5; clear hSw; go_simp; with_reducible rfl)); try simp only [Act.put, List.setIfInBounds_toArray, List.set_cons_zero, List.set_cons_succ]) | (refine lexG_skip _ rfl rfl (by assumption) ?_; try simp only [Act.put, List.setIfInBounds_toArray, List.set_cons_zero, List.set_cons_succ]))
    refine lexG_nil ?_
    have fin : ArgS w (.returned (.slice (some ⟨wa2.heap.size, 0, none⟩) 2 2)) w9 := ⟨_, _, [v1, v2], _, _, rfl, R5.down hb1.size, all_2 (hs1.mono (by decide) (by decide)) (hs2.mono (by decide) (by decide)), by simp, below_then hS9 hb1⟩
    replace fin := Lib.hid fin
    go_wp2_with fail
    go_ret
    exact fin.out
  replace hx11 : (X.toList == [114, 101, 103, 105, 115, 116, 101, 114, 46, 99, 97, 115]) = false := by simpa using hx11
  by_cases hx12 : (X.toList == [116, 97, 98, 108, 101, 46, 112, 117, 116]) = true
  · have hS0 : Below w1.heap.size w1 w1.drew := (Below.refl _ _).drew
    go_wp2_with fail
    refine wp_region_lex (fun W => Below w1.heap.size w1 W) [1, 4, 7, 9] [2, 11, 12] [0, 1, 3, 4, 5, 6, 7, 8, 9, 10, 2, 11, 12, 13] (by kernel_rfl) rfl (by kernel_rfl) (by kernel_rfl) (fun _ _ d _ _ h => by cases d <;> exact h) ?_
    repeat (first | (refine lexG_take _ ?_ rfl rfl rfl rfl (fun _ => ?_) ?_; rotate_left; (focus (go_simp; with_reducible rfl)); try simp only [Act.put, List.setIfInBounds_toArray, List.set_cons_zero, List.set_cons_succ]) | (refine lexG_held _ ?_ rfl rfl rfl rfl (by assumption) (fun _ hSw => ?_) ?_; rotate_left; (focus (have h1 := (hq1.below hSw hq1.lt).val5; clear hSw; go_simp; with_reducible rfl)); try simp only [Act.put, List.setIfInBounds_toArray, List.set_cons_zero, List.set_cons_succ]) | (refine lexG_skip _ rfl rfl (by assumption) ?_; try simp only [Act.put, List.setIfInBounds_toArray, List.set_cons_zero, List.set_cons_succ]))
    refine lexG_now _ rfl rfl rfl (fun K0 hK => ?_)
    go_wp2_with fail
    refine (seat_text_walk w1.drew k0 k9).mono ?_
    rintro e wa1 ⟨v1, cs1, rfl, hv1, hs1, hb1'⟩
    obtain ⟨k1, i1, f1, s1, A1, n1, c1, rfl⟩ := hv1.reads.form
    try dsimp only
    have hS1 := below_then hb1' hS0
    refine hK _ _ _ (fun _ h => h) hS1 ?_
    clear hK K0
    try simp only [Act.put, List.setIfInBounds_toArray, List.set_cons_zero, List.set_cons_succ]
    repeat (first | (refine lexG_take _ ?_ rfl rfl rfl rfl (fun _ => ?_) ?_; rotate_left; (focus (go_simp; with_reducible rfl)); try simp only [Act.put, List.setIfInBounds_toArray, List.set_cons_zero, List.set_cons_succ]) | (refine lexG_held _ ?_ rfl rfl rfl rfl (by assumption) (fun _ hSw => ?_) ?_; rotate_left; (focus (have h1 := (hq1.below hSw hq1.lt).val5; clear hSw; go_simp; with_reducible rfl)); try simp only [Act.put, List.setIfInBounds_toArray, List.set_cons_zero, List.set_cons_succ]) | (refine lexG_skip _ rfl rfl (by assumption) ?_; try simp only [Act.put, List.setIfInBounds_toArray, List.set_cons_zero, List.set_cons_succ]))
    refine lexG_now _ rfl rfl rfl (fun K0 hK => ?_)
    go_wp2_with fail
    refine (seat_value_walk (G := 0) (M := 0) (K := K / 5) wa1 (by omega) (by omega) n0 n9 hF).mono ?_
    rintro e wa2 ⟨v2, cs2, rfl, hv2, hs2, hb2'⟩
    obtain ⟨k2, i2, f2, s2, A2, n2, c2, rfl⟩ := hv2.reads.form
    try dsimp only
    have hS2 := below_then hb2' hS1
    refine hK _ _ _ (fun _ h => h) hS2 ?_
    clear hK K0
    try simp only [Act.put, List.setIfInBounds_toArray, List.set_cons_zero, List.set_cons_succ]
    repeat (first | (refine lexG_take _ ?_ rfl rfl rfl rfl (fun _ => ?_) ?_; rotate_left; (focus (go_simp; with_reducible rfl)); try simp only [Act.put, List.setIfInBounds_toArray, List.set_cons_zero, List.set_cons_succ]) | (refine lexG_held _ ?_ rfl rfl rfl rfl (by assumption) (fun _ hSw => ?_) ?_; rotate_left; (focus (have h1 := (hq1.below hSw hq1.lt).val5; clear hSw; go_simp; with_reducible rfl)); try simp only [Act.put, List.setIfInBounds_toArray, List.set_cons_zero, List.set_cons_succ]) | (refine lexG_skip _ rfl rfl (by assumption) ?_; try simp only [Act.put, List.setIfInBounds_toArray, List.set_cons_zero, List.set_cons_succ]))
    have hu1 := ((hv1.upd (Upd.of_below_size (S := fun _ => False) hb2') (fun _ _ h => h))).mono (Q := fun g => w1.heap.size ≤ g) (fun g _ hg => Nat.le_trans hS0.size hg)
    have hu2 := (hv2).mono (Q := fun g => w1.heap.size ≤ g) (fun g _ hg => Nat.le_trans hS1.size hg)
    have R5 := row_two (w1 := w1) (w2 := w1) hu1 hu2 hS2.size
    have hS9 := hS2.alloc hS2.size (.cells #[.int .i64 k1, .int .i64 i1, .float .f64 f1, .string s1, .slice A1 n1 c1, .int .i64 k2, .int .i64 i2, .float .f64 f2, .string s2, .slice A2 n2 c2] 64)
    refine lexG_now _ rfl rfl rfl (fun K0 hK => ?_)
    go_wp2_with fail
    generalize wa2.alloc (.cells #[.int .i64 k1, .int .i64 i1, .float .f64 f1, .string s1, .slice A1 n1 c1, .int .i64 k2, .int .i64 i2, .float .f64 f2, .string s2, .slice A2 n2 c2] 64) = w9 at *
    refine hK _ _ _ (fun _ h => h) hS9 ?_
    clear hK K0
    try simp only [Act.put, List.setIfInBounds_toArray, List.set_cons_zero, List.set_cons_succ]
    repeat (first | (refine lexG_take _ ?_ rfl rfl rfl rfl (fun _ => ?_) ?_; rotate_left; (focus (go_simp; with_reducible rfl)); try simp only [Act.put, List.setIfInBounds_toArray, List.set_cons_zero, List.set_cons_succ]) | (refine lexG_held _ ?_ rfl rfl rfl rfl (by assumption) (fun _ hSw => ?_) ?_; rotate_left; (focus (have h1 := (hq1.below hSw hq1.lt).val5; clear hSw; go_simp; with_reducible rfl)); try simp only [Act.put, List.setIfInBounds_toArray, List.set_cons_zero, List.set_cons_succ]) | (refine lexG_skip _ rfl rfl (by assumption) ?_; try simp only [Act.put, List.setIfInBounds_toArray, List.set_cons_zero, List.set_cons_succ]))
    refine lexG_nil ?_
    have fin : ArgS w (.returned (.slice (some ⟨wa2.heap.size, 0, none⟩) 2 2)) w9 := ⟨_, _, [v1, v2], _, _, rfl, R5.down hb1.size, all_2 (hs1.mono (by decide) (by decide)) (hs2.mono (by decide) (by decide)), by simp, below_then hS9 hb1⟩
    replace fin := Lib.hid fin
    go_wp2_with fail
    go_ret
    exact fin.out
  replace hx12 : (X.toList == [116, 97, 98, 108, 101, 46, 112, 117, 116]) = false := by simpa using hx12
  have fin : ArgS w (.returned (.slice none 0 0)) w1 := ⟨none, 0, [], [], fun _ => #[], rfl, VRow.nil _ _, by simp, by simp, hb1⟩
  replace fin := Lib.hid fin
  go_wp2_with fail
  go_ret
  exact fin.out
end Go.Proofs.Ytlkokkbikkbaoaa
