/- choirseat.value. -/
import Derived.Test.YtlkokkbikkbaoaaSt2
import Derived.Laws.FloatBits
import Derived.Test.YtlkokkbikkbaoaaB5
import Derived.Deep.CutRange
set_option linter.unusedSimpArgs false
set_option linter.unusedVariables false
set_option linter.unusedSimpArgs false
set_option linter.unusedVariables false
namespace Go.Proofs.Ytlkokkbikkbaoaa
open Go.RowKit
set_option maxRecDepth 100000

/-- A quotient: bits, and a world that drew or did not. -/
theorem quo_any {P : Program} (t : TypeId) (x y : Nat) (w : World) : ∃ r w', (binOp .quo t (.float .f64 x) (.float .f64 y)).run P w = .ok (.float .f64 r) w' ∧ (w' = w ∨ w' = w.drew) ∧ r < 18446744073709551616 := by
  cases h : FloatKind.f64.format.div x y with
  | some r =>
    refine ⟨r, w, by simp [binOp, Op.floatArith, h], .inl rfl, ?_⟩
    have := FloatKind.f64.format.div_lt h
    have h2 : (2 : Nat) ^ FloatKind.f64.format.width = 18446744073709551616 := by decide
    rw [h2] at this
    exact this
  | none =>
    refine ⟨_, w.drew, by simp [binOp, Op.floatArith, h, choose]; rfl, .inr rfl, ?_⟩
    simp [Question.nanBits, Question.cut]
    generalize w.tape w.drawn _ = z
    have hy : z / 2 % 4503599627370495 < 4503599627370495 := Nat.mod_lt _ (by decide)
    generalize z / 2 % 4503599627370495 = y at hy ⊢
    rcases (by omega : z % 2 = 0 ∨ z % 2 = 1) with h | h <;> rw [h] <;> omega

/-- Two values in a row of their own. -/
theorem row_two {w w1 w2 : World} {b : Nat} {u v : Val} {a0 a1 a2 a3 a4 b0 b1 b2 b3 b4 : Value} (hu : VOwn w (fun g => b ≤ g) u #[a0, a1, a2, a3, a4]) (hv : VOwn w (fun g => b ≤ g) v #[b0, b1, b2, b3, b4]) (hb : b ≤ w.heap.size) :
    VRow (w.alloc (.cells #[a0, a1, a2, a3, a4, b0, b1, b2, b3, b4] 64)) b [u, v] (some ⟨w.heap.size, 0, none⟩) 2 [a0, a1, a2, a3, a4, b0, b1, b2, b3, b4] (fun k => if k = 0 then #[a0, a1, a2, a3, a4] else #[b0, b1, b2, b3, b4]) := by
  have hk : ∀ x cs, VOwn w (fun g => b ≤ g) x cs → VOwn (w.alloc (.cells #[a0, a1, a2, a3, a4, b0, b1, b2, b3, b4] 64)) (fun g => b ≤ g ∧ some g ≠ bOf (some (⟨w.heap.size, 0, none⟩ : Addr))) x cs := fun x cs h => by
    have h1 := h.mono (Q := fun g => b ≤ g ∧ some g ≠ bOf (some (⟨w.heap.size, 0, none⟩ : Addr))) (fun g hg hb => ⟨hb, fun e => by simp [bOf] at e; omega⟩)
    exact h1.upd ((Upd.refl (fun _ => False) w).alloc _) (fun _ _ h => h)
  refine ⟨Own.new w 64 5 2 _ rfl (by decide), fun g hg => by simp [bOf] at hg; omega, fun k x hx => ?_, fun k hk => ?_⟩
  · rcases k with _ | _ | k
    · cases hx; exact hk _ _ hu
    · cases hx; exact hk _ _ hv
    · cases hx
  · have : k = 0 ∨ k = 1 := by simp at hk; omega
    rcases this with rfl | rfl <;> rfl
theorem row_one {w : World} {b : Nat} {u : Val} {a0 a1 a2 a3 a4 : Value} (hu : VOwn w (fun g => b ≤ g) u #[a0, a1, a2, a3, a4]) (hb : b ≤ w.heap.size) :
    VRow (w.alloc (.cells #[a0, a1, a2, a3, a4] 64)) b [u] (some ⟨w.heap.size, 0, none⟩) 1 [a0, a1, a2, a3, a4] (fun _ => #[a0, a1, a2, a3, a4]) := by
  refine ⟨Own.new w 64 5 1 _ rfl (by decide), fun g hg => by simp [bOf] at hg; omega, fun k x hx => ?_, fun k hk => ?_⟩
  · rcases k with _ | k
    · cases hx
      have h1 := hu.mono (Q := fun g => b ≤ g ∧ some g ≠ bOf (some (⟨w.heap.size, 0, none⟩ : Addr))) (fun g hg hb => ⟨hb, fun e => by simp [bOf] at e; omega⟩)
      exact h1.upd ((Upd.refl (fun _ => False) w).alloc _) (fun _ _ h => h)
    · cases hx
  · have : k = 0 := by simp at hk; omega
    subst this; rfl
/-- A value list whose items are in a row of their own. -/
theorem own_list {w : World} {b : Nat} {l : List Val} {A : Option Addr} {c : Nat} {xs : List Value} {css : Nat → Array Value} (R : VRow w b l A c xs css) (hl : l.length ≤ 64) : VOwn w (fun g => b ≤ g) (.mk 4 0 0 [] l) #[.int .i64 4, .int .i64 0, .float .f64 0, .string ⟨#[]⟩, .slice A l.length c] :=
  .mk css (by omega) R.ho R.hA (fun j v hv => (R.hx j v hv).mono (fun g _ hg => hg.1)) R.hxs

theorem seat_two {d n : Nat} {u v : Val} (hu : SeatV d n u) (hv : SeatV d n v) : SeatV (d + 1) (2 + 2 * n) (.mk 4 0 0 [] [u, v]) :=
  seat_list (l := [u, v]) (fun x hx => by
    simp only [List.mem_cons, List.not_mem_nil, or_false] at hx
    rcases hx with rfl | rfl
    · exact hu
    · exact hv) (by simp)

set_option maxHeartbeats 6400000 in
theorem seat_value_walk (w : World) {G M K N : Int} {F : Nat} (k0 : 0 ≤ K) (k9 : K ≤ 255) (n0 : -32768 ≤ N) (n9 : N ≤ 32767) (hF : F < 18446744073709551616) : Calls Try.prog 33 #[.agg #[.int .u8 G, .int .u8 M, .int .u8 K, .int .i16 N, .float .f64 F]] w (ValS 1 220 w) := by
  have hsf := fun a k x m w => run_store_float (P := Try.prog) a k x m w
  have htm : K.tmod 6 = K % 6 := Int.tmod_eq_emod_of_nonneg k0
  have hNw : IntKind.i64.wrap N = N := w64_id _ (by omega) (by omega)
  have hq0 := Blk.new w 47 #[.int .u8 G, .int .u8 M, .int .u8 K, .int .i16 N, .float .f64 F]
  have hz0 := Blk.new (w.alloc (.cells #[.int .u8 G, .int .u8 M, .int .u8 K, .int .i16 N, .float .f64 F] 47)) 64 #[.int .i64 0, .int .i64 0, .float .f64 0, .string ⟨#[]⟩, .slice none 0 0]
  rw [World.size_alloc] at hz0
  have hq1 := hq0.alloc (.cells #[.int .i64 0, .int .i64 0, .float .f64 0, .string ⟨#[]⟩, .slice none 0 0] 64)
  have hz1 := hz0
  have hb1 := ((Below.refl w.heap.size w).alloc (Nat.le_refl _) (.cells #[.int .u8 G, .int .u8 M, .int .u8 K, .int .i16 N, .float .f64 F] 47)).alloc (by simp) (.cells #[.int .i64 0, .int .i64 0, .float .f64 0, .string ⟨#[]⟩, .slice none 0 0] 64)
  have hqc := hq1.val5
  clear hq0 hz0
  go_enter Try.func33, Try.ntmps33
  go_upto_region 1 with (fail)
  generalize (w.alloc (.cells #[.int .u8 G, .int .u8 M, .int .u8 K, .int .i16 N, .float .f64 F] 47)).alloc (.cells #[.int .i64 0, .int .i64 0, .float .f64 0, .string ⟨#[]⟩, .slice none 0 0] 64) = w1 at *
  obtain ⟨z, hzz⟩ : ∃ z, w.heap.size + 1 = z := ⟨_, rfl⟩
  have hwz : w.heap.size ≤ z := by omega
  rw [hzz] at hz1 ⊢
  have hzl := hz1.lt
  replace hzz := Lib.hid hzz
  obtain ⟨q, hq⟩ : ∃ q, K % 6 = q := ⟨_, rfl⟩
  have hq6 : 0 ≤ q ∧ q ≤ 5 := by omega
  rw [hq] at htm
  replace hq := Lib.hid hq
  by_cases h0 : q = 0
  · subst h0
    go_wp2_with fail
    refine (int_val w1 (by omega)).mono ?_
    rintro e w3 ⟨rfl, hv, hs, hb3'⟩
    try dsimp only
    have hz3 := hz1.below hb3' hz1.lt
    have hzr := hz3.row #[.int .i64 1, .int .i64 N, .float .f64 0, .string ⟨#[]⟩, .slice none 0 0]
    have hbr := below_row (below_then hb3' hb1) (g := z) hwz #[.int .i64 1, .int .i64 N, .float .f64 0, .string ⟨#[]⟩, .slice none 0 0]
    have hv4 := (hv.upd ((Upd.refl (fun g => g = z) w3).setRow (g := z) (fun _ => rfl) #[.int .i64 1, .int .i64 N, .float .f64 0, .string ⟨#[]⟩, .slice none 0 0]) (fun g hg e => by have hg' : w1.heap.size ≤ g := hg; omega)).mono (Q := fun g => w1.heap.size ≤ g ∧ True) (fun g _ hg => ⟨hg, trivial⟩)
    have hw2 := hb1.size
    go_wp2_with (refine store_row_gen rfl 64 (Operand.tmp 2) _ rfl z #[.int .i64 1, .int .i64 N, .float .f64 0, .string ⟨#[]⟩, .slice none 0 0] (by simp [go_sem]) (by simp [go_sem]) 64 _ hz3 (by kernel_rfl) rfl (by simp [Value.oneCell']) (fun w9 hw9 => ?_); rw [← hw9] at hzr hbr hv4; clear hw9)
    refine bodyPost_ret (v := .agg #[.int .i64 1, .int .i64 N, .float .f64 0, .string ⟨#[]⟩, .slice none 0 0]) ?hr rfl ?fin
    case hr => exact results_cell_row rfl _ _ z 64 _ (0, 0) _ rfl hzr Try.underlying64 rfl (by kernel_rfl)
    case fin => exact ⟨_, _, rfl, hv4.mono (fun g _ hg => by have := hg.1; omega), hs.mono (by decide) (by decide), hbr⟩

  by_cases h1 : q = 1
  · subst h1
    go_wp2_with fail
    refine (float_val w1 hF).mono ?_
    rintro e w3 ⟨rfl, hv, hs, hb3'⟩
    try dsimp only
    have hz3 := hz1.below hb3' hz1.lt
    have hzr := hz3.row #[.int .i64 2, .int .i64 0, .float .f64 (cb F), .string ⟨#[]⟩, .slice none 0 0]
    have hbr := below_row (below_then hb3' hb1) (g := z) hwz #[.int .i64 2, .int .i64 0, .float .f64 (cb F), .string ⟨#[]⟩, .slice none 0 0]
    have hv4 := (hv.upd ((Upd.refl (fun g => g = z) w3).setRow (g := z) (fun _ => rfl) #[.int .i64 2, .int .i64 0, .float .f64 (cb F), .string ⟨#[]⟩, .slice none 0 0]) (fun g hg e => by have hg' : w1.heap.size ≤ g := hg; omega)).mono (Q := fun g => w1.heap.size ≤ g ∧ True) (fun g _ hg => ⟨hg, trivial⟩)
    have hw2 := hb1.size
    go_wp2_with (refine store_row_gen rfl 64 (Operand.tmp 2) _ rfl z #[.int .i64 2, .int .i64 0, .float .f64 (cb F), .string ⟨#[]⟩, .slice none 0 0] (by simp [go_sem]) (by simp [go_sem]) 64 _ hz3 (by kernel_rfl) rfl (by simp [Value.oneCell']) (fun w9 hw9 => ?_); rw [← hw9] at hzr hbr hv4; clear hw9)
    refine bodyPost_ret (v := .agg #[.int .i64 2, .int .i64 0, .float .f64 (cb F), .string ⟨#[]⟩, .slice none 0 0]) ?hr rfl ?fin
    case hr => exact results_cell_row rfl _ _ z 64 _ (0, 0) _ rfl hzr Try.underlying64 rfl (by kernel_rfl)
    case fin => exact ⟨_, _, rfl, hv4.mono (fun g _ hg => by have := hg.1; omega), hs.mono (by decide) (by decide), hbr⟩

  by_cases h2 : q = 2
  · subst h2
    go_wp2_with fail
    refine (seat_text_walk w1 k0 k9).mono ?_
    rintro e w3 ⟨v, cs, rfl, hv, hs, hb3'⟩
    obtain ⟨k1, i1, f1, s1, A1, n1, c1, rfl⟩ := hv.reads.form
    try dsimp only
    have hz3 := hz1.below hb3' hz1.lt
    have hzr := hz3.row #[.int .i64 k1, .int .i64 i1, .float .f64 f1, .string s1, .slice A1 n1 c1]
    have hbr := below_row (below_then hb3' hb1) (g := z) hwz #[.int .i64 k1, .int .i64 i1, .float .f64 f1, .string s1, .slice A1 n1 c1]
    have hv4 := (hv.upd ((Upd.refl (fun g => g = z) w3).setRow (g := z) (fun _ => rfl) #[.int .i64 k1, .int .i64 i1, .float .f64 f1, .string s1, .slice A1 n1 c1]) (fun g hg e => by have hg' : w1.heap.size ≤ g := hg; omega)).mono (Q := fun g => w1.heap.size ≤ g ∧ True) (fun g _ hg => ⟨hg, trivial⟩)
    have hw2 := hb1.size
    go_wp2_with (refine store_row_gen rfl 64 (Operand.tmp 2) _ rfl z #[.int .i64 k1, .int .i64 i1, .float .f64 f1, .string s1, .slice A1 n1 c1] (by simp [go_sem]) (by simp [go_sem]) 64 _ hz3 (by kernel_rfl) rfl (by simp [Value.oneCell']) (fun w9 hw9 => ?_); rw [← hw9] at hzr hbr hv4; clear hw9)
    refine bodyPost_ret (v := .agg #[.int .i64 k1, .int .i64 i1, .float .f64 f1, .string s1, .slice A1 n1 c1]) ?hr rfl ?fin
    case hr => exact results_cell_row rfl _ _ z 64 _ (0, 0) _ rfl hzr Try.underlying64 rfl (by kernel_rfl)
    case fin => exact ⟨_, _, rfl, hv4.mono (fun g _ hg => by have := hg.1; omega), hs.mono (by decide) (by decide), hbr⟩

  by_cases h3 : q = 3
  · subst h3
    have hS0 : Below w1.heap.size w1 w1.drew := (Below.refl _ _).drew
    go_wp2_with fail
    refine wp_region_lex (fun W => Below w1.heap.size w1 W) [1, 5] [3, 6, 7, 8, 9] [0, 1, 2, 4, 5, 3, 6, 7, 8, 9] (by kernel_rfl) rfl (by kernel_rfl) (by kernel_rfl) (fun _ _ d _ _ h => by cases d <;> exact h) ?_
    repeat (first | (refine lexG_take _ ?_ rfl rfl rfl rfl (fun _ => ?_) ?_; rotate_left; (focus (go_simp; with_reducible rfl)); try simp only [Act.put, List.setIfInBounds_toArray, List.set_cons_zero, List.set_cons_succ]) | (refine lexG_held _ ?_ rfl rfl rfl rfl (by assumption) (fun _ hSw => ?_) ?_; rotate_left; (focus (have h1 := (hq1.below hSw hq1.lt).val5; clear hSw; go_simp; with_reducible rfl)); try simp only [Act.put, List.setIfInBounds_toArray, List.set_cons_zero, List.set_cons_succ]) | (refine lexG_skip _ rfl rfl (by assumption) ?_; try simp only [Act.put, List.setIfInBounds_toArray, List.set_cons_zero, List.set_cons_succ]))
    refine lexG_now _ rfl rfl rfl (fun K0 hK => ?_)
    go_wp2_with fail
    refine (int_val w1.drew (by omega)).mono ?_
    rintro e w3 ⟨rfl, hv3, hs3, hb3'⟩
    try dsimp only
    have hS3 := below_then hb3' hS0
    refine hK _ _ _ (fun _ h => h) hS3 ?_
    clear hK K0
    try simp only [Act.put, List.setIfInBounds_toArray, List.set_cons_zero, List.set_cons_succ]
    repeat (first | (refine lexG_take _ ?_ rfl rfl rfl rfl (fun _ => ?_) ?_; rotate_left; (focus (go_simp; with_reducible rfl)); try simp only [Act.put, List.setIfInBounds_toArray, List.set_cons_zero, List.set_cons_succ]) | (refine lexG_held _ ?_ rfl rfl rfl rfl (by assumption) (fun _ hSw => ?_) ?_; rotate_left; (focus (have h1 := (hq1.below hSw hq1.lt).val5; clear hSw; go_simp; with_reducible rfl)); try simp only [Act.put, List.setIfInBounds_toArray, List.set_cons_zero, List.set_cons_succ]) | (refine lexG_skip _ rfl rfl (by assumption) ?_; try simp only [Act.put, List.setIfInBounds_toArray, List.set_cons_zero, List.set_cons_succ]))
    refine lexG_now _ rfl rfl rfl (fun K0 hK => ?_)
    go_wp2_with fail
    refine (float_val w3 hF).mono ?_
    rintro e w4 ⟨rfl, hv4, hs4, hb4'⟩
    try dsimp only
    have hS4 := below_then hb4' hS3
    refine hK _ _ _ (fun _ h => h) hS4 ?_
    clear hK K0
    try simp only [Act.put, List.setIfInBounds_toArray, List.set_cons_zero, List.set_cons_succ]
    repeat (first | (refine lexG_take _ ?_ rfl rfl rfl rfl (fun _ => ?_) ?_; rotate_left; (focus (go_simp; with_reducible rfl)); try simp only [Act.put, List.setIfInBounds_toArray, List.set_cons_zero, List.set_cons_succ]) | (refine lexG_held _ ?_ rfl rfl rfl rfl (by assumption) (fun _ hSw => ?_) ?_; rotate_left; (focus (have h1 := (hq1.below hSw hq1.lt).val5; clear hSw; go_simp; with_reducible rfl)); try simp only [Act.put, List.setIfInBounds_toArray, List.set_cons_zero, List.set_cons_succ]) | (refine lexG_skip _ rfl rfl (by assumption) ?_; try simp only [Act.put, List.setIfInBounds_toArray, List.set_cons_zero, List.set_cons_succ]))
    have R5 := row_two (w1 := w) (w2 := w) (b := w1.heap.size) ((hv3.upd (Upd.of_below_size (S := fun _ => False) hb4') (fun _ _ h => h)).mono (fun g _ hg => hg)) (hv4.mono (fun g _ hg => Nat.le_trans hS3.size hg)) hS4.size
    have hS5 := hS4.alloc hS4.size (.cells #[.int .i64 1, .int .i64 N, .float .f64 0, .string ⟨#[]⟩, .slice none 0 0, .int .i64 2, .int .i64 0, .float .f64 (cb F), .string ⟨#[]⟩, .slice none 0 0] 64)
    refine lexG_now _ rfl rfl rfl (fun K0 hK => ?_)
    go_wp2_with fail
    generalize w4.alloc (.cells #[.int .i64 1, .int .i64 N, .float .f64 0, .string ⟨#[]⟩, .slice none 0 0, .int .i64 2, .int .i64 0, .float .f64 (cb F), .string ⟨#[]⟩, .slice none 0 0] 64) = w5 at *
    refine hK _ _ _ (fun _ h => h) hS5 ?_
    clear hK K0
    try simp only [Act.put, List.setIfInBounds_toArray, List.set_cons_zero, List.set_cons_succ]
    repeat (first | (refine lexG_take _ ?_ rfl rfl rfl rfl (fun _ => ?_) ?_; rotate_left; (focus (go_simp; with_reducible rfl)); try simp only [Act.put, List.setIfInBounds_toArray, List.set_cons_zero, List.set_cons_succ]) | (refine lexG_held _ ?_ rfl rfl rfl rfl (by assumption) (fun _ hSw => ?_) ?_; rotate_left; (focus (have h1 := (hq1.below hSw hq1.lt).val5; clear hSw; go_simp; with_reducible rfl)); try simp only [Act.put, List.setIfInBounds_toArray, List.set_cons_zero, List.set_cons_succ]) | (refine lexG_skip _ rfl rfl (by assumption) ?_; try simp only [Act.put, List.setIfInBounds_toArray, List.set_cons_zero, List.set_cons_succ]))
    have hsl : SeatV 1 220 (.mk 4 0 0 [] [.mk 1 N 0 [] [], .mk 2 0 (cb F) [] []]) := (seat_two hs3 hs4).mono (by decide) (by decide)
    have hvl := own_list R5 (by simp)
    refine lexG_now _ rfl rfl rfl (fun K0 hK => ?_)
    go_wp2_with fail
    refine (list_says _ _ _ w5).mono ?_
    rintro e w6 ⟨rfl, hb6'⟩
    try dsimp only
    have hS6 := below_then hb6' hS5
    have hv6 := hvl.upd (Upd.of_below_size (S := fun _ => False) hb6') (fun _ _ h => h)
    refine hK _ _ _ (fun _ h => h) hS6 ?_
    clear hK K0
    try simp only [Act.put, List.setIfInBounds_toArray, List.set_cons_zero, List.set_cons_succ]
    repeat (first | (refine lexG_take _ ?_ rfl rfl rfl rfl (fun _ => ?_) ?_; rotate_left; (focus (go_simp; with_reducible rfl)); try simp only [Act.put, List.setIfInBounds_toArray, List.set_cons_zero, List.set_cons_succ]) | (refine lexG_held _ ?_ rfl rfl rfl rfl (by assumption) (fun _ hSw => ?_) ?_; rotate_left; (focus (have h1 := (hq1.below hSw hq1.lt).val5; clear hSw; go_simp; with_reducible rfl)); try simp only [Act.put, List.setIfInBounds_toArray, List.set_cons_zero, List.set_cons_succ]) | (refine lexG_skip _ rfl rfl (by assumption) ?_; try simp only [Act.put, List.setIfInBounds_toArray, List.set_cons_zero, List.set_cons_succ]))
    have hz6 := hz1.below hS6 hz1.lt
    have hzr := hz6.row #[.int .i64 4, .int .i64 0, .float .f64 0, .string ⟨#[]⟩, .slice (some ⟨w4.heap.size, 0, none⟩) 2 2]
    have hbr := below_row (below_then hS6 hb1) (g := z) hwz #[.int .i64 4, .int .i64 0, .float .f64 0, .string ⟨#[]⟩, .slice (some ⟨w4.heap.size, 0, none⟩) 2 2]
    have hv7 := hv6.upd ((Upd.refl (fun g => g = z) w6).setRow (g := z) (fun _ => rfl) #[.int .i64 4, .int .i64 0, .float .f64 0, .string ⟨#[]⟩, .slice (some ⟨w4.heap.size, 0, none⟩) 2 2]) (fun g hg e => by have hg' : w1.heap.size ≤ g := hg; omega)
    refine lexG_nowF _ rfl rfl rfl (by kernel_rfl) (fun K0 hK => ?_)
    refine wp_store_row 64 (Operand.tmp 2) _ rfl z #[.int .i64 4, .int .i64 0, .float .f64 0, .string ⟨#[]⟩, .slice (some ⟨w4.heap.size, 0, none⟩) 2 2] (by simp [go_sem]) (by simp [go_sem]) 64 _ hz6 (by kernel_rfl) rfl (by simp [Value.oneCell']) ?_
    go_simp
    refine hK _ _ ?_
    clear hK K0
    refine lexG_nil ?_
    have hw1 := hb1.size
    go_wp2_with fail
    refine bodyPost_ret (v := .agg #[.int .i64 4, .int .i64 0, .float .f64 0, .string ⟨#[]⟩, .slice (some ⟨w4.heap.size, 0, none⟩) 2 2]) ?hr rfl ?fin
    case hr => exact results_cell_row rfl _ _ z 64 _ (0, 0) _ rfl hzr Try.underlying64 rfl (by kernel_rfl)
    case fin => exact ⟨_, _, rfl, hv7.mono (fun g _ hg => by have hg' : w1.heap.size ≤ g := hg; omega), hsl, hbr⟩
  have d0 : (q == 0) = false := by rw [beq_eq_false_iff_ne]; exact h0
  have d1 : (q == 1) = false := by rw [beq_eq_false_iff_ne]; exact h1
  have d2 : (q == 2) = false := by rw [beq_eq_false_iff_ne]; exact h2
  have d3 : (q == 3) = false := by rw [beq_eq_false_iff_ne]; exact h3
  obtain ⟨r, w', hrun, hw', hr⟩ := quo_any (P := Try.prog) 45 (floatOfInt FloatKind.f64 N) 4616189618054758400 w1
  go_upto_region 10 with (fail)
  rcases hw' with rfl | rfl
  · go_wp2_with fail
    refine (float_val w' hr).mono ?_
    rintro e w3 ⟨rfl, hv, hs, hb3'⟩
    try dsimp only
    have hz3 := hz1.below hb3' hz1.lt
    have hzr := hz3.row #[.int .i64 2, .int .i64 0, .float .f64 (cb r), .string ⟨#[]⟩, .slice none 0 0]
    have hbr := below_row (below_then hb3' hb1) (g := z) hwz #[.int .i64 2, .int .i64 0, .float .f64 (cb r), .string ⟨#[]⟩, .slice none 0 0]
    have hv4 := (hv.upd ((Upd.refl (fun g => g = z) w3).setRow (g := z) (fun _ => rfl) #[.int .i64 2, .int .i64 0, .float .f64 (cb r), .string ⟨#[]⟩, .slice none 0 0]) (fun g hg e => by have hg' : w'.heap.size ≤ g := hg; omega)).mono (Q := fun g => w'.heap.size ≤ g ∧ True) (fun g _ hg => ⟨hg, trivial⟩)
    have hw2 := hb1.size
    go_wp2_with (refine store_row_gen rfl 64 (Operand.tmp 2) _ rfl z #[.int .i64 2, .int .i64 0, .float .f64 (cb r), .string ⟨#[]⟩, .slice none 0 0] (by simp [go_sem]) (by simp [go_sem]) 64 _ hz3 (by kernel_rfl) rfl (by simp [Value.oneCell']) (fun w9 hw9 => ?_); rw [← hw9] at hzr hbr hv4; clear hw9)
    refine bodyPost_ret (v := .agg #[.int .i64 2, .int .i64 0, .float .f64 (cb r), .string ⟨#[]⟩, .slice none 0 0]) ?hr rfl ?fin
    case hr => exact results_cell_row rfl _ _ z 64 _ (0, 0) _ rfl hzr Try.underlying64 rfl (by kernel_rfl)
    case fin => exact ⟨_, _, rfl, hv4.mono (fun g _ hg => by have := hg.1; omega), hs.mono (by decide) (by decide), hbr⟩

  · go_wp2_with fail
    have hz1 := hz1.drew
    have hb1 := hb1.drew
    refine (float_val w1.drew hr).mono ?_
    rintro e w3 ⟨rfl, hv, hs, hb3'⟩
    try dsimp only
    have hz3 := hz1.below hb3' hz1.lt
    have hzr := hz3.row #[.int .i64 2, .int .i64 0, .float .f64 (cb r), .string ⟨#[]⟩, .slice none 0 0]
    have hbr := below_row (below_then hb3' hb1) (g := z) hwz #[.int .i64 2, .int .i64 0, .float .f64 (cb r), .string ⟨#[]⟩, .slice none 0 0]
    have hv4 := (hv.upd ((Upd.refl (fun g => g = z) w3).setRow (g := z) (fun _ => rfl) #[.int .i64 2, .int .i64 0, .float .f64 (cb r), .string ⟨#[]⟩, .slice none 0 0]) (fun g hg e => by have hg' : w1.heap.size ≤ g := hg; omega)).mono (Q := fun g => w1.heap.size ≤ g ∧ True) (fun g _ hg => ⟨hg, trivial⟩)
    have hw2 := hb1.size
    go_wp2_with (refine store_row_gen rfl 64 (Operand.tmp 2) _ rfl z #[.int .i64 2, .int .i64 0, .float .f64 (cb r), .string ⟨#[]⟩, .slice none 0 0] (by simp [go_sem]) (by simp [go_sem]) 64 _ hz3 (by kernel_rfl) rfl (by simp [Value.oneCell']) (fun w9 hw9 => ?_); rw [← hw9] at hzr hbr hv4; clear hw9)
    refine bodyPost_ret (v := .agg #[.int .i64 2, .int .i64 0, .float .f64 (cb r), .string ⟨#[]⟩, .slice none 0 0]) ?hr rfl ?fin
    case hr => exact results_cell_row rfl _ _ z 64 _ (0, 0) _ rfl hzr Try.underlying64 rfl (by kernel_rfl)
    case fin => exact ⟨_, _, rfl, hv4.mono (fun g _ hg => by have := hg.1; omega), hs.mono (by decide) (by decide), hbr⟩

end Go.Proofs.Ytlkokkbikkbaoaa
