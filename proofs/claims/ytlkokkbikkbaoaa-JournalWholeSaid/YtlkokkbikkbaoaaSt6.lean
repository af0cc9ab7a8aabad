/- choirseat.Admin. -/
import Derived.Test.YtlkokkbikkbaoaaSt5
set_option linter.unusedSimpArgs false
set_option linter.unusedVariables false
set_option linter.unusedSimpArgs false
set_option linter.unusedVariables false
namespace Go.Proofs.Ytlkokkbikkbaoaa
open Go.RowKit
set_option maxRecDepth 100000

/-- A call as the seat makes it, its arguments in new memory. -/
def OpS (w : World) (e : Ending) (w' : World) : Prop :=
  ∃ (gg mm : ByteArray) (l : List Val) (A : Option Addr) (c : Nat), e = .returned (.agg #[.int .u32 0, .int .u32 0, .int .u16 0, .string gg, .string mm, .slice A l.length c]) ∧ gg.size ≤ 8 ∧ mm.size ≤ 8 ∧ (∃ xs css, VRow w' w.heap.size l A c xs css) ∧ (∀ v ∈ l, SeatV 2 1102 v) ∧ l.length ≤ 6 ∧ Below w.heap.size w w'

set_option maxHeartbeats 25600000 in
theorem seat_admin_walk (w : World) {G M K N : Int} {F : Nat} (m0 : 0 ≤ M) (m9 : M ≤ 255) (k0 : 0 ≤ K) (k9 : K ≤ 255) : Calls Try.prog 13 #[.agg #[.int .u8 G, .int .u8 M, .int .u8 K, .int .i16 N, .float .f64 F]] w (OpS w) := by
  have htm : K.tmod 6 = K % 6 := Int.tmod_eq_emod_of_nonneg k0
  have htm2 : M.tmod 6 = M % 6 := Int.tmod_eq_emod_of_nonneg m0
  obtain ⟨g, hg⟩ : ∃ g : Nat, K % 6 = (g : Int) := ⟨(K % 6).toNat, by omega⟩
  have hg6 : g < 6 := by omega
  have hgi : (g : Int) < 6 := by omega
  obtain ⟨q, hq⟩ : ∃ q : Int, M % 6 = q := ⟨_, rfl⟩
  have hq6 : 0 ≤ q ∧ q ≤ 5 := by omega
  have hK6 : IntKind.u8.wrap (K / 6) = K / 6 := by
    unfold IntKind.wrap
    simp [IntKind.bits, IntKind.signed]
    omega
  have hq1 := ((Blk.new w 47 #[.int .u8 G, .int .u8 M, .int .u8 K, .int .i16 N, .float .f64 F]).alloc (.cells #[.int .u32 0, .int .u32 0, .int .u16 0, .string ⟨#[]⟩, .string ⟨#[]⟩, .slice none 0 0] 38)).alloc (.cells #[.int .u32 0, .int .u32 0, .int .u16 0, .string ⟨#[103, 114, 111, 117, 112, 115]⟩, .string ⟨#[]⟩, .slice none 0 0] 38)
  have hz1 := Blk.new (w.alloc (.cells #[.int .u8 G, .int .u8 M, .int .u8 K, .int .i16 N, .float .f64 F] 47)) 38 #[.int .u32 0, .int .u32 0, .int .u16 0, .string ⟨#[]⟩, .string ⟨#[]⟩, .slice none 0 0]
  have hy1 := Blk.new ((w.alloc (.cells #[.int .u8 G, .int .u8 M, .int .u8 K, .int .i16 N, .float .f64 F] 47)).alloc (.cells #[.int .u32 0, .int .u32 0, .int .u16 0, .string ⟨#[]⟩, .string ⟨#[]⟩, .slice none 0 0] 38)) 38 #[.int .u32 0, .int .u32 0, .int .u16 0, .string ⟨#[103, 114, 111, 117, 112, 115]⟩, .string ⟨#[]⟩, .slice none 0 0]
  rw [World.size_alloc] at hz1
  rw [World.size_alloc, World.size_alloc] at hy1
  have hz2 := hz1.alloc (.cells #[.int .u32 0, .int .u32 0, .int .u16 0, .string ⟨#[103, 114, 111, 117, 112, 115]⟩, .string ⟨#[]⟩, .slice none 0 0] 38)
  have hb2 := (((Below.refl w.heap.size w).alloc (Nat.le_refl _) (.cells #[.int .u8 G, .int .u8 M, .int .u8 K, .int .i16 N, .float .f64 F] 47)).alloc (by simp) (.cells #[.int .u32 0, .int .u32 0, .int .u16 0, .string ⟨#[]⟩, .string ⟨#[]⟩, .slice none 0 0] 38)).alloc (by simp only [World.size_alloc]; omega) (.cells #[.int .u32 0, .int .u32 0, .int .u16 0, .string ⟨#[103, 114, 111, 117, 112, 115]⟩, .string ⟨#[]⟩, .slice none 0 0] 38)
  have hqc := hq1.val5
  have hqi := (Blk.new w 47 #[.int .u8 G, .int .u8 M, .int .u8 K, .int .i16 N, .float .f64 F]).val5
  go_enter Try.func13, Try.ntmps13
  go_upto_region 3 with (fail)
  generalize ((w.alloc (.cells #[.int .u8 G, .int .u8 M, .int .u8 K, .int .i16 N, .float .f64 F] 47)).alloc (.cells #[.int .u32 0, .int .u32 0, .int .u16 0, .string ⟨#[]⟩, .string ⟨#[]⟩, .slice none 0 0] 38)).alloc (.cells #[.int .u32 0, .int .u32 0, .int .u16 0, .string ⟨#[103, 114, 111, 117, 112, 115]⟩, .string ⟨#[]⟩, .slice none 0 0] 38) = w2 at *
  obtain ⟨z, hzz⟩ : ∃ z, w.heap.size + 1 = z := ⟨_, rfl⟩
  obtain ⟨y, hyy⟩ : ∃ y, w.heap.size + 1 + 1 = y := ⟨_, rfl⟩
  rw [hyy] at hy1 ⊢
  rw [hzz] at hz2 ⊢
  have hwz : w.heap.size ≤ z := by omega
  have hwy : w.heap.size ≤ y := by omega
  have hzy : z < y := by omega
  have hyl := hy1.lt
  replace hzz := Lib.hid hzz
  replace hyy := Lib.hid hyy
  clear hqi hz1
  rw [hq] at htm2
  have hw2 := hb2.size
  replace hq := Lib.hid hq
  by_cases h0 : q = 0
  · subst h0
    go_wp2_with fail
    refine (names_walk w2).mono ?_
    rintro e w3 ⟨rfl, hst3, hb3'⟩
    try dsimp only
    obtain ⟨ad4, t4, e4, ht4, hcell4⟩ := hst3.cell hg6
    cases e4
    obtain ⟨T4, hT4⟩ : ∃ T4, bstr t4 = T4 := ⟨_, rfl⟩
    have hT4s : T4.size ≤ 100 := by rw [← hT4, bstr_len]; omega
    have h2lt : w2.heap.size < w3.heap.size := by
      have h := hcell4 w3 (Below.refl _ _)
      have h2 := World.block_lt_of_cell? w3 _ h
      rwa [block_of_add] at h2
    replace hcell4 : ∀ W, Upd (fun g => g = y) w3 W → W.cell? ⟨w2.heap.size, g, none⟩ = some (.string T4) := fun W hW => by
      have h := hcell4 w3 (Below.refl _ _)
      rw [hT4] at h
      have h0 : W.cell? ⟨w2.heap.size, g, none⟩ = w3.cell? ⟨w2.heap.size, g, none⟩ := World.cell?_of_block (w := w3) (hW.block _ h2lt (show ¬ (w2.heap.size = y) by omega))
      rw [h0, show (⟨w2.heap.size, g, none⟩ : Addr) = (⟨w2.heap.size, 0, none⟩ : Addr).add g by simp [Addr.add]; try omega]
      exact h
    have hc4 := hcell4 w3 (Upd.refl _ _)
    clear hcell4 hqc
    go_wp2_with fail
    clear hc4
    refine (text_any w3 hT4s).mono ?_
    rintro e w4 ⟨v1, cs1, rfl, hv1, hs1, hb4'⟩
    obtain ⟨k1, i1, f1, s1, A1, n1, c1, rfl⟩ := hv1.reads.form
    try dsimp only
    have hbx := below_then hb4' hb3'
    have Rv := (row_one hv1 hb4'.size).down hb3'.size
    have hbal := (Below.refl w4.heap.size w4).alloc (Nat.le_refl _) (.cells #[.int .i64 k1, .int .i64 i1, .float .f64 f1, .string s1, .slice A1 n1 c1] 64)
    have hby := below_then hbal hbx
    have hy4 := hy1.below hby hy1.lt
    have hz4 := hz2.below hby hz2.lt
    have hb4 := below_then hby hb2
    have hy5 : Blk ((w4.alloc (.cells #[.int .i64 k1, .int .i64 i1, .float .f64 f1, .string s1, .slice A1 n1 c1] 64)).setCell ⟨y, 4, none⟩ (.string ⟨#[100, 101, 115, 116, 114, 111, 121]⟩)) y 38 #[.int .u32 0, .int .u32 0, .int .u16 0, .string ⟨#[103, 114, 111, 117, 112, 115]⟩, .string ⟨#[100, 101, 115, 116, 114, 111, 121]⟩, .slice none 0 0] := hy4.set_ 4 (.string ⟨#[100, 101, 115, 116, 114, 111, 121]⟩)
    have hf4 := hy4.frozen 4
    have hf5 := hy5.frozen 5
    have hc4 := hy4.op6
    have hc5 := hy5.op6
    have hy6 : Blk (((w4.alloc (.cells #[.int .i64 k1, .int .i64 i1, .float .f64 f1, .string s1, .slice A1 n1 c1] 64)).setCell ⟨y, 4, none⟩ (.string ⟨#[100, 101, 115, 116, 114, 111, 121]⟩)).setCell ⟨y, 5, none⟩ (.slice (some ⟨w4.heap.size, 0, none⟩) 1 1)) y 38 #[.int .u32 0, .int .u32 0, .int .u16 0, .string ⟨#[103, 114, 111, 117, 112, 115]⟩, .string ⟨#[100, 101, 115, 116, 114, 111, 121]⟩, .slice (some ⟨w4.heap.size, 0, none⟩) 1 1] := hy5.set_ 5 (.slice (some ⟨w4.heap.size, 0, none⟩) 1 1)
    have hz6 := (hz4.far (p := ⟨y, 4, none⟩) (show z ≠ y by omega) (.string ⟨#[100, 101, 115, 116, 114, 111, 121]⟩)).far (p := ⟨y, 5, none⟩) (show z ≠ y by omega) (.slice (some ⟨w4.heap.size, 0, none⟩) 1 1)
    have hb6 := (hb4.setCell (p := ⟨y, 4, none⟩) hwy (.string ⟨#[100, 101, 115, 116, 114, 111, 121]⟩)).setCell (p := ⟨y, 5, none⟩) hwy (.slice (some ⟨w4.heap.size, 0, none⟩) 1 1)
    have R6 := (Rv).upd (((Upd.refl (fun g => g = y) (w4.alloc (.cells #[.int .i64 k1, .int .i64 i1, .float .f64 f1, .string s1, .slice A1 n1 c1] 64))).setCell (p := ⟨y, 4, none⟩) (fun _ => rfl) (.string ⟨#[100, 101, 115, 116, 114, 111, 121]⟩)).setCell (p := ⟨y, 5, none⟩) (fun _ => rfl) (.slice (some ⟨w4.heap.size, 0, none⟩) 1 1)) (fun g hg e => by have hg' : w2.heap.size ≤ g := hg; omega)

    go_upto_region 12 with (fail)
    generalize ((w4.alloc (.cells #[.int .i64 k1, .int .i64 i1, .float .f64 f1, .string s1, .slice A1 n1 c1] 64)).setCell ⟨y, 4, none⟩ (.string ⟨#[100, 101, 115, 116, 114, 111, 121]⟩)).setCell ⟨y, 5, none⟩ (.slice (some ⟨w4.heap.size, 0, none⟩) 1 1) = w10 at *
    clear hc4 hc5 hf4 hf5
    have hyc9 := hy6.op6
    have hzr := hz6.row #[.int .u32 0, .int .u32 0, .int .u16 0, .string ⟨#[103, 114, 111, 117, 112, 115]⟩, .string ⟨#[100, 101, 115, 116, 114, 111, 121]⟩, .slice (some ⟨w4.heap.size, 0, none⟩) 1 1]
    have hbr := below_row hb6 (g := z) hwz #[.int .u32 0, .int .u32 0, .int .u16 0, .string ⟨#[103, 114, 111, 117, 112, 115]⟩, .string ⟨#[100, 101, 115, 116, 114, 111, 121]⟩, .slice (some ⟨w4.heap.size, 0, none⟩) 1 1]
    have Rr := (R6).upd ((Upd.refl (fun g => g = z) w10).setRow (g := z) (fun _ => rfl) #[.int .u32 0, .int .u32 0, .int .u16 0, .string ⟨#[103, 114, 111, 117, 112, 115]⟩, .string ⟨#[100, 101, 115, 116, 114, 111, 121]⟩, .slice (some ⟨w4.heap.size, 0, none⟩) 1 1]) (fun g hg e => by have hg' : w2.heap.size ≤ g := hg; omega)
    go_wp2_with (refine store_row_gen rfl 38 (Operand.tmp 2) _ rfl z #[.int .u32 0, .int .u32 0, .int .u16 0, .string ⟨#[103, 114, 111, 117, 112, 115]⟩, .string ⟨#[100, 101, 115, 116, 114, 111, 121]⟩, .slice (some ⟨w4.heap.size, 0, none⟩) 1 1] (by simp [go_sem]) (by simp [go_sem]) 38 _ hz6 (by kernel_rfl) rfl (by simp [Value.oneCell']) (fun w11 hw11 => ?_); rw [← hw11] at hzr hbr Rr; clear hw11)
    refine bodyPost_ret (v := .agg #[.int .u32 0, .int .u32 0, .int .u16 0, .string ⟨#[103, 114, 111, 117, 112, 115]⟩, .string ⟨#[100, 101, 115, 116, 114, 111, 121]⟩, .slice (some ⟨w4.heap.size, 0, none⟩) 1 1]) ?hr rfl ?fin
    case hr => exact results_cell_row rfl _ _ z 38 _ (0, 0) _ rfl hzr Try.underlying38 rfl (by kernel_rfl)
    case fin => exact ⟨_, _, [v1], _, _, rfl, by decide, by decide, ⟨_, _, Rr.down hb2.size⟩, all_1 (hs1.mono (by decide) (by decide)), by simp, hbr⟩
  by_cases h12 : q = 1 ∨ q = 2
  · have d12 : (q == 0) = false ∧ ((q == 1) = true ∨ ((q == 1) = false ∧ (q == 2) = true)) := by
      rcases h12 with rfl | rfl
      · exact ⟨rfl, .inl rfl⟩
      · exact ⟨rfl, .inr ⟨rfl, rfl⟩⟩
    obtain ⟨d0, d12⟩ := d12
    clear h12 h0
    rcases d12 with d1 | ⟨d1, d2⟩
    all_goals
      have hS2 : Below w2.heap.size w2 w2.drew := (Below.refl _ _).drew
      go_wp2_with fail
      have hB2 : Upd (fun g => g = y) w2 w2.drew := (Upd.refl _ w2).drew
      refine wp_region_alts (fun W => Upd (fun g => g = y) w2 W) [3, 6] [0, 4, 8, 9, 11, 13] (.one 1 (.one 5 (.one 6 (.one 7 (.one 10 (.one 0 (.one 2 (.one 3 (.one 4 (.one 8 (.alt 9 (.one 11 (.one 12 (.one 13 .nil))) (.one 11 (.one 9 (.one 12 (.one 13 .nil))))))))))))))) (by kernel_rfl) rfl rfl (by kernel_rfl) (by kernel_rfl) (fun _ _ d _ _ h => by cases d <;> exact h) ?_
      repeat (first | (refine altG_take _ ?_ rfl rfl rfl rfl (fun _ => ?_) ?_; rotate_left; (focus (go_simp; with_reducible rfl)); try simp only [Act.put, List.setIfInBounds_toArray, List.set_cons_zero, List.set_cons_succ]) | (refine altG_held _ ?_ rfl rfl rfl rfl (by assumption) (fun _ hSw => ?_) ?_; rotate_left; (focus (have h1 := (hq1.upd hSw (show ¬ (w.heap.size = y) by omega)).val5; have h2 := True.intro; clear hSw; go_simp; with_reducible rfl)); try simp only [Act.put, List.setIfInBounds_toArray, List.set_cons_zero, List.set_cons_succ]) | (refine altG_skip _ rfl rfl (by assumption) ?_; try simp only [Act.put, List.setIfInBounds_toArray, List.set_cons_zero, List.set_cons_succ]))
      refine altG_now _ rfl rfl rfl (fun K0 hK => ?_)
      go_wp2_with fail
      refine (names_walk w2.drew).mono ?_
      rintro e w3 ⟨rfl, hst3, hb3'⟩
      try dsimp only
      obtain ⟨ad4, t4, e4, ht4, hcell4⟩ := hst3.cell hg6
      cases e4
      obtain ⟨T4, hT4⟩ : ∃ T4, bstr t4 = T4 := ⟨_, rfl⟩
      have hT4s : T4.size ≤ 100 := by rw [← hT4, bstr_len]; omega
      have h2lt : w2.heap.size < w3.heap.size := by
        have h := hcell4 w3 (Below.refl _ _)
        have h2 := World.block_lt_of_cell? w3 _ h
        rwa [block_of_add] at h2
      replace hcell4 : ∀ W, Upd (fun g => g = y) w3 W → W.cell? ⟨w2.heap.size, g, none⟩ = some (.string T4) := fun W hW => by
        have h := hcell4 w3 (Below.refl _ _)
        rw [hT4] at h
        have h0 : W.cell? ⟨w2.heap.size, g, none⟩ = w3.cell? ⟨w2.heap.size, g, none⟩ := World.cell?_of_block (w := w3) (hW.block _ h2lt (show ¬ (w2.heap.size = y) by omega))
        rw [h0, show (⟨w2.heap.size, g, none⟩ : Addr) = (⟨w2.heap.size, 0, none⟩ : Addr).add g by simp [Addr.add]; try omega]
        exact h
      have hS3 := below_then hb3' hS2
      have hB3 := Upd.refl (fun g => g = y) w3
      have hq3x := hq1.below hS3 hq1.lt
      refine hK _ _ (fun W => Upd (fun g => g = y) w3 W) (fun W hW => (Upd.of_below_size (S := fun g => g = y) hS3).trans hW (fun _ _ h => h)) (Upd.refl _ _) ?_
      clear hK K0
      try simp only [Act.put, List.setIfInBounds_toArray, List.set_cons_zero, List.set_cons_succ]
      repeat (first | (refine altG_take _ ?_ rfl rfl rfl rfl (fun _ => ?_) ?_; rotate_left; (focus (go_simp; with_reducible rfl)); try simp only [Act.put, List.setIfInBounds_toArray, List.set_cons_zero, List.set_cons_succ]) | (refine altG_held _ ?_ rfl rfl rfl rfl (by assumption) (fun _ hSw => ?_) ?_; rotate_left; (focus (have h1 := (hq3x.upd hSw (show ¬ (w.heap.size = y) by omega)).val5; have h2 := hcell4 _ hSw; clear hSw; go_simp; with_reducible rfl)); try simp only [Act.put, List.setIfInBounds_toArray, List.set_cons_zero, List.set_cons_succ]) | (refine altG_skip _ rfl rfl (by assumption) ?_; try simp only [Act.put, List.setIfInBounds_toArray, List.set_cons_zero, List.set_cons_succ]))
      refine altG_now _ rfl rfl rfl (fun K0 hK => ?_)
      go_wp2_with fail
      refine (text_any w3 hT4s).mono ?_
      rintro e w4 ⟨v4, cs4, rfl, hv4, hs4, hb4'⟩
      obtain ⟨k4, i4, f4, s4, A4, n4, c4, rfl⟩ := hv4.reads.form
      try dsimp only
      have hS4 := below_then hb4' hS3
      have hB4 := Upd.refl (fun g => g = y) w4
      have hq4x := hq1.below hS4 hq1.lt
      refine hK _ _ (fun W => Upd (fun g => g = y) w4 W) (fun W hW => (Upd.of_below_size (S := fun g => g = y) hb4').trans hW (fun _ _ h => h)) (Upd.refl _ _) ?_
      clear hK K0
      try simp only [Act.put, List.setIfInBounds_toArray, List.set_cons_zero, List.set_cons_succ]
      repeat (first | (refine altG_take _ ?_ rfl rfl rfl rfl (fun _ => ?_) ?_; rotate_left; (focus (go_simp; with_reducible rfl)); try simp only [Act.put, List.setIfInBounds_toArray, List.set_cons_zero, List.set_cons_succ]) | (refine altG_held _ ?_ rfl rfl rfl rfl (by assumption) (fun _ hSw => ?_) ?_; rotate_left; (focus (have h1 := (hq4x.upd hSw (show ¬ (w.heap.size = y) by omega)).val5; have h2 := True.intro; clear hSw; go_simp; with_reducible rfl)); try simp only [Act.put, List.setIfInBounds_toArray, List.set_cons_zero, List.set_cons_succ]) | (refine altG_skip _ rfl rfl (by assumption) ?_; try simp only [Act.put, List.setIfInBounds_toArray, List.set_cons_zero, List.set_cons_succ]))
      refine altG_now _ rfl rfl rfl (fun K0 hK => ?_)
      go_wp2_with fail
      refine (seat_style_walk w4 (k := K / 6) (by omega) (by omega)).mono ?_
      rintro e w5 ⟨v5, cs5, rfl, hv5, hs5, hb5'⟩
      obtain ⟨k5, i5, f5, s5, A5, n5, c5, rfl⟩ := hv5.reads.form
      try dsimp only
      have hS5 := below_then hb5' hS4
      have hB5 := Upd.refl (fun g => g = y) w5
      have hq5x := hq1.below hS5 hq1.lt
      refine hK _ _ (fun W => Upd (fun g => g = y) w5 W) (fun W hW => (Upd.of_below_size (S := fun g => g = y) hb5').trans hW (fun _ _ h => h)) (Upd.refl _ _) ?_
      clear hK K0
      try simp only [Act.put, List.setIfInBounds_toArray, List.set_cons_zero, List.set_cons_succ]
      repeat (first | (refine altG_take _ ?_ rfl rfl rfl rfl (fun _ => ?_) ?_; rotate_left; (focus (go_simp; with_reducible rfl)); try simp only [Act.put, List.setIfInBounds_toArray, List.set_cons_zero, List.set_cons_succ]) | (refine altG_held _ ?_ rfl rfl rfl rfl (by assumption) (fun _ hSw => ?_) ?_; rotate_left; (focus (have h1 := (hq5x.upd hSw (show ¬ (w.heap.size = y) by omega)).val5; have h2 := True.intro; clear hSw; go_simp; with_reducible rfl)); try simp only [Act.put, List.setIfInBounds_toArray, List.set_cons_zero, List.set_cons_succ]) | (refine altG_skip _ rfl rfl (by assumption) ?_; try simp only [Act.put, List.setIfInBounds_toArray, List.set_cons_zero, List.set_cons_succ]))
      have hu4 := ((hv4.upd (Upd.of_below_size (S := fun _ => False) hb5') (fun _ _ h => h))).mono (Q := fun g => w2.heap.size ≤ g) (fun g _ hg => Nat.le_trans hS3.size hg)
      have hu5 := (hv5).mono (Q := fun g => w2.heap.size ≤ g) (fun g _ hg => Nat.le_trans hS4.size hg)
      refine altG_alt rfl ?_ ?_
      · skip
        have Rv := row_two (w1 := w) (w2 := w) hu4 hu5 hS5.size
        have hby := hS5.alloc hS5.size (.cells #[.int .i64 k4, .int .i64 i4, .float .f64 f4, .string s4, .slice A4 n4 c4, .int .i64 k5, .int .i64 i5, .float .f64 f5, .string s5, .slice A5 n5 c5] 64)
        have hy4 := hy1.below hby hy1.lt
        have hz4 := hz2.below hby hz2.lt
        have hb4 := below_then hby hb2
        refine altG_now _ rfl rfl rfl (fun K0 hK => ?_)
        go_wp2_with fail
        generalize hw9 : w5.alloc (.cells #[.int .i64 k4, .int .i64 i4, .float .f64 f4, .string s4, .slice A4 n4 c4, .int .i64 k5, .int .i64 i5, .float .f64 f5, .string s5, .slice A5 n5 c5] 64) = w9 at *
        have hU9 : Upd (fun g => g = y) w5 w9 := by rw [← hw9]; exact (Upd.refl _ _).alloc _
        refine hK _ _ _ (fun _ h => h) hU9 ?_
        clear hK K0 hw9
        try simp only [Act.put, List.setIfInBounds_toArray, List.set_cons_zero, List.set_cons_succ]
        repeat (first | (refine altG_take _ ?_ rfl rfl rfl rfl (fun _ => ?_) ?_; rotate_left; (focus (go_simp; with_reducible rfl)); try simp only [Act.put, List.setIfInBounds_toArray, List.set_cons_zero, List.set_cons_succ]) | (refine altG_held _ ?_ rfl rfl rfl rfl (by assumption) (fun _ hSw => ?_) ?_; rotate_left; (focus (have h1 := (hq5x.upd hSw (show ¬ (w.heap.size = y) by omega)).val5; have h2 := True.intro; clear hSw; go_simp; with_reducible rfl)); try simp only [Act.put, List.setIfInBounds_toArray, List.set_cons_zero, List.set_cons_succ]) | (refine altG_skip _ rfl rfl (by assumption) ?_; try simp only [Act.put, List.setIfInBounds_toArray, List.set_cons_zero, List.set_cons_succ]))
        have hy5 : Blk (w9.setCell ⟨y, 4, none⟩ (.string ⟨#[115, 116, 121, 108, 101]⟩)) y 38 #[.int .u32 0, .int .u32 0, .int .u16 0, .string ⟨#[103, 114, 111, 117, 112, 115]⟩, .string ⟨#[115, 116, 121, 108, 101]⟩, .slice none 0 0] := hy4.set_ 4 (.string ⟨#[115, 116, 121, 108, 101]⟩)
        have hf4 := hy4.frozen 4
        have hf5 := hy5.frozen 5
        have hc4 := hy4.op6
        have hc5 := hy5.op6
        have hy6 : Blk ((w9.setCell ⟨y, 4, none⟩ (.string ⟨#[115, 116, 121, 108, 101]⟩)).setCell ⟨y, 5, none⟩ (.slice (some ⟨w5.heap.size, 0, none⟩) 2 2)) y 38 #[.int .u32 0, .int .u32 0, .int .u16 0, .string ⟨#[103, 114, 111, 117, 112, 115]⟩, .string ⟨#[115, 116, 121, 108, 101]⟩, .slice (some ⟨w5.heap.size, 0, none⟩) 2 2] := hy5.set_ 5 (.slice (some ⟨w5.heap.size, 0, none⟩) 2 2)
        have hz6 := (hz4.far (p := ⟨y, 4, none⟩) (show z ≠ y by omega) (.string ⟨#[115, 116, 121, 108, 101]⟩)).far (p := ⟨y, 5, none⟩) (show z ≠ y by omega) (.slice (some ⟨w5.heap.size, 0, none⟩) 2 2)
        have hb6 := (hb4.setCell (p := ⟨y, 4, none⟩) hwy (.string ⟨#[115, 116, 121, 108, 101]⟩)).setCell (p := ⟨y, 5, none⟩) hwy (.slice (some ⟨w5.heap.size, 0, none⟩) 2 2)
        have R6 := (Rv).upd (((Upd.refl (fun g => g = y) w9).setCell (p := ⟨y, 4, none⟩) (fun _ => rfl) (.string ⟨#[115, 116, 121, 108, 101]⟩)).setCell (p := ⟨y, 5, none⟩) (fun _ => rfl) (.slice (some ⟨w5.heap.size, 0, none⟩) 2 2)) (fun g hg e => by have hg' : w2.heap.size ≤ g := hg; omega)
        have hU10 := hU9.setCell (p := ⟨y, 4, none⟩) (fun _ => rfl) (.string ⟨#[115, 116, 121, 108, 101]⟩)
        have hU11 := hU10.setCell (p := ⟨y, 5, none⟩) (fun _ => rfl) (.slice (some ⟨w5.heap.size, 0, none⟩) 2 2)
        refine altG_now _ rfl rfl rfl (fun K0 hK => ?_)
        go_simp
        refine hK _ _ _ (fun _ h => h) hU10 ?_
        clear hK K0
        try simp only [Act.put, List.setIfInBounds_toArray, List.set_cons_zero, List.set_cons_succ]
        repeat (first | (refine altG_take _ ?_ rfl rfl rfl rfl (fun _ => ?_) ?_; rotate_left; (focus (go_simp; with_reducible rfl)); try simp only [Act.put, List.setIfInBounds_toArray, List.set_cons_zero, List.set_cons_succ]) | (refine altG_held _ ?_ rfl rfl rfl rfl (by assumption) (fun _ hSw => ?_) ?_; rotate_left; (focus (have h1 := (hq5x.upd hSw (show ¬ (w.heap.size = y) by omega)).val5; have h2 := True.intro; clear hSw; go_simp; with_reducible rfl)); try simp only [Act.put, List.setIfInBounds_toArray, List.set_cons_zero, List.set_cons_succ]) | (refine altG_skip _ rfl rfl (by assumption) ?_; try simp only [Act.put, List.setIfInBounds_toArray, List.set_cons_zero, List.set_cons_succ]))
        refine altG_now _ rfl rfl rfl (fun K0 hK => ?_)
        go_simp
        generalize (w9.setCell ⟨y, 4, none⟩ (.string ⟨#[115, 116, 121, 108, 101]⟩)).setCell ⟨y, 5, none⟩ (.slice (some ⟨w5.heap.size, 0, none⟩) 2 2) = w10 at *
        refine hK _ _ _ (fun _ h => h) hU11 ?_
        clear hK K0 hc4 hc5 hf4 hf5
        refine altG_nil ?_
        have hyc9 := hy6.op6
        have hzr := hz6.row #[.int .u32 0, .int .u32 0, .int .u16 0, .string ⟨#[103, 114, 111, 117, 112, 115]⟩, .string ⟨#[115, 116, 121, 108, 101]⟩, .slice (some ⟨w5.heap.size, 0, none⟩) 2 2]
        have hbr := below_row hb6 (g := z) hwz #[.int .u32 0, .int .u32 0, .int .u16 0, .string ⟨#[103, 114, 111, 117, 112, 115]⟩, .string ⟨#[115, 116, 121, 108, 101]⟩, .slice (some ⟨w5.heap.size, 0, none⟩) 2 2]
        have Rr := (R6).upd ((Upd.refl (fun g => g = z) w10).setRow (g := z) (fun _ => rfl) #[.int .u32 0, .int .u32 0, .int .u16 0, .string ⟨#[103, 114, 111, 117, 112, 115]⟩, .string ⟨#[115, 116, 121, 108, 101]⟩, .slice (some ⟨w5.heap.size, 0, none⟩) 2 2]) (fun g hg e => by have hg' : w2.heap.size ≤ g := hg; omega)
        go_wp2_with (refine store_row_gen rfl 38 (Operand.tmp 2) _ rfl z #[.int .u32 0, .int .u32 0, .int .u16 0, .string ⟨#[103, 114, 111, 117, 112, 115]⟩, .string ⟨#[115, 116, 121, 108, 101]⟩, .slice (some ⟨w5.heap.size, 0, none⟩) 2 2] (by simp [go_sem]) (by simp [go_sem]) 38 _ hz6 (by kernel_rfl) rfl (by simp [Value.oneCell']) (fun w11 hw11 => ?_); rw [← hw11] at hzr hbr Rr; clear hw11)
        refine bodyPost_ret (v := .agg #[.int .u32 0, .int .u32 0, .int .u16 0, .string ⟨#[103, 114, 111, 117, 112, 115]⟩, .string ⟨#[115, 116, 121, 108, 101]⟩, .slice (some ⟨w5.heap.size, 0, none⟩) 2 2]) ?hr rfl ?fin
        case hr => exact results_cell_row rfl _ _ z 38 _ (0, 0) _ rfl hzr Try.underlying38 rfl (by kernel_rfl)
        case fin => exact ⟨_, _, [v4, v5], _, _, rfl, by decide, by decide, ⟨_, _, Rr.down hb2.size⟩, all_2 (hs4.mono (by decide) (by decide)) (hs5.mono (by decide) (by decide)), by simp, hbr⟩
      · skip
        have hx4 := (hu4.upd ((Upd.refl (fun g => g = y) w5).setCell (p := ⟨y, 4, none⟩) (fun _ => rfl) (.string ⟨#[115, 116, 121, 108, 101]⟩)) (fun g hg e => by have hg' : w2.heap.size ≤ g := hg; omega))
        have hx5 := (hu5.upd ((Upd.refl (fun g => g = y) w5).setCell (p := ⟨y, 4, none⟩) (fun _ => rfl) (.string ⟨#[115, 116, 121, 108, 101]⟩)) (fun g hg e => by have hg' : w2.heap.size ≤ g := hg; omega))
        have hyA := hy1.below hS5 hy1.lt
        have hzA := hz2.below hS5 hz2.lt
        have hbA := below_then hS5 hb2
        have hf4 := hyA.frozen 4
        have hc4 := hyA.op6
        have hy8 : Blk (w5.setCell ⟨y, 4, none⟩ (.string ⟨#[115, 116, 121, 108, 101]⟩)) y 38 #[.int .u32 0, .int .u32 0, .int .u16 0, .string ⟨#[103, 114, 111, 117, 112, 115]⟩, .string ⟨#[115, 116, 121, 108, 101]⟩, .slice none 0 0] := hyA.set_ 4 (.string ⟨#[115, 116, 121, 108, 101]⟩)
        have hz8 := hzA.far (p := ⟨y, 4, none⟩) (show z ≠ y by omega) (.string ⟨#[115, 116, 121, 108, 101]⟩)
        have hb8 := hbA.setCell (p := ⟨y, 4, none⟩) hwy (.string ⟨#[115, 116, 121, 108, 101]⟩)
        have hs8 : w2.heap.size ≤ (w5.setCell ⟨y, 4, none⟩ (.string ⟨#[115, 116, 121, 108, 101]⟩)).heap.size := by rw [World.size_setCell]; exact hS5.size
        have hs88 : (w5.setCell ⟨y, 4, none⟩ (.string ⟨#[115, 116, 121, 108, 101]⟩)).heap.size = w5.heap.size := World.size_setCell ..
        have Rv := row_two (w1 := w) (w2 := w) hx4 hx5 hs8
        have hy9 := hy8.alloc (.cells #[.int .i64 k4, .int .i64 i4, .float .f64 f4, .string s4, .slice A4 n4 c4, .int .i64 k5, .int .i64 i5, .float .f64 f5, .string s5, .slice A5 n5 c5] 64)
        have hz9 := hz8.alloc (.cells #[.int .i64 k4, .int .i64 i4, .float .f64 f4, .string s4, .slice A4 n4 c4, .int .i64 k5, .int .i64 i5, .float .f64 f5, .string s5, .slice A5 n5 c5] 64)
        have hb9 := hb8.alloc hb8.size (.cells #[.int .i64 k4, .int .i64 i4, .float .f64 f4, .string s4, .slice A4 n4 c4, .int .i64 k5, .int .i64 i5, .float .f64 f5, .string s5, .slice A5 n5 c5] 64)
        have hf5 := hy9.frozen 5
        have hc5 := hy9.op6
        rw [hs88] at Rv
        have hy6 : Blk (((w5.setCell ⟨y, 4, none⟩ (.string ⟨#[115, 116, 121, 108, 101]⟩)).alloc (.cells #[.int .i64 k4, .int .i64 i4, .float .f64 f4, .string s4, .slice A4 n4 c4, .int .i64 k5, .int .i64 i5, .float .f64 f5, .string s5, .slice A5 n5 c5] 64)).setCell ⟨y, 5, none⟩ (.slice (some ⟨w5.heap.size, 0, none⟩) 2 2)) y 38 #[.int .u32 0, .int .u32 0, .int .u16 0, .string ⟨#[103, 114, 111, 117, 112, 115]⟩, .string ⟨#[115, 116, 121, 108, 101]⟩, .slice (some ⟨w5.heap.size, 0, none⟩) 2 2] := hy9.set_ 5 (.slice (some ⟨w5.heap.size, 0, none⟩) 2 2)
        have hz6 := hz9.far (p := ⟨y, 5, none⟩) (show z ≠ y by omega) (.slice (some ⟨w5.heap.size, 0, none⟩) 2 2)
        have hb6 := hb9.setCell (p := ⟨y, 5, none⟩) hwy (.slice (some ⟨w5.heap.size, 0, none⟩) 2 2)
        have R6 := Rv.upd ((Upd.refl (fun g => g = y) ((w5.setCell ⟨y, 4, none⟩ (.string ⟨#[115, 116, 121, 108, 101]⟩)).alloc (.cells #[.int .i64 k4, .int .i64 i4, .float .f64 f4, .string s4, .slice A4 n4 c4, .int .i64 k5, .int .i64 i5, .float .f64 f5, .string s5, .slice A5 n5 c5] 64))).setCell (p := ⟨y, 5, none⟩) (fun _ => rfl) (.slice (some ⟨w5.heap.size, 0, none⟩) 2 2)) (fun g hg e => by have hg' : w2.heap.size ≤ g := hg; omega)
        have hU8 := (Upd.refl (fun g => g = y) w5).setCell (p := ⟨y, 4, none⟩) (fun _ => rfl) (.string ⟨#[115, 116, 121, 108, 101]⟩)
        have hU9 := hU8.alloc (.cells #[.int .i64 k4, .int .i64 i4, .float .f64 f4, .string s4, .slice A4 n4 c4, .int .i64 k5, .int .i64 i5, .float .f64 f5, .string s5, .slice A5 n5 c5] 64)
        have hU11 := hU9.setCell (p := ⟨y, 5, none⟩) (fun _ => rfl) (.slice (some ⟨w5.heap.size, 0, none⟩) 2 2)
        refine altG_now _ rfl rfl rfl (fun K0 hK => ?_)
        go_simp
        refine hK _ _ _ (fun _ h => h) hU8 ?_
        clear hK K0
        try simp only [Act.put, List.setIfInBounds_toArray, List.set_cons_zero, List.set_cons_succ]
        repeat (first | (refine altG_take _ ?_ rfl rfl rfl rfl (fun _ => ?_) ?_; rotate_left; (focus (go_simp; with_reducible rfl)); try simp only [Act.put, List.setIfInBounds_toArray, List.set_cons_zero, List.set_cons_succ]) | (refine altG_held _ ?_ rfl rfl rfl rfl (by assumption) (fun _ hSw => ?_) ?_; rotate_left; (focus (have h1 := (hq5x.upd hSw (show ¬ (w.heap.size = y) by omega)).val5; have h2 := True.intro; clear hSw; go_simp; with_reducible rfl)); try simp only [Act.put, List.setIfInBounds_toArray, List.set_cons_zero, List.set_cons_succ]) | (refine altG_skip _ rfl rfl (by assumption) ?_; try simp only [Act.put, List.setIfInBounds_toArray, List.set_cons_zero, List.set_cons_succ]))
        refine altG_now _ rfl rfl rfl (fun K0 hK => ?_)
        go_wp2_with fail
        refine hK _ _ _ (fun _ h => h) hU9 ?_
        clear hK K0
        try simp only [Act.put, List.setIfInBounds_toArray, List.set_cons_zero, List.set_cons_succ]
        repeat (first | (refine altG_take _ ?_ rfl rfl rfl rfl (fun _ => ?_) ?_; rotate_left; (focus (go_simp; with_reducible rfl)); try simp only [Act.put, List.setIfInBounds_toArray, List.set_cons_zero, List.set_cons_succ]) | (refine altG_held _ ?_ rfl rfl rfl rfl (by assumption) (fun _ hSw => ?_) ?_; rotate_left; (focus (have h1 := (hq5x.upd hSw (show ¬ (w.heap.size = y) by omega)).val5; have h2 := True.intro; clear hSw; go_simp; with_reducible rfl)); try simp only [Act.put, List.setIfInBounds_toArray, List.set_cons_zero, List.set_cons_succ]) | (refine altG_skip _ rfl rfl (by assumption) ?_; try simp only [Act.put, List.setIfInBounds_toArray, List.set_cons_zero, List.set_cons_succ]))
        refine altG_now _ rfl rfl rfl (fun K0 hK => ?_)
        go_simp
        generalize ((w5.setCell ⟨y, 4, none⟩ (.string ⟨#[115, 116, 121, 108, 101]⟩)).alloc (.cells #[.int .i64 k4, .int .i64 i4, .float .f64 f4, .string s4, .slice A4 n4 c4, .int .i64 k5, .int .i64 i5, .float .f64 f5, .string s5, .slice A5 n5 c5] 64)).setCell ⟨y, 5, none⟩ (.slice (some ⟨w5.heap.size, 0, none⟩) 2 2) = w10 at *
        refine hK _ _ _ (fun _ h => h) hU11 ?_
        clear hK K0 hc4 hc5 hf4 hf5
        refine altG_nil ?_
        have hyc9 := hy6.op6
        have hzr := hz6.row #[.int .u32 0, .int .u32 0, .int .u16 0, .string ⟨#[103, 114, 111, 117, 112, 115]⟩, .string ⟨#[115, 116, 121, 108, 101]⟩, .slice (some ⟨w5.heap.size, 0, none⟩) 2 2]
        have hbr := below_row hb6 (g := z) hwz #[.int .u32 0, .int .u32 0, .int .u16 0, .string ⟨#[103, 114, 111, 117, 112, 115]⟩, .string ⟨#[115, 116, 121, 108, 101]⟩, .slice (some ⟨w5.heap.size, 0, none⟩) 2 2]
        have Rr := (R6).upd ((Upd.refl (fun g => g = z) w10).setRow (g := z) (fun _ => rfl) #[.int .u32 0, .int .u32 0, .int .u16 0, .string ⟨#[103, 114, 111, 117, 112, 115]⟩, .string ⟨#[115, 116, 121, 108, 101]⟩, .slice (some ⟨w5.heap.size, 0, none⟩) 2 2]) (fun g hg e => by have hg' : w2.heap.size ≤ g := hg; omega)
        go_wp2_with (refine store_row_gen rfl 38 (Operand.tmp 2) _ rfl z #[.int .u32 0, .int .u32 0, .int .u16 0, .string ⟨#[103, 114, 111, 117, 112, 115]⟩, .string ⟨#[115, 116, 121, 108, 101]⟩, .slice (some ⟨w5.heap.size, 0, none⟩) 2 2] (by simp [go_sem]) (by simp [go_sem]) 38 _ hz6 (by kernel_rfl) rfl (by simp [Value.oneCell']) (fun w11 hw11 => ?_); rw [← hw11] at hzr hbr Rr; clear hw11)
        refine bodyPost_ret (v := .agg #[.int .u32 0, .int .u32 0, .int .u16 0, .string ⟨#[103, 114, 111, 117, 112, 115]⟩, .string ⟨#[115, 116, 121, 108, 101]⟩, .slice (some ⟨w5.heap.size, 0, none⟩) 2 2]) ?hr rfl ?fin
        case hr => exact results_cell_row rfl _ _ z 38 _ (0, 0) _ rfl hzr Try.underlying38 rfl (by kernel_rfl)
        case fin => exact ⟨_, _, [v4, v5], _, _, rfl, by decide, by decide, ⟨_, _, Rr.down hb2.size⟩, all_2 (hs4.mono (by decide) (by decide)) (hs5.mono (by decide) (by decide)), by simp, hbr⟩
  have d0 : (q == 0) = false := by rw [beq_eq_false_iff_ne]; exact h0
  have d1 : (q == 1) = false := by rw [beq_eq_false_iff_ne]; omega
  have d2 : (q == 2) = false := by rw [beq_eq_false_iff_ne]; omega
  by_cases h3 : q = 3
  · subst h3
    have hy4 : Blk (w2.setCell ⟨y, 4, none⟩ (.string ⟨#[108, 105, 115, 116]⟩)) y 38 #[.int .u32 0, .int .u32 0, .int .u16 0, .string ⟨#[103, 114, 111, 117, 112, 115]⟩, .string ⟨#[108, 105, 115, 116]⟩, .slice none 0 0] := hy1.set_ 4 (.string ⟨#[108, 105, 115, 116]⟩)
    have hf4 := hy1.frozen 4
    have hc4 := hy1.op6
    have hz4 := hz2.far (p := ⟨y, 4, none⟩) (show z ≠ y by omega) (.string ⟨#[108, 105, 115, 116]⟩)
    have hb4 := hb2.setCell (p := ⟨y, 4, none⟩) hwy (.string ⟨#[108, 105, 115, 116]⟩)
    go_upto_region 12 with (fail)
    generalize w2.setCell ⟨y, 4, none⟩ (.string ⟨#[108, 105, 115, 116]⟩) = w10 at *
    clear hc4 hf4
    have R6 : VRow w10 w2.heap.size [] none 0 [] (fun _ => #[]) := VRow.nil _ _
    have hyc9 := hy4.op6
    have hzr := hz4.row #[.int .u32 0, .int .u32 0, .int .u16 0, .string ⟨#[103, 114, 111, 117, 112, 115]⟩, .string ⟨#[108, 105, 115, 116]⟩, .slice none 0 0]
    have hbr := below_row hb4 (g := z) hwz #[.int .u32 0, .int .u32 0, .int .u16 0, .string ⟨#[103, 114, 111, 117, 112, 115]⟩, .string ⟨#[108, 105, 115, 116]⟩, .slice none 0 0]
    have Rr := (R6).upd ((Upd.refl (fun g => g = z) w10).setRow (g := z) (fun _ => rfl) #[.int .u32 0, .int .u32 0, .int .u16 0, .string ⟨#[103, 114, 111, 117, 112, 115]⟩, .string ⟨#[108, 105, 115, 116]⟩, .slice none 0 0]) (fun g hg e => by have hg' : w2.heap.size ≤ g := hg; omega)
    go_wp2_with (refine store_row_gen rfl 38 (Operand.tmp 2) _ rfl z #[.int .u32 0, .int .u32 0, .int .u16 0, .string ⟨#[103, 114, 111, 117, 112, 115]⟩, .string ⟨#[108, 105, 115, 116]⟩, .slice none 0 0] (by simp [go_sem]) (by simp [go_sem]) 38 _ hz4 (by kernel_rfl) rfl (by simp [Value.oneCell']) (fun w11 hw11 => ?_); rw [← hw11] at hzr hbr Rr; clear hw11)
    refine bodyPost_ret (v := .agg #[.int .u32 0, .int .u32 0, .int .u16 0, .string ⟨#[103, 114, 111, 117, 112, 115]⟩, .string ⟨#[108, 105, 115, 116]⟩, .slice none 0 0]) ?hr rfl ?fin
    case hr => exact results_cell_row rfl _ _ z 38 _ (0, 0) _ rfl hzr Try.underlying38 rfl (by kernel_rfl)
    case fin => exact ⟨_, _, [], _, _, rfl, by decide, by decide, ⟨_, _, Rr.down hb2.size⟩, by simp, by simp, hbr⟩
  have d3 : (q == 3) = false := by rw [beq_eq_false_iff_ne]; exact h3
  have hS2 : Below w2.heap.size w2 w2.drew := (Below.refl _ _).drew
  go_wp2_with fail
  have hB2 : Upd (fun g => g = y) w2 w2.drew := (Upd.refl _ w2).drew
  refine wp_region_alts (fun W => Upd (fun g => g = y) w2 W) [3, 9] [0, 4, 6, 7, 11, 12, 14, 16] (.one 1 (.one 5 (.one 8 (.one 9 (.one 10 (.one 13 (.one 0 (.one 2 (.one 3 (.one 4 (.one 6 (.one 7 (.one 11 (.alt 12 (.one 14 (.one 15 (.one 16 .nil))) (.one 14 (.one 12 (.one 15 (.one 16 .nil)))))))))))))))))) (by kernel_rfl) rfl rfl (by kernel_rfl) (by kernel_rfl) (fun _ _ d _ _ h => by cases d <;> exact h) ?_
  repeat (first | (refine altG_take _ ?_ rfl rfl rfl rfl (fun _ => ?_) ?_; rotate_left; (focus (go_simp; with_reducible rfl)); try simp only [Act.put, List.setIfInBounds_toArray, List.set_cons_zero, List.set_cons_succ]) | (refine altG_held _ ?_ rfl rfl rfl rfl (by assumption) (fun _ hSw => ?_) ?_; rotate_left; (focus (have h1 := (hq1.upd hSw (show ¬ (w.heap.size = y) by omega)).val5; have h2 := True.intro; clear hSw; go_simp; with_reducible rfl)); try simp only [Act.put, List.setIfInBounds_toArray, List.set_cons_zero, List.set_cons_succ]) | (refine altG_skip _ rfl rfl (by assumption) ?_; try simp only [Act.put, List.setIfInBounds_toArray, List.set_cons_zero, List.set_cons_succ]))
  refine altG_now _ rfl rfl rfl (fun K0 hK => ?_)
  go_wp2_with fail
  refine (names_walk w2.drew).mono ?_
  rintro e w3 ⟨rfl, hst3, hb3'⟩
  try dsimp only
  obtain ⟨ad4, t4, e4, ht4, hcell4⟩ := hst3.cell hg6
  cases e4
  obtain ⟨T4, hT4⟩ : ∃ T4, bstr t4 = T4 := ⟨_, rfl⟩
  have hT4s : T4.size ≤ 100 := by rw [← hT4, bstr_len]; omega
  have h2lt : w2.heap.size < w3.heap.size := by
    have h := hcell4 w3 (Below.refl _ _)
    have h2 := World.block_lt_of_cell? w3 _ h
    rwa [block_of_add] at h2
  replace hcell4 : ∀ W, Upd (fun g => g = y) w3 W → W.cell? ⟨w2.heap.size, g, none⟩ = some (.string T4) := fun W hW => by
    have h := hcell4 w3 (Below.refl _ _)
    rw [hT4] at h
    have h0 : W.cell? ⟨w2.heap.size, g, none⟩ = w3.cell? ⟨w2.heap.size, g, none⟩ := World.cell?_of_block (w := w3) (hW.block _ h2lt (show ¬ (w2.heap.size = y) by omega))
    rw [h0, show (⟨w2.heap.size, g, none⟩ : Addr) = (⟨w2.heap.size, 0, none⟩ : Addr).add g by simp [Addr.add]; try omega]
    exact h
  have hS3 := below_then hb3' hS2
  have hB3 := Upd.refl (fun g => g = y) w3
  have hq3x := hq1.below hS3 hq1.lt
  refine hK _ _ (fun W => Upd (fun g => g = y) w3 W) (fun W hW => (Upd.of_below_size (S := fun g => g = y) hS3).trans hW (fun _ _ h => h)) (Upd.refl _ _) ?_
  clear hK K0
  try simp only [Act.put, List.setIfInBounds_toArray, List.set_cons_zero, List.set_cons_succ]
  repeat (first | (refine altG_take _ ?_ rfl rfl rfl rfl (fun _ => ?_) ?_; rotate_left; (focus (go_simp; with_reducible rfl)); try simp only [Act.put, List.setIfInBounds_toArray, List.set_cons_zero, List.set_cons_succ]) | (refine altG_held _ ?_ rfl rfl rfl rfl (by assumption) (fun _ hSw => ?_) ?_; rotate_left; (focus (have h1 := (hq3x.upd hSw (show ¬ (w.heap.size = y) by omega)).val5; have h2 := hcell4 _ hSw; clear hSw; go_simp; with_reducible rfl)); try simp only [Act.put, List.setIfInBounds_toArray, List.set_cons_zero, List.set_cons_succ]) | (refine altG_skip _ rfl rfl (by assumption) ?_; try simp only [Act.put, List.setIfInBounds_toArray, List.set_cons_zero, List.set_cons_succ]))
  refine altG_now _ rfl rfl rfl (fun K0 hK => ?_)
  go_wp2_with fail
  refine (text_any w3 hT4s).mono ?_
  rintro e w4 ⟨v4, cs4, rfl, hv4, hs4, hb4'⟩
  obtain ⟨k4, i4, f4, s4, A4, n4, c4, rfl⟩ := hv4.reads.form
  try dsimp only
  have hS4 := below_then hb4' hS3
  have hB4 := Upd.refl (fun g => g = y) w4
  have hq4x := hq1.below hS4 hq1.lt
  refine hK _ _ (fun W => Upd (fun g => g = y) w4 W) (fun W hW => (Upd.of_below_size (S := fun g => g = y) hb4').trans hW (fun _ _ h => h)) (Upd.refl _ _) ?_
  clear hK K0
  try simp only [Act.put, List.setIfInBounds_toArray, List.set_cons_zero, List.set_cons_succ]
  repeat (first | (refine altG_take _ ?_ rfl rfl rfl rfl (fun _ => ?_) ?_; rotate_left; (focus (go_simp; with_reducible rfl)); try simp only [Act.put, List.setIfInBounds_toArray, List.set_cons_zero, List.set_cons_succ]) | (refine altG_held _ ?_ rfl rfl rfl rfl (by assumption) (fun _ hSw => ?_) ?_; rotate_left; (focus (have h1 := (hq4x.upd hSw (show ¬ (w.heap.size = y) by omega)).val5; have h2 := True.intro; clear hSw; go_simp; with_reducible rfl)); try simp only [Act.put, List.setIfInBounds_toArray, List.set_cons_zero, List.set_cons_succ]) | (refine altG_skip _ rfl rfl (by assumption) ?_; try simp only [Act.put, List.setIfInBounds_toArray, List.set_cons_zero, List.set_cons_succ]))
  refine altG_now _ rfl rfl rfl (fun K0 hK => ?_)
  go_wp2_with fail
  refine (class_walk w4 (k := (g : Int)) (by omega) (by omega)).mono ?_
  rintro e w5 ⟨⟨S5, rfl, hS5c⟩, hb5'⟩
  try dsimp only
  have hS5s : S5.size ≤ 100 := by
    obtain ⟨c, hc, rfl⟩ := hS5c
    have hlc : c.length ≤ 8 := by
      simp only [classes, List.mem_cons, List.not_mem_nil, or_false] at hc
      rcases hc with rfl | rfl | rfl | rfl | rfl | rfl <;> decide
    rw [bstr_len]; omega
  have hS5 := below_then hb5' hS4
  have hB5 := Upd.refl (fun g => g = y) w5
  have hq5x := hq1.below hS5 hq1.lt
  refine hK _ _ (fun W => Upd (fun g => g = y) w5 W) (fun W hW => (Upd.of_below_size (S := fun g => g = y) hb5').trans hW (fun _ _ h => h)) (Upd.refl _ _) ?_
  clear hK K0
  try simp only [Act.put, List.setIfInBounds_toArray, List.set_cons_zero, List.set_cons_succ]
  repeat (first | (refine altG_take _ ?_ rfl rfl rfl rfl (fun _ => ?_) ?_; rotate_left; (focus (go_simp; with_reducible rfl)); try simp only [Act.put, List.setIfInBounds_toArray, List.set_cons_zero, List.set_cons_succ]) | (refine altG_held _ ?_ rfl rfl rfl rfl (by assumption) (fun _ hSw => ?_) ?_; rotate_left; (focus (have h1 := (hq5x.upd hSw (show ¬ (w.heap.size = y) by omega)).val5; have h2 := True.intro; clear hSw; go_simp; with_reducible rfl)); try simp only [Act.put, List.setIfInBounds_toArray, List.set_cons_zero, List.set_cons_succ]) | (refine altG_skip _ rfl rfl (by assumption) ?_; try simp only [Act.put, List.setIfInBounds_toArray, List.set_cons_zero, List.set_cons_succ]))
  refine altG_now _ rfl rfl rfl (fun K0 hK => ?_)
  go_wp2_with fail
  refine (text_any w5 hS5s).mono ?_
  rintro e w6 ⟨v6, cs6, rfl, hv6, hs6, hb6'⟩
  obtain ⟨k6, i6, f6, s6, A6, n6, c6, rfl⟩ := hv6.reads.form
  try dsimp only
  have hS6 := below_then hb6' hS5
  have hB6 := Upd.refl (fun g => g = y) w6
  have hq6x := hq1.below hS6 hq1.lt
  refine hK _ _ (fun W => Upd (fun g => g = y) w6 W) (fun W hW => (Upd.of_below_size (S := fun g => g = y) hb6').trans hW (fun _ _ h => h)) (Upd.refl _ _) ?_
  clear hK K0
  try simp only [Act.put, List.setIfInBounds_toArray, List.set_cons_zero, List.set_cons_succ]
  repeat (first | (refine altG_take _ ?_ rfl rfl rfl rfl (fun _ => ?_) ?_; rotate_left; (focus (go_simp; with_reducible rfl)); try simp only [Act.put, List.setIfInBounds_toArray, List.set_cons_zero, List.set_cons_succ]) | (refine altG_held _ ?_ rfl rfl rfl rfl (by assumption) (fun _ hSw => ?_) ?_; rotate_left; (focus (have h1 := (hq6x.upd hSw (show ¬ (w.heap.size = y) by omega)).val5; have h2 := True.intro; clear hSw; go_simp; with_reducible rfl)); try simp only [Act.put, List.setIfInBounds_toArray, List.set_cons_zero, List.set_cons_succ]) | (refine altG_skip _ rfl rfl (by assumption) ?_; try simp only [Act.put, List.setIfInBounds_toArray, List.set_cons_zero, List.set_cons_succ]))
  refine altG_now _ rfl rfl rfl (fun K0 hK => ?_)
  go_wp2_with fail
  refine (seat_style_walk w6 (k := K / 6) (by omega) (by omega)).mono ?_
  rintro e w7 ⟨v7, cs7, rfl, hv7, hs7, hb7'⟩
  obtain ⟨k7, i7, f7, s7, A7, n7, c7, rfl⟩ := hv7.reads.form
  try dsimp only
  have hS7 := below_then hb7' hS6
  have hB7 := Upd.refl (fun g => g = y) w7
  have hq7x := hq1.below hS7 hq1.lt
  refine hK _ _ (fun W => Upd (fun g => g = y) w7 W) (fun W hW => (Upd.of_below_size (S := fun g => g = y) hb7').trans hW (fun _ _ h => h)) (Upd.refl _ _) ?_
  clear hK K0
  try simp only [Act.put, List.setIfInBounds_toArray, List.set_cons_zero, List.set_cons_succ]
  repeat (first | (refine altG_take _ ?_ rfl rfl rfl rfl (fun _ => ?_) ?_; rotate_left; (focus (go_simp; with_reducible rfl)); try simp only [Act.put, List.setIfInBounds_toArray, List.set_cons_zero, List.set_cons_succ]) | (refine altG_held _ ?_ rfl rfl rfl rfl (by assumption) (fun _ hSw => ?_) ?_; rotate_left; (focus (have h1 := (hq7x.upd hSw (show ¬ (w.heap.size = y) by omega)).val5; have h2 := True.intro; clear hSw; go_simp; with_reducible rfl)); try simp only [Act.put, List.setIfInBounds_toArray, List.set_cons_zero, List.set_cons_succ]) | (refine altG_skip _ rfl rfl (by assumption) ?_; try simp only [Act.put, List.setIfInBounds_toArray, List.set_cons_zero, List.set_cons_succ]))
  have hu4 := ((((hv4.upd (Upd.of_below_size (S := fun _ => False) hb5') (fun _ _ h => h)).upd (Upd.of_below_size (S := fun _ => False) hb6') (fun _ _ h => h)).upd (Upd.of_below_size (S := fun _ => False) hb7') (fun _ _ h => h))).mono (Q := fun g => w2.heap.size ≤ g) (fun g _ hg => Nat.le_trans hS3.size hg)
  have hu6 := ((hv6.upd (Upd.of_below_size (S := fun _ => False) hb7') (fun _ _ h => h))).mono (Q := fun g => w2.heap.size ≤ g) (fun g _ hg => Nat.le_trans hS5.size hg)
  have hu7 := (hv7).mono (Q := fun g => w2.heap.size ≤ g) (fun g _ hg => Nat.le_trans hS6.size hg)
  refine altG_alt rfl ?_ ?_
  · skip
    have Rv := row_three hu4 hu6 hu7 hS7.size
    have hby := hS7.alloc hS7.size (.cells #[.int .i64 k4, .int .i64 i4, .float .f64 f4, .string s4, .slice A4 n4 c4, .int .i64 k6, .int .i64 i6, .float .f64 f6, .string s6, .slice A6 n6 c6, .int .i64 k7, .int .i64 i7, .float .f64 f7, .string s7, .slice A7 n7 c7] 64)
    have hy4 := hy1.below hby hy1.lt
    have hz4 := hz2.below hby hz2.lt
    have hb4 := below_then hby hb2
    refine altG_now _ rfl rfl rfl (fun K0 hK => ?_)
    go_wp2_with fail
    generalize hw9 : w7.alloc (.cells #[.int .i64 k4, .int .i64 i4, .float .f64 f4, .string s4, .slice A4 n4 c4, .int .i64 k6, .int .i64 i6, .float .f64 f6, .string s6, .slice A6 n6 c6, .int .i64 k7, .int .i64 i7, .float .f64 f7, .string s7, .slice A7 n7 c7] 64) = w9 at *
    have hU9 : Upd (fun g => g = y) w7 w9 := by rw [← hw9]; exact (Upd.refl _ _).alloc _
    refine hK _ _ _ (fun _ h => h) hU9 ?_
    clear hK K0 hw9
    try simp only [Act.put, List.setIfInBounds_toArray, List.set_cons_zero, List.set_cons_succ]
    repeat (first | (refine altG_take _ ?_ rfl rfl rfl rfl (fun _ => ?_) ?_; rotate_left; (focus (go_simp; with_reducible rfl)); try simp only [Act.put, List.setIfInBounds_toArray, List.set_cons_zero, List.set_cons_succ]) | (refine altG_held _ ?_ rfl rfl rfl rfl (by assumption) (fun _ hSw => ?_) ?_; rotate_left; (focus (have h1 := (hq7x.upd hSw (show ¬ (w.heap.size = y) by omega)).val5; have h2 := True.intro; clear hSw; go_simp; with_reducible rfl)); try simp only [Act.put, List.setIfInBounds_toArray, List.set_cons_zero, List.set_cons_succ]) | (refine altG_skip _ rfl rfl (by assumption) ?_; try simp only [Act.put, List.setIfInBounds_toArray, List.set_cons_zero, List.set_cons_succ]))
    have hy5 : Blk (w9.setCell ⟨y, 4, none⟩ (.string ⟨#[99, 114, 101, 97, 116, 101]⟩)) y 38 #[.int .u32 0, .int .u32 0, .int .u16 0, .string ⟨#[103, 114, 111, 117, 112, 115]⟩, .string ⟨#[99, 114, 101, 97, 116, 101]⟩, .slice none 0 0] := hy4.set_ 4 (.string ⟨#[99, 114, 101, 97, 116, 101]⟩)
    have hf4 := hy4.frozen 4
    have hf5 := hy5.frozen 5
    have hc4 := hy4.op6
    have hc5 := hy5.op6
    have hy6 : Blk ((w9.setCell ⟨y, 4, none⟩ (.string ⟨#[99, 114, 101, 97, 116, 101]⟩)).setCell ⟨y, 5, none⟩ (.slice (some ⟨w7.heap.size, 0, none⟩) 3 3)) y 38 #[.int .u32 0, .int .u32 0, .int .u16 0, .string ⟨#[103, 114, 111, 117, 112, 115]⟩, .string ⟨#[99, 114, 101, 97, 116, 101]⟩, .slice (some ⟨w7.heap.size, 0, none⟩) 3 3] := hy5.set_ 5 (.slice (some ⟨w7.heap.size, 0, none⟩) 3 3)
    have hz6 := (hz4.far (p := ⟨y, 4, none⟩) (show z ≠ y by omega) (.string ⟨#[99, 114, 101, 97, 116, 101]⟩)).far (p := ⟨y, 5, none⟩) (show z ≠ y by omega) (.slice (some ⟨w7.heap.size, 0, none⟩) 3 3)
    have hb6 := (hb4.setCell (p := ⟨y, 4, none⟩) hwy (.string ⟨#[99, 114, 101, 97, 116, 101]⟩)).setCell (p := ⟨y, 5, none⟩) hwy (.slice (some ⟨w7.heap.size, 0, none⟩) 3 3)
    have R6 := (Rv).upd (((Upd.refl (fun g => g = y) w9).setCell (p := ⟨y, 4, none⟩) (fun _ => rfl) (.string ⟨#[99, 114, 101, 97, 116, 101]⟩)).setCell (p := ⟨y, 5, none⟩) (fun _ => rfl) (.slice (some ⟨w7.heap.size, 0, none⟩) 3 3)) (fun g hg e => by have hg' : w2.heap.size ≤ g := hg; omega)
    have hU10 := hU9.setCell (p := ⟨y, 4, none⟩) (fun _ => rfl) (.string ⟨#[99, 114, 101, 97, 116, 101]⟩)
    have hU11 := hU10.setCell (p := ⟨y, 5, none⟩) (fun _ => rfl) (.slice (some ⟨w7.heap.size, 0, none⟩) 3 3)
    refine altG_now _ rfl rfl rfl (fun K0 hK => ?_)
    go_simp
    refine hK _ _ _ (fun _ h => h) hU10 ?_
    clear hK K0
    try simp only [Act.put, List.setIfInBounds_toArray, List.set_cons_zero, List.set_cons_succ]
    repeat (first | (refine altG_take _ ?_ rfl rfl rfl rfl (fun _ => ?_) ?_; rotate_left; (focus (go_simp; with_reducible rfl)); try simp only [Act.put, List.setIfInBounds_toArray, List.set_cons_zero, List.set_cons_succ]) | (refine altG_held _ ?_ rfl rfl rfl rfl (by assumption) (fun _ hSw => ?_) ?_; rotate_left; (focus (have h1 := (hq7x.upd hSw (show ¬ (w.heap.size = y) by omega)).val5; have h2 := True.intro; clear hSw; go_simp; with_reducible rfl)); try simp only [Act.put, List.setIfInBounds_toArray, List.set_cons_zero, List.set_cons_succ]) | (refine altG_skip _ rfl rfl (by assumption) ?_; try simp only [Act.put, List.setIfInBounds_toArray, List.set_cons_zero, List.set_cons_succ]))
    refine altG_now _ rfl rfl rfl (fun K0 hK => ?_)
    go_simp
    generalize (w9.setCell ⟨y, 4, none⟩ (.string ⟨#[99, 114, 101, 97, 116, 101]⟩)).setCell ⟨y, 5, none⟩ (.slice (some ⟨w7.heap.size, 0, none⟩) 3 3) = w10 at *
    refine hK _ _ _ (fun _ h => h) hU11 ?_
    clear hK K0 hc4 hc5 hf4 hf5
    refine altG_nil ?_
    have hyc9 := hy6.op6
    have hzr := hz6.row #[.int .u32 0, .int .u32 0, .int .u16 0, .string ⟨#[103, 114, 111, 117, 112, 115]⟩, .string ⟨#[99, 114, 101, 97, 116, 101]⟩, .slice (some ⟨w7.heap.size, 0, none⟩) 3 3]
    have hbr := below_row hb6 (g := z) hwz #[.int .u32 0, .int .u32 0, .int .u16 0, .string ⟨#[103, 114, 111, 117, 112, 115]⟩, .string ⟨#[99, 114, 101, 97, 116, 101]⟩, .slice (some ⟨w7.heap.size, 0, none⟩) 3 3]
    have Rr := (R6).upd ((Upd.refl (fun g => g = z) w10).setRow (g := z) (fun _ => rfl) #[.int .u32 0, .int .u32 0, .int .u16 0, .string ⟨#[103, 114, 111, 117, 112, 115]⟩, .string ⟨#[99, 114, 101, 97, 116, 101]⟩, .slice (some ⟨w7.heap.size, 0, none⟩) 3 3]) (fun g hg e => by have hg' : w2.heap.size ≤ g := hg; omega)
    go_wp2_with (refine store_row_gen rfl 38 (Operand.tmp 2) _ rfl z #[.int .u32 0, .int .u32 0, .int .u16 0, .string ⟨#[103, 114, 111, 117, 112, 115]⟩, .string ⟨#[99, 114, 101, 97, 116, 101]⟩, .slice (some ⟨w7.heap.size, 0, none⟩) 3 3] (by simp [go_sem]) (by simp [go_sem]) 38 _ hz6 (by kernel_rfl) rfl (by simp [Value.oneCell']) (fun w11 hw11 => ?_); rw [← hw11] at hzr hbr Rr; clear hw11)
    refine bodyPost_ret (v := .agg #[.int .u32 0, .int .u32 0, .int .u16 0, .string ⟨#[103, 114, 111, 117, 112, 115]⟩, .string ⟨#[99, 114, 101, 97, 116, 101]⟩, .slice (some ⟨w7.heap.size, 0, none⟩) 3 3]) ?hr rfl ?fin
    case hr => exact results_cell_row rfl _ _ z 38 _ (0, 0) _ rfl hzr Try.underlying38 rfl (by kernel_rfl)
    case fin => exact ⟨_, _, [v4, v6, v7], _, _, rfl, by decide, by decide, ⟨_, _, Rr.down hb2.size⟩, all_3 (hs4.mono (by decide) (by decide)) (hs6.mono (by decide) (by decide)) (hs7.mono (by decide) (by decide)), by simp, hbr⟩
  · skip
    have hx4 := (hu4.upd ((Upd.refl (fun g => g = y) w7).setCell (p := ⟨y, 4, none⟩) (fun _ => rfl) (.string ⟨#[99, 114, 101, 97, 116, 101]⟩)) (fun g hg e => by have hg' : w2.heap.size ≤ g := hg; omega))
    have hx6 := (hu6.upd ((Upd.refl (fun g => g = y) w7).setCell (p := ⟨y, 4, none⟩) (fun _ => rfl) (.string ⟨#[99, 114, 101, 97, 116, 101]⟩)) (fun g hg e => by have hg' : w2.heap.size ≤ g := hg; omega))
    have hx7 := (hu7.upd ((Upd.refl (fun g => g = y) w7).setCell (p := ⟨y, 4, none⟩) (fun _ => rfl) (.string ⟨#[99, 114, 101, 97, 116, 101]⟩)) (fun g hg e => by have hg' : w2.heap.size ≤ g := hg; omega))
    have hyA := hy1.below hS7 hy1.lt
    have hzA := hz2.below hS7 hz2.lt
    have hbA := below_then hS7 hb2
    have hf4 := hyA.frozen 4
    have hc4 := hyA.op6
    have hy8 : Blk (w7.setCell ⟨y, 4, none⟩ (.string ⟨#[99, 114, 101, 97, 116, 101]⟩)) y 38 #[.int .u32 0, .int .u32 0, .int .u16 0, .string ⟨#[103, 114, 111, 117, 112, 115]⟩, .string ⟨#[99, 114, 101, 97, 116, 101]⟩, .slice none 0 0] := hyA.set_ 4 (.string ⟨#[99, 114, 101, 97, 116, 101]⟩)
    have hz8 := hzA.far (p := ⟨y, 4, none⟩) (show z ≠ y by omega) (.string ⟨#[99, 114, 101, 97, 116, 101]⟩)
    have hb8 := hbA.setCell (p := ⟨y, 4, none⟩) hwy (.string ⟨#[99, 114, 101, 97, 116, 101]⟩)
    have hs8 : w2.heap.size ≤ (w7.setCell ⟨y, 4, none⟩ (.string ⟨#[99, 114, 101, 97, 116, 101]⟩)).heap.size := by rw [World.size_setCell]; exact hS7.size
    have hs88 : (w7.setCell ⟨y, 4, none⟩ (.string ⟨#[99, 114, 101, 97, 116, 101]⟩)).heap.size = w7.heap.size := World.size_setCell ..
    have Rv := row_three hx4 hx6 hx7 hs8
    have hy9 := hy8.alloc (.cells #[.int .i64 k4, .int .i64 i4, .float .f64 f4, .string s4, .slice A4 n4 c4, .int .i64 k6, .int .i64 i6, .float .f64 f6, .string s6, .slice A6 n6 c6, .int .i64 k7, .int .i64 i7, .float .f64 f7, .string s7, .slice A7 n7 c7] 64)
    have hz9 := hz8.alloc (.cells #[.int .i64 k4, .int .i64 i4, .float .f64 f4, .string s4, .slice A4 n4 c4, .int .i64 k6, .int .i64 i6, .float .f64 f6, .string s6, .slice A6 n6 c6, .int .i64 k7, .int .i64 i7, .float .f64 f7, .string s7, .slice A7 n7 c7] 64)
    have hb9 := hb8.alloc hb8.size (.cells #[.int .i64 k4, .int .i64 i4, .float .f64 f4, .string s4, .slice A4 n4 c4, .int .i64 k6, .int .i64 i6, .float .f64 f6, .string s6, .slice A6 n6 c6, .int .i64 k7, .int .i64 i7, .float .f64 f7, .string s7, .slice A7 n7 c7] 64)
    have hf5 := hy9.frozen 5
    have hc5 := hy9.op6
    rw [hs88] at Rv
    have hy6 : Blk (((w7.setCell ⟨y, 4, none⟩ (.string ⟨#[99, 114, 101, 97, 116, 101]⟩)).alloc (.cells #[.int .i64 k4, .int .i64 i4, .float .f64 f4, .string s4, .slice A4 n4 c4, .int .i64 k6, .int .i64 i6, .float .f64 f6, .string s6, .slice A6 n6 c6, .int .i64 k7, .int .i64 i7, .float .f64 f7, .string s7, .slice A7 n7 c7] 64)).setCell ⟨y, 5, none⟩ (.slice (some ⟨w7.heap.size, 0, none⟩) 3 3)) y 38 #[.int .u32 0, .int .u32 0, .int .u16 0, .string ⟨#[103, 114, 111, 117, 112, 115]⟩, .string ⟨#[99, 114, 101, 97, 116, 101]⟩, .slice (some ⟨w7.heap.size, 0, none⟩) 3 3] := hy9.set_ 5 (.slice (some ⟨w7.heap.size, 0, none⟩) 3 3)
    have hz6 := hz9.far (p := ⟨y, 5, none⟩) (show z ≠ y by omega) (.slice (some ⟨w7.heap.size, 0, none⟩) 3 3)
    have hb6 := hb9.setCell (p := ⟨y, 5, none⟩) hwy (.slice (some ⟨w7.heap.size, 0, none⟩) 3 3)
    have R6 := Rv.upd ((Upd.refl (fun g => g = y) ((w7.setCell ⟨y, 4, none⟩ (.string ⟨#[99, 114, 101, 97, 116, 101]⟩)).alloc (.cells #[.int .i64 k4, .int .i64 i4, .float .f64 f4, .string s4, .slice A4 n4 c4, .int .i64 k6, .int .i64 i6, .float .f64 f6, .string s6, .slice A6 n6 c6, .int .i64 k7, .int .i64 i7, .float .f64 f7, .string s7, .slice A7 n7 c7] 64))).setCell (p := ⟨y, 5, none⟩) (fun _ => rfl) (.slice (some ⟨w7.heap.size, 0, none⟩) 3 3)) (fun g hg e => by have hg' : w2.heap.size ≤ g := hg; omega)
    have hU8 := (Upd.refl (fun g => g = y) w7).setCell (p := ⟨y, 4, none⟩) (fun _ => rfl) (.string ⟨#[99, 114, 101, 97, 116, 101]⟩)
    have hU9 := hU8.alloc (.cells #[.int .i64 k4, .int .i64 i4, .float .f64 f4, .string s4, .slice A4 n4 c4, .int .i64 k6, .int .i64 i6, .float .f64 f6, .string s6, .slice A6 n6 c6, .int .i64 k7, .int .i64 i7, .float .f64 f7, .string s7, .slice A7 n7 c7] 64)
    have hU11 := hU9.setCell (p := ⟨y, 5, none⟩) (fun _ => rfl) (.slice (some ⟨w7.heap.size, 0, none⟩) 3 3)
    refine altG_now _ rfl rfl rfl (fun K0 hK => ?_)
    go_simp
    refine hK _ _ _ (fun _ h => h) hU8 ?_
    clear hK K0
    try simp only [Act.put, List.setIfInBounds_toArray, List.set_cons_zero, List.set_cons_succ]
    repeat (first | (refine altG_take _ ?_ rfl rfl rfl rfl (fun _ => ?_) ?_; rotate_left; (focus (go_simp; with_reducible rfl)); try simp only [Act.put, List.setIfInBounds_toArray, List.set_cons_zero, List.set_cons_succ]) | (refine altG_held _ ?_ rfl rfl rfl rfl (by assumption) (fun _ hSw => ?_) ?_; rotate_left; (focus (have h1 := (hq7x.upd hSw (show ¬ (w.heap.size = y) by omega)).val5; have h2 := True.intro; clear hSw; go_simp; with_reducible rfl)); try simp only [Act.put, List.setIfInBounds_toArray, List.set_cons_zero, List.set_cons_succ]) | (refine altG_skip _ rfl rfl (by assumption) ?_; try simp only [Act.put, List.setIfInBounds_toArray, List.set_cons_zero, List.set_cons_succ]))
    refine altG_now _ rfl rfl rfl (fun K0 hK => ?_)
    go_wp2_with fail
    refine hK _ _ _ (fun _ h => h) hU9 ?_
    clear hK K0
    try simp only [Act.put, List.setIfInBounds_toArray, List.set_cons_zero, List.set_cons_succ]
    repeat (first | (refine altG_take _ ?_ rfl rfl rfl rfl (fun _ => ?_) ?_; rotate_left; (focus (go_simp; with_reducible rfl)); try simp only [Act.put, List.setIfInBounds_toArray, List.set_cons_zero, List.set_cons_succ]) | (refine altG_held _ ?_ rfl rfl rfl rfl (by assumption) (fun _ hSw => ?_) ?_; rotate_left; (focus (have h1 := (hq7x.upd hSw (show ¬ (w.heap.size = y) by omega)).val5; have h2 := True.intro; clear hSw; go_simp; with_reducible rfl)); try simp only [Act.put, List.setIfInBounds_toArray, List.set_cons_zero, List.set_cons_succ]) | (refine altG_skip _ rfl rfl (by assumption) ?_; try simp only [Act.put, List.setIfInBounds_toArray, List.set_cons_zero, List.set_cons_succ]))
    refine altG_now _ rfl rfl rfl (fun K0 hK => ?_)
    go_simp
    generalize ((w7.setCell ⟨y, 4, none⟩ (.string ⟨#[99, 114, 101, 97, 116, 101]⟩)).alloc (.cells #[.int .i64 k4, .int .i64 i4, .float .f64 f4, .string s4, .slice A4 n4 c4, .int .i64 k6, .int .i64 i6, .float .f64 f6, .string s6, .slice A6 n6 c6, .int .i64 k7, .int .i64 i7, .float .f64 f7, .string s7, .slice A7 n7 c7] 64)).setCell ⟨y, 5, none⟩ (.slice (some ⟨w7.heap.size, 0, none⟩) 3 3) = w10 at *
    refine hK _ _ _ (fun _ h => h) hU11 ?_
    clear hK K0 hc4 hc5 hf4 hf5
    refine altG_nil ?_
    have hyc9 := hy6.op6
    have hzr := hz6.row #[.int .u32 0, .int .u32 0, .int .u16 0, .string ⟨#[103, 114, 111, 117, 112, 115]⟩, .string ⟨#[99, 114, 101, 97, 116, 101]⟩, .slice (some ⟨w7.heap.size, 0, none⟩) 3 3]
    have hbr := below_row hb6 (g := z) hwz #[.int .u32 0, .int .u32 0, .int .u16 0, .string ⟨#[103, 114, 111, 117, 112, 115]⟩, .string ⟨#[99, 114, 101, 97, 116, 101]⟩, .slice (some ⟨w7.heap.size, 0, none⟩) 3 3]
    have Rr := (R6).upd ((Upd.refl (fun g => g = z) w10).setRow (g := z) (fun _ => rfl) #[.int .u32 0, .int .u32 0, .int .u16 0, .string ⟨#[103, 114, 111, 117, 112, 115]⟩, .string ⟨#[99, 114, 101, 97, 116, 101]⟩, .slice (some ⟨w7.heap.size, 0, none⟩) 3 3]) (fun g hg e => by have hg' : w2.heap.size ≤ g := hg; omega)
    go_wp2_with (refine store_row_gen rfl 38 (Operand.tmp 2) _ rfl z #[.int .u32 0, .int .u32 0, .int .u16 0, .string ⟨#[103, 114, 111, 117, 112, 115]⟩, .string ⟨#[99, 114, 101, 97, 116, 101]⟩, .slice (some ⟨w7.heap.size, 0, none⟩) 3 3] (by simp [go_sem]) (by simp [go_sem]) 38 _ hz6 (by kernel_rfl) rfl (by simp [Value.oneCell']) (fun w11 hw11 => ?_); rw [← hw11] at hzr hbr Rr; clear hw11)
    refine bodyPost_ret (v := .agg #[.int .u32 0, .int .u32 0, .int .u16 0, .string ⟨#[103, 114, 111, 117, 112, 115]⟩, .string ⟨#[99, 114, 101, 97, 116, 101]⟩, .slice (some ⟨w7.heap.size, 0, none⟩) 3 3]) ?hr rfl ?fin
    case hr => exact results_cell_row rfl _ _ z 38 _ (0, 0) _ rfl hzr Try.underlying38 rfl (by kernel_rfl)
    case fin => exact ⟨_, _, [v4, v6, v7], _, _, rfl, by decide, by decide, ⟨_, _, Rr.down hb2.size⟩, all_3 (hs4.mono (by decide) (by decide)) (hs6.mono (by decide) (by decide)) (hs7.mono (by decide) (by decide)), by simp, hbr⟩
end Go.Proofs.Ytlkokkbikkbaoaa
