/- IdOrder's walk. -/
import Derived.Test.YtdfccpknjfkhpaaDoorIdKnown
import Derived.Deep.DeepCutAuto
namespace Go.Proofs.YtdfccpknjfkhpaaDoor
open Go.RowKit

theorem ids_below {w w1 w2 : World} {q q2 : Nat} {c s n c' s' n' : Int} (h : (w1.cell? ⟨q, 0, none⟩ = some (.int .u32 c) ∧ w1.cell? ⟨q, 1, none⟩ = some (.int .u32 s) ∧ w1.cell? ⟨q, 2, none⟩ = some (.int .u16 n)) ∧ (w1.cell? ⟨q2, 0, none⟩ = some (.int .u32 c') ∧ w1.cell? ⟨q2, 1, none⟩ = some (.int .u32 s') ∧ w1.cell? ⟨q2, 2, none⟩ = some (.int .u16 n')) ∧ Below w.heap.size w w1 ∧ q < w1.heap.size ∧ q2 < w1.heap.size) (hb : Below w1.heap.size w1 w2) :
    (w2.cell? ⟨q, 0, none⟩ = some (.int .u32 c) ∧ w2.cell? ⟨q, 1, none⟩ = some (.int .u32 s) ∧ w2.cell? ⟨q, 2, none⟩ = some (.int .u16 n)) ∧ (w2.cell? ⟨q2, 0, none⟩ = some (.int .u32 c') ∧ w2.cell? ⟨q2, 1, none⟩ = some (.int .u32 s') ∧ w2.cell? ⟨q2, 2, none⟩ = some (.int .u16 n')) ∧ Below w.heap.size w w2 ∧ q < w2.heap.size ∧ q2 < w2.heap.size :=
  ⟨idc_below h.1 hb h.2.2.2.1, idc_below h.2.1 hb h.2.2.2.2, h.2.2.1.trans (hb.mono h.2.2.1.size), Nat.lt_of_lt_of_le h.2.2.2.1 hb.size, Nat.lt_of_lt_of_le h.2.2.2.2 hb.size⟩
theorem idLt_irrefl (c s n : Int) : idLt c s n c s n = false := by
  unfold idLt
  rw [if_pos rfl, if_pos rfl]
  exact decide_eq_false (by omega)

set_option maxHeartbeats 3200000 in
set_option maxRecDepth 100000 in
theorem idOrder_walk (c s n c' s' n' k near : Int) (w : World) (hk0 : -9223372036854775808 ≤ k) (hk1 : k ≤ 9223372036854775807) (h0 : 0 ≤ near) (h1 : near ≤ 255) :
    Calls Tryd.prog 4 #[.agg #[.int .u32 c, .int .u32 s, .int .u16 n], .agg #[.int .u32 c', .int .u32 s', .int .u16 n'], .int .i64 k, .int .u8 near] w (fun e w' => e = .returned (.bool true) ∧ Below w.heap.size w w') := by
  go_enter Tryd.func4, Tryd.ntmps4
  go_wp2_with fail
  have hb1 := ((Below.refl w.heap.size w).alloc (Nat.le_refl _) (.cells #[.int .u32 c, .int .u32 s, .int .u16 n] 25)).alloc (by simp) (.cells #[.int .u32 c', .int .u32 s', .int .u16 n'] 25)
  have hx1 := (Blk.new w 25 #[.int .u32 c, .int .u32 s, .int .u16 n]).alloc (.cells #[.int .u32 c', .int .u32 s', .int .u16 n'] 25)
  have hy1 := Blk.new (w.alloc (.cells #[.int .u32 c, .int .u32 s, .int .u16 n] 25)) 25 #[.int .u32 c', .int .u32 s', .int .u16 n']
  have he : (w.alloc (.cells #[.int .u32 c, .int .u32 s, .int .u16 n] 25)).heap.size = w.heap.size + 1 := by simp
  rw [he] at hy1
  generalize (w.alloc (.cells #[.int .u32 c, .int .u32 s, .int .u16 n] 25)).alloc (.cells #[.int .u32 c', .int .u32 s', .int .u16 n'] 25) = w1 at *
  clear he
  refine (known_true w1).mono ?_
  rintro e w2 ⟨rfl, hb2'⟩
  dsimp only
  have hb2 := hb1.trans (hb2'.mono hb1.size)
  have hx2 := hx1.below hb2' hx1.lt
  have hy2 := hy1.below hb2' hy1.lt
  clear hb1 hb2' hx1 hy1
  go_upto_if 18 with fail
  go_cut [] (fun wx => ∃ cb, Blk wx w.heap.size 25 #[.int .u32 c, .int .u32 s, .int .u16 n] ∧ Blk wx (w.heap.size + 1) 25 #[.int .u32 cb, .int .u32 s', .int .u16 n'] ∧ Below w.heap.size w wx)
  case first =>
    have g0 := hx2.cell 0
    have k0 := hy2.cell 0
    have f0 := hy2.frozen 0
    by_cases h : near % 2 = 0
    · go_wp2_with fail
      go_meet
      exact ⟨c, hx2.far (p := ⟨w.heap.size + 1, 0, none⟩) (by simp) _, hy2.set_ 0 _, hb2.setCell (p := ⟨w.heap.size + 1, 0, none⟩) (by simp) _⟩
    · go_wp2_with fail
      go_meet
      exact ⟨c', hx2, hy2, hb2⟩
  case rest =>
  obtain ⟨cb, hx3, hy3, hb3⟩ := hcut
  clear hx2 hy2 hb2
  go_upto_if 24 with fail
  go_cut [] (fun wx => ∃ sb, Blk wx w.heap.size 25 #[.int .u32 c, .int .u32 s, .int .u16 n] ∧ Blk wx (w.heap.size + 1) 25 #[.int .u32 cb, .int .u32 sb, .int .u16 n'] ∧ Below w.heap.size w wx)
  case first =>
    have g0 := hx3.cell 1
    have k0 := hy3.cell 1
    have f0 := hy3.frozen 1
    by_cases h : near % 3 = 0
    · go_wp2_with fail
      go_meet
      exact ⟨s, hx3.far (p := ⟨w.heap.size + 1, 1, none⟩) (by simp) _, hy3.set_ 1 _, hb3.setCell (p := ⟨w.heap.size + 1, 1, none⟩) (by simp) _⟩
    · go_wp2_with fail
      go_meet
      exact ⟨s', hx3, hy3, hb3⟩
  case rest =>
  obtain ⟨sb, hx4, hy4, hb4⟩ := hcut
  clear hx3 hy3 hb3
  go_wp2_with fail
  have hS : (wc.drew.cell? ⟨w.heap.size, 0, none⟩ = some (.int .u32 c) ∧ wc.drew.cell? ⟨w.heap.size, 1, none⟩ = some (.int .u32 s) ∧ wc.drew.cell? ⟨w.heap.size, 2, none⟩ = some (.int .u16 n)) ∧ (wc.drew.cell? ⟨(w.heap.size + 1), 0, none⟩ = some (.int .u32 cb) ∧ wc.drew.cell? ⟨(w.heap.size + 1), 1, none⟩ = some (.int .u32 sb) ∧ wc.drew.cell? ⟨(w.heap.size + 1), 2, none⟩ = some (.int .u16 n')) ∧ Below w.heap.size w wc.drew ∧ w.heap.size < wc.drew.heap.size ∧ (w.heap.size + 1) < wc.drew.heap.size := ⟨⟨hx4.cell 0, hx4.cell 1, hx4.cell 2⟩, ⟨hy4.cell 0, hy4.cell 1, hy4.cell 2⟩, hb4.drew, hx4.lt, hy4.lt⟩
  clear hx4 hy4 hb4
  have hl1 := fun W => less_walk c s n cb sb n' W
  have hl2 := fun W => idless_walk c s n cb sb n' W
  have hl3 := fun W => less_walk cb sb n' c s n W
  have hl4 := fun W => idless_walk cb sb n' c s n W
  have hl5 := fun W => less_walk c s n c s n W
  rw [idLt_irrefl] at hl5
  generalize idLt c s n cb sb n' = t1 at *
  generalize idLt cb sb n' c s n = t2 at *
  have ht1 : (t1 != t1) = false := by simp
  have ht2 : (t2 != t2) = false := by simp
  refine wp_region_lex (fun W => (W.cell? ⟨w.heap.size, 0, none⟩ = some (.int .u32 c) ∧ W.cell? ⟨w.heap.size, 1, none⟩ = some (.int .u32 s) ∧ W.cell? ⟨w.heap.size, 2, none⟩ = some (.int .u16 n)) ∧ (W.cell? ⟨(w.heap.size + 1), 0, none⟩ = some (.int .u32 cb) ∧ W.cell? ⟨(w.heap.size + 1), 1, none⟩ = some (.int .u32 sb) ∧ W.cell? ⟨(w.heap.size + 1), 2, none⟩ = some (.int .u16 n')) ∧ Below w.heap.size w W ∧ w.heap.size < W.heap.size ∧ (w.heap.size + 1) < W.heap.size) [0, 1, 3, 4, 8, 9, 11, 12, 17, 18] [2, 5, 10, 13, 19] [0, 1, 3, 4, 2, 5, 6, 7, 8, 9, 11, 12, 10, 13, 14, 15, 16, 17, 18, 19, 20] (by kernel_rfl) rfl (by kernel_rfl) (by kernel_rfl) (fun _ _ d _ _ h => by cases d <;> exact h) ?_
  repeat (first | (refine lexG_take _ ?_ rfl rfl rfl rfl (fun _ => ?_) ?_; rotate_left; (focus (go_simp; with_reducible rfl)); try simp only [Act.put, List.setIfInBounds_toArray, List.set_cons_zero, List.set_cons_succ]) | (refine lexG_held _ ?_ rfl rfl rfl rfl (by assumption) (fun _ hSw => ?_) ?_; rotate_left; (focus ((try dsimp only at hSw); go_simp; with_reducible rfl)); try simp only [Act.put, List.setIfInBounds_toArray, List.set_cons_zero, List.set_cons_succ]) | (refine lexG_skip _ rfl rfl (by assumption) ?_; try simp only [Act.put, List.setIfInBounds_toArray, List.set_cons_zero, List.set_cons_succ]))
  refine lexG_now _ rfl rfl rfl (fun K hK => ?_)
  go_wp2_with fail
  refine (hl1 _).mono ?_
  rintro e w5 ⟨rfl, hb5⟩
  dsimp only
  have hS5 := ids_below hS hb5
  refine hK _ _ _ (fun _ h => h) hS5 ?_
  clear hK K hS hb5
  try simp only [Act.put, List.setIfInBounds_toArray, List.set_cons_zero, List.set_cons_succ]
  repeat (first | (refine lexG_take _ ?_ rfl rfl rfl rfl (fun _ => ?_) ?_; rotate_left; (focus (go_simp; with_reducible rfl)); try simp only [Act.put, List.setIfInBounds_toArray, List.set_cons_zero, List.set_cons_succ]) | (refine lexG_held _ ?_ rfl rfl rfl rfl (by assumption) (fun _ hSw => ?_) ?_; rotate_left; (focus ((try dsimp only at hSw); go_simp; with_reducible rfl)); try simp only [Act.put, List.setIfInBounds_toArray, List.set_cons_zero, List.set_cons_succ]) | (refine lexG_skip _ rfl rfl (by assumption) ?_; try simp only [Act.put, List.setIfInBounds_toArray, List.set_cons_zero, List.set_cons_succ]))
  refine lexG_now _ rfl rfl rfl (fun K hK => ?_)
  go_wp2_with fail
  refine (hl2 _).mono ?_
  rintro e w6 ⟨rfl, hb6⟩
  dsimp only
  have hS6 := ids_below hS5 hb6
  refine hK _ _ _ (fun _ h => h) hS6 ?_
  clear hK K hS5 hb6
  try simp only [Act.put, List.setIfInBounds_toArray, List.set_cons_zero, List.set_cons_succ]
  repeat (first | (refine lexG_take _ ?_ rfl rfl rfl rfl (fun _ => ?_) ?_; rotate_left; (focus (go_simp; with_reducible rfl)); try simp only [Act.put, List.setIfInBounds_toArray, List.set_cons_zero, List.set_cons_succ]) | (refine lexG_held _ ?_ rfl rfl rfl rfl (by assumption) (fun _ hSw => ?_) ?_; rotate_left; (focus ((try dsimp only at hSw); go_simp; with_reducible rfl)); try simp only [Act.put, List.setIfInBounds_toArray, List.set_cons_zero, List.set_cons_succ]) | (refine lexG_skip _ rfl rfl (by assumption) ?_; try simp only [Act.put, List.setIfInBounds_toArray, List.set_cons_zero, List.set_cons_succ]))
  refine lexG_now _ rfl rfl rfl (fun K hK => ?_)
  go_wp2_with fail
  refine (hl3 _).mono ?_
  rintro e w7 ⟨rfl, hb7⟩
  dsimp only
  have hS7 := ids_below hS6 hb7
  refine hK _ _ _ (fun _ h => h) hS7 ?_
  clear hK K hS6 hb7
  try simp only [Act.put, List.setIfInBounds_toArray, List.set_cons_zero, List.set_cons_succ]
  repeat (first | (refine lexG_take _ ?_ rfl rfl rfl rfl (fun _ => ?_) ?_; rotate_left; (focus (go_simp; with_reducible rfl)); try simp only [Act.put, List.setIfInBounds_toArray, List.set_cons_zero, List.set_cons_succ]) | (refine lexG_held _ ?_ rfl rfl rfl rfl (by assumption) (fun _ hSw => ?_) ?_; rotate_left; (focus ((try dsimp only at hSw); go_simp; with_reducible rfl)); try simp only [Act.put, List.setIfInBounds_toArray, List.set_cons_zero, List.set_cons_succ]) | (refine lexG_skip _ rfl rfl (by assumption) ?_; try simp only [Act.put, List.setIfInBounds_toArray, List.set_cons_zero, List.set_cons_succ]))
  refine lexG_now _ rfl rfl rfl (fun K hK => ?_)
  go_wp2_with fail
  refine (hl4 _).mono ?_
  rintro e w8 ⟨rfl, hb8⟩
  dsimp only
  have hS8 := ids_below hS7 hb8
  refine hK _ _ _ (fun _ h => h) hS8 ?_
  clear hK K hS7 hb8
  try simp only [Act.put, List.setIfInBounds_toArray, List.set_cons_zero, List.set_cons_succ]
  repeat (first | (refine lexG_take _ ?_ rfl rfl rfl rfl (fun _ => ?_) ?_; rotate_left; (focus (go_simp; with_reducible rfl)); try simp only [Act.put, List.setIfInBounds_toArray, List.set_cons_zero, List.set_cons_succ]) | (refine lexG_held _ ?_ rfl rfl rfl rfl (by assumption) (fun _ hSw => ?_) ?_; rotate_left; (focus ((try dsimp only at hSw); go_simp; with_reducible rfl)); try simp only [Act.put, List.setIfInBounds_toArray, List.set_cons_zero, List.set_cons_succ]) | (refine lexG_skip _ rfl rfl (by assumption) ?_; try simp only [Act.put, List.setIfInBounds_toArray, List.set_cons_zero, List.set_cons_succ]))
  refine lexG_now _ rfl rfl rfl (fun K hK => ?_)
  go_wp2_with fail
  refine (hl5 _).mono ?_
  rintro e w9 ⟨rfl, hb9⟩
  dsimp only
  have hS9 := ids_below hS8 hb9
  refine hK _ _ _ (fun _ h => h) hS9 ?_
  clear hK K hS8 hb9
  try simp only [Act.put, List.setIfInBounds_toArray, List.set_cons_zero, List.set_cons_succ]
  repeat (first | (refine lexG_take _ ?_ rfl rfl rfl rfl (fun _ => ?_) ?_; rotate_left; (focus (go_simp; with_reducible rfl)); try simp only [Act.put, List.setIfInBounds_toArray, List.set_cons_zero, List.set_cons_succ]) | (refine lexG_held _ ?_ rfl rfl rfl rfl (by assumption) (fun _ hSw => ?_) ?_; rotate_left; (focus ((try dsimp only at hSw); go_simp; with_reducible rfl)); try simp only [Act.put, List.setIfInBounds_toArray, List.set_cons_zero, List.set_cons_succ]) | (refine lexG_skip _ rfl rfl (by assumption) ?_; try simp only [Act.put, List.setIfInBounds_toArray, List.set_cons_zero, List.set_cons_succ]))
  refine lexG_nil ?_
  clear hl1 hl2 hl3 hl4 hl5 ht1 ht2
  go_wp2_with fail
  obtain ⟨⟨g0, g1, g2⟩, -, hb9, hq9, -⟩ := hS9
  have hbl := Blk.new w9 3 #[.int .i64 k, .int .i64 (k.tmod 10)]
  have hcell : ∀ j, j < 2 → ∃ m : Int, (w9.alloc (.cells #[.int .i64 k, .int .i64 (k.tmod 10)] 3)).cell? ⟨w9.heap.size, j, none⟩ = some (.int .i64 m) := by
    intro j hj
    rcases (show j = 0 ∨ j = 1 by omega) with rfl | rfl
    · exact ⟨_, hbl.cell 0⟩
    · exact ⟨_, hbl.cell 1⟩
  have hbx := hb9.alloc hb9.size (.cells #[.int .i64 k, .int .i64 (k.tmod 10)] 3)
  have hql := hbl.lt
  have g0x := (World.cell?_alloc_lt w9 (.cells #[.int .i64 k, .int .i64 (k.tmod 10)] 3) ⟨w.heap.size, 0, none⟩ hq9).trans g0
  have g1x := (World.cell?_alloc_lt w9 (.cells #[.int .i64 k, .int .i64 (k.tmod 10)] 3) ⟨w.heap.size, 1, none⟩ hq9).trans g1
  have g2x := (World.cell?_alloc_lt w9 (.cells #[.int .i64 k, .int .i64 (k.tmod 10)] 3) ⟨w.heap.size, 2, none⟩ hq9).trans g2
  have hqa : w.heap.size < (w9.alloc (.cells #[.int .i64 k, .int .i64 (k.tmod 10)] 3)).heap.size := Nat.lt_of_lt_of_le hq9 (by simp)
  clear hbl g0 g1 g2 hb9 hq9 hk0 hk1 h0 h1
  generalize w9.alloc (.cells #[.int .i64 k, .int .i64 (k.tmod 10)] 3) = wa at *
  generalize w9.heap.size = q9 at *
  go_loopw [54] (fun i wr => ∃ j : Nat, j ≤ 2 ∧ i = .int .i64 (j : Int) ∧ Below wa.heap.size wa wr) (fun i _ => 2 - (intOf i).toNat)
  case atStart => exact ⟨0, by omega, rfl, Below.refl _ _⟩
  case round =>
    rename_i wr hrel
    obtain ⟨j, hj2, rfl, hbr⟩ := hrel
    have g0 := (hbr.cell (p := ⟨w.heap.size, 0, none⟩) hqa).trans g0x
    have g1 := (hbr.cell (p := ⟨w.heap.size, 1, none⟩) hqa).trans g1x
    have g2 := (hbr.cell (p := ⟨w.heap.size, 2, none⟩) hqa).trans g2x
    by_cases hj : j < 2
    · obtain ⟨m, hm⟩ := hcell j hj
      have hm' := (hbr.cell (p := ⟨q9, j, none⟩) hql).trans hm
      have hqr := Nat.lt_of_lt_of_le hqa hbr.size
      rcases (show (n = 0 ∧ 1 ≤ m ∧ m ≤ 8) ∨ n ≠ 0 ∨ (n = 0 ∧ m < 1) ∨ (n = 0 ∧ 1 ≤ m ∧ 8 < m) by omega) with ⟨rfl, h1, h8⟩ | hn | ⟨rfl, h1⟩ | ⟨rfl, h1, h8⟩
      · skip
        go_wp2_with fail
        refine (nested_ok c s m h1 h8 _).mono ?_
        rintro e wn ⟨rfl, hbn⟩
        dsimp only
        have hbr' := hbr.trans (hbn.mono hbr.size)
        have g0' := (hbn.cell (p := ⟨w.heap.size, 0, none⟩) hqr).trans g0
        have g1' := (hbn.cell (p := ⟨w.heap.size, 1, none⟩) hqr).trans g1
        have g2' := (hbn.cell (p := ⟨w.heap.size, 2, none⟩) hqr).trans g2
        have hqn := Nat.lt_of_lt_of_le hqr hbn.size
        clear g0 g1 g2 hbn hm' g0x g1x g2x hcell
        go_wp2_with fail
        have hyn := Blk.new wn 25 #[.int .u32 c, .int .u32 s, .int .u16 m]
        have hbx' := hbr'.alloc hbr'.size (.cells #[.int .u32 c, .int .u32 s, .int .u16 m] 25)
        have hS : ((wn.alloc (.cells #[.int .u32 c, .int .u32 s, .int .u16 m] 25)).drew.cell? ⟨w.heap.size, 0, none⟩ = some (.int .u32 c) ∧ (wn.alloc (.cells #[.int .u32 c, .int .u32 s, .int .u16 m] 25)).drew.cell? ⟨w.heap.size, 1, none⟩ = some (.int .u32 s) ∧ (wn.alloc (.cells #[.int .u32 c, .int .u32 s, .int .u16 m] 25)).drew.cell? ⟨w.heap.size, 2, none⟩ = some (.int .u16 0)) ∧ ((wn.alloc (.cells #[.int .u32 c, .int .u32 s, .int .u16 m] 25)).drew.cell? ⟨wn.heap.size, 0, none⟩ = some (.int .u32 c) ∧ (wn.alloc (.cells #[.int .u32 c, .int .u32 s, .int .u16 m] 25)).drew.cell? ⟨wn.heap.size, 1, none⟩ = some (.int .u32 s) ∧ (wn.alloc (.cells #[.int .u32 c, .int .u32 s, .int .u16 m] 25)).drew.cell? ⟨wn.heap.size, 2, none⟩ = some (.int .u16 m)) ∧ Below w.heap.size w (wn.alloc (.cells #[.int .u32 c, .int .u32 s, .int .u16 m] 25)).drew ∧ w.heap.size < (wn.alloc (.cells #[.int .u32 c, .int .u32 s, .int .u16 m] 25)).drew.heap.size ∧ wn.heap.size < (wn.alloc (.cells #[.int .u32 c, .int .u32 s, .int .u16 m] 25)).drew.heap.size := ⟨⟨(World.cell?_alloc_lt wn _ ⟨w.heap.size, 0, none⟩ hqn).trans g0', (World.cell?_alloc_lt wn _ ⟨w.heap.size, 1, none⟩ hqn).trans g1', (World.cell?_alloc_lt wn _ ⟨w.heap.size, 2, none⟩ hqn).trans g2'⟩, ⟨hyn.cell 0, hyn.cell 1, hyn.cell 2⟩, (hbx.trans (hbx'.mono hbx.size)).drew, Nat.lt_of_lt_of_le hqn (by simp), hyn.lt⟩
        clear g0' g1' g2' hyn hbr'
        generalize (wn.alloc (.cells #[.int .u32 c, .int .u32 s, .int .u16 m] 25)) = wm at *
        have hwm : IntKind.u16.wrap m = m := by rw [IntKind.wrap_u16]; omega
        refine wp_region_lex (fun W => (W.cell? ⟨w.heap.size, 0, none⟩ = some (.int .u32 c) ∧ W.cell? ⟨w.heap.size, 1, none⟩ = some (.int .u32 s) ∧ W.cell? ⟨w.heap.size, 2, none⟩ = some (.int .u16 0)) ∧ (W.cell? ⟨wn.heap.size, 0, none⟩ = some (.int .u32 c) ∧ W.cell? ⟨wn.heap.size, 1, none⟩ = some (.int .u32 s) ∧ W.cell? ⟨wn.heap.size, 2, none⟩ = some (.int .u16 m)) ∧ Below w.heap.size w W ∧ w.heap.size < W.heap.size ∧ wn.heap.size < W.heap.size) [2, 16, 18, 20, 26, 28, 37] [27] [0, 1, 2, 3, 4, 5, 6, 7, 8, 9, 10, 11, 12, 13, 14, 15, 16, 17, 18, 19, 20, 21, 22, 23, 24, 25, 26, 28, 27, 29, 30, 31, 32, 33, 34, 35, 36, 37, 38, 39, 40, 41] (by kernel_rfl) rfl (by kernel_rfl) (by kernel_rfl) (fun _ _ d _ _ h => by cases d <;> exact h) ?_
        repeat (first | (refine lexG_take _ ?_ rfl rfl rfl rfl (fun _ => ?_) ?_; rotate_left; (focus (go_simp; with_reducible rfl)); try simp only [Act.put, List.setIfInBounds_toArray, List.set_cons_zero, List.set_cons_succ]) | (refine lexG_held _ ?_ rfl rfl rfl rfl (by assumption) (fun _ hSw => ?_) ?_; rotate_left; (focus ((try dsimp only at hSw); go_simp; with_reducible rfl)); try simp only [Act.put, List.setIfInBounds_toArray, List.set_cons_zero, List.set_cons_succ]) | (refine lexG_skip _ rfl rfl (by assumption) ?_; try simp only [Act.put, List.setIfInBounds_toArray, List.set_cons_zero, List.set_cons_succ]))
        refine lexG_now _ rfl rfl rfl (fun K hK => ?_)
        go_wp2_with fail
        refine (root_walk c s m _).mono ?_
        rintro e wz ⟨rfl, hbz⟩
        dsimp only
        have hSz := ids_below hS hbz
        have hbz' := hbx'.drew.trans (hbz.mono hbx'.drew.size)
        refine hK _ _ _ (fun _ h => h) hSz ?_
        clear hK K hS hbz
        try simp only [Act.put, List.setIfInBounds_toArray, List.set_cons_zero, List.set_cons_succ]
        repeat (first | (refine lexG_take _ ?_ rfl rfl rfl rfl (fun _ => ?_) ?_; rotate_left; (focus (go_simp; with_reducible rfl)); try simp only [Act.put, List.setIfInBounds_toArray, List.set_cons_zero, List.set_cons_succ]) | (refine lexG_held _ ?_ rfl rfl rfl rfl (by assumption) (fun _ hSw => ?_) ?_; rotate_left; (focus ((try dsimp only at hSw); go_simp; with_reducible rfl)); try simp only [Act.put, List.setIfInBounds_toArray, List.set_cons_zero, List.set_cons_succ]) | (refine lexG_skip _ rfl rfl (by assumption) ?_; try simp only [Act.put, List.setIfInBounds_toArray, List.set_cons_zero, List.set_cons_succ]))
        refine lexG_nil ?_
        go_wp2_with fail
        go_roundw
        case rel => exact ⟨j + 1, by omega, by simp, hbz'⟩
        case measure => simp [intOf]; omega
      · have hnb : (n == 0) = false := beq_eq_false_iff_ne.2 hn
        go_wp2_with fail
        refine (nested_no c s n m (by omega) _).mono ?_
        rintro e wn ⟨rfl, hbn⟩
        dsimp only
        have hbr' := hbr.trans (hbn.mono hbr.size)
        have g0' := (hbn.cell (p := ⟨w.heap.size, 0, none⟩) hqr).trans g0
        have g1' := (hbn.cell (p := ⟨w.heap.size, 1, none⟩) hqr).trans g1
        have g2' := (hbn.cell (p := ⟨w.heap.size, 2, none⟩) hqr).trans g2
        have hqn := Nat.lt_of_lt_of_le hqr hbn.size
        clear g0 g1 g2 hbn hm' g0x g1x g2x hcell
        go_wp2_with fail
        have hyn := Blk.new wn 25 #[.int .u32 0, .int .u32 0, .int .u16 0]
        have hbx' := hbr'.alloc hbr'.size (.cells #[.int .u32 0, .int .u32 0, .int .u16 0] 25)
        have hS : ((wn.alloc (.cells #[.int .u32 0, .int .u32 0, .int .u16 0] 25)).drew.cell? ⟨w.heap.size, 0, none⟩ = some (.int .u32 c) ∧ (wn.alloc (.cells #[.int .u32 0, .int .u32 0, .int .u16 0] 25)).drew.cell? ⟨w.heap.size, 1, none⟩ = some (.int .u32 s) ∧ (wn.alloc (.cells #[.int .u32 0, .int .u32 0, .int .u16 0] 25)).drew.cell? ⟨w.heap.size, 2, none⟩ = some (.int .u16 n)) ∧ ((wn.alloc (.cells #[.int .u32 0, .int .u32 0, .int .u16 0] 25)).drew.cell? ⟨wn.heap.size, 0, none⟩ = some (.int .u32 0) ∧ (wn.alloc (.cells #[.int .u32 0, .int .u32 0, .int .u16 0] 25)).drew.cell? ⟨wn.heap.size, 1, none⟩ = some (.int .u32 0) ∧ (wn.alloc (.cells #[.int .u32 0, .int .u32 0, .int .u16 0] 25)).drew.cell? ⟨wn.heap.size, 2, none⟩ = some (.int .u16 0)) ∧ Below w.heap.size w (wn.alloc (.cells #[.int .u32 0, .int .u32 0, .int .u16 0] 25)).drew ∧ w.heap.size < (wn.alloc (.cells #[.int .u32 0, .int .u32 0, .int .u16 0] 25)).drew.heap.size ∧ wn.heap.size < (wn.alloc (.cells #[.int .u32 0, .int .u32 0, .int .u16 0] 25)).drew.heap.size := ⟨⟨(World.cell?_alloc_lt wn _ ⟨w.heap.size, 0, none⟩ hqn).trans g0', (World.cell?_alloc_lt wn _ ⟨w.heap.size, 1, none⟩ hqn).trans g1', (World.cell?_alloc_lt wn _ ⟨w.heap.size, 2, none⟩ hqn).trans g2'⟩, ⟨hyn.cell 0, hyn.cell 1, hyn.cell 2⟩, (hbx.trans (hbx'.mono hbx.size)).drew, Nat.lt_of_lt_of_le hqn (by simp), hyn.lt⟩
        clear g0' g1' g2' hyn hbr'
        generalize (wn.alloc (.cells #[.int .u32 0, .int .u32 0, .int .u16 0] 25)) = wm at *
        refine wp_region_lex (fun W => (W.cell? ⟨w.heap.size, 0, none⟩ = some (.int .u32 c) ∧ W.cell? ⟨w.heap.size, 1, none⟩ = some (.int .u32 s) ∧ W.cell? ⟨w.heap.size, 2, none⟩ = some (.int .u16 n)) ∧ (W.cell? ⟨wn.heap.size, 0, none⟩ = some (.int .u32 0) ∧ W.cell? ⟨wn.heap.size, 1, none⟩ = some (.int .u32 0) ∧ W.cell? ⟨wn.heap.size, 2, none⟩ = some (.int .u16 0)) ∧ Below w.heap.size w W ∧ w.heap.size < W.heap.size ∧ wn.heap.size < W.heap.size) [2, 16, 18, 20, 26, 28, 37] [27] [0, 1, 2, 3, 4, 5, 6, 7, 8, 9, 10, 11, 12, 13, 14, 15, 16, 17, 18, 19, 20, 21, 22, 23, 24, 25, 26, 28, 27, 29, 30, 31, 32, 33, 34, 35, 36, 37, 38, 39, 40, 41] (by kernel_rfl) rfl (by kernel_rfl) (by kernel_rfl) (fun _ _ d _ _ h => by cases d <;> exact h) ?_
        repeat (first | (refine lexG_take _ ?_ rfl rfl rfl rfl (fun _ => ?_) ?_; rotate_left; (focus (go_simp; with_reducible rfl)); try simp only [Act.put, List.setIfInBounds_toArray, List.set_cons_zero, List.set_cons_succ]) | (refine lexG_held _ ?_ rfl rfl rfl rfl (by assumption) (fun _ hSw => ?_) ?_; rotate_left; (focus ((try dsimp only at hSw); go_simp; with_reducible rfl)); try simp only [Act.put, List.setIfInBounds_toArray, List.set_cons_zero, List.set_cons_succ]) | (refine lexG_skip _ rfl rfl (by assumption) ?_; try simp only [Act.put, List.setIfInBounds_toArray, List.set_cons_zero, List.set_cons_succ]))
        have hbz' := hbx'.drew
        refine lexG_nil ?_
        go_wp2_with fail
        go_roundw
        case rel => exact ⟨j + 1, by omega, by simp, hbz'⟩
        case measure => simp [intOf]; omega
      · have hd1 : decide (1 ≤ m) = false := decide_eq_false (by omega)
        go_wp2_with fail
        refine (nested_no c s 0 m (by omega) _).mono ?_
        rintro e wn ⟨rfl, hbn⟩
        dsimp only
        have hbr' := hbr.trans (hbn.mono hbr.size)
        have g0' := (hbn.cell (p := ⟨w.heap.size, 0, none⟩) hqr).trans g0
        have g1' := (hbn.cell (p := ⟨w.heap.size, 1, none⟩) hqr).trans g1
        have g2' := (hbn.cell (p := ⟨w.heap.size, 2, none⟩) hqr).trans g2
        have hqn := Nat.lt_of_lt_of_le hqr hbn.size
        clear g0 g1 g2 hbn hm' g0x g1x g2x hcell
        go_wp2_with fail
        have hyn := Blk.new wn 25 #[.int .u32 0, .int .u32 0, .int .u16 0]
        have hbx' := hbr'.alloc hbr'.size (.cells #[.int .u32 0, .int .u32 0, .int .u16 0] 25)
        have hS : ((wn.alloc (.cells #[.int .u32 0, .int .u32 0, .int .u16 0] 25)).drew.cell? ⟨w.heap.size, 0, none⟩ = some (.int .u32 c) ∧ (wn.alloc (.cells #[.int .u32 0, .int .u32 0, .int .u16 0] 25)).drew.cell? ⟨w.heap.size, 1, none⟩ = some (.int .u32 s) ∧ (wn.alloc (.cells #[.int .u32 0, .int .u32 0, .int .u16 0] 25)).drew.cell? ⟨w.heap.size, 2, none⟩ = some (.int .u16 0)) ∧ ((wn.alloc (.cells #[.int .u32 0, .int .u32 0, .int .u16 0] 25)).drew.cell? ⟨wn.heap.size, 0, none⟩ = some (.int .u32 0) ∧ (wn.alloc (.cells #[.int .u32 0, .int .u32 0, .int .u16 0] 25)).drew.cell? ⟨wn.heap.size, 1, none⟩ = some (.int .u32 0) ∧ (wn.alloc (.cells #[.int .u32 0, .int .u32 0, .int .u16 0] 25)).drew.cell? ⟨wn.heap.size, 2, none⟩ = some (.int .u16 0)) ∧ Below w.heap.size w (wn.alloc (.cells #[.int .u32 0, .int .u32 0, .int .u16 0] 25)).drew ∧ w.heap.size < (wn.alloc (.cells #[.int .u32 0, .int .u32 0, .int .u16 0] 25)).drew.heap.size ∧ wn.heap.size < (wn.alloc (.cells #[.int .u32 0, .int .u32 0, .int .u16 0] 25)).drew.heap.size := ⟨⟨(World.cell?_alloc_lt wn _ ⟨w.heap.size, 0, none⟩ hqn).trans g0', (World.cell?_alloc_lt wn _ ⟨w.heap.size, 1, none⟩ hqn).trans g1', (World.cell?_alloc_lt wn _ ⟨w.heap.size, 2, none⟩ hqn).trans g2'⟩, ⟨hyn.cell 0, hyn.cell 1, hyn.cell 2⟩, (hbx.trans (hbx'.mono hbx.size)).drew, Nat.lt_of_lt_of_le hqn (by simp), hyn.lt⟩
        clear g0' g1' g2' hyn hbr'
        generalize (wn.alloc (.cells #[.int .u32 0, .int .u32 0, .int .u16 0] 25)) = wm at *
        refine wp_region_lex (fun W => (W.cell? ⟨w.heap.size, 0, none⟩ = some (.int .u32 c) ∧ W.cell? ⟨w.heap.size, 1, none⟩ = some (.int .u32 s) ∧ W.cell? ⟨w.heap.size, 2, none⟩ = some (.int .u16 0)) ∧ (W.cell? ⟨wn.heap.size, 0, none⟩ = some (.int .u32 0) ∧ W.cell? ⟨wn.heap.size, 1, none⟩ = some (.int .u32 0) ∧ W.cell? ⟨wn.heap.size, 2, none⟩ = some (.int .u16 0)) ∧ Below w.heap.size w W ∧ w.heap.size < W.heap.size ∧ wn.heap.size < W.heap.size) [2, 16, 18, 20, 26, 28, 37] [27] [0, 1, 2, 3, 4, 5, 6, 7, 8, 9, 10, 11, 12, 13, 14, 15, 16, 17, 18, 19, 20, 21, 22, 23, 24, 25, 26, 28, 27, 29, 30, 31, 32, 33, 34, 35, 36, 37, 38, 39, 40, 41] (by kernel_rfl) rfl (by kernel_rfl) (by kernel_rfl) (fun _ _ d _ _ h => by cases d <;> exact h) ?_
        repeat (first | (refine lexG_take _ ?_ rfl rfl rfl rfl (fun _ => ?_) ?_; rotate_left; (focus (go_simp; with_reducible rfl)); try simp only [Act.put, List.setIfInBounds_toArray, List.set_cons_zero, List.set_cons_succ]) | (refine lexG_held _ ?_ rfl rfl rfl rfl (by assumption) (fun _ hSw => ?_) ?_; rotate_left; (focus ((try dsimp only at hSw); go_simp; with_reducible rfl)); try simp only [Act.put, List.setIfInBounds_toArray, List.set_cons_zero, List.set_cons_succ]) | (refine lexG_skip _ rfl rfl (by assumption) ?_; try simp only [Act.put, List.setIfInBounds_toArray, List.set_cons_zero, List.set_cons_succ]))
        have hbz' := hbx'.drew
        refine lexG_nil ?_
        go_wp2_with fail
        go_roundw
        case rel => exact ⟨j + 1, by omega, by simp, hbz'⟩
        case measure => simp [intOf]; omega
      · have hd1 : decide (1 ≤ m) = true := decide_eq_true h1
        have hd8 : decide (m ≤ 8) = false := decide_eq_false (by omega)
        go_wp2_with fail
        refine (nested_no c s 0 m (by omega) _).mono ?_
        rintro e wn ⟨rfl, hbn⟩
        dsimp only
        have hbr' := hbr.trans (hbn.mono hbr.size)
        have g0' := (hbn.cell (p := ⟨w.heap.size, 0, none⟩) hqr).trans g0
        have g1' := (hbn.cell (p := ⟨w.heap.size, 1, none⟩) hqr).trans g1
        have g2' := (hbn.cell (p := ⟨w.heap.size, 2, none⟩) hqr).trans g2
        have hqn := Nat.lt_of_lt_of_le hqr hbn.size
        clear g0 g1 g2 hbn hm' g0x g1x g2x hcell
        go_wp2_with fail
        have hyn := Blk.new wn 25 #[.int .u32 0, .int .u32 0, .int .u16 0]
        have hbx' := hbr'.alloc hbr'.size (.cells #[.int .u32 0, .int .u32 0, .int .u16 0] 25)
        have hS : ((wn.alloc (.cells #[.int .u32 0, .int .u32 0, .int .u16 0] 25)).drew.cell? ⟨w.heap.size, 0, none⟩ = some (.int .u32 c) ∧ (wn.alloc (.cells #[.int .u32 0, .int .u32 0, .int .u16 0] 25)).drew.cell? ⟨w.heap.size, 1, none⟩ = some (.int .u32 s) ∧ (wn.alloc (.cells #[.int .u32 0, .int .u32 0, .int .u16 0] 25)).drew.cell? ⟨w.heap.size, 2, none⟩ = some (.int .u16 0)) ∧ ((wn.alloc (.cells #[.int .u32 0, .int .u32 0, .int .u16 0] 25)).drew.cell? ⟨wn.heap.size, 0, none⟩ = some (.int .u32 0) ∧ (wn.alloc (.cells #[.int .u32 0, .int .u32 0, .int .u16 0] 25)).drew.cell? ⟨wn.heap.size, 1, none⟩ = some (.int .u32 0) ∧ (wn.alloc (.cells #[.int .u32 0, .int .u32 0, .int .u16 0] 25)).drew.cell? ⟨wn.heap.size, 2, none⟩ = some (.int .u16 0)) ∧ Below w.heap.size w (wn.alloc (.cells #[.int .u32 0, .int .u32 0, .int .u16 0] 25)).drew ∧ w.heap.size < (wn.alloc (.cells #[.int .u32 0, .int .u32 0, .int .u16 0] 25)).drew.heap.size ∧ wn.heap.size < (wn.alloc (.cells #[.int .u32 0, .int .u32 0, .int .u16 0] 25)).drew.heap.size := ⟨⟨(World.cell?_alloc_lt wn _ ⟨w.heap.size, 0, none⟩ hqn).trans g0', (World.cell?_alloc_lt wn _ ⟨w.heap.size, 1, none⟩ hqn).trans g1', (World.cell?_alloc_lt wn _ ⟨w.heap.size, 2, none⟩ hqn).trans g2'⟩, ⟨hyn.cell 0, hyn.cell 1, hyn.cell 2⟩, (hbx.trans (hbx'.mono hbx.size)).drew, Nat.lt_of_lt_of_le hqn (by simp), hyn.lt⟩
        clear g0' g1' g2' hyn hbr'
        generalize (wn.alloc (.cells #[.int .u32 0, .int .u32 0, .int .u16 0] 25)) = wm at *
        refine wp_region_lex (fun W => (W.cell? ⟨w.heap.size, 0, none⟩ = some (.int .u32 c) ∧ W.cell? ⟨w.heap.size, 1, none⟩ = some (.int .u32 s) ∧ W.cell? ⟨w.heap.size, 2, none⟩ = some (.int .u16 0)) ∧ (W.cell? ⟨wn.heap.size, 0, none⟩ = some (.int .u32 0) ∧ W.cell? ⟨wn.heap.size, 1, none⟩ = some (.int .u32 0) ∧ W.cell? ⟨wn.heap.size, 2, none⟩ = some (.int .u16 0)) ∧ Below w.heap.size w W ∧ w.heap.size < W.heap.size ∧ wn.heap.size < W.heap.size) [2, 16, 18, 20, 26, 28, 37] [27] [0, 1, 2, 3, 4, 5, 6, 7, 8, 9, 10, 11, 12, 13, 14, 15, 16, 17, 18, 19, 20, 21, 22, 23, 24, 25, 26, 28, 27, 29, 30, 31, 32, 33, 34, 35, 36, 37, 38, 39, 40, 41] (by kernel_rfl) rfl (by kernel_rfl) (by kernel_rfl) (fun _ _ d _ _ h => by cases d <;> exact h) ?_
        repeat (first | (refine lexG_take _ ?_ rfl rfl rfl rfl (fun _ => ?_) ?_; rotate_left; (focus (go_simp; with_reducible rfl)); try simp only [Act.put, List.setIfInBounds_toArray, List.set_cons_zero, List.set_cons_succ]) | (refine lexG_held _ ?_ rfl rfl rfl rfl (by assumption) (fun _ hSw => ?_) ?_; rotate_left; (focus ((try dsimp only at hSw); go_simp; with_reducible rfl)); try simp only [Act.put, List.setIfInBounds_toArray, List.set_cons_zero, List.set_cons_succ]) | (refine lexG_skip _ rfl rfl (by assumption) ?_; try simp only [Act.put, List.setIfInBounds_toArray, List.set_cons_zero, List.set_cons_succ]))
        have hbz' := hbx'.drew
        refine lexG_nil ?_
        go_wp2_with fail
        go_roundw
        case rel => exact ⟨j + 1, by omega, by simp, hbz'⟩
        case measure => simp [intOf]; omega
    · obtain rfl : j = 2 := by omega
      have hbr2 := hbx.trans (hbr.mono hbx.size)
      have hqr := Nat.lt_of_lt_of_le hqa hbr.size
      clear hcell g0x g1x g2x
      go_wp2_with fail
      refine (root_walk c s n _).mono ?_
      rintro e wz ⟨rfl, hbz⟩
      dsimp only
      have g0' := (hbz.cell (p := ⟨w.heap.size, 0, none⟩) hqr).trans g0
      have g1' := (hbz.cell (p := ⟨w.heap.size, 1, none⟩) hqr).trans g1
      have hbz' := hbr2.trans (hbz.mono hbr2.size)
      have hqz := Nat.lt_of_lt_of_le hqr hbz.size
      have g0'' := (World.cell?_alloc_lt wz (.cells #[.int .u32 c, .int .u32 s, .int .u16 0] 25) ⟨w.heap.size, 0, none⟩ hqz).trans g0'
      have g1'' := (World.cell?_alloc_lt wz (.cells #[.int .u32 c, .int .u32 s, .int .u16 0] 25) ⟨w.heap.size, 1, none⟩ hqz).trans g1'
      go_wp2_with fail
      go_ret
      exact ⟨rfl, hbz'.alloc hbz'.size _⟩
end Go.Proofs.YtdfccpknjfkhpaaDoor
