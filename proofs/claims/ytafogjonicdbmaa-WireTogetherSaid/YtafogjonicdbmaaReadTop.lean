/- wire.Read at any bytes. -/
import Derived.Test.YtafogjonicdbmaaCheck
namespace Go.Proofs.Ytafogjonicdbmaa
open Go.RowKit

/-- What Check says. -/
def checkV (v : Val) : Nat := if strangeV v then 31 else if greatV v 8 || decide (4096 < sizeV v) then 22 else 0

set_option maxHeartbeats 800000 in
theorem val_check {w : World} {B : Nat} {v : Val} {cs : Array Value} (h : VReads w B v cs) (w1 : World) (hsz : sizeV v ≤ 1000000000) (hb1 : Below B w w1) (hB1 : B ≤ w1.heap.size) :
    Calls Try.prog 29 #[.agg cs] w1 (Says w1 (.int .i64 (checkV v : Int))) := by
  have hst := fun w2 (hb : Below w1.heap.size w1 w2) => val_strange h w2 (hb1.trans (hb.mono hB1)) (Nat.le_trans hB1 hb.size)
  have hgr := fun w2 (hb : Below w1.heap.size w1 w2) => val_great h 8 w2 (by omega) (by omega) (hb1.trans (hb.mono hB1)) (Nat.le_trans hB1 hb.size)
  have hsi := fun w2 (hb : Below w1.heap.size w1 w2) => val_size h w2 hsz (hb1.trans (hb.mono hB1)) (Nat.le_trans hB1 hb.size)
  obtain ⟨k, i, f, s, A, n, c, hform⟩ := h.form
  rw [hform] at hst hgr hsi ⊢
  unfold checkV
  generalize strangeV v = b1 at *
  generalize greatV v 8 = b2 at *
  generalize sizeV v = z at *
  obtain ⟨r, hr⟩ : ∃ r, (if b1 = true then (31 : Nat) else if (b2 || decide (4096 < z)) = true then 22 else 0) = r := ⟨_, rfl⟩
  rw [hr]
  replace hr := Lib.hid hr
  clear hform h hb1 hB1
  replace hst := Lib.hid hst
  replace hgr := Lib.hid hgr
  replace hsi := Lib.hid hsi
  have hS := SV.alloc w1 (Below.refl _ _) k i f s A n c
  go_enter Try.func29, Try.ntmps29
  go_wp2_with fail
  generalize w1.alloc (.cells #[.int .i64 k, .int .i64 i, .float .f64 f, .string s, .slice A n c] 26) = w2 at hS ⊢
  generalize hb : w1.heap.size = b at hS ⊢
  replace hb := Lib.hid hb
  refine (hst.out w2 hS.2.2.2.2.2.1).mono ?_
  rintro e w3 ⟨rfl, hb3⟩
  dsimp only
  have hS3 : SV b k i f s A n c w1 w3 := hS.below hb3
  obtain ⟨e0, e1, e2, e3, e4, e5, e6⟩ := id hS3
  cases b1
  · go_wp2_with fail
    refine (hgr.out w3 e5).mono ?_
    rintro e w4 ⟨rfl, hb4⟩
    dsimp only
    have hS4 : SV b k i f s A n c w1 w4 := hS3.below hb4
    clear e0 e1 e2 e3 e4 e5 e6
    obtain ⟨e0, e1, e2, e3, e4, e5, e6⟩ := id hS4
    cases b2
    · go_wp2_with fail
      refine (hsi.out w4 e5).mono ?_
      rintro e w5 ⟨rfl, hb5⟩
      dsimp only
      have hb5' := below_then hb5 e5
      by_cases h4 : 4096 < z
      · have h4i : (4096 : Int) < (z : Int) := by omega
        have hr' : r = 22 := by rw [← hr.out]; simp [h4]
        subst hr'
        go_wp2_with fail
        go_ret
        exact ⟨rfl, hb5'⟩
      · have h4i : (z : Int) ≤ 4096 := by omega
        have hr' : r = 0 := by rw [← hr.out]; simp [h4]
        subst hr'
        go_wp2_with fail
        go_ret
        exact ⟨rfl, hb5'⟩
    · have hr' : r = 22 := by rw [← hr.out]; simp
      subst hr'
      go_wp2_with fail
      go_ret
      exact ⟨rfl, e5⟩
  · have hr' : r = 31 := by rw [← hr.out]; simp
    subst hr'
    go_wp2_with fail
    go_ret
    exact ⟨rfl, e5⟩

set_option maxHeartbeats 3200000 in
theorem read_tree {A : Option Addr} {m c0 at_ : Nat} {v : Val} {deep : Int} {w : World} (hchk0 : checkV v = 0) (hsz : sizeV v ≤ 1000000000) (hval : ∀ w1, Below w.heap.size w w1 → RdAt w1 (w.heap.size + 1 + 1 + 1) A m c0 0 8 →
      Calls Try.prog 35 #[.pointer (some ⟨w.heap.size + 1 + 1 + 1, 0, none⟩)] w1 (fun e w' => ∃ cs, e = .returned (.agg cs) ∧ VOwn w' (fun g => w1.heap.size ≤ g) v cs ∧ RdAt w' (w.heap.size + 1 + 1 + 1) A m c0 at_ deep ∧ Upd (fun x => x = w.heap.size + 1 + 1 + 1) w1 w')) :
    Calls Try.prog 13 #[.slice A m c0] w (fun e w' => ∃ cs, e = .returned (.tuple #[.agg cs, .int .i64 (at_ : Int), .int .i64 0]) ∧ VOwn w' (fun g => w.heap.size ≤ g) v cs ∧ Below w.heap.size w w') := by
  have hmf : ∀ (fn : Fn) (first cap : Array Value) (w : World), (Instr.makeFunc fn first cap).run Try.prog w = .ok (.func fn first cap) w := fun _ _ _ _ => rfl
  replace hval := Lib.hid hval
  replace hchk0 := Lib.hid hchk0
  go_enter_defers Try.func13, Try.ntmps13
  go_wp2_with fail
  obtain ⟨b0, b1, b2, b3, hb, he⟩ := readStart w A m c0
  have hv := hval.out _ hb b3
  clear hval
  unfold ReadStart at b0 b1 b2 b3 hb he hv
  refine hv.mono ?_
  clear hv
  generalize (((w.alloc (.cells #[.int .i64 0, .int .i64 0, .float .f64 0, .string ⟨#[]⟩, .slice none 0 0] 26)).alloc (.cells #[.int .i64 0] 3)).alloc (.cells #[.int .i64 0] 29)).alloc (.cells #[.slice A m c0, .int .i64 0, .int .i64 8] 71) = w4 at *
  rintro e w5 ⟨cs, rfl, hvo, hR, hu⟩
  obtain ⟨k, i, f, s, A', n', c', hform⟩ := hvo.reads.form
  subst hform
  dsimp only
  have c0' := b0.upd hu (by omega)
  have c1 := b1.upd hu (by omega)
  have c2 := b2.upd hu (by omega)
  have hb5 : Below w.heap.size w w5 := hb.trans (hu.below (by omega) (fun k hk => by omega))
  obtain ⟨z, hz⟩ : ∃ z, w.heap.size = z := ⟨_, rfl⟩
  obtain ⟨q, hq⟩ : ∃ q, w.heap.size + 1 = q := ⟨_, rfl⟩
  obtain ⟨t, ht⟩ : ∃ t, w.heap.size + 1 + 1 = t := ⟨_, rfl⟩
  obtain ⟨r, hr⟩ : ∃ r, w.heap.size + 1 + 1 + 1 = r := ⟨_, rfl⟩
  have hqz : z < q := by omega
  have htq : q < t := by omega
  have hrt : t < r := by omega
  rw [hr] at hR ⊢
  rw [ht] at c2 ⊢
  rw [hq] at c1 ⊢
  rw [hz] at c0' hb5 ⊢
  replace hvo := hvo.mono (Q := fun g => r < g) (fun g _ hg => by omega)
  have hzi := Lib.hid hz
  clear b0 b1 b2 b3 hb he hu hz hq ht hr
  clear w4
  have d0 := c0'.row #[.int .i64 k, .int .i64 i, .float .f64 f, .string s, .slice A' n' c']
  have d1 := c1.farRow (g := z) (by omega) #[.int .i64 k, .int .i64 i, .float .f64 f, .string s, .slice A' n' c']
  have d2 := c2.farRow (g := z) (by omega) #[.int .i64 k, .int .i64 i, .float .f64 f, .string s, .slice A' n' c']
  have d3 := Blk.farRow hR (g := z) (by omega) #[.int .i64 k, .int .i64 i, .float .f64 f, .string s, .slice A' n' c']
  have vo6 := hvo.upd ((Upd.refl (fun x => x = z) w5).setRow (g := z) (fun _ => rfl) #[.int .i64 k, .int .i64 i, .float .f64 f, .string s, .slice A' n' c']) (fun g hg e => by omega)
  have hb6 := below_row hb5 (Nat.le_refl z) #[.int .i64 k, .int .i64 i, .float .f64 f, .string s, .slice A' n' c']
  clear hR c1 c2 hb5
  go_wp2_with (refine store_row_gen rfl 26 _ _ rfl z #[.int .i64 k, .int .i64 i, .float .f64 f, .string s, .slice A' n' c'] rfl rfl 26 _ c0' (by kernel_rfl) rfl (by simp [Value.oneCell']) (fun w6 hw6 => ?_); rw [← hw6] at d0 d1 d2 d3 hb6 vo6; clear hw6 c0'; have x0 := d0.cell 0; have x1 := d0.cell 1; have x2 := d0.cell 2; have x3 := d0.cell 3; have x4 := d0.cell 4)
  have hck := val_check vo6.reads w6 hsz (Below.refl _ _) (Nat.le_refl _)
  rw [hchk0.out] at hck
  refine hck.mono ?_
  clear hck
  rintro e w7 ⟨rfl, hb7⟩
  have vo7 := vo6.upd (S := fun _ => False) (Upd.of_below_size hb7) (fun _ _ h => h)
  dsimp only
  clear x0 x1 x2 x3 x4
  have hz6 := d0.lt
  replace d0 := d0.below hb7 d0.lt
  replace d1 := d1.below hb7 d1.lt
  replace d2 := d2.below hb7 d2.lt
  replace d3 := Blk.below d3 hb7 (Blk.lt d3)
  have hb8 : Below z w w7 := hb6.trans (hb7.mono (Nat.le_of_lt hz6))
  go_wp2_with fail
  refine (must_ok w7).mono ?_
  rintro e w8 ⟨rfl, rfl⟩
  dsimp only
  have hS : w7.drew.cell? ⟨z, 0, none⟩ = some (.int .i64 k) ∧ w7.drew.cell? ⟨z, 1, none⟩ = some (.int .i64 i) ∧ w7.drew.cell? ⟨z, 2, none⟩ = some (.float .f64 f) ∧ w7.drew.cell? ⟨z, 3, none⟩ = some (.string s) ∧ w7.drew.cell? ⟨z, 4, none⟩ = some (.slice A' n' c') ∧ w7.drew.cell? ⟨r, 1, none⟩ = some (.int .i64 (at_ : Int)) ∧ Blk w7.drew z 26 #[.int .i64 k, .int .i64 i, .float .f64 f, .string s, .slice A' n' c'] ∧ (∃ x, Blk w7.drew q 3 #[.int .i64 x]) ∧ (∃ x, Blk w7.drew t 29 #[.int .i64 x]) ∧ Below z w w7.drew :=
    ⟨d0.cell 0, d0.cell 1, d0.cell 2, d0.cell 3, d0.cell 4, Blk.cell d3 1, d0.drew, ⟨_, d1.drew⟩, ⟨_, d2.drew⟩, hb8.drew⟩
  clear d0 d1 d2 d3 hb6 hb7 hb8
  go_wp2_with fail
  refine region_norm ?_; refine wp_region_lex (fun W => W.cell? ⟨z, 0, none⟩ = some (.int .i64 k) ∧ W.cell? ⟨z, 1, none⟩ = some (.int .i64 i) ∧ W.cell? ⟨z, 2, none⟩ = some (.float .f64 f) ∧ W.cell? ⟨z, 3, none⟩ = some (.string s) ∧ W.cell? ⟨z, 4, none⟩ = some (.slice A' n' c') ∧ W.cell? ⟨r, 1, none⟩ = some (.int .i64 (at_ : Int)) ∧ Blk W z 26 #[.int .i64 k, .int .i64 i, .float .f64 f, .string s, .slice A' n' c'] ∧ (∃ x, Blk W q 3 #[.int .i64 x]) ∧ (∃ x, Blk W t 29 #[.int .i64 x]) ∧ Below z w W) [0, 4] [5, 6, 7] [0, 1, 2, 3, 4, 5, 6, 7] (by kernel_rfl) rfl (by kernel_rfl) (by kernel_rfl) (fun _ _ d _ _ h => by cases h.1) ?_
  repeat (first | (refine lexG_take _ ?_ rfl rfl rfl rfl (fun _ => ?_) ?_; rotate_left; (focus (go_simp; with_reducible rfl)); try simp only [Act.put, List.setIfInBounds_toArray, List.set_cons_zero, List.set_cons_succ]) | (refine lexG_held _ ?_ rfl rfl rfl rfl (by assumption) (fun _ hSw => ?_) ?_; rotate_left; (focus ((try dsimp only at hSw); go_simp; with_reducible rfl)); try simp only [Act.put, List.setIfInBounds_toArray, List.set_cons_zero, List.set_cons_succ]) | (refine lexG_skip _ rfl rfl (by assumption) ?_; try simp only [Act.put, List.setIfInBounds_toArray, List.set_cons_zero, List.set_cons_succ]))
  refine lexG_now _ rfl rfl rfl (fun K hK => ?_)
  obtain ⟨_, _, _, _, _, g5, g6, ⟨y7, g7⟩, ⟨y8, g8⟩, g9⟩ := hS
  refine wp_store_row 26 _ _ rfl z #[.int .i64 k, .int .i64 i, .float .f64 f, .string s, .slice A' n' c'] rfl rfl 26 _ g6 (by kernel_rfl) rfl (by simp [Value.oneCell']) ?_
  have vo8 := vo7.upd ((((Upd.refl (fun x => x = z) w7).drew).setRow (g := z) (fun _ => rfl) #[.int .i64 k, .int .i64 i, .float .f64 f, .string s, .slice A' n' c'])) (fun g hg e => by omega)
  have m6 := g6.row #[.int .i64 k, .int .i64 i, .float .f64 f, .string s, .slice A' n' c']
  have m7 := g7.farRow (g := z) (by omega) #[.int .i64 k, .int .i64 i, .float .f64 f, .string s, .slice A' n' c']
  have m8 := g8.farRow (g := z) (by omega) #[.int .i64 k, .int .i64 i, .float .f64 f, .string s, .slice A' n' c']
  have m9 := below_row g9 (Nat.le_refl z) #[.int .i64 k, .int .i64 i, .float .f64 f, .string s, .slice A' n' c']
  have m5 := (cell_setRow_other w7.drew z #[.int .i64 k, .int .i64 i, .float .f64 f, .string s, .slice A' n' c'] ⟨r, 1, none⟩ (by show r ≠ z; omega)).trans g5
  clear g5 g6 g7 g8 g9
  generalize w7.drew.setRow z #[.int .i64 k, .int .i64 i, .float .f64 f, .string s, .slice A' n' c'] = w8 at *
  refine hK _ _ _ (fun _ h => h) ⟨m6.cell 0, m6.cell 1, m6.cell 2, m6.cell 3, m6.cell 4, m5, m6, ⟨_, m7⟩, ⟨_, m8⟩, m9⟩ ?_
  clear hK K
  try simp only [Act.put, List.setIfInBounds_toArray, List.set_cons_zero, List.set_cons_succ]
  refine lexG_now _ rfl rfl rfl (fun K hK => ?_)
  have hc7 := m7.cell 0
  have hf7 := m7.frozen
  go_wp2_with fail
  have vo9 := vo8.upd ((Upd.refl (fun x => x = q) w8).setCell (p := ⟨q, 0, none⟩) (fun _ => rfl) (.int .i64 (at_ : Int))) (fun g hg e => by omega)
  have p6 := m6.far (p := ⟨q, 0, none⟩) (by show z ≠ q; omega) (.int .i64 (at_ : Int))
  have p7 := m7.set_ 0 (.int .i64 (at_ : Int))
  have p8 := m8.far (p := ⟨q, 0, none⟩) (by show t ≠ q; omega) (.int .i64 (at_ : Int))
  have p9 := m9.setCell (p := ⟨q, 0, none⟩) (by show z ≤ q; omega) (.int .i64 (at_ : Int))
  have p5 := (World.cell?_setCell_other w8 ⟨q, 0, none⟩ ⟨r, 1, none⟩ (.int .i64 (at_ : Int)) (fun e => by cases e)).trans m5
  generalize w8.setCell ⟨q, 0, none⟩ (.int .i64 (at_ : Int)) = w9 at *
  refine hK _ _ (fun W => W.cell? ⟨z, 0, none⟩ = some (.int .i64 k) ∧ W.cell? ⟨z, 1, none⟩ = some (.int .i64 i) ∧ W.cell? ⟨z, 2, none⟩ = some (.float .f64 f) ∧ W.cell? ⟨z, 3, none⟩ = some (.string s) ∧ W.cell? ⟨z, 4, none⟩ = some (.slice A' n' c') ∧ W.cell? ⟨r, 1, none⟩ = some (.int .i64 (at_ : Int)) ∧ Blk W z 26 #[.int .i64 k, .int .i64 i, .float .f64 f, .string s, .slice A' n' c'] ∧ (∃ x, Blk W q 3 #[.int .i64 x]) ∧ (∃ x, Blk W t 29 #[.int .i64 x]) ∧ Below z w W) (fun _ h => h) ⟨p6.cell 0, p6.cell 1, p6.cell 2, p6.cell 3, p6.cell 4, p5, p6, ⟨_, p7⟩, ⟨_, p8⟩, p9⟩ ?_
  clear hK K hc7 hf7 m5 m6 m7 m8 m9
  try simp only [Act.put, List.setIfInBounds_toArray, List.set_cons_zero, List.set_cons_succ]
  have hc8 := p8.cell 0
  have hf8 := p8.frozen
  refine lexG_nowF _ rfl rfl rfl (by kernel_rfl) (fun K hK => ?_)
  go_simp
  have vo10 := vo9.upd ((Upd.refl (fun x => x = t) w9).setCell (p := ⟨t, 0, none⟩) (fun _ => rfl) (.int .i64 0)) (fun g hg e => by omega)
  have q6 := p6.far (p := ⟨t, 0, none⟩) (by show z ≠ t; omega) (.int .i64 0)
  have q7 := p7.far (p := ⟨t, 0, none⟩) (by show q ≠ t; omega) (.int .i64 0)
  have q8 := p8.set_ 0 (.int .i64 0)
  have q9 := p9.setCell (p := ⟨t, 0, none⟩) (by show z ≤ t; omega) (.int .i64 0)
  generalize w9.setCell ⟨t, 0, none⟩ (.int .i64 0) = w10 at *
  refine hK _ _ (lexG_nil ⟨rfl, ?_⟩)
  clear hK K p5 p6 p7 p8 p9 hc8 hf8
  go_wp2_with fail
  refine leaves_cons (f := 34) (args := #[.pointer (some ⟨z, 0, none⟩), .pointer (some ⟨q, 0, none⟩), .pointer (some ⟨t, 0, none⟩)]) (by simp) (by simp [go_sem]) ?_
  refine (catch_idle _ _ _ _).mono ?_
  rintro e u' w'' ⟨rfl, rfl, rfl⟩
  have x0 := q6.cell 0
  have x1 := q6.cell 1
  have x2 := q6.cell 2
  have x3 := q6.cell 3
  have x4 := q6.cell 4
  have x5 := q7.cell 0
  have x6 := q8.cell 0
  simp [Leaves, settle, results, Try.results13, go_sem, x0, x1, x2, x3, x4, x5, x6]
  refine ⟨vo10.mono (fun g _ hg => by have := hzi.out; omega), ?_⟩
  rw [hzi.out]
  exact q9
end Go.Proofs.Ytafogjonicdbmaa
