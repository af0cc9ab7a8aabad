/- wire.Read, over what value() does. -/
import Derived.Test.YtafogjonicdbmaaCatch
namespace Go.Proofs.Ytafogjonicdbmaa
open Go.RowKit

/-- A region that may be trusted not to panic. -/
theorem region_norm {P : Program} {c : Code} {a : Act} {w : World} {Q : Exit → Act → World → Prop} (h : c.wp P (fun e a w => e = Exit.normal ∧ Q e a w) a w) : c.wp P Q a w := wp_mono h fun _ _ _ h => h.2

def ReadStart (w : World) (A : Option Addr) (n c : Nat) : World :=
  (((w.alloc (.cells #[.int .i64 0, .int .i64 0, .float .f64 0, .string ⟨#[]⟩, .slice none 0 0] 26)).alloc (.cells #[.int .i64 0] 3)).alloc (.cells #[.int .i64 0] 29)).alloc (.cells #[.slice A n c, .int .i64 0, .int .i64 8] 71)
theorem readStart (w : World) (A : Option Addr) (n c : Nat) : Blk (ReadStart w A n c) w.heap.size 26 #[.int .i64 0, .int .i64 0, .float .f64 0, .string ⟨#[]⟩, .slice none 0 0] ∧ Blk (ReadStart w A n c) (w.heap.size + 1) 3 #[.int .i64 0] ∧
    Blk (ReadStart w A n c) (w.heap.size + 1 + 1) 29 #[.int .i64 0] ∧ RdAt (ReadStart w A n c) (w.heap.size + 1 + 1 + 1) A n c 0 8 ∧ Below w.heap.size w (ReadStart w A n c) ∧ (ReadStart w A n c).heap.size = w.heap.size + 1 + 1 + 1 + 1 := by
  unfold ReadStart RdAt
  have b0 := Blk.new w 26 #[.int .i64 0, .int .i64 0, .float .f64 0, .string ⟨#[]⟩, .slice none 0 0]
  have e0 : (w.alloc (.cells #[.int .i64 0, .int .i64 0, .float .f64 0, .string ⟨#[]⟩, .slice none 0 0] 26)).heap.size = w.heap.size + 1 := by simp
  have l0 := (Below.refl w.heap.size w).alloc (Nat.le_refl _) (.cells #[.int .i64 0, .int .i64 0, .float .f64 0, .string ⟨#[]⟩, .slice none 0 0] 26)
  generalize w.alloc (.cells #[.int .i64 0, .int .i64 0, .float .f64 0, .string ⟨#[]⟩, .slice none 0 0] 26) = w1 at *
  have b1 := Blk.new w1 3 #[.int .i64 0]
  have e1 : (w1.alloc (.cells #[.int .i64 0] 3)).heap.size = w.heap.size + 1 + 1 := by simp [e0]
  have c0 := b0.alloc (.cells #[.int .i64 0] 3)
  have l1 := l0.alloc l0.size (.cells #[.int .i64 0] 3)
  generalize w1.alloc (.cells #[.int .i64 0] 3) = w2 at *
  have b2 := Blk.new w2 29 #[.int .i64 0]
  have e2 : (w2.alloc (.cells #[.int .i64 0] 29)).heap.size = w.heap.size + 1 + 1 + 1 := by simp [e1]
  have d0 := c0.alloc (.cells #[.int .i64 0] 29)
  have d1 := b1.alloc (.cells #[.int .i64 0] 29)
  have l2 := l1.alloc l1.size (.cells #[.int .i64 0] 29)
  generalize w2.alloc (.cells #[.int .i64 0] 29) = w3 at *
  have b3 := Blk.new w3 71 #[.slice A n c, .int .i64 0, .int .i64 8]
  rw [e2] at b3
  rw [e1] at b2
  rw [e0] at d1
  exact ⟨d0.alloc _, d1.alloc _, b2.alloc _, b3, l2.alloc l2.size _, by simp [e2]⟩

set_option maxHeartbeats 1600000 in
theorem read_short {A : Option Addr} {n c : Nat} {w : World} (hval : ∀ w1, Below w.heap.size w w1 → RdAt w1 (w.heap.size + 1 + 1 + 1) A n c 0 8 →
      Calls Try.prog 35 #[.pointer (some ⟨w.heap.size + 1 + 1 + 1, 0, none⟩)] w1 (fun e w' => e = .panicked shortP ∧ Upd (fun x => x = w.heap.size + 1 + 1 + 1) w1 w')) :
    Calls Try.prog 13 #[.slice A n c] w (fun e w' => e = .returned (.tuple #[.agg #[.int .i64 0, .int .i64 0, .float .f64 0, .string ⟨#[]⟩, .slice none 0 0], .int .i64 0, .int .i64 20]) ∧ Below w.heap.size w w') := by
  have hmf : ∀ (fn : Fn) (first cap : Array Value) (w : World), (Instr.makeFunc fn first cap).run Try.prog w = .ok (.func fn first cap) w := fun _ _ _ _ => rfl
  replace hval := Lib.hid hval
  go_enter_defers Try.func13, Try.ntmps13
  go_wp2_with fail
  obtain ⟨b0, b1, b2, b3, hb, he⟩ := readStart w A n c
  have hv := hval.out _ hb b3
  clear hval
  unfold ReadStart at b0 b1 b2 b3 hb he hv
  refine hv.mono ?_
  clear hv
  generalize (((w.alloc (.cells #[.int .i64 0, .int .i64 0, .float .f64 0, .string ⟨#[]⟩, .slice none 0 0] 26)).alloc (.cells #[.int .i64 0] 3)).alloc (.cells #[.int .i64 0] 29)).alloc (.cells #[.slice A n c, .int .i64 0, .int .i64 8] 71) = w4 at *
  rintro e w5 ⟨rfl, hu⟩
  dsimp only
  have c0 := b0.upd hu (by omega)
  have c1 := b1.upd hu (by omega)
  have c2 := b2.upd hu (by omega)
  have hb5 : Below w.heap.size w w5 := hb.trans (hu.below (by omega) (fun k hk => by omega))
  go_wp2_with fail
  refine leaves_cons (f := 34) (args := #[.pointer (some ⟨w.heap.size, 0, none⟩), .pointer (some ⟨w.heap.size + 1, 0, none⟩), .pointer (some ⟨w.heap.size + 1 + 1, 0, none⟩)]) (by simp) (by simp [go_sem]) ?_
  refine (catch_short _ _ _ _ _ _ _ c0 rfl c1 c2).mono ?_
  rintro e u' w'' ⟨rfl, rfl, d0, d1, d2, hu2⟩
  have x0 := d0.cell 0
  have x1 := d0.cell 1
  have x2 := d0.cell 2
  have x3 := d0.cell 3
  have x4 := d0.cell 4
  have x5 := d1.cell 0
  have x6 := d2.cell 0
  have hb6 : Below w.heap.size w w'' := hb5.trans (hu2.below (by have := hb5.size; omega) (fun k hk => by omega))
  simp [Leaves, settle, results, Try.results13, go_sem, x0, x1, x2, x3, x4, x5, x6, hb6]

set_option maxHeartbeats 1600000 in
theorem read_ok {A : Option Addr} {m c0 at_ : Nat} {k i : Int} {f : Nat} {s : ByteArray} {A' : Option Addr} {n' c' : Nat} {deep : Int} {w : World} (hval : ∀ w1, Below w.heap.size w w1 → RdAt w1 (w.heap.size + 1 + 1 + 1) A m c0 0 8 →
      Calls Try.prog 35 #[.pointer (some ⟨w.heap.size + 1 + 1 + 1, 0, none⟩)] w1 (fun e w' => e = .returned (.agg #[.int .i64 k, .int .i64 i, .float .f64 f, .string s, .slice A' n' c']) ∧ RdAt w' (w.heap.size + 1 + 1 + 1) A m c0 at_ deep ∧ Upd (fun x => x = w.heap.size + 1 + 1 + 1) w1 w'))
    (hchk : ∀ w1, Below w.heap.size w w1 → Calls Try.prog 29 #[.agg #[.int .i64 k, .int .i64 i, .float .f64 f, .string s, .slice A' n' c']] w1 (Says w1 (.int .i64 0))) :
    Calls Try.prog 13 #[.slice A m c0] w (fun e w' => e = .returned (.tuple #[.agg #[.int .i64 k, .int .i64 i, .float .f64 f, .string s, .slice A' n' c'], .int .i64 (at_ : Int), .int .i64 0]) ∧ Below w.heap.size w w') := by
  have hmf : ∀ (fn : Fn) (first cap : Array Value) (w : World), (Instr.makeFunc fn first cap).run Try.prog w = .ok (.func fn first cap) w := fun _ _ _ _ => rfl
  replace hval := Lib.hid hval
  replace hchk := Lib.hid hchk
  go_enter_defers Try.func13, Try.ntmps13
  go_wp2_with fail
  obtain ⟨b0, b1, b2, b3, hb, he⟩ := readStart w A m c0
  have hv := hval.out _ hb b3
  clear hval
  unfold ReadStart at b0 b1 b2 b3 hb he hv
  refine hv.mono ?_
  clear hv
  generalize (((w.alloc (.cells #[.int .i64 0, .int .i64 0, .float .f64 0, .string ⟨#[]⟩, .slice none 0 0] 26)).alloc (.cells #[.int .i64 0] 3)).alloc (.cells #[.int .i64 0] 29)).alloc (.cells #[.slice A m c0, .int .i64 0, .int .i64 8] 71) = w4 at *
  rintro e w5 ⟨rfl, hR, hu⟩
  dsimp only
  have c0' := b0.upd hu (by omega)
  have c1 := b1.upd hu (by omega)
  have c2 := b2.upd hu (by omega)
  have hb5 : Below w.heap.size w w5 := hb.trans (hu.below (by omega) (fun k hk => by omega))
  obtain ⟨z, hz⟩ : ∃ z, w.heap.size = z := ⟨_, rfl⟩
  obtain ⟨q, hq⟩ : ∃ q, w.heap.size + 1 = q := ⟨_, rfl⟩
  obtain ⟨t, ht⟩ : ∃ t, w.heap.size + 1 + 1 = t := ⟨_, rfl⟩
  obtain ⟨r, hr⟩ : ∃ r, w.heap.size + 1 + 1 + 1 = r := ⟨_, rfl⟩
  have hqz : z < q := by omega
  have htq : q < t := by omega
  have hrt : t < r := by omega
  rw [hr] at hR ⊢
  rw [ht] at c2 ⊢
  rw [hq] at c1 ⊢
  rw [hz] at c0' hb5 hchk ⊢
  have hzi := Lib.hid hz
  clear b0 b1 b2 b3 hb he hu hz hq ht hr
  clear w4
  have d0 := c0'.row #[.int .i64 k, .int .i64 i, .float .f64 f, .string s, .slice A' n' c']
  have d1 := c1.farRow (g := z) (by omega) #[.int .i64 k, .int .i64 i, .float .f64 f, .string s, .slice A' n' c']
  have d2 := c2.farRow (g := z) (by omega) #[.int .i64 k, .int .i64 i, .float .f64 f, .string s, .slice A' n' c']
  have d3 := Blk.farRow hR (g := z) (by omega) #[.int .i64 k, .int .i64 i, .float .f64 f, .string s, .slice A' n' c']
  have hb6 := below_row hb5 (Nat.le_refl z) #[.int .i64 k, .int .i64 i, .float .f64 f, .string s, .slice A' n' c']
  clear hR c1 c2 hb5
  go_wp2_with (refine store_row_gen rfl 26 _ _ rfl z #[.int .i64 k, .int .i64 i, .float .f64 f, .string s, .slice A' n' c'] rfl rfl 26 _ c0' (by kernel_rfl) rfl (by simp [Value.oneCell']) (fun w6 hw6 => ?_); rw [← hw6] at d0 d1 d2 d3 hb6; clear hw6 c0'; have x0 := d0.cell 0; have x1 := d0.cell 1; have x2 := d0.cell 2; have x3 := d0.cell 3; have x4 := d0.cell 4)
  refine (hchk.out w6 hb6).mono ?_
  rintro e w7 ⟨rfl, hb7⟩
  dsimp only
  clear x0 x1 x2 x3 x4 hchk
  have hz6 := d0.lt
  replace d0 := d0.below hb7 d0.lt
  replace d1 := d1.below hb7 d1.lt
  replace d2 := d2.below hb7 d2.lt
  replace d3 := Blk.below d3 hb7 (Blk.lt d3)
  have hb8 : Below z w w7 := hb6.trans (hb7.mono (Nat.le_of_lt hz6))
  go_wp2_with fail
  refine (must_ok w7).mono ?_
  rintro e w8 ⟨rfl, rfl⟩
  dsimp only
  have hS : w7.drew.cell? ⟨z, 0, none⟩ = some (.int .i64 k) ∧ w7.drew.cell? ⟨z, 1, none⟩ = some (.int .i64 i) ∧ w7.drew.cell? ⟨z, 2, none⟩ = some (.float .f64 f) ∧ w7.drew.cell? ⟨z, 3, none⟩ = some (.string s) ∧ w7.drew.cell? ⟨z, 4, none⟩ = some (.slice A' n' c') ∧ w7.drew.cell? ⟨r, 1, none⟩ = some (.int .i64 (at_ : Int)) ∧ Blk w7.drew z 26 #[.int .i64 k, .int .i64 i, .float .f64 f, .string s, .slice A' n' c'] ∧ (∃ x, Blk w7.drew q 3 #[.int .i64 x]) ∧ (∃ x, Blk w7.drew t 29 #[.int .i64 x]) ∧ Below z w w7.drew :=
    ⟨d0.cell 0, d0.cell 1, d0.cell 2, d0.cell 3, d0.cell 4, Blk.cell d3 1, d0.drew, ⟨_, d1.drew⟩, ⟨_, d2.drew⟩, hb8.drew⟩
  clear d0 d1 d2 d3 hb6 hb7 hb8
  go_wp2_with fail
  refine region_norm ?_; refine wp_region_lex (fun W => W.cell? ⟨z, 0, none⟩ = some (.int .i64 k) ∧ W.cell? ⟨z, 1, none⟩ = some (.int .i64 i) ∧ W.cell? ⟨z, 2, none⟩ = some (.float .f64 f) ∧ W.cell? ⟨z, 3, none⟩ = some (.string s) ∧ W.cell? ⟨z, 4, none⟩ = some (.slice A' n' c') ∧ W.cell? ⟨r, 1, none⟩ = some (.int .i64 (at_ : Int)) ∧ Blk W z 26 #[.int .i64 k, .int .i64 i, .float .f64 f, .string s, .slice A' n' c'] ∧ (∃ x, Blk W q 3 #[.int .i64 x]) ∧ (∃ x, Blk W t 29 #[.int .i64 x]) ∧ Below z w W) [0, 4] [5, 6, 7] [0, 1, 2, 3, 4, 5, 6, 7] (by kernel_rfl) rfl (by kernel_rfl) (by kernel_rfl) (fun _ _ d _ _ h => by cases h.1) ?_
  repeat (first | (refine lexG_take _ ?_ rfl rfl rfl rfl (fun _ => ?_) ?_; rotate_left; (focus (go_simp; with_reducible rfl)); try simp only [Act.put, List.setIfInBounds_toArray, List.set_cons_zero, List.set_cons_succ]) | (refine lexG_held _ ?_ rfl rfl rfl rfl (by assumption) (fun _ hSw => ?_) ?_; rotate_left; (focus ((try dsimp only at hSw); go_simp; with_reducible rfl)); try simp only [Act.put, List.setIfInBounds_toArray, List.set_cons_zero, List.set_cons_succ]) | (refine lexG_skip _ rfl rfl (by assumption) ?_; try simp only [Act.put, List.setIfInBounds_toArray, List.set_cons_zero, List.set_cons_succ]))
  refine lexG_now _ rfl rfl rfl (fun K hK => ?_)
  obtain ⟨_, _, _, _, _, g5, g6, ⟨y7, g7⟩, ⟨y8, g8⟩, g9⟩ := hS
  refine wp_store_row 26 _ _ rfl z #[.int .i64 k, .int .i64 i, .float .f64 f, .string s, .slice A' n' c'] rfl rfl 26 _ g6 (by kernel_rfl) rfl (by simp [Value.oneCell']) ?_
  have m6 := g6.row #[.int .i64 k, .int .i64 i, .float .f64 f, .string s, .slice A' n' c']
  have m7 := g7.farRow (g := z) (by omega) #[.int .i64 k, .int .i64 i, .float .f64 f, .string s, .slice A' n' c']
  have m8 := g8.farRow (g := z) (by omega) #[.int .i64 k, .int .i64 i, .float .f64 f, .string s, .slice A' n' c']
  have m9 := below_row g9 (Nat.le_refl z) #[.int .i64 k, .int .i64 i, .float .f64 f, .string s, .slice A' n' c']
  have m5 := (cell_setRow_other w7.drew z #[.int .i64 k, .int .i64 i, .float .f64 f, .string s, .slice A' n' c'] ⟨r, 1, none⟩ (by show r ≠ z; omega)).trans g5
  clear g5 g6 g7 g8 g9
  generalize w7.drew.setRow z #[.int .i64 k, .int .i64 i, .float .f64 f, .string s, .slice A' n' c'] = w8 at *
  refine hK _ _ _ (fun _ h => h) ⟨m6.cell 0, m6.cell 1, m6.cell 2, m6.cell 3, m6.cell 4, m5, m6, ⟨_, m7⟩, ⟨_, m8⟩, m9⟩ ?_
  clear hK K
  try simp only [Act.put, List.setIfInBounds_toArray, List.set_cons_zero, List.set_cons_succ]
  refine lexG_now _ rfl rfl rfl (fun K hK => ?_)
  have hc7 := m7.cell 0
  have hf7 := m7.frozen
  go_wp2_with fail
  have p6 := m6.far (p := ⟨q, 0, none⟩) (by show z ≠ q; omega) (.int .i64 (at_ : Int))
  have p7 := m7.set_ 0 (.int .i64 (at_ : Int))
  have p8 := m8.far (p := ⟨q, 0, none⟩) (by show t ≠ q; omega) (.int .i64 (at_ : Int))
  have p9 := m9.setCell (p := ⟨q, 0, none⟩) (by show z ≤ q; omega) (.int .i64 (at_ : Int))
  have p5 := (World.cell?_setCell_other w8 ⟨q, 0, none⟩ ⟨r, 1, none⟩ (.int .i64 (at_ : Int)) (fun e => by cases e)).trans m5
  generalize w8.setCell ⟨q, 0, none⟩ (.int .i64 (at_ : Int)) = w9 at *
  refine hK _ _ (fun W => W.cell? ⟨z, 0, none⟩ = some (.int .i64 k) ∧ W.cell? ⟨z, 1, none⟩ = some (.int .i64 i) ∧ W.cell? ⟨z, 2, none⟩ = some (.float .f64 f) ∧ W.cell? ⟨z, 3, none⟩ = some (.string s) ∧ W.cell? ⟨z, 4, none⟩ = some (.slice A' n' c') ∧ W.cell? ⟨r, 1, none⟩ = some (.int .i64 (at_ : Int)) ∧ Blk W z 26 #[.int .i64 k, .int .i64 i, .float .f64 f, .string s, .slice A' n' c'] ∧ (∃ x, Blk W q 3 #[.int .i64 x]) ∧ (∃ x, Blk W t 29 #[.int .i64 x]) ∧ Below z w W) (fun _ h => h) ⟨p6.cell 0, p6.cell 1, p6.cell 2, p6.cell 3, p6.cell 4, p5, p6, ⟨_, p7⟩, ⟨_, p8⟩, p9⟩ ?_
  clear hK K hc7 hf7 m5 m6 m7 m8 m9
  try simp only [Act.put, List.setIfInBounds_toArray, List.set_cons_zero, List.set_cons_succ]
  have hc8 := p8.cell 0
  have hf8 := p8.frozen
  refine lexG_nowF _ rfl rfl rfl (by kernel_rfl) (fun K hK => ?_)
  go_simp
  have q6 := p6.far (p := ⟨t, 0, none⟩) (by show z ≠ t; omega) (.int .i64 0)
  have q7 := p7.far (p := ⟨t, 0, none⟩) (by show q ≠ t; omega) (.int .i64 0)
  have q8 := p8.set_ 0 (.int .i64 0)
  have q9 := p9.setCell (p := ⟨t, 0, none⟩) (by show z ≤ t; omega) (.int .i64 0)
  generalize w9.setCell ⟨t, 0, none⟩ (.int .i64 0) = w10 at *
  refine hK _ _ (lexG_nil ⟨rfl, ?_⟩)
  clear hK K p5 p6 p7 p8 p9 hc8 hf8
  go_wp2_with fail
  refine leaves_cons (f := 34) (args := #[.pointer (some ⟨z, 0, none⟩), .pointer (some ⟨q, 0, none⟩), .pointer (some ⟨t, 0, none⟩)]) (by simp) (by simp [go_sem]) ?_
  refine (catch_idle _ _ _ _).mono ?_
  rintro e u' w'' ⟨rfl, rfl, rfl⟩
  have x0 := q6.cell 0
  have x1 := q6.cell 1
  have x2 := q6.cell 2
  have x3 := q6.cell 3
  have x4 := q6.cell 4
  have x5 := q7.cell 0
  have x6 := q8.cell 0
  simp [Leaves, settle, results, Try.results13, go_sem, x0, x1, x2, x3, x4, x5, x6]
  rw [hzi.out]
  exact q9
end Go.Proofs.Ytafogjonicdbmaa
