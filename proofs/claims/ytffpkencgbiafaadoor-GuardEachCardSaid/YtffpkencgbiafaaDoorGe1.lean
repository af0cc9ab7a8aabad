/- GuardEach: 'one' and its closure. -/
import Derived.Test.YtffpkencgbiafaaDoorGuardTells
set_option linter.unusedSimpArgs false
set_option linter.unusedVariables false
namespace Go.Proofs.YtffpkencgbiafaaDoor
open Go.RowKit
set_option maxRecDepth 100000

/-- What the closures of 'one' hold: the counter's place, a number, its place in the row. -/
structure Ob (w : World) (g p q r k : Nat) (i : Int) : Prop where
  b1 : Blk w p 48 #[ptr g]
  b2 : Blk w q 5 #[.int .u8 (k : Int)]
  b3 : Blk w r 3 #[.int .i64 i]
  ne : r ≠ g
theorem Ob.upd {w w' : World} {g p q r k : Nat} {i : Int} {S : Nat → Prop} (h : Ob w g p q r k i) (hu : Upd S w w') (hp : ¬ S p) (hq : ¬ S q) (hr : ¬ S r) : Ob w' g p q r k i := ⟨h.b1.upd hu hp, h.b2.upd hu hq, h.b3.upd hu hr, h.ne⟩
theorem Ob.next {w w' : World} {g p q r k : Nat} {i : Int} (h : Ob w g p q r k i) (hb : Below w.heap.size w w') : Ob w' g p q r k i :=
  h.upd (S := fun _ => False) (Upd.of_below_size hb) (fun e => e) (fun e => e) (fun e => e)
theorem Ob.kept {w w' : World} {g p q r k : Nat} {i x : Int} (h : Ob w g p q r k i) (h9 : Blk w g 3 #[.int .i64 x]) (hu : Upd (fun y => y = g) w w') : Ob w' g p q r k i :=
  h.upd hu (h.b1.ne_ h9 (by decide)) (h.b2.ne_ h9 (by decide)) h.ne
def oneF (p q r : Nat) : Value := fv 34 #[ptr p, ptr q, ptr r]
theorem ent_one1 : Ent 34 := fun args w => by kernel_rfl
theorem one_walk (g k : Nat) (i : Int) (w : World) (hg : g < w.heap.size) : Calls Tryd.prog 19 #[ptr g, .int .u8 (k : Int), .int .i64 i] w (fun e w' => ∃ p q r, e = .returned (oneF p q r) ∧ Ob w' g p q r k i ∧ Below w.heap.size w w' ∧ w.heap.size ≤ p ∧ w.heap.size ≤ q ∧ w.heap.size ≤ r) := by
  have hmf : ∀ (fn : Fn) (first cap : Array Value) (w : World), (Instr.makeFunc fn first cap).run Tryd.prog w = .ok (.func fn first cap) w := fun _ _ _ _ => rfl
  have b0 := Blk.new w 48 #[ptr g]
  have e0 : (w.alloc (.cells #[ptr g] 48)).heap.size = w.heap.size + 1 := by simp
  have l0 := (Below.refl w.heap.size w).alloc (Nat.le_refl _) (.cells #[ptr g] 48)
  have b1 := Blk.new (w.alloc (.cells #[ptr g] 48)) 5 #[.int .u8 (k : Int)]
  have b2 := Blk.new ((w.alloc (.cells #[ptr g] 48)).alloc (.cells #[.int .u8 (k : Int)] 5)) 3 #[.int .i64 i]
  have l1 := l0.alloc l0.size (.cells #[.int .u8 (k : Int)] 5)
  have l2 := l1.alloc l1.size (.cells #[.int .i64 i] 3)
  have e1 : ((w.alloc (.cells #[ptr g] 48)).alloc (.cells #[.int .u8 (k : Int)] 5)).heap.size = w.heap.size + 1 + 1 := by simp
  have c0 := (b0.alloc (.cells #[.int .u8 (k : Int)] 5)).alloc (.cells #[.int .i64 i] 3)
  have c1 := b1.alloc (.cells #[.int .i64 i] 3)
  rw [e0] at c1
  rw [e1] at b2
  clear b0 b1 l0 l1 e0 e1
  unfold oneF
  unfold ptr at *
  go_enter Tryd.func19, Tryd.ntmps19
  go_wp2_with fail
  go_ret
  exact ⟨_, _, _, rfl, ⟨c0, c1, b2, by omega⟩, l2, by omega, by omega, by omega⟩
/-- What a function of 'one' ends with: it panics from 240 on, tells its number from 220 on, its place otherwise. -/
def resE (k : Nat) : Int := if 240 ≤ k then 34 else if 220 ≤ k then (k : Int) else 0
def resV (k : Nat) (i : Int) : Array Value := if 220 ≤ k then z5 else v5 1 i 0 ⟨#[]⟩ none 0 0
set_option maxHeartbeats 6400000 in
theorem one1_pan {w : World} {g p q r k : Nat} {i x : Int} (h : Ob w g p q r k i) (h9 : Blk w g 3 #[.int .i64 x]) (hx : 0 ≤ x ∧ x ≤ 1000) (hk : k ≤ 255) (hk2 : 240 ≤ k) : Calls Tryd.prog 34 #[ptr p, ptr q, ptr r] w (fun e w' => (∃ v, PanV (k % 5 == 1) v ∧ e = pan v) ∧ Upd (fun y => y = g) w w' ∧ Blk w' g 3 #[.int .i64 (x + 1)]) := by
  have hw1' : IntKind.i64.wrap (x + 1) = x + 1 := by rw [IntKind.wrap_i64]; omega
  obtain ⟨w1, hw1⟩ : ∃ q, q = w.alloc (.cells #[.int .i64 0, .int .i64 0, .float .f64 0, .string ⟨#[]⟩, .slice none 0 0] 31) := ⟨_, rfl⟩
  have hb1 : Below w.heap.size w w1 := by rw [hw1]; exact (Below.refl _ _).alloc (Nat.le_refl _) _
  have h1 := h.next hb1
  have h91 := h9.below hb1 h9.lt
  have u5 : Upd (fun y => y = g) w (w1.setCell ⟨g, 0, none⟩ (.int .i64 (x + 1))) := (Upd.of_below_size hb1 : Upd (fun y => y = g) w w1).setCell (p := ⟨g, 0, none⟩) (fun _ => rfl) _
  have u51 : Upd (fun y => y = g) w1 (w1.setCell ⟨g, 0, none⟩ (.int .i64 (x + 1))) := (Upd.refl (fun y => y = g) w1).setCell (p := ⟨g, 0, none⟩) (fun _ => rfl) _
  have h95 : Blk (w1.setCell ⟨g, 0, none⟩ (.int .i64 (x + 1))) g 3 #[.int .i64 (x + 1)] := h91.set_ 0 _
  have h5 := h1.kept h91 u51
  have k1 := h1.b1.cell 0
  have k9 := h91.cell 0
  have f9 := h91.frozen 0
  have d1 : decide ((k : Int) ≥ 240) = true := by simp; omega
  unfold ptr at *
  clear h h9 h1 h91 u51
  go_enter Tryd.func34, Tryd.ntmps34
  go_upto_region 1 with (fail)
  rw [← hw1]
  clear hw1
  go_upto_region 2 with (fail)
  generalize w1.setCell ⟨g, 0, none⟩ (.int .i64 (x + 1)) = w5 at *
  have j2 := h5.b2.cell 0
  have j3 := h5.b3.cell 0
  have hra := raise_pan k hk ⟨#[120]⟩ (by decide) i w5
  replace hra := Lib.hid hra
  clear k1 k9 f9
  go_wp2_with fail
  refine hra.out.mono ?_
  rintro e w6 ⟨⟨v, hv, rfl⟩, hb6⟩
  unfold pan
  try dsimp only
  go_wp2_with fail
  exact ⟨rfl, ⟨v, hv, rfl⟩, u5.thenBelow hb6 u5.size, h95.below hb6 h95.lt⟩
set_option maxHeartbeats 6400000 in
theorem one1_ok {w : World} {g p q r k : Nat} {i x : Int} (h : Ob w g p q r k i) (h9 : Blk w g 3 #[.int .i64 x]) (hx : 0 ≤ x ∧ x ≤ 1000) (hk : k < 220) : Calls Tryd.prog 34 #[ptr p, ptr q, ptr r] w (fun e w' => e = .returned (.tuple #[.agg (v5 1 i 0 ⟨#[]⟩ none 0 0), .int .i64 0]) ∧ Upd (fun y => y = g) w w' ∧ Blk w' g 3 #[.int .i64 (x + 1)]) := by
  have hw1' : IntKind.i64.wrap (x + 1) = x + 1 := by rw [IntKind.wrap_i64]; omega
  obtain ⟨w1, hw1⟩ : ∃ q, q = w.alloc (.cells #[.int .i64 0, .int .i64 0, .float .f64 0, .string ⟨#[]⟩, .slice none 0 0] 31) := ⟨_, rfl⟩
  have hb1 : Below w.heap.size w w1 := by rw [hw1]; exact (Below.refl _ _).alloc (Nat.le_refl _) _
  have hv1 : Blk w1 w.heap.size 31 #[.int .i64 0, .int .i64 0, .float .f64 0, .string ⟨#[]⟩, .slice none 0 0] := by rw [hw1]; exact Blk.new w _ _
  obtain ⟨gv, hgv⟩ : ∃ g, w.heap.size = g := ⟨_, rfl⟩
  rw [hgv] at hv1
  have hg9 : g < gv := by rw [← hgv]; exact h9.lt
  replace hgv := Lib.hid hgv
  have h1 := h.next hb1
  have h91 := h9.below hb1 h9.lt
  have u5 : Upd (fun y => y = g) w (w1.setCell ⟨g, 0, none⟩ (.int .i64 (x + 1))) := (Upd.of_below_size hb1 : Upd (fun y => y = g) w w1).setCell (p := ⟨g, 0, none⟩) (fun _ => rfl) _
  have u51 : Upd (fun y => y = g) w1 (w1.setCell ⟨g, 0, none⟩ (.int .i64 (x + 1))) := (Upd.refl (fun y => y = g) w1).setCell (p := ⟨g, 0, none⟩) (fun _ => rfl) _
  have h95 : Blk (w1.setCell ⟨g, 0, none⟩ (.int .i64 (x + 1))) g 3 #[.int .i64 (x + 1)] := h91.set_ 0 _
  have h5 := h1.kept h91 u51
  have k1 := h1.b1.cell 0
  have k9 := h91.cell 0
  have f9 := h91.frozen 0
  have hv5 := hv1.far (p := ⟨g, 0, none⟩) (by show gv ≠ g; omega) (.int .i64 (x + 1))
  have d1 : decide ((k : Int) ≥ 240) = false := by simp; omega
  have d2 : decide ((k : Int) ≥ 220) = false := by simp; omega
  unfold ptr at *
  clear h h9 h1 h91 u51 hv1
  go_enter Tryd.func34, Tryd.ntmps34
  go_upto_region 1 with (fail)
  rw [← hw1]
  try rw [hgv.out]
  clear hw1
  go_upto_region 2 with (fail)
  generalize w1.setCell ⟨g, 0, none⟩ (.int .i64 (x + 1)) = w5 at *
  have j2 := h5.b2.cell 0
  have j3 := h5.b3.cell 0
  have hin := int_walk i w5
  replace hin := Lib.hid hin
  clear k1 k9 f9
  go_wp2_with fail
  refine hin.out.mono ?_
  rintro e w6 ⟨rfl, hb6⟩
  unfold v5
  try dsimp only
  have h96 := h95.below hb6 h95.lt
  have hv6 := hv5.below hb6 hv5.lt
  have hU6 := u5.thenBelow hb6 u5.size
  have hr7 := hv6.row (#[.int .i64 1, .int .i64 i, .float .f64 0, .string ⟨#[]⟩, .slice none 0 0])
  have h97 := h96.farRow (g := gv) (by omega) (#[.int .i64 1, .int .i64 i, .float .f64 0, .string ⟨#[]⟩, .slice none 0 0])
  have hU7 : Upd (fun y => y = g) w (w6.setRow gv #[.int .i64 1, .int .i64 i, .float .f64 0, .string ⟨#[]⟩, .slice none 0 0]) := hU6.thenBelow (B := gv) (((Upd.refl (fun y => y = gv) w6).setRow (fun _ => rfl) _).below (by have := hv6.lt; omega) (fun k hk e => by omega)) (by rw [hgv.out]; exact Nat.le_refl _)
  obtain ⟨w7, hw7⟩ : ∃ q, q = w6.setRow gv #[.int .i64 1, .int .i64 i, .float .f64 0, .string ⟨#[]⟩, .slice none 0 0] := ⟨_, rfl⟩
  rw [← hw7] at hr7 h97 hU7
  replace hw7 := Lib.hid hw7
  clear h5 h95 hv5 h96 u5 hU6 hin hb6
  go_wp2_with (refine store_row_gen rfl 31 _ _ rfl gv #[.int .i64 1, .int .i64 i, .float .f64 0, .string ⟨#[]⟩, .slice none 0 0] rfl rfl 31 _ hv6 (by kernel_rfl) rfl (by simp [Value.oneCell']) (fun wI hwI => ?_); rw [hwI, ← hw7.out]; clear hwI hv6)
  refine bodyPost_ret (v := .tuple #[.agg #[.int .i64 1, .int .i64 i, .float .f64 0, .string ⟨#[]⟩, .slice none 0 0], .int .i64 0]) ?hr rfl ?_
  case hr => exact results_ct rfl _ _ gv 31 _ (0, 0) _ _ rfl rfl hr7 Tryd.underlying31 rfl (by kernel_rfl)
  exact ⟨rfl, hU7, h97⟩
set_option maxHeartbeats 6400000 in
theorem one1_err {w : World} {g p q r k : Nat} {i x : Int} (h : Ob w g p q r k i) (h9 : Blk w g 3 #[.int .i64 x]) (hx : 0 ≤ x ∧ x ≤ 1000) (hk : k < 240) (hk2 : 220 ≤ k) : Calls Tryd.prog 34 #[ptr p, ptr q, ptr r] w (fun e w' => e = .returned (.tuple #[.agg (v5 0 0 0 ⟨#[]⟩ none 0 0), .int .i64 (k : Int)]) ∧ Upd (fun y => y = g) w w' ∧ Blk w' g 3 #[.int .i64 (x + 1)]) := by
  have hw1' : IntKind.i64.wrap (x + 1) = x + 1 := by rw [IntKind.wrap_i64]; omega
  obtain ⟨w1, hw1⟩ : ∃ q, q = w.alloc (.cells #[.int .i64 0, .int .i64 0, .float .f64 0, .string ⟨#[]⟩, .slice none 0 0] 31) := ⟨_, rfl⟩
  have hb1 : Below w.heap.size w w1 := by rw [hw1]; exact (Below.refl _ _).alloc (Nat.le_refl _) _
  have hv1 : Blk w1 w.heap.size 31 #[.int .i64 0, .int .i64 0, .float .f64 0, .string ⟨#[]⟩, .slice none 0 0] := by rw [hw1]; exact Blk.new w _ _
  obtain ⟨gv, hgv⟩ : ∃ g, w.heap.size = g := ⟨_, rfl⟩
  rw [hgv] at hv1
  have hg9 : g < gv := by rw [← hgv]; exact h9.lt
  replace hgv := Lib.hid hgv
  have h1 := h.next hb1
  have h91 := h9.below hb1 h9.lt
  have u5 : Upd (fun y => y = g) w (w1.setCell ⟨g, 0, none⟩ (.int .i64 (x + 1))) := (Upd.of_below_size hb1 : Upd (fun y => y = g) w w1).setCell (p := ⟨g, 0, none⟩) (fun _ => rfl) _
  have u51 : Upd (fun y => y = g) w1 (w1.setCell ⟨g, 0, none⟩ (.int .i64 (x + 1))) := (Upd.refl (fun y => y = g) w1).setCell (p := ⟨g, 0, none⟩) (fun _ => rfl) _
  have h95 : Blk (w1.setCell ⟨g, 0, none⟩ (.int .i64 (x + 1))) g 3 #[.int .i64 (x + 1)] := h91.set_ 0 _
  have h5 := h1.kept h91 u51
  have k1 := h1.b1.cell 0
  have k9 := h91.cell 0
  have f9 := h91.frozen 0
  have hv5 := hv1.far (p := ⟨g, 0, none⟩) (by show gv ≠ g; omega) (.int .i64 (x + 1))
  have d1 : decide ((k : Int) ≥ 240) = false := by simp; omega
  have d2 : decide ((k : Int) ≥ 220) = true := by simp; omega
  have hcv : IntKind.i64.wrap (k : Int) = (k : Int) := by rw [IntKind.wrap_i64]; omega
  unfold ptr at *
  unfold v5
  clear h h9 h1 h91 u51 hv1
  go_enter Tryd.func34, Tryd.ntmps34
  go_upto_region 1 with (fail)
  rw [← hw1]
  try rw [hgv.out]
  clear hw1
  go_upto_region 2 with (fail)
  generalize w1.setCell ⟨g, 0, none⟩ (.int .i64 (x + 1)) = w5 at *
  have j2 := h5.b2.cell 0
  have j3 := h5.b3.cell 0
  clear k1 k9 f9
  go_upto_region 5 with (fail)
  have hq2 : q ≠ gv := h5.b2.ne_ hv5 (by decide)
  have hS0 : Blk w5.drew q 5 #[.int .u8 (k : Int)] := h5.b2.drew
  have hvd := hv5.drew
  refine wp_region_lex (fun W => Blk W q 5 #[.int .u8 (k : Int)]) [1] [3] [0, 1, 2, 3, 4] (by kernel_rfl) rfl (by kernel_rfl) (by kernel_rfl) (fun _ _ d _ _ h => by cases d <;> exact h) ?_
  repeat (first | (refine lexG_take _ ?_ rfl rfl rfl rfl (fun _ => ?_) ?_; rotate_left; (focus (go_simp; with_reducible rfl)); try simp only [Act.put, List.setIfInBounds_toArray, List.set_cons_zero, List.set_cons_succ]) | (refine lexG_held _ ?_ rfl rfl rfl rfl (by assumption) (fun _ hSw => ?_) ?_; rotate_left; (focus (have h1 := hSw.cell 0; clear hSw; go_simp; with_reducible rfl)); try simp only [Act.put, List.setIfInBounds_toArray, List.set_cons_zero, List.set_cons_succ]) | (refine lexG_skip _ rfl rfl (by assumption) ?_; try simp only [Act.put, List.setIfInBounds_toArray, List.set_cons_zero, List.set_cons_succ]))
  have hUd : Upd (fun y => y = g) w w5.drew := u5.drew
  have h9d := h95.drew
  have hqd := hS0
  generalize w5.drew = w6 at *
  refine lexG_now _ rfl rfl rfl (fun K0 hK => ?_)
  refine wp_store_row 31 _ _ rfl gv #[.int .i64 0, .int .i64 0, .float .f64 0, .string ⟨#[]⟩, .slice none 0 0] (by simp [go_sem]) (by simp [go_sem]) 31 _ hvd (by kernel_rfl) rfl (by simp [Value.oneCell']) ?_
  refine hK _ _ _ (fun _ h => h) (hqd.farRow hq2 _) ?_
  clear hK K0
  try simp only [Act.put, List.setIfInBounds_toArray, List.set_cons_zero, List.set_cons_succ]
  repeat (first | (refine lexG_take _ ?_ rfl rfl rfl rfl (fun _ => ?_) ?_; rotate_left; (focus (go_simp; with_reducible rfl)); try simp only [Act.put, List.setIfInBounds_toArray, List.set_cons_zero, List.set_cons_succ]) | (refine lexG_held _ ?_ rfl rfl rfl rfl (by assumption) (fun _ hSw => ?_) ?_; rotate_left; (focus ((try dsimp only at hSw); go_simp; with_reducible rfl)); try simp only [Act.put, List.setIfInBounds_toArray, List.set_cons_zero, List.set_cons_succ]) | (refine lexG_skip _ rfl rfl (by assumption) ?_; try simp only [Act.put, List.setIfInBounds_toArray, List.set_cons_zero, List.set_cons_succ]))
  refine lexG_nil ?_
  have hr7 := hvd.row (#[.int .i64 0, .int .i64 0, .float .f64 0, .string ⟨#[]⟩, .slice none 0 0])
  have h97 := h9d.farRow (g := gv) (by omega) (#[.int .i64 0, .int .i64 0, .float .f64 0, .string ⟨#[]⟩, .slice none 0 0])
  have hU7 : Upd (fun y => y = g) w (w6.setRow gv #[.int .i64 0, .int .i64 0, .float .f64 0, .string ⟨#[]⟩, .slice none 0 0]) := hUd.thenBelow (B := gv) (((Upd.refl (fun y => y = gv) w6).setRow (fun _ => rfl) _).below (by have := hvd.lt; omega) (fun k hk e => by omega)) (by rw [hgv.out]; exact Nat.le_refl _)
  generalize w6.setRow gv #[.int .i64 0, .int .i64 0, .float .f64 0, .string ⟨#[]⟩, .slice none 0 0] = w7 at *
  go_wp2_with fail
  refine bodyPost_ret (v := .tuple #[.agg #[.int .i64 0, .int .i64 0, .float .f64 0, .string ⟨#[]⟩, .slice none 0 0], .int .i64 (k : Int)]) ?hr rfl ?_
  case hr => exact results_ct rfl _ _ gv 31 _ (0, 0) _ _ rfl rfl hr7 Tryd.underlying31 rfl (by kernel_rfl)
  exact ⟨rfl, hU7, h97⟩
theorem run_one {w : World} {g p q r k : Nat} {i x : Int} (h : Ob w g p q r k i) (h9 : Blk w g 3 #[.int .i64 x]) (hx : 0 ≤ x ∧ x ≤ 1000) (hk : k ≤ 255) : Calls Tryd.prog 11 #[oneF p q r] w (fun e w' => e = .returned (.tuple #[.agg (resV k i), .int .i64 (resE k)]) ∧ Upd (fun y => y = g) w w' ∧ Blk w' g 3 #[.int .i64 (x + 1)]) := by
  have hR : ∀ w2 w3 : World, Blk w2 g 3 #[.int .i64 (x + 1)] → w.heap.size ≤ w2.heap.size → Below w.heap.size w2 w3 → Blk w3 g 3 #[.int .i64 (x + 1)] := fun w2 w3 hb _ hbl => hb.below hbl h9.lt
  have hS : ∀ y, y = g → y < w.heap.size := fun y e => e ▸ h9.lt
  unfold resV resE oneF
  by_cases h1 : 240 ≤ k
  · rw [if_pos h1, if_pos (by omega)]
    exact run_pan ent_one1 hS (fun w1 hb => one1_pan (h.next hb) (h9.below hb h9.lt) hx hk h1) hR
  · rw [if_neg h1]
    by_cases h2 : 220 ≤ k
    · rw [if_pos h2, if_pos h2]
      exact run_err (by omega) ent_one1 hS (fun w1 hb => one1_err (h.next hb) (h9.below hb h9.lt) hx (by omega) h2) hR
    · rw [if_neg h2, if_neg h2]
      exact run_ok ent_one1 hS (fun w1 hb => one1_ok (h.next hb) (h9.below hb h9.lt) hx (by omega)) hR
end Go.Proofs.YtffpkencgbiafaaDoor
