/- Less, IdLess, Root, Nested. -/
import Derived.Test.YtokcmnenfgbdoaaDoorId
import Derived.Laws.ResultCell
import Derived.Laws.Rows
namespace Go.Proofs.YtokcmnenfgbdoaaDoor
open Go.RowKit

theorem results_ct {P : Program} {fn : Func} {p u : Tmp} {ty : TypeId} (h : fn.results = #[.cell p ty, .tmp u]) (tmps : Array Value) (w : World) (g : Nat) (t : TypeId) (cs : Array Value) (fr : Nat × Nat) (d : TypeDesc) (v : Value)
    (hp : tmps.getD p undef = .pointer (some ⟨g, 0, none⟩)) (hv : tmps.getD u undef = v) (hg : w.heap[g]? = some (.cells cs t fr))
    (hu : P.underlying ty = some d) (hd : (match d with | .struct _ | .array _ _ => true | _ => false) = true) (hi : (P.info? ty).map (·.size) = some cs.size) :
    (results fn tmps).run P w = .ok (.tuple #[.agg cs, v]) w := by
  rw [results_cell_tmp h, hp, hv]
  simp [asAddr, run_loadVar_row w g t ty cs fr d hg hu hd hi, Result.andThen]

def idv (c s n : Int) : Value := .agg #[.int .u32 c, .int .u32 s, .int .u16 n]

theorem idc_below {w w' : World} {B b : Nat} {c s n : Int} (h : (w.cell? ⟨b, 0, none⟩ = some (.int .u32 c) ∧ w.cell? ⟨b, 1, none⟩ = some (.int .u32 s) ∧ w.cell? ⟨b, 2, none⟩ = some (.int .u16 n))) (hb : Below B w w') (hl : b < B) : (w'.cell? ⟨b, 0, none⟩ = some (.int .u32 c) ∧ w'.cell? ⟨b, 1, none⟩ = some (.int .u32 s) ∧ w'.cell? ⟨b, 2, none⟩ = some (.int .u16 n)) :=
  ⟨(hb.cell (p := ⟨b, 0, none⟩) hl).trans h.1, (hb.cell (p := ⟨b, 1, none⟩) hl).trans h.2.1, (hb.cell (p := ⟨b, 2, none⟩) hl).trans h.2.2⟩

theorem two_below {w w1 w2 : World} {b : Nat} {c s n c' s' n' : Int} (h : (w1.cell? ⟨b, 0, none⟩ = some (.int .u32 c) ∧ w1.cell? ⟨b, 1, none⟩ = some (.int .u32 s) ∧ w1.cell? ⟨b, 2, none⟩ = some (.int .u16 n)) ∧ (w1.cell? ⟨(b + 1), 0, none⟩ = some (.int .u32 c') ∧ w1.cell? ⟨(b + 1), 1, none⟩ = some (.int .u32 s') ∧ w1.cell? ⟨(b + 1), 2, none⟩ = some (.int .u16 n')) ∧ Below b w w1 ∧ b + 1 < w1.heap.size) (hb : Below w1.heap.size w1 w2) :
    (w2.cell? ⟨b, 0, none⟩ = some (.int .u32 c) ∧ w2.cell? ⟨b, 1, none⟩ = some (.int .u32 s) ∧ w2.cell? ⟨b, 2, none⟩ = some (.int .u16 n)) ∧ (w2.cell? ⟨(b + 1), 0, none⟩ = some (.int .u32 c') ∧ w2.cell? ⟨(b + 1), 1, none⟩ = some (.int .u32 s') ∧ w2.cell? ⟨(b + 1), 2, none⟩ = some (.int .u16 n')) ∧ Below b w w2 ∧ b + 1 < w2.heap.size :=
  ⟨idc_below h.1 hb (by have := h.2.2.2; omega), idc_below h.2.1 hb h.2.2.2, h.2.2.1.trans (hb.mono (by have := h.2.2.2; omega)), Nat.lt_of_lt_of_le h.2.2.2 hb.size⟩

set_option maxHeartbeats 800000 in
theorem less_walk (c s n c' s' n' : Int) (w : World) : Calls Tryd.prog 11 #[.agg #[.int .u32 c, .int .u32 s, .int .u16 n], .agg #[.int .u32 c', .int .u32 s', .int .u16 n']] w (fun e w' => e = .returned (.bool (idLt c s n c' s' n')) ∧ Below w.heap.size w w') := by
  rw [← orI_lt]
  go_enter Tryd.func11, Tryd.ntmps11
  go_wp2_with fail
  have hb := ((Below.refl w.heap.size w).alloc (Nat.le_refl _) (.cells #[.int .u32 c, .int .u32 s, .int .u16 n] 25)).alloc (by simp) (.cells #[.int .u32 c', .int .u32 s', .int .u16 n'] 25)
  have hy := (Blk.new w 25 #[.int .u32 c, .int .u32 s, .int .u16 n]).alloc (.cells #[.int .u32 c', .int .u32 s', .int .u16 n'] 25)
  have hy' := Blk.new (w.alloc (.cells #[.int .u32 c, .int .u32 s, .int .u16 n] 25)) 25 #[.int .u32 c', .int .u32 s', .int .u16 n']
  have hz := hy.lt
  have hz' := hy'.lt
  have g0 := hy.cell 0
  have g1 := hy.cell 1
  have g2 := hy.cell 2
  have k0 := hy'.cell 0
  have k1 := hy'.cell 1
  have k2 := hy'.cell 2
  generalize (w.alloc (.cells #[.int .u32 c, .int .u32 s, .int .u16 n] 25)).alloc (.cells #[.int .u32 c', .int .u32 s', .int .u16 n'] 25) = w2 at *
  have he : (w.alloc (.cells #[.int .u32 c, .int .u32 s, .int .u16 n] 25)).heap.size = w.heap.size + 1 := by simp
  rw [he] at hy' k0 k1 k2 hz'
  clear hy hy'
  have hS : (w2.drew.cell? ⟨w.heap.size, 0, none⟩ = some (.int .u32 c) ∧ w2.drew.cell? ⟨w.heap.size, 1, none⟩ = some (.int .u32 s) ∧ w2.drew.cell? ⟨w.heap.size, 2, none⟩ = some (.int .u16 n)) ∧ (w2.drew.cell? ⟨(w.heap.size + 1), 0, none⟩ = some (.int .u32 c') ∧ w2.drew.cell? ⟨(w.heap.size + 1), 1, none⟩ = some (.int .u32 s') ∧ w2.drew.cell? ⟨(w.heap.size + 1), 2, none⟩ = some (.int .u16 n')) ∧ Below w.heap.size w w2.drew ∧ w.heap.size + 1 < w2.drew.heap.size := ⟨⟨g0, g1, g2⟩, ⟨k0, k1, k2⟩, hb.drew, hz'⟩
  clear hb g0 g1 g2 k0 k1 k2 hz hz' he
  refine wp_region_lex (fun W => (W.cell? ⟨w.heap.size, 0, none⟩ = some (.int .u32 c) ∧ W.cell? ⟨w.heap.size, 1, none⟩ = some (.int .u32 s) ∧ W.cell? ⟨w.heap.size, 2, none⟩ = some (.int .u16 n)) ∧ (W.cell? ⟨(w.heap.size + 1), 0, none⟩ = some (.int .u32 c') ∧ W.cell? ⟨(w.heap.size + 1), 1, none⟩ = some (.int .u32 s') ∧ W.cell? ⟨(w.heap.size + 1), 2, none⟩ = some (.int .u16 n')) ∧ Below w.heap.size w W ∧ w.heap.size + 1 < W.heap.size) [1, 3, 6, 8, 11, 13] [4, 9, 14, 15, 16] [0, 1, 2, 3, 5, 6, 7, 8, 10, 11, 12, 13, 4, 9, 14, 15, 16, 17, 18] (by kernel_rfl) rfl (by kernel_rfl) (by kernel_rfl) (fun _ _ d _ _ h => by cases d <;> exact h) ?_
  repeat (first | (refine lexG_take _ ?_ rfl rfl rfl rfl (fun _ => ?_) ?_; rotate_left; (focus (go_simp; with_reducible rfl)); try simp only [Act.put, List.setIfInBounds_toArray, List.set_cons_zero, List.set_cons_succ]) | (refine lexG_held _ ?_ rfl rfl rfl rfl (by assumption) (fun _ hSw => ?_) ?_; rotate_left; (focus ((try dsimp only at hSw); go_simp; with_reducible rfl)); try simp only [Act.put, List.setIfInBounds_toArray, List.set_cons_zero, List.set_cons_succ]) | (refine lexG_skip _ rfl rfl (by assumption) ?_; try simp only [Act.put, List.setIfInBounds_toArray, List.set_cons_zero, List.set_cons_succ]))
  refine lexG_now _ rfl rfl rfl (fun K hK => ?_)
  go_wp2_with fail
  refine (compare32 _ _ _).mono ?_
  rintro e w3 ⟨rfl, hb3⟩
  dsimp only
  have hS3 := two_below hS hb3
  refine hK _ _ _ (fun _ h => h) hS3 ?_
  clear hK K hS hb3
  try simp only [Act.put, List.setIfInBounds_toArray, List.set_cons_zero, List.set_cons_succ]
  repeat (first | (refine lexG_take _ ?_ rfl rfl rfl rfl (fun _ => ?_) ?_; rotate_left; (focus (go_simp; with_reducible rfl)); try simp only [Act.put, List.setIfInBounds_toArray, List.set_cons_zero, List.set_cons_succ]) | (refine lexG_held _ ?_ rfl rfl rfl rfl (by assumption) (fun _ hSw => ?_) ?_; rotate_left; (focus ((try dsimp only at hSw); go_simp; with_reducible rfl)); try simp only [Act.put, List.setIfInBounds_toArray, List.set_cons_zero, List.set_cons_succ]) | (refine lexG_skip _ rfl rfl (by assumption) ?_; try simp only [Act.put, List.setIfInBounds_toArray, List.set_cons_zero, List.set_cons_succ]))
  refine lexG_now _ rfl rfl rfl (fun K hK => ?_)
  go_wp2_with fail
  refine (compare32 _ _ _).mono ?_
  rintro e w4 ⟨rfl, hb4⟩
  dsimp only
  have hS4 := two_below hS3 hb4
  refine hK _ _ _ (fun _ h => h) hS4 ?_
  clear hK K hS3 hb4
  try simp only [Act.put, List.setIfInBounds_toArray, List.set_cons_zero, List.set_cons_succ]
  repeat (first | (refine lexG_take _ ?_ rfl rfl rfl rfl (fun _ => ?_) ?_; rotate_left; (focus (go_simp; with_reducible rfl)); try simp only [Act.put, List.setIfInBounds_toArray, List.set_cons_zero, List.set_cons_succ]) | (refine lexG_held _ ?_ rfl rfl rfl rfl (by assumption) (fun _ hSw => ?_) ?_; rotate_left; (focus ((try dsimp only at hSw); go_simp; with_reducible rfl)); try simp only [Act.put, List.setIfInBounds_toArray, List.set_cons_zero, List.set_cons_succ]) | (refine lexG_skip _ rfl rfl (by assumption) ?_; try simp only [Act.put, List.setIfInBounds_toArray, List.set_cons_zero, List.set_cons_succ]))
  refine lexG_now _ rfl rfl rfl (fun K hK => ?_)
  go_wp2_with fail
  refine (compare16 _ _ _).mono ?_
  rintro e w5 ⟨rfl, hb5⟩
  dsimp only
  have hS5 := two_below hS4 hb5
  refine hK _ _ _ (fun _ h => h) hS5 ?_
  clear hK K hS4 hb5
  try simp only [Act.put, List.setIfInBounds_toArray, List.set_cons_zero, List.set_cons_succ]
  repeat (first | (refine lexG_take _ ?_ rfl rfl rfl rfl (fun _ => ?_) ?_; rotate_left; (focus (go_simp; with_reducible rfl)); try simp only [Act.put, List.setIfInBounds_toArray, List.set_cons_zero, List.set_cons_succ]) | (refine lexG_held _ ?_ rfl rfl rfl rfl (by assumption) (fun _ hSw => ?_) ?_; rotate_left; (focus ((try dsimp only at hSw); go_simp; with_reducible rfl)); try simp only [Act.put, List.setIfInBounds_toArray, List.set_cons_zero, List.set_cons_succ]) | (refine lexG_skip _ rfl rfl (by assumption) ?_; try simp only [Act.put, List.setIfInBounds_toArray, List.set_cons_zero, List.set_cons_succ]))
  refine lexG_now _ rfl rfl rfl (fun K hK => ?_)
  go_wp2_with fail
  have hS6 := two_below hS5 ((Below.refl w5.heap.size w5).alloc (Nat.le_refl _) (.cells #[.int .i64 (cmpI c c'), .int .i64 (cmpI s s'), .int .i64 (cmpI n n')] 3))
  have hn := Blk.new w5 3 #[.int .i64 (cmpI c c'), .int .i64 (cmpI s s'), .int .i64 (cmpI n n')]
  have n0 := hn.cell 0
  have n1 := hn.cell 1
  have n2 := hn.cell 2
  have hl := hn.lt
  refine hK _ _ _ (fun _ h => h) hS6 ?_
  clear hK K hS5 hn
  generalize w5.alloc (.cells #[.int .i64 (cmpI c c'), .int .i64 (cmpI s s'), .int .i64 (cmpI n n')] 3) = w6 at *
  try simp only [Act.put, List.setIfInBounds_toArray, List.set_cons_zero, List.set_cons_succ]
  repeat (first | (refine lexG_take _ ?_ rfl rfl rfl rfl (fun _ => ?_) ?_; rotate_left; (focus (go_simp; with_reducible rfl)); try simp only [Act.put, List.setIfInBounds_toArray, List.set_cons_zero, List.set_cons_succ]) | (refine lexG_held _ ?_ rfl rfl rfl rfl (by assumption) (fun _ hSw => ?_) ?_; rotate_left; (focus ((try dsimp only at hSw); go_simp; with_reducible rfl)); try simp only [Act.put, List.setIfInBounds_toArray, List.set_cons_zero, List.set_cons_succ]) | (refine lexG_skip _ rfl rfl (by assumption) ?_; try simp only [Act.put, List.setIfInBounds_toArray, List.set_cons_zero, List.set_cons_succ]))
  refine lexG_now _ rfl rfl rfl (fun K hK => ?_)
  go_wp2_with fail
  refine (or_three _ _ _ _ _ n0 n1 n2 hl).mono ?_
  rintro e w7 ⟨rfl, hb7⟩
  dsimp only
  have hS7 := two_below hS6 hb7
  refine hK _ _ _ (fun _ h => h) hS7 ?_
  clear hK K hS6 hb7 n0 n1 n2 hl
  try simp only [Act.put, List.setIfInBounds_toArray, List.set_cons_zero, List.set_cons_succ]
  repeat (first | (refine lexG_take _ ?_ rfl rfl rfl rfl (fun _ => ?_) ?_; rotate_left; (focus (go_simp; with_reducible rfl)); try simp only [Act.put, List.setIfInBounds_toArray, List.set_cons_zero, List.set_cons_succ]) | (refine lexG_held _ ?_ rfl rfl rfl rfl (by assumption) (fun _ hSw => ?_) ?_; rotate_left; (focus ((try dsimp only at hSw); go_simp; with_reducible rfl)); try simp only [Act.put, List.setIfInBounds_toArray, List.set_cons_zero, List.set_cons_succ]) | (refine lexG_skip _ rfl rfl (by assumption) ?_; try simp only [Act.put, List.setIfInBounds_toArray, List.set_cons_zero, List.set_cons_succ]))
  refine lexG_nil ?_
  go_wp2_with fail
  go_ret
  exact ⟨rfl, hS7.2.2.1⟩

theorem root_walk (c s n : Int) (w : World) : Calls Tryd.prog 10 #[.agg #[.int .u32 c, .int .u32 s, .int .u16 n]] w (fun e w' => e = .returned (.agg #[.int .u32 c, .int .u32 s, .int .u16 0]) ∧ Below w.heap.size w w') := by
  go_enter Tryd.func10, Tryd.ntmps10
  go_wp2_with fail
  refine bodyPost_ret (v := .agg #[.int .u32 c, .int .u32 s, .int .u16 0]) ?hr rfl ?_
  case hr => exact results_cell_row rfl _ _ _ 25 _ (0, 0) _ rfl (heap_alloc2_new w _ _) Tryd.underlying25 rfl (by kernel_rfl)
  exact ⟨rfl, ((Below.refl w.heap.size w).alloc (Nat.le_refl _) _).alloc (by simp) _⟩

theorem nested_ok (c s k : Int) (h1 : 1 ≤ k) (h8 : k ≤ 8) (w : World) : Calls Tryd.prog 9 #[.agg #[.int .u32 c, .int .u32 s, .int .u16 0], .int .i64 k] w
    (fun e w' => e = .returned (.tuple #[.agg #[.int .u32 c, .int .u32 s, .int .u16 k], .bool true]) ∧ Below w.heap.size w w') := by
  go_enter Tryd.func9, Tryd.ntmps9
  go_wp2_with fail
  refine bodyPost_ret (v := .tuple #[.agg #[.int .u32 c, .int .u32 s, .int .u16 k], .bool true]) ?hr rfl ?_
  case hr => exact results_ct rfl _ _ _ 25 _ (0, 0) _ _ rfl rfl (heap_alloc2_new w _ _) Tryd.underlying25 rfl (by kernel_rfl)
  exact ⟨rfl, ((Below.refl w.heap.size w).alloc (Nat.le_refl _) _).alloc (by simp) _⟩
theorem nested_no (c s n k : Int) (h : n ≠ 0 ∨ k < 1 ∨ 8 < k) (w : World) : Calls Tryd.prog 9 #[.agg #[.int .u32 c, .int .u32 s, .int .u16 n], .int .i64 k] w
    (fun e w' => e = .returned (.tuple #[.agg #[.int .u32 0, .int .u32 0, .int .u16 0], .bool false]) ∧ Below w.heap.size w w') := by
  rcases (show n ≠ 0 ∨ (n = 0 ∧ k < 1) ∨ (n = 0 ∧ 1 ≤ k ∧ 8 < k) by omega) with h | ⟨rfl, h⟩ | ⟨rfl, h', h⟩
  · have hd : (n == 0) = false := beq_eq_false_iff_ne.2 h
    go_enter Tryd.func9, Tryd.ntmps9
    go_wp2_with fail
    refine bodyPost_ret (v := .tuple #[.agg #[.int .u32 0, .int .u32 0, .int .u16 0], .bool false]) ?hr rfl ?_
    case hr => exact results_ct rfl _ _ _ 25 _ (0, 0) _ _ rfl rfl (heap_alloc2_new w _ _) Tryd.underlying25 rfl (by kernel_rfl)
    exact ⟨rfl, ((Below.refl w.heap.size w).alloc (Nat.le_refl _) _).alloc (by simp) _⟩
  · go_enter Tryd.func9, Tryd.ntmps9
    go_wp2_with fail
    refine bodyPost_ret (v := .tuple #[.agg #[.int .u32 0, .int .u32 0, .int .u16 0], .bool false]) ?hr rfl ?_
    case hr => exact results_ct rfl _ _ _ 25 _ (0, 0) _ _ rfl rfl (heap_alloc2_new w _ _) Tryd.underlying25 rfl (by kernel_rfl)
    exact ⟨rfl, ((Below.refl w.heap.size w).alloc (Nat.le_refl _) _).alloc (by simp) _⟩
  · go_enter Tryd.func9, Tryd.ntmps9
    go_wp2_with fail
    refine bodyPost_ret (v := .tuple #[.agg #[.int .u32 0, .int .u32 0, .int .u16 0], .bool false]) ?hr rfl ?_
    case hr => exact results_ct rfl _ _ _ 25 _ (0, 0) _ _ rfl rfl (heap_alloc2_new w _ _) Tryd.underlying25 rfl (by kernel_rfl)
    exact ⟨rfl, ((Below.refl w.heap.size w).alloc (Nat.le_refl _) _).alloc (by simp) _⟩
end Go.Proofs.YtokcmnenfgbdoaaDoor
