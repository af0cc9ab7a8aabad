/- Nets: New, clone, has, Len, Part, side, Joined. -/
import Derived.Test.YtfhdnehheoligaaNp1
import Derived.Test.YtfhdnehheoligaaRegion
import Derived.Deep.CutRange
set_option linter.unusedSimpArgs false
set_option linter.unusedVariables false
namespace Go.Proofs.Ytfhdnehheoligaa
open Go.RowKit
set_option maxRecDepth 100000

theorem np_new (b : Nat) (w : World) (hb : b ≤ w.heap.size) : Calls Try.prog 5 #[] w (fun e w' => e = .returned (.pointer (some ⟨w.heap.size, 0, none⟩)) ∧ NetS b w' (fun y => y = w.heap.size) 47 w.heap.size 0 [] ∧ Below w.heap.size w w') := by
  go_enter Try.func5, Try.ntmps5
  go_wp2_with fail
  have hx := Blk.new w 47 #[.slice none 0 0, .int .u64 0]
  go_ret
  exact ⟨rfl, ⟨none, 0, [], fun _ => #[], fun _ => False, hx, Own.none_, by simp, by simp, fun y hy => ⟨hy.elim id (fun e => by cases e), fun h => h⟩, fun _ h => h.elim, fun y hy => by subst hy; simp; omega, by simp; omega, by decide, by simp, by simp, by decide⟩, (Below.refl _ _).alloc (Nat.le_refl _) _⟩
set_option maxHeartbeats 1600000 in
theorem np_clone {w : World} {f t : Int} {bs : List UInt8} {B : Option Addr} {c n : Nat} (hr : Reads w w.heap.size 1 B bs.length (bys bs)) (hn : bs.length = n) (hl : n ≤ 1000) :
    Calls Try.prog 20 #[.agg #[.int .i64 f, .int .i64 t, .slice B n c]] w (fun e w' => ∃ B' c', e = .returned (.agg #[.int .i64 f, .int .i64 t, .slice B' n c']) ∧ Own w' 5 1 B' n c' (bys bs) ∧ (∀ y, bOf B' = some y → w.heap.size ≤ y) ∧ Below w.heap.size w w') := by
  obtain ⟨w1, hw1⟩ : ∃ q, q = w.alloc (.cells #[.int .i64 f, .int .i64 t, .slice B n c] 33) := ⟨_, rfl⟩
  have hb1 : Below w.heap.size w w1 := by rw [hw1]; exact (Below.refl _ _).alloc (Nat.le_refl _) _
  have hx1 : Blk w1 w.heap.size 33 #[.int .i64 f, .int .i64 t, .slice B n c] := by rw [hw1]; exact Blk.new w _ _
  obtain ⟨w2, hw2⟩ : ∃ q, q = w1.alloc (.cells #[.int .i64 0, .int .i64 0, .slice none 0 0] 33) := ⟨_, rfl⟩
  have hb12 : Below w1.heap.size w1 w2 := by rw [hw2]; exact (Below.refl _ _).alloc (Nat.le_refl _) _
  have hz2 : Blk w2 w1.heap.size 33 #[.int .i64 0, .int .i64 0, .slice none 0 0] := by rw [hw2]; exact Blk.new w1 _ _
  have hx2 := hx1.below hb12 hx1.lt
  have hb2 := below_then hb12 hb1
  have hs1 := hb1.size
  have hs2 := hb12.size
  have hne : w.heap.size ≠ w1.heap.size := by have := hx1.lt; omega
  obtain ⟨y1, hy1⟩ : ∃ y, w.heap.size = y := ⟨_, rfl⟩
  have hsz1 : w1.heap.size = y1 + 1 := by rw [hw1, ← hy1]; simp
  obtain ⟨z, hz⟩ : ∃ y, w1.heap.size = y := ⟨_, rfl⟩
  rw [hy1] at hx2 hne
  rw [hz] at hz2 hne
  go_enter Try.func20, Try.ntmps20
  go_upto_region 1 with (fail)
  rw [← hw1]
  try rw [← hw2]
  try rw [hy1]
  have hyz : y1 + 1 = z := by omega
  try rw [hyz]
  clear hw1 hw2 hsz1 hyz
  have hrw := fun W (hW : Below w.heap.size w W) => clone_bytes (c := c) (hr.below hW) hW.size (by omega)
  rw [hn] at hrw
  have hzl := hz2.lt
  have hS0 : Blk w2.drew y1 33 #[.int .i64 f, .int .i64 t, .slice B n c] ∧ Blk w2.drew z 33 #[.int .i64 0, .int .i64 0, .slice none 0 0] := ⟨hx2.drewN 1, hz2.drewN 1⟩
  refine wp_region_lex (fun W => Blk W y1 33 #[.int .i64 f, .int .i64 t, .slice B n c] ∧ Blk W z 33 #[.int .i64 0, .int .i64 0, .slice none 0 0]) [1, 3, 5] [6, 8] [0, 1, 2, 3, 4, 5, 6, 7, 8] (by kernel_rfl) rfl (by kernel_rfl) (by kernel_rfl) (fun _ _ d _ _ h => by cases d <;> exact h) ?_
  repeat (first | (refine lexG_take _ ?_ rfl rfl rfl rfl (fun _ => ?_) ?_; rotate_left; (focus (go_simp; with_reducible rfl)); try simp only [Act.put, List.setIfInBounds_toArray, List.set_cons_zero, List.set_cons_succ]) | (refine lexG_held _ ?_ rfl rfl rfl rfl (by assumption) (fun _ hSw => ?_) ?_; rotate_left; (focus (have h1 := hSw.1.cell 0; have h2 := hSw.1.cell 1; have h3 := hSw.1.cell 2; clear hSw; go_simp; with_reducible rfl)); try simp only [Act.put, List.setIfInBounds_toArray, List.set_cons_zero, List.set_cons_succ]) | (refine lexG_skip _ rfl rfl (by assumption) ?_; try simp only [Act.put, List.setIfInBounds_toArray, List.set_cons_zero, List.set_cons_succ]))
  have hcl := hrw w2.drew hb2.drew
  refine lexG_now _ rfl rfl rfl (fun K0 hK => ?_)
  go_wp2_with fail
  refine hcl.mono ?_
  clear hcl
  rintro e w5 ⟨B', c', rfl, ho5, hb5, hB'⟩
  try dsimp only
  rw [hn] at ho5 ⊢
  have hb25 := below_then hb5 (Below.refl w2.heap.size w2).drew
  have hx5 := hx2.below hb25 hx2.lt
  have hz5 := hz2.below hb25 hz2.lt
  refine hK _ _ _ (fun _ h => h) ⟨hx5, hz5⟩ ?_
  clear hK K0
  try simp only [Act.put, List.setIfInBounds_toArray, List.set_cons_zero, List.set_cons_succ]
  repeat (first | (refine lexG_take _ ?_ rfl rfl rfl rfl (fun _ => ?_) ?_; rotate_left; (focus (go_simp; with_reducible rfl)); try simp only [Act.put, List.setIfInBounds_toArray, List.set_cons_zero, List.set_cons_succ]) | (refine lexG_held _ ?_ rfl rfl rfl rfl (by assumption) (fun _ hSw => ?_) ?_; rotate_left; (focus (have h1 := hSw.1.cell 0; have h2 := hSw.1.cell 1; have h3 := hSw.1.cell 2; clear hSw; go_simp; with_reducible rfl)); try simp only [Act.put, List.setIfInBounds_toArray, List.set_cons_zero, List.set_cons_succ]) | (refine lexG_skip _ rfl rfl (by assumption) ?_; try simp only [Act.put, List.setIfInBounds_toArray, List.set_cons_zero, List.set_cons_succ]))
  have k0 := hz5.cell 0
  have k1 := hz5.cell 1
  have k2 := hz5.cell 2
  have f0 := hz5.frozen 0
  have f1 := hz5.frozen 1
  have f2 := hz5.frozen 2
  have hzF := ((hz5.set_ 0 (.int .i64 f)).set_ 1 (.int .i64 t)).set_ 2 (.slice B' n c')
  have hB'2 : ∀ y, bOf B' = some y → w2.heap.size ≤ y := fun y hy => hB' y hy
  have huF : Upd (fun y => y = z) w5 (((w5.setCell ⟨z, 0, none⟩ (.int .i64 f)).setCell ⟨z, 1, none⟩ (.int .i64 t)).setCell ⟨z, 2, none⟩ (.slice B' n c')) := (((Upd.refl (fun y => y = z) w5).setCell (p := ⟨z, 0, none⟩) (fun _ => rfl) _).setCell (p := ⟨z, 1, none⟩) (fun _ => rfl) _).setCell (p := ⟨z, 2, none⟩) (fun _ => rfl) _
  have hoF := ho5.upd huF (fun y hy e => by have := hB'2 y hy; omega)
  have hbF := (below_then hb25 hb2).trans (huF.below (B := w.heap.size) (by have := hb25.size; omega) (fun k hk e => by omega))
  refine lexG_nowF _ rfl rfl rfl (by kernel_rfl) (fun K0 hK => ?_)
  go_wp2_with fail
  try simp only [Act.put, List.setIfInBounds_toArray, List.set_cons_zero, List.set_cons_succ]
  refine lexG_nil ?_
  go_wp2_with fail
  refine bodyPost_ret (v := .agg #[.int .i64 f, .int .i64 t, .slice B' n c']) ?hr rfl ?_
  case hr => exact results_cell_row rfl _ _ z 33 _ (0, 0) _ rfl hzF Try.underlying33 rfl (by kernel_rfl)
  exact ⟨B', c', rfl, hoF, fun y hy => by have := hB'2 y hy; omega, hbF⟩
def inB (k : Int) (n : Nat) : Bool := decide (0 ≤ k) && decide (k < (n : Int))
theorem np_has {b : Nat} {w : World} {F : Nat → Prop} {g mask : Nat} {l : List PkD} (h : NetS b w F 47 g mask l) (k : Int) : Calls Try.prog 17 #[.pointer (some ⟨g, 0, none⟩), .int .i64 k] w (Says w (.bool (inB k l.length))) := by
  obtain ⟨A, c, xs, css, C, h⟩ := h
  have h0 := h.blk.cell 0
  obtain ⟨N, hN⟩ : ∃ q, l.length = q := ⟨_, rfl⟩
  rw [hN] at h0 ⊢
  unfold inB
  go_enter Try.func17, Try.ntmps17
  by_cases hk : 0 ≤ k
  · have d1 : decide (0 ≤ k) = true := decide_eq_true hk
    rw [d1]
    by_cases hk2 : k < (N : Int)
    · have d2 : decide (k < (N : Int)) = true := decide_eq_true hk2
      rw [d2]
      go_wp2_with fail
      go_ret
      exact ⟨rfl, Below.refl _ _⟩
    · have d2 : decide (k < (N : Int)) = false := decide_eq_false hk2
      rw [d2]
      go_wp2_with fail
      go_ret
      exact ⟨rfl, Below.refl _ _⟩
  · have d1 : decide (0 ≤ k) = false := decide_eq_false hk
    rw [d1]
    go_wp2_with fail
    go_ret
    exact ⟨rfl, Below.refl _ _⟩
theorem np_len {b : Nat} {w : World} {F : Nat → Prop} {g mask : Nat} {l : List PkD} (h : NetS b w F 47 g mask l) : Calls Try.prog 14 #[.pointer (some ⟨g, 0, none⟩)] w (Says w (.int .i64 (l.length : Int))) := by
  obtain ⟨A, c, xs, css, C, h⟩ := h
  have h0 := h.blk.cell 0
  go_enter Try.func14, Try.ntmps14
  go_wp2_with fail
  go_ret
  exact ⟨rfl, Below.refl _ _⟩
theorem np_part {b : Nat} {w : World} {F : Nat → Prop} {g mask : Nat} {l : List PkD} {mask' : Nat} (h : NetS b w F 47 g mask l) (hm : mask' < 18446744073709551616) : Calls Try.prog 11 #[.pointer (some ⟨g, 0, none⟩), .int .u64 (mask' : Int)] w (fun e w' => e = .returned (.tuple #[]) ∧ Chg b w w' F 47 g mask' l) := by
  obtain ⟨A, c, xs, css, C, h⟩ := h
  have h1 := h.blk.cell 1
  have f1 := h.blk.frozen 1
  have hp := h.part hm
  replace h := Lib.hid h
  replace hp := Lib.hid hp
  clear hm
  go_enter Try.func11, Try.ntmps11
  go_wp2_with fail
  (try simp only [Exit.inBlock, Exit.then])
  refine bodyPost_end (results_none rfl _ _ _) rfl ?_
  exact ⟨rfl, hp.out⟩
end Go.Proofs.Ytfhdnehheoligaa
