/- The chapter's example. -/
import Derived.Test.YtffpkencgbiafaaDoorGr8
set_option linter.unusedSimpArgs false
set_option linter.unusedVariables false
namespace Go.Proofs.YtffpkencgbiafaaDoor
open Go.RowKit
set_option maxRecDepth 100000

def xB : ByteArray := ⟨#[120]⟩
theorem ent_k1 : Ent 21 := fun args w => by kernel_rfl
theorem ent_k2 : Ent 22 := fun args w => by kernel_rfl
theorem k1_pan (w : World) : Calls Tryd.prog 21 #[] w (fun e w' => (∃ v, PanV false v ∧ e = pan v) ∧ Below w.heap.size w w') := by
  have hrs := raise_pan 0 (by decide) ⟨#[120]⟩ (by decide) 0 w
  replace hrs := Lib.hid hrs
  go_enter Tryd.func21, Tryd.ntmps21
  go_wp2_with fail
  refine hrs.out.mono ?_
  rintro e w5 ⟨⟨v, hv, rfl⟩, hb5⟩
  unfold pan
  try dsimp only
  go_wp2_with fail
  exact ⟨rfl, ⟨v, hv, rfl⟩, hb5⟩
theorem k2_ok (w : World) : Calls Tryd.prog 22 #[] w (fun e w' => e = .returned (.tuple #[]) ∧ Below w.heap.size w w') := by
  go_enter Tryd.func22, Tryd.ntmps22
  go_wp2_with fail
  go_end0
  exact ⟨rfl, Below.refl _ _⟩
theorem told_k1 (w : World) : Calls Tryd.prog 8 #[fv 21 #[]] w (fun e w' => (∃ t, TextOk false t ∧ e = .returned (.tuple #[.string t, .bool true])) ∧ Below w.heap.size w w') :=
  (told_pan (S := fun _ => False) (R := fun _ => True) ent_k1 (fun _ h => h.elim) (fun w1 _ => (k1_pan w1).mono (fun e w' ⟨h1, h2⟩ => ⟨h1, Upd.of_below_size h2, trivial⟩)) (fun _ _ _ _ _ => trivial)).mono (fun e w' ⟨h1, h2, _⟩ => ⟨h1, h2.below (Nat.le_refl _) (fun _ _ h => h)⟩)
theorem told_k2 (w : World) : Calls Tryd.prog 8 #[fv 22 #[]] w (Says w (.tuple #[.string ⟨#[]⟩, .bool false])) :=
  (told_ok (S := fun _ => False) (R := fun _ => True) ent_k2 (fun _ h => h.elim) (fun w1 _ => (k2_ok w1).mono (fun e w' ⟨h1, h2⟩ => ⟨h1, Upd.of_below_size h2, trivial⟩)) (fun _ _ _ _ _ => trivial)).mono (fun e w' ⟨h1, h2, _⟩ => ⟨h1, h2.below (Nat.le_refl _) (fun _ _ h => h)⟩)
set_option maxHeartbeats 6400000 in
theorem known_true (w : World) : Calls Tryd.prog 7 #[] w (Says w (.bool true)) := by
  go_enter Tryd.func7, Tryd.ntmps7
  go_wp2_with fail
  refine (int_walk 3 w).mono ?_
  rintro e w1 ⟨rfl, hb1⟩
  try dsimp only
  go_wp2_with fail
  refine (told_mk 1 3 0 ⟨#[]⟩ none 0 0 0 w1).mono ?_
  rintro e w2 ⟨p, q, rfl, h2, hb2, -, -⟩
  try dsimp only
  have hrn := run_told h2
  rw [if_pos rfl] at hrn
  unfold fv at hrn ⊢
  replace hrn := Lib.hid hrn
  go_wp2_with fail
  refine hrn.out.mono ?_
  clear hrn
  rintro e w3 ⟨rfl, hb3⟩
  unfold v5
  try dsimp only
  have hb03 := below_then hb3 (below_then hb2 hb1)
  clear h2 hb1 hb2 hb3
  have hz := Blk.new w3 31 #[.int .i64 0, .int .i64 0, .float .f64 0, .string ⟨#[]⟩, .slice none 0 0]
  have hr1 := hz.row (#[.int .i64 1, .int .i64 3, .float .f64 0, .string ⟨#[]⟩, .slice none 0 0])
  have hc1 : Below w3.heap.size w3 ((w3.alloc (.cells #[.int .i64 0, .int .i64 0, .float .f64 0, .string ⟨#[]⟩, .slice none 0 0] 31)).setRow w3.heap.size #[.int .i64 1, .int .i64 3, .float .f64 0, .string ⟨#[]⟩, .slice none 0 0]) := ((Below.refl w3.heap.size w3).alloc (Nat.le_refl _) _).trans (((Upd.refl (fun y => y = w3.heap.size) _).setRow (fun _ => rfl) _).below (by simp) (fun k hk e => by omega))
  obtain ⟨w4, hw4⟩ : ∃ q, q = (w3.alloc (.cells #[.int .i64 0, .int .i64 0, .float .f64 0, .string ⟨#[]⟩, .slice none 0 0] 31)).setRow w3.heap.size #[.int .i64 1, .int .i64 3, .float .f64 0, .string ⟨#[]⟩, .slice none 0 0] := ⟨_, rfl⟩
  rw [← hw4] at hr1 hc1
  replace hw4 := Lib.hid hw4
  go_wp2_with (refine store_row_gen rfl 31 _ _ rfl w3.heap.size #[.int .i64 1, .int .i64 3, .float .f64 0, .string ⟨#[]⟩, .slice none 0 0] rfl rfl 31 _ hz (by kernel_rfl) rfl (by simp [Value.oneCell']) (fun wI hwI => ?_); rw [hwI, ← hw4.out]; clear hwI hz)
  clear hw4
  obtain ⟨g1, hg1⟩ : ∃ g, w3.heap.size = g := ⟨_, rfl⟩
  rw [hg1] at hr1 ⊢
  have hb04 := below_then hc1 hb03
  clear hc1 hb03 hg1
  refine (rises_walk 0 ⟨#[120]⟩ 0 w4).mono ?_
  rintro e w5 ⟨p, q, r, rfl, h5, hb5, -, -, -⟩
  have hr5 := hr1.below hb5 hr1.lt
  have hrn := run_rises h5 (by decide) (by decide)
  unfold fv at hrn ⊢
  replace hrn := Lib.hid hrn
  try dsimp only
  go_wp2_with fail
  refine hrn.out.mono ?_
  clear hrn
  rintro e w6 ⟨rfl, hb6⟩
  unfold z5
  try dsimp only
  have hr6 := hr5.below hb6 hr5.lt
  have hb06 := below_then hb6 (below_then hb5 hb04)
  clear h5 hb5 hb04 hb6 hr5 hr1
  have hz := Blk.new w6 31 #[.int .i64 0, .int .i64 0, .float .f64 0, .string ⟨#[]⟩, .slice none 0 0]
  have hr2 := hz.row (#[.int .i64 0, .int .i64 0, .float .f64 0, .string ⟨#[]⟩, .slice none 0 0])
  have hc2 : Below w6.heap.size w6 ((w6.alloc (.cells #[.int .i64 0, .int .i64 0, .float .f64 0, .string ⟨#[]⟩, .slice none 0 0] 31)).setRow w6.heap.size #[.int .i64 0, .int .i64 0, .float .f64 0, .string ⟨#[]⟩, .slice none 0 0]) := ((Below.refl w6.heap.size w6).alloc (Nat.le_refl _) _).trans (((Upd.refl (fun y => y = w6.heap.size) _).setRow (fun _ => rfl) _).below (by simp) (fun k hk e => by omega))
  obtain ⟨w7, hw7⟩ : ∃ q, q = (w6.alloc (.cells #[.int .i64 0, .int .i64 0, .float .f64 0, .string ⟨#[]⟩, .slice none 0 0] 31)).setRow w6.heap.size #[.int .i64 0, .int .i64 0, .float .f64 0, .string ⟨#[]⟩, .slice none 0 0] := ⟨_, rfl⟩
  rw [← hw7] at hr2 hc2
  replace hw7 := Lib.hid hw7
  go_wp2_with (refine store_row_gen rfl 31 _ _ rfl w6.heap.size #[.int .i64 0, .int .i64 0, .float .f64 0, .string ⟨#[]⟩, .slice none 0 0] rfl rfl 31 _ hz (by kernel_rfl) rfl (by simp [Value.oneCell']) (fun wI hwI => ?_); rw [hwI, ← hw7.out]; clear hwI hz)
  clear hw7
  obtain ⟨g2, hg2⟩ : ∃ g, w6.heap.size = g := ⟨_, rfl⟩
  have hg1l : g1 < g2 := by rw [← hg2]; exact hr6.lt
  have hr7 := hr6.below hc2 hr6.lt
  rw [hg2] at hr2 ⊢
  have hb07 := below_then hc2 hb06
  clear hc2 hb06 hg2 hr6
  have hk1 := told_k1 w7
  unfold fv at hk1
  refine hk1.mono ?_
  clear hk1
  rintro e w8 ⟨⟨t, ht, rfl⟩, hb8⟩
  try dsimp only
  have hr8 := hr7.below hb8 hr7.lt
  have hb08 := below_then hb8 hb07
  have hk2 := told_k2 w8
  unfold fv at hk2
  replace hk2 := Lib.hid hk2
  clear hr7 hr2 hb07 hb8
  go_wp2_with fail
  refine hk2.out.mono ?_
  clear hk2
  rintro e w9 ⟨rfl, hb9⟩
  try dsimp only
  have hr9 := hr8.below hb9 hr8.lt
  have hb09 := below_then hb9 hb08
  have c1 := hr9.cell 1
  obtain ⟨ht1, ht2⟩ := ht
  have dt : decide ((14 : Int) < (t.size : Int)) = true := decide_eq_true (by omega)
  have dt2 : (14 : Int) ≤ (t.size : Int) := by omega
  have dt3 : 14 ≤ t.size := by omega
  clear hr8 hb08 hb9
  go_wp2_with fail
  go_ret
  exact ⟨rfl, hb09⟩
end Go.Proofs.YtffpkencgbiafaaDoor
