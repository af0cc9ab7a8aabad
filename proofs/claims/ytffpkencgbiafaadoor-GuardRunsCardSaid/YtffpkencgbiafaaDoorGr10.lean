/- guard.Run of no function at all. -/
import Derived.Test.YtffpkencgbiafaaDoorGr9
set_option linter.unusedSimpArgs false
set_option linter.unusedVariables false
namespace Go.Proofs.YtffpkencgbiafaaDoor
open Go.RowKit
set_option maxRecDepth 100000

set_option maxHeartbeats 1600000 in
theorem run1_nil {w : World} {S : Nat → Prop} {R : World → Prop} {b : Bool} {g1 g2 g3 : Nat} (hb0 : b = false) (hb : Boxes w g1 g2 g3 .nilFunc z5 0)
    (hR : ∀ w', Below w.heap.size w w' → R w') :
    Calls Tryd.prog 25 #[.pointer (some ⟨g1, 0, none⟩), .pointer (some ⟨g2, 0, none⟩), .pointer (some ⟨g3, 0, none⟩)] w (fun e w' => (∃ v, PanV b v ∧ e = pan v) ∧ Upd S w w' ∧ R w') := by
  have k1 := hb.b1.cell 0
  have hp := PanV.text "invalid memory address or nil pointer dereference"
  have hre := rt_error
  replace hp := Lib.hid hp
  replace hR := Lib.hid hR
  subst hb0
  go_enter Tryd.func25, Tryd.ntmps25
  go_wp2_with fail
  exact ⟨rfl, ⟨_, hp.out, rfl⟩, Upd.refl _ _, hR.out _ (Below.refl _ _)⟩
set_option maxHeartbeats 6400000 in
theorem run_nil0 {w : World} {S : Nat → Prop} {R : World → Prop} {b : Bool} (hb0 : b = false) (hS : ∀ y, S y → y < w.heap.size)
    (hR0 : ∀ w1, Below w.heap.size w w1 → R w1)
    (hR : ∀ w2 w3, R w2 → w.heap.size ≤ w2.heap.size → Below w.heap.size w2 w3 → R w3) :
    Calls Tryd.prog 11 #[.nilFunc] w (fun e w' => e = .returned (.tuple #[.agg z5, .int .i64 34]) ∧ Upd S w w' ∧ R w') := by
  have hmf : ∀ (fn : Fn) (first cap : Array Value) (w : World), (Instr.makeFunc fn first cap).run Tryd.prog w = .ok (.func fn first cap) w := fun _ _ _ _ => rfl
  obtain ⟨B3, hb3, hsz⟩ := runStart w .nilFunc

  have hT := told_pan (f := 25) (cap := #[.pointer (some ⟨w.heap.size, 0, none⟩), .pointer (some ⟨w.heap.size + 1, 0, none⟩), .pointer (some ⟨w.heap.size + 1 + 1, 0, none⟩)]) (w := RunStart w .nilFunc) (S := fun y => S y ∨ y = w.heap.size + 1 ∨ y = w.heap.size + 1 + 1) (R := fun w' => R w' ∧ Boxes w' w.heap.size (w.heap.size + 1) (w.heap.size + 1 + 1) .nilFunc z5 0) (b := b) ent_run1
    (fun y hy => by rw [hsz]; rcases hy with e | e | e
                    · have := hS y e; omega
                    · omega
                    · omega)
    (fun w1 hb1 => (run1_nil (S := S) (R := R) hb0 (B3.upd (Upd.of_below_size (S := fun _ => False) hb1) (fun _ _ e => e)) (fun w2 hw2 => hR0 w2 (below_then' hw2 (below_then' hb1 hb3 (by omega)) (by have := hb1.size; omega)))).mono (fun e w' ⟨q1, q2, q3⟩ => ⟨q1, q2.mono (fun _ _ e => .inl e), q3, (B3.upd (Upd.of_below_size (S := fun _ => False) hb1) (fun _ _ e => e)).upd q2 (fun y hy e => by have := hS y e; omega)⟩))
    (fun w2 w3 ⟨hr, hB⟩ hs hb => ⟨hR w2 w3 hr (by omega) (hb.mono (by omega)), hB.upd (hb' hb hs) (fun y hy e => by omega)⟩)

  unfold RunStart at hT B3 hb3 hsz
  replace hT := Lib.hid hT
  replace hR := Lib.hid hR
  clear hR0
  go_enter Tryd.func11, Tryd.ntmps11
  go_wp2_with fail
  refine hT.out.mono ?_
  clear hT
  generalize ((w.alloc (.cells #[.nilFunc] 35)).alloc (.cells #[.int .i64 0, .int .i64 0, .float .f64 0, .string ⟨#[]⟩, .slice none 0 0] 31)).alloc (.cells #[.int .i64 0] 32) = w3 at *
  rintro e w5 ⟨⟨t, -, rfl⟩, hu5, hRR, BX5⟩
  try dsimp only
  have hUS : Upd S w w5 := by
    refine (Upd.of_below_size hb3).trans hu5 (fun y hy e => ?_)
    rcases e with e | e | e
    · exact e
    · omega
    · omega
  have hg6 := hu5.size
  obtain ⟨g, hg⟩ : ∃ g, w.heap.size = g := ⟨_, rfl⟩
  obtain ⟨g', hg'⟩ : ∃ g, w.heap.size + 1 = g := ⟨_, rfl⟩
  obtain ⟨g'', hg''⟩ : ∃ g, w.heap.size + 1 + 1 = g := ⟨_, rfl⟩
  rw [hg''] at BX5 ⊢
  rw [hg'] at BX5 ⊢
  rw [hg] at BX5 ⊢
  have hgg : g < g' := by omega
  have hgg2 : g' < g'' := by omega
  have hg6l : g ≤ w5.heap.size := by omega
  clear B3 hg' hg'' hu5
  unfold z5 at BX5
  have q3 := BX5.b3.cell 0
  have q3f := BX5.b3.frozen 0
  have BX : Boxes (w5.setCell ⟨g'', 0, none⟩ (.int .i64 34)) g g' g'' (.nilFunc) #[.int .i64 0, .int .i64 0, .float .f64 0, .string ⟨#[]⟩, .slice none 0 0] 34 := ⟨BX5.b1.far (p := ⟨g'', 0, none⟩) (by show g ≠ g''; omega) _, BX5.b2.far (p := ⟨g'', 0, none⟩) (by show g' ≠ g''; omega) _, BX5.b3.set_ 0 _⟩
  have U0 : Upd (fun y => g ≤ y) w5 (w5.setCell ⟨g'', 0, none⟩ (.int .i64 34)) := (Upd.refl (fun y => g ≤ y) w5).setCell (p := ⟨g'', 0, none⟩) (fun _ => by show g ≤ g''; omega) _
  have x2 := BX.b2
  have BY : Boxes ((w5.setCell ⟨g'', 0, none⟩ (.int .i64 34)).setRow g' #[.int .i64 0, .int .i64 0, .float .f64 0, .string ⟨#[]⟩, .slice none 0 0]) g g' g'' (.nilFunc) #[.int .i64 0, .int .i64 0, .float .f64 0, .string ⟨#[]⟩, .slice none 0 0] 34 := ⟨BX.b1.farRow (by omega) _, BX.b2.row _, BX.b3.farRow (by omega) _⟩
  have hbz : Below w.heap.size w5 ((w5.setCell ⟨g'', 0, none⟩ (.int .i64 34)).setRow g' #[.int .i64 0, .int .i64 0, .float .f64 0, .string ⟨#[]⟩, .slice none 0 0]) := by rw [hg]; exact (U0.setRow (g := g') (fun _ => by show g ≤ g'; omega) _).below (by omega) (fun k hk e => by omega)
  have cE := BX.b3.cell 0
  have cY := BY.b3.cell 0
  obtain ⟨wz, hwz⟩ : ∃ wz, wz = (w5.setCell ⟨g'', 0, none⟩ (.int .i64 34)).setRow g' #[.int .i64 0, .int .i64 0, .float .f64 0, .string ⟨#[]⟩, .slice none 0 0] := ⟨_, rfl⟩
  rw [← hwz] at BY hbz cY
  replace hbz := Lib.hid hbz
  replace hwz := Lib.hid hwz
  clear BX U0
  go_upto_region 6 with (refine store_row_gen rfl 31 _ _ rfl g' #[.int .i64 0, .int .i64 0, .float .f64 0, .string ⟨#[]⟩, .slice none 0 0] rfl rfl 31 _ x2 (by kernel_rfl) rfl (by simp [Value.oneCell']) (fun w7 hw7 => ?_); rw [hw7, ← hwz.out]; clear hw7 x2)
  try dsimp only [Act.put]
  have BX := BY
  -- both go back into their own boxes
  go_upto_region 6 with (fail)
  have hS0 := BX.upd (S := fun _ => False) (Upd.of_below_size (Below.refl wz.heap.size wz).drew) (fun _ _ e => e)
  refine wp_region_lex (fun W => Boxes W g g' g'' (.nilFunc) #[.int .i64 0, .int .i64 0, .float .f64 0, .string ⟨#[]⟩, .slice none 0 0] 34) [0, 1] [2, 3] [0, 1, 2, 3] (by kernel_rfl) rfl (by kernel_rfl) (by kernel_rfl) (fun _ _ d _ _ h => by cases d <;> exact h) ?_
  repeat (first | (refine lexG_take _ ?_ rfl rfl rfl rfl (fun _ => ?_) ?_; rotate_left; (focus (go_simp; with_reducible rfl)); try simp only [Act.put, List.setIfInBounds_toArray, List.set_cons_zero, List.set_cons_succ]) | (refine lexG_held _ ?_ rfl rfl rfl rfl (by assumption) (fun _ hSw => ?_) ?_; rotate_left; (focus (have h1 := hSw.b2.cell 0; have h2 := hSw.b2.cell 1; have h3 := hSw.b2.cell 2; have h4 := hSw.b2.cell 3; have h5 := hSw.b2.cell 4; have h6 := hSw.b3.cell 0; clear hSw; go_simp; with_reducible rfl)); try simp only [Act.put, List.setIfInBounds_toArray, List.set_cons_zero, List.set_cons_succ]) | (refine lexG_skip _ rfl rfl (by assumption) ?_; try simp only [Act.put, List.setIfInBounds_toArray, List.set_cons_zero, List.set_cons_succ]))
  have B7 := BX.upd (S := fun _ => False) (Upd.of_below_size (Below.refl wz.heap.size wz).drew) (fun _ _ e => e)
  have U7 : Upd (fun y => g ≤ y) wz wz.drew := Upd.of_below_size (Below.refl wz.heap.size wz).drew
  generalize wz.drew = w7 at *
  refine lexG_now _ rfl rfl rfl (fun K0 hK => ?_)
  refine wp_store_row 31 _ _ rfl g' #[.int .i64 0, .int .i64 0, .float .f64 0, .string ⟨#[]⟩, .slice none 0 0] (by simp [go_sem]) (by simp [go_sem]) 31 _ B7.b2 (by kernel_rfl) rfl (by simp [Value.oneCell']) ?_
  have n21 : g ≠ g' := by omega
  have n23 : g'' ≠ g' := by omega
  have B8 : Boxes (w7.setRow g' #[.int .i64 0, .int .i64 0, .float .f64 0, .string ⟨#[]⟩, .slice none 0 0]) g g' g'' (.nilFunc) #[.int .i64 0, .int .i64 0, .float .f64 0, .string ⟨#[]⟩, .slice none 0 0] 34 := ⟨B7.b1.farRow n21 _, B7.b2.row _, B7.b3.farRow n23 _⟩
  have U8 : Upd (fun y => g ≤ y) wz (w7.setRow g' #[.int .i64 0, .int .i64 0, .float .f64 0, .string ⟨#[]⟩, .slice none 0 0]) := U7.trans ((Upd.refl (fun y => g ≤ y) w7).setRow (fun _ => by show g ≤ g'; omega) _) (fun _ _ e => e)
  generalize w7.setRow g' #[.int .i64 0, .int .i64 0, .float .f64 0, .string ⟨#[]⟩, .slice none 0 0] = w8 at *
  refine hK _ _ _ (fun _ h => h) B8 ?_
  clear hK K0
  try simp only [Act.put, List.setIfInBounds_toArray, List.set_cons_zero, List.set_cons_succ]
  repeat (first | (refine lexG_take _ ?_ rfl rfl rfl rfl (fun _ => ?_) ?_; rotate_left; (focus (go_simp; with_reducible rfl)); try simp only [Act.put, List.setIfInBounds_toArray, List.set_cons_zero, List.set_cons_succ]) | (refine lexG_held _ ?_ rfl rfl rfl rfl (by assumption) (fun _ hSw => ?_) ?_; rotate_left; (focus (have h1 := hSw.b2.cell 0; have h2 := hSw.b2.cell 1; have h3 := hSw.b2.cell 2; have h4 := hSw.b2.cell 3; have h5 := hSw.b2.cell 4; have h6 := hSw.b3.cell 0; clear hSw; go_simp; with_reducible rfl)); try simp only [Act.put, List.setIfInBounds_toArray, List.set_cons_zero, List.set_cons_succ]) | (refine lexG_skip _ rfl rfl (by assumption) ?_; try simp only [Act.put, List.setIfInBounds_toArray, List.set_cons_zero, List.set_cons_succ]))
  have c8 := B8.b3.cell 0
  have f8 := B8.b3.frozen 0
  have B9 : Boxes (w8.setCell ⟨g'', 0, none⟩ (.int .i64 34)) g g' g'' (.nilFunc) #[.int .i64 0, .int .i64 0, .float .f64 0, .string ⟨#[]⟩, .slice none 0 0] 34 := ⟨B8.b1.far (p := ⟨g'', 0, none⟩) (by show g ≠ g''; omega) _, B8.b2.far (p := ⟨g'', 0, none⟩) (by show g' ≠ g''; omega) _, B8.b3.set_ 0 _⟩
  have U9 : Upd (fun y => g ≤ y) wz (w8.setCell ⟨g'', 0, none⟩ (.int .i64 34)) := U8.setCell (p := ⟨g'', 0, none⟩) (fun _ => by show g ≤ g''; omega) _
  refine lexG_nowF _ rfl rfl rfl (by kernel_rfl) (fun K0 hK => ?_)
  go_wp2_with fail
  try simp only [Act.put, List.setIfInBounds_toArray, List.set_cons_zero, List.set_cons_succ]
  refine lexG_nil ?_
  generalize w8.setCell ⟨g'', 0, none⟩ (.int .i64 34) = w9 at *
  go_wp2_with fail
  have c9 := B9.b3.cell 0
  have hbE : Below w.heap.size wz w9 := by rw [hg]; exact U9.below (by have := hbz.out.size; omega) (fun k hk e => by omega)
  refine bodyPost_ret (v := .tuple #[.agg #[.int .i64 0, .int .i64 0, .float .f64 0, .string ⟨#[]⟩, .slice none 0 0], .int .i64 34]) ?hr rfl ?_
  case hr => exact results_cc rfl _ _ g' g'' #[.int .i64 0, .int .i64 0, .float .f64 0, .string ⟨#[]⟩, .slice none 0 0] _ _ rfl rfl B9.b2 (by simp [loadVar, go_sem, c9]) Tryd.underlying31 rfl (by kernel_rfl)
  exact ⟨rfl, hUS.thenBelow (hbz.out.trans hbE) (Nat.le_refl _), hR.out _ _ hRR (by omega) (hbz.out.trans hbE)⟩
theorem run_nil (w : World) : Calls Tryd.prog 11 #[.nilFunc] w (Says w (.tuple #[.agg z5, .int .i64 34])) :=
  (run_nil0 (S := fun _ => False) (R := fun _ => True) rfl (fun _ h => h.elim) (fun _ _ => trivial) (fun _ _ _ _ _ => trivial)).mono (fun e w' ⟨h1, h2, _⟩ => ⟨h1, h2.below (Nat.le_refl _) (fun _ _ h => h)⟩)
end Go.Proofs.YtffpkencgbiafaaDoor
