/- guard.Run. -/
import Derived.Test.YtffpkencgbiafaaDoorGr4
import Derived.Test.YtffpkencgbiafaaDoorRegion
import Derived.Deep.CutRange
import Derived.Laws.Tables
set_option linter.unusedSimpArgs false
set_option linter.unusedVariables false
namespace Go.Proofs.YtffpkencgbiafaaDoor
open Go.RowKit
set_option maxRecDepth 100000

def RunStart (w : World) (F : Value) : World := ((w.alloc (.cells #[F] 35)).alloc (.cells #[.int .i64 0, .int .i64 0, .float .f64 0, .string ⟨#[]⟩, .slice none 0 0] 31)).alloc (.cells #[.int .i64 0] 32)
theorem runStart (w : World) (F : Value) : Boxes (RunStart w F) w.heap.size (w.heap.size + 1) (w.heap.size + 1 + 1) F z5 0 ∧ Below w.heap.size w (RunStart w F) ∧ (RunStart w F).heap.size = w.heap.size + 3 := by
  unfold RunStart z5
  have b0 := Blk.new w 35 #[F]
  have e0 : (w.alloc (.cells #[F] 35)).heap.size = w.heap.size + 1 := by simp
  have l0 := (Below.refl w.heap.size w).alloc (Nat.le_refl _) (.cells #[F] 35)
  generalize w.alloc (.cells #[F] 35) = w1 at *
  have b1 := Blk.new w1 31 #[.int .i64 0, .int .i64 0, .float .f64 0, .string ⟨#[]⟩, .slice none 0 0]
  have e1 : (w1.alloc (.cells #[.int .i64 0, .int .i64 0, .float .f64 0, .string ⟨#[]⟩, .slice none 0 0] 31)).heap.size = w.heap.size + 1 + 1 := by simp [e0]
  have c0 := b0.alloc (.cells #[.int .i64 0, .int .i64 0, .float .f64 0, .string ⟨#[]⟩, .slice none 0 0] 31)
  have l1 := l0.alloc l0.size (.cells #[.int .i64 0, .int .i64 0, .float .f64 0, .string ⟨#[]⟩, .slice none 0 0] 31)
  generalize w1.alloc (.cells #[.int .i64 0, .int .i64 0, .float .f64 0, .string ⟨#[]⟩, .slice none 0 0] 31) = w2 at *
  have b2 := Blk.new w2 32 #[.int .i64 0]
  rw [e1] at b2
  rw [e0] at b1
  exact ⟨⟨c0.alloc _, b1.alloc _, b2⟩, l1.alloc l1.size _, by simp [e1]⟩
theorem results_cc {P : Program} {fn : Func} {p q : Tmp} {ty ty2 : TypeId} (h : fn.results = #[.cell p ty, .cell q ty2]) (tmps : Array Value) (w : World) (g g2 : Nat) (cs : Array Value) (v : Value) (d : TypeDesc)
    (hp : tmps.getD p undef = .pointer (some ⟨g, 0, none⟩)) (hq : tmps.getD q undef = .pointer (some ⟨g2, 0, none⟩)) (hg : Blk w g ty cs) (hl2 : (loadVar ty2 ⟨g2, 0, none⟩).run P w = .ok v w)
    (hu : P.underlying ty = some d) (hd : (match d with | .struct _ | .array _ _ => true | _ => false) = true) (hi : (P.info? ty).map (·.size) = some cs.size) :
    (results fn tmps).run P w = .ok (.tuple #[.agg cs, v]) w := by
  have hp' : tmps[p]?.getD undef = .pointer (some ⟨g, 0, none⟩) := by simpa using hp
  have hq' : tmps[q]?.getD undef = .pointer (some ⟨g2, 0, none⟩) := by simpa using hq
  simp [results, h, hp', hq', asAddr, run_loadVar_row w g ty ty cs (0, 0) d hg hu hd hi, hl2]

theorem below_then' {w w1 w2 : World} (hb : Below w1.heap.size w1 w2) (h : Below w.heap.size w w1) (hs : w.heap.size ≤ w1.heap.size) : Below w.heap.size w w2 := h.trans (hb.mono hs)
theorem hb' {B : Nat} {w2 w3 : World} (hb : Below B w2 w3) (hs : B ≤ w2.heap.size) : Upd (fun y => B ≤ y) w2 w3 := Upd.of_below hb
set_option maxHeartbeats 6400000 in
theorem run_ok {f : FuncId} {cap : Array Value} {w : World} {S : Nat → Prop} {R : World → Prop} {k i : Int} {fl : Nat} {s : ByteArray} {A : Option Addr} {n c : Nat} (hent : Ent f) (hS : ∀ y, S y → y < w.heap.size)
    (h : ∀ w1, Below w.heap.size w w1 → Calls Tryd.prog f cap w1 (fun e w' => e = .returned (.tuple #[.agg (v5 k i fl s A n c), .int .i64 0]) ∧ Upd S w1 w' ∧ R w'))
    (hR : ∀ w2 w3, R w2 → w.heap.size ≤ w2.heap.size → Below w.heap.size w2 w3 → R w3) :
    Calls Tryd.prog 11 #[fv f cap] w (fun e w' => e = .returned (.tuple #[.agg (v5 k i fl s A n c), .int .i64 0]) ∧ Upd S w w' ∧ R w') := by
  have hmf : ∀ (fn : Fn) (first cap : Array Value) (w : World), (Instr.makeFunc fn first cap).run Tryd.prog w = .ok (.func fn first cap) w := fun _ _ _ _ => rfl
  obtain ⟨B3, hb3, hsz⟩ := runStart w (fv f cap)

  have hT := told_ok (f := 25) (cap := #[.pointer (some ⟨w.heap.size, 0, none⟩), .pointer (some ⟨w.heap.size + 1, 0, none⟩), .pointer (some ⟨w.heap.size + 1 + 1, 0, none⟩)]) (w := RunStart w (fv f cap)) (S := fun y => S y ∨ y = w.heap.size + 1 ∨ y = w.heap.size + 1 + 1) (R := fun w' => R w' ∧ Boxes w' w.heap.size (w.heap.size + 1) (w.heap.size + 1 + 1) (fv f cap) (v5 k i fl s A n c) 0) ent_run1
    (fun y hy => by rw [hsz]; rcases hy with e | e | e
                    · have := hS y e; omega
                    · omega
                    · omega)
    (fun w1 hb1 => (run1_ok (S := S) (R := R) hent (B3.upd (Upd.of_below_size (S := fun _ => False) hb1) (fun _ _ e => e)) (fun y hy e => by have := hS y e; omega) (h w1 (below_then' hb1 hb3 (by omega)))
      (fun w2 w3 hr hs hu => hR w2 w3 hr (by have := hb1.size; omega) (hu.below (by have := hb1.size; omega) (fun k hk e => by omega)))).mono (fun e w' ⟨q1, q2, q3, q4⟩ => ⟨q1, q2, q3, q4⟩))
    (fun w2 w3 ⟨hr, hB⟩ hs hb => ⟨hR w2 w3 hr (by omega) (hb.mono (by omega)), hB.upd (hb' hb hs) (fun y hy e => by omega)⟩)

  unfold RunStart at hT B3 hb3 hsz
  unfold fv at hT B3 hb3 hsz ⊢
  replace hT := Lib.hid hT
  replace hR := Lib.hid hR
  clear h hent
  go_enter Tryd.func11, Tryd.ntmps11
  go_wp2_with fail
  refine hT.out.mono ?_
  clear hT
  generalize ((w.alloc (.cells #[.func (.func f) #[] cap] 35)).alloc (.cells #[.int .i64 0, .int .i64 0, .float .f64 0, .string ⟨#[]⟩, .slice none 0 0] 31)).alloc (.cells #[.int .i64 0] 32) = w3 at *
  rintro e w6 ⟨rfl, hu6, hRR, BX⟩
  try dsimp only
  have hUS : Upd S w w6 := by
    refine (Upd.of_below_size hb3).trans hu6 (fun y hy e => ?_)
    rcases e with e | e | e
    · exact e
    · omega
    · omega
  have hg6 := hu6.size
  obtain ⟨g, hg⟩ : ∃ g, w.heap.size = g := ⟨_, rfl⟩
  obtain ⟨g', hg'⟩ : ∃ g, w.heap.size + 1 = g := ⟨_, rfl⟩
  obtain ⟨g'', hg''⟩ : ∃ g, w.heap.size + 1 + 1 = g := ⟨_, rfl⟩
  rw [hg''] at BX ⊢
  rw [hg'] at BX ⊢
  rw [hg] at BX ⊢
  have hgg : g < g' := by omega
  have hgg2 : g' < g'' := by omega
  have hg6l : g ≤ w6.heap.size := by omega
  clear B3 hg' hg'' hu6
  unfold v5 at BX
  have cE := BX.b3.cell 0
  -- both go back into their own boxes
  go_upto_region 6 with (fail)
  have hS0 := BX.upd (S := fun _ => False) (Upd.of_below_size (Below.refl w6.heap.size w6).drew) (fun _ _ e => e)
  refine wp_region_lex (fun W => Boxes W g g' g'' (.func (.func f) #[] cap) #[.int .i64 k, .int .i64 i, .float .f64 fl, .string s, .slice A n c] 0) [0, 1] [2, 3] [0, 1, 2, 3] (by kernel_rfl) rfl (by kernel_rfl) (by kernel_rfl) (fun _ _ d _ _ h => by cases d <;> exact h) ?_
  repeat (first | (refine lexG_take _ ?_ rfl rfl rfl rfl (fun _ => ?_) ?_; rotate_left; (focus (go_simp; with_reducible rfl)); try simp only [Act.put, List.setIfInBounds_toArray, List.set_cons_zero, List.set_cons_succ]) | (refine lexG_held _ ?_ rfl rfl rfl rfl (by assumption) (fun _ hSw => ?_) ?_; rotate_left; (focus (have h1 := hSw.b2.cell 0; have h2 := hSw.b2.cell 1; have h3 := hSw.b2.cell 2; have h4 := hSw.b2.cell 3; have h5 := hSw.b2.cell 4; have h6 := hSw.b3.cell 0; clear hSw; go_simp; with_reducible rfl)); try simp only [Act.put, List.setIfInBounds_toArray, List.set_cons_zero, List.set_cons_succ]) | (refine lexG_skip _ rfl rfl (by assumption) ?_; try simp only [Act.put, List.setIfInBounds_toArray, List.set_cons_zero, List.set_cons_succ]))
  have B7 := BX.upd (S := fun _ => False) (Upd.of_below_size (Below.refl w6.heap.size w6).drew) (fun _ _ e => e)
  have U7 : Upd (fun y => g ≤ y) w6 w6.drew := Upd.of_below_size (Below.refl w6.heap.size w6).drew
  generalize w6.drew = w7 at *
  refine lexG_now _ rfl rfl rfl (fun K0 hK => ?_)
  refine wp_store_row 31 _ _ rfl g' #[.int .i64 k, .int .i64 i, .float .f64 fl, .string s, .slice A n c] (by simp [go_sem]) (by simp [go_sem]) 31 _ B7.b2 (by kernel_rfl) rfl (by simp [Value.oneCell']) ?_
  have n21 : g ≠ g' := by omega
  have n23 : g'' ≠ g' := by omega
  have B8 : Boxes (w7.setRow g' #[.int .i64 k, .int .i64 i, .float .f64 fl, .string s, .slice A n c]) g g' g'' (.func (.func f) #[] cap) #[.int .i64 k, .int .i64 i, .float .f64 fl, .string s, .slice A n c] 0 := ⟨B7.b1.farRow n21 _, B7.b2.row _, B7.b3.farRow n23 _⟩
  have U8 : Upd (fun y => g ≤ y) w6 (w7.setRow g' #[.int .i64 k, .int .i64 i, .float .f64 fl, .string s, .slice A n c]) := U7.trans ((Upd.refl (fun y => g ≤ y) w7).setRow (fun _ => by show g ≤ g'; omega) _) (fun _ _ e => e)
  generalize w7.setRow g' #[.int .i64 k, .int .i64 i, .float .f64 fl, .string s, .slice A n c] = w8 at *
  refine hK _ _ _ (fun _ h => h) B8 ?_
  clear hK K0
  try simp only [Act.put, List.setIfInBounds_toArray, List.set_cons_zero, List.set_cons_succ]
  repeat (first | (refine lexG_take _ ?_ rfl rfl rfl rfl (fun _ => ?_) ?_; rotate_left; (focus (go_simp; with_reducible rfl)); try simp only [Act.put, List.setIfInBounds_toArray, List.set_cons_zero, List.set_cons_succ]) | (refine lexG_held _ ?_ rfl rfl rfl rfl (by assumption) (fun _ hSw => ?_) ?_; rotate_left; (focus (have h1 := hSw.b2.cell 0; have h2 := hSw.b2.cell 1; have h3 := hSw.b2.cell 2; have h4 := hSw.b2.cell 3; have h5 := hSw.b2.cell 4; have h6 := hSw.b3.cell 0; clear hSw; go_simp; with_reducible rfl)); try simp only [Act.put, List.setIfInBounds_toArray, List.set_cons_zero, List.set_cons_succ]) | (refine lexG_skip _ rfl rfl (by assumption) ?_; try simp only [Act.put, List.setIfInBounds_toArray, List.set_cons_zero, List.set_cons_succ]))
  have c8 := B8.b3.cell 0
  have f8 := B8.b3.frozen 0
  have B9 : Boxes (w8.setCell ⟨g'', 0, none⟩ (.int .i64 0)) g g' g'' (.func (.func f) #[] cap) #[.int .i64 k, .int .i64 i, .float .f64 fl, .string s, .slice A n c] 0 := ⟨B8.b1.far (p := ⟨g'', 0, none⟩) (by show g ≠ g''; omega) _, B8.b2.far (p := ⟨g'', 0, none⟩) (by show g' ≠ g''; omega) _, B8.b3.set_ 0 _⟩
  have U9 : Upd (fun y => g ≤ y) w6 (w8.setCell ⟨g'', 0, none⟩ (.int .i64 0)) := U8.setCell (p := ⟨g'', 0, none⟩) (fun _ => by show g ≤ g''; omega) _
  refine lexG_nowF _ rfl rfl rfl (by kernel_rfl) (fun K0 hK => ?_)
  go_wp2_with fail
  try simp only [Act.put, List.setIfInBounds_toArray, List.set_cons_zero, List.set_cons_succ]
  refine lexG_nil ?_
  generalize w8.setCell ⟨g'', 0, none⟩ (.int .i64 0) = w9 at *
  go_wp2_with fail
  have c9 := B9.b3.cell 0
  have hbE : Below w.heap.size w6 w9 := by rw [hg]; exact U9.below (by omega) (fun k hk e => by omega)
  refine bodyPost_ret (v := .tuple #[.agg #[.int .i64 k, .int .i64 i, .float .f64 fl, .string s, .slice A n c], .int .i64 0]) ?hr rfl ?_
  case hr => exact results_cc rfl _ _ g' g'' #[.int .i64 k, .int .i64 i, .float .f64 fl, .string s, .slice A n c] _ _ rfl rfl B9.b2 (by simp [loadVar, go_sem, c9]) Tryd.underlying31 rfl (by kernel_rfl)
  exact ⟨rfl, hUS.thenBelow hbE (Nat.le_refl _), hR.out _ _ hRR (by omega) hbE⟩
set_option maxHeartbeats 6400000 in
theorem run_err {f : FuncId} {cap : Array Value} {w : World} {S : Nat → Prop} {R : World → Prop} {k i : Int} {fl : Nat} {s : ByteArray} {A : Option Addr} {n c : Nat} {er : Int} (her : er ≠ 0) (hent : Ent f) (hS : ∀ y, S y → y < w.heap.size)
    (h : ∀ w1, Below w.heap.size w w1 → Calls Tryd.prog f cap w1 (fun e w' => e = .returned (.tuple #[.agg (v5 k i fl s A n c), .int .i64 er]) ∧ Upd S w1 w' ∧ R w'))
    (hR : ∀ w2 w3, R w2 → w.heap.size ≤ w2.heap.size → Below w.heap.size w2 w3 → R w3) :
    Calls Tryd.prog 11 #[fv f cap] w (fun e w' => e = .returned (.tuple #[.agg z5, .int .i64 er]) ∧ Upd S w w' ∧ R w') := by
  have hne : (er == 0) = false := by rw [beq_eq_false_iff_ne]; exact her
  have hmf : ∀ (fn : Fn) (first cap : Array Value) (w : World), (Instr.makeFunc fn first cap).run Tryd.prog w = .ok (.func fn first cap) w := fun _ _ _ _ => rfl
  obtain ⟨B3, hb3, hsz⟩ := runStart w (fv f cap)

  have hT := told_ok (f := 25) (cap := #[.pointer (some ⟨w.heap.size, 0, none⟩), .pointer (some ⟨w.heap.size + 1, 0, none⟩), .pointer (some ⟨w.heap.size + 1 + 1, 0, none⟩)]) (w := RunStart w (fv f cap)) (S := fun y => S y ∨ y = w.heap.size + 1 ∨ y = w.heap.size + 1 + 1) (R := fun w' => R w' ∧ Boxes w' w.heap.size (w.heap.size + 1) (w.heap.size + 1 + 1) (fv f cap) (v5 k i fl s A n c) er) ent_run1
    (fun y hy => by rw [hsz]; rcases hy with e | e | e
                    · have := hS y e; omega
                    · omega
                    · omega)
    (fun w1 hb1 => (run1_ok (S := S) (R := R) hent (B3.upd (Upd.of_below_size (S := fun _ => False) hb1) (fun _ _ e => e)) (fun y hy e => by have := hS y e; omega) (h w1 (below_then' hb1 hb3 (by omega)))
      (fun w2 w3 hr hs hu => hR w2 w3 hr (by have := hb1.size; omega) (hu.below (by have := hb1.size; omega) (fun k hk e => by omega)))).mono (fun e w' ⟨q1, q2, q3, q4⟩ => ⟨q1, q2, q3, q4⟩))
    (fun w2 w3 ⟨hr, hB⟩ hs hb => ⟨hR w2 w3 hr (by omega) (hb.mono (by omega)), hB.upd (hb' hb hs) (fun y hy e => by omega)⟩)

  unfold RunStart at hT B3 hb3 hsz
  unfold fv at hT B3 hb3 hsz ⊢
  replace hT := Lib.hid hT
  replace hR := Lib.hid hR
  clear h hent
  go_enter Tryd.func11, Tryd.ntmps11
  go_wp2_with fail
  refine hT.out.mono ?_
  clear hT
  generalize ((w.alloc (.cells #[.func (.func f) #[] cap] 35)).alloc (.cells #[.int .i64 0, .int .i64 0, .float .f64 0, .string ⟨#[]⟩, .slice none 0 0] 31)).alloc (.cells #[.int .i64 0] 32) = w3 at *
  rintro e w6 ⟨rfl, hu6, hRR, BX⟩
  try dsimp only
  have hUS : Upd S w w6 := by
    refine (Upd.of_below_size hb3).trans hu6 (fun y hy e => ?_)
    rcases e with e | e | e
    · exact e
    · omega
    · omega
  have hg6 := hu6.size
  obtain ⟨g, hg⟩ : ∃ g, w.heap.size = g := ⟨_, rfl⟩
  obtain ⟨g', hg'⟩ : ∃ g, w.heap.size + 1 = g := ⟨_, rfl⟩
  obtain ⟨g'', hg''⟩ : ∃ g, w.heap.size + 1 + 1 = g := ⟨_, rfl⟩
  rw [hg''] at BX ⊢
  rw [hg'] at BX ⊢
  rw [hg] at BX ⊢
  have hgg : g < g' := by omega
  have hgg2 : g' < g'' := by omega
  have hg6l : g ≤ w6.heap.size := by omega
  clear B3 hg' hg'' hu6
  unfold v5 at BX
  have U0 : Upd (fun y => g ≤ y) w6 w6 := Upd.refl _ _
  have x2 := BX.b2
  have BY : Boxes (w6.setRow g' #[.int .i64 0, .int .i64 0, .float .f64 0, .string ⟨#[]⟩, .slice none 0 0]) g g' g'' (.func (.func f) #[] cap) #[.int .i64 0, .int .i64 0, .float .f64 0, .string ⟨#[]⟩, .slice none 0 0] er := ⟨BX.b1.farRow (by omega) _, BX.b2.row _, BX.b3.farRow (by omega) _⟩
  have hbz : Below w.heap.size w6 (w6.setRow g' #[.int .i64 0, .int .i64 0, .float .f64 0, .string ⟨#[]⟩, .slice none 0 0]) := by rw [hg]; exact (U0.setRow (g := g') (fun _ => by show g ≤ g'; omega) _).below (by omega) (fun k hk e => by omega)
  have cE := BX.b3.cell 0
  have cY := BY.b3.cell 0
  obtain ⟨wz, hwz⟩ : ∃ wz, wz = w6.setRow g' #[.int .i64 0, .int .i64 0, .float .f64 0, .string ⟨#[]⟩, .slice none 0 0] := ⟨_, rfl⟩
  rw [← hwz] at BY hbz cY
  replace hbz := Lib.hid hbz
  replace hwz := Lib.hid hwz
  clear BX U0
  go_upto_region 6 with (refine store_row_gen rfl 31 _ _ rfl g' #[.int .i64 0, .int .i64 0, .float .f64 0, .string ⟨#[]⟩, .slice none 0 0] rfl rfl 31 _ x2 (by kernel_rfl) rfl (by simp [Value.oneCell']) (fun w7 hw7 => ?_); rw [hw7, ← hwz.out]; clear hw7 x2)
  try dsimp only [Act.put]
  have BX := BY
  -- both go back into their own boxes
  go_upto_region 6 with (fail)
  have hS0 := BX.upd (S := fun _ => False) (Upd.of_below_size (Below.refl wz.heap.size wz).drew) (fun _ _ e => e)
  refine wp_region_lex (fun W => Boxes W g g' g'' (.func (.func f) #[] cap) #[.int .i64 0, .int .i64 0, .float .f64 0, .string ⟨#[]⟩, .slice none 0 0] er) [0, 1] [2, 3] [0, 1, 2, 3] (by kernel_rfl) rfl (by kernel_rfl) (by kernel_rfl) (fun _ _ d _ _ h => by cases d <;> exact h) ?_
  repeat (first | (refine lexG_take _ ?_ rfl rfl rfl rfl (fun _ => ?_) ?_; rotate_left; (focus (go_simp; with_reducible rfl)); try simp only [Act.put, List.setIfInBounds_toArray, List.set_cons_zero, List.set_cons_succ]) | (refine lexG_held _ ?_ rfl rfl rfl rfl (by assumption) (fun _ hSw => ?_) ?_; rotate_left; (focus (have h1 := hSw.b2.cell 0; have h2 := hSw.b2.cell 1; have h3 := hSw.b2.cell 2; have h4 := hSw.b2.cell 3; have h5 := hSw.b2.cell 4; have h6 := hSw.b3.cell 0; clear hSw; go_simp; with_reducible rfl)); try simp only [Act.put, List.setIfInBounds_toArray, List.set_cons_zero, List.set_cons_succ]) | (refine lexG_skip _ rfl rfl (by assumption) ?_; try simp only [Act.put, List.setIfInBounds_toArray, List.set_cons_zero, List.set_cons_succ]))
  have B7 := BX.upd (S := fun _ => False) (Upd.of_below_size (Below.refl wz.heap.size wz).drew) (fun _ _ e => e)
  have U7 : Upd (fun y => g ≤ y) wz wz.drew := Upd.of_below_size (Below.refl wz.heap.size wz).drew
  generalize wz.drew = w7 at *
  refine lexG_now _ rfl rfl rfl (fun K0 hK => ?_)
  refine wp_store_row 31 _ _ rfl g' #[.int .i64 0, .int .i64 0, .float .f64 0, .string ⟨#[]⟩, .slice none 0 0] (by simp [go_sem]) (by simp [go_sem]) 31 _ B7.b2 (by kernel_rfl) rfl (by simp [Value.oneCell']) ?_
  have n21 : g ≠ g' := by omega
  have n23 : g'' ≠ g' := by omega
  have B8 : Boxes (w7.setRow g' #[.int .i64 0, .int .i64 0, .float .f64 0, .string ⟨#[]⟩, .slice none 0 0]) g g' g'' (.func (.func f) #[] cap) #[.int .i64 0, .int .i64 0, .float .f64 0, .string ⟨#[]⟩, .slice none 0 0] er := ⟨B7.b1.farRow n21 _, B7.b2.row _, B7.b3.farRow n23 _⟩
  have U8 : Upd (fun y => g ≤ y) wz (w7.setRow g' #[.int .i64 0, .int .i64 0, .float .f64 0, .string ⟨#[]⟩, .slice none 0 0]) := U7.trans ((Upd.refl (fun y => g ≤ y) w7).setRow (fun _ => by show g ≤ g'; omega) _) (fun _ _ e => e)
  generalize w7.setRow g' #[.int .i64 0, .int .i64 0, .float .f64 0, .string ⟨#[]⟩, .slice none 0 0] = w8 at *
  refine hK _ _ _ (fun _ h => h) B8 ?_
  clear hK K0
  try simp only [Act.put, List.setIfInBounds_toArray, List.set_cons_zero, List.set_cons_succ]
  repeat (first | (refine lexG_take _ ?_ rfl rfl rfl rfl (fun _ => ?_) ?_; rotate_left; (focus (go_simp; with_reducible rfl)); try simp only [Act.put, List.setIfInBounds_toArray, List.set_cons_zero, List.set_cons_succ]) | (refine lexG_held _ ?_ rfl rfl rfl rfl (by assumption) (fun _ hSw => ?_) ?_; rotate_left; (focus (have h1 := hSw.b2.cell 0; have h2 := hSw.b2.cell 1; have h3 := hSw.b2.cell 2; have h4 := hSw.b2.cell 3; have h5 := hSw.b2.cell 4; have h6 := hSw.b3.cell 0; clear hSw; go_simp; with_reducible rfl)); try simp only [Act.put, List.setIfInBounds_toArray, List.set_cons_zero, List.set_cons_succ]) | (refine lexG_skip _ rfl rfl (by assumption) ?_; try simp only [Act.put, List.setIfInBounds_toArray, List.set_cons_zero, List.set_cons_succ]))
  have c8 := B8.b3.cell 0
  have f8 := B8.b3.frozen 0
  have B9 : Boxes (w8.setCell ⟨g'', 0, none⟩ (.int .i64 er)) g g' g'' (.func (.func f) #[] cap) #[.int .i64 0, .int .i64 0, .float .f64 0, .string ⟨#[]⟩, .slice none 0 0] er := ⟨B8.b1.far (p := ⟨g'', 0, none⟩) (by show g ≠ g''; omega) _, B8.b2.far (p := ⟨g'', 0, none⟩) (by show g' ≠ g''; omega) _, B8.b3.set_ 0 _⟩
  have U9 : Upd (fun y => g ≤ y) wz (w8.setCell ⟨g'', 0, none⟩ (.int .i64 er)) := U8.setCell (p := ⟨g'', 0, none⟩) (fun _ => by show g ≤ g''; omega) _
  refine lexG_nowF _ rfl rfl rfl (by kernel_rfl) (fun K0 hK => ?_)
  go_wp2_with fail
  try simp only [Act.put, List.setIfInBounds_toArray, List.set_cons_zero, List.set_cons_succ]
  refine lexG_nil ?_
  generalize w8.setCell ⟨g'', 0, none⟩ (.int .i64 er) = w9 at *
  go_wp2_with fail
  have c9 := B9.b3.cell 0
  have hbE : Below w.heap.size wz w9 := by rw [hg]; exact U9.below (by have := hbz.out.size; omega) (fun k hk e => by omega)
  refine bodyPost_ret (v := .tuple #[.agg #[.int .i64 0, .int .i64 0, .float .f64 0, .string ⟨#[]⟩, .slice none 0 0], .int .i64 er]) ?hr rfl ?_
  case hr => exact results_cc rfl _ _ g' g'' #[.int .i64 0, .int .i64 0, .float .f64 0, .string ⟨#[]⟩, .slice none 0 0] _ _ rfl rfl B9.b2 (by simp [loadVar, go_sem, c9]) Tryd.underlying31 rfl (by kernel_rfl)
  exact ⟨rfl, hUS.thenBelow (hbz.out.trans hbE) (Nat.le_refl _), hR.out _ _ hRR (by omega) (hbz.out.trans hbE)⟩
set_option maxHeartbeats 6400000 in
theorem run_pan {f : FuncId} {cap : Array Value} {w : World} {S : Nat → Prop} {R : World → Prop} {b : Bool} (hent : Ent f) (hS : ∀ y, S y → y < w.heap.size)
    (h : ∀ w1, Below w.heap.size w w1 → Calls Tryd.prog f cap w1 (fun e w' => (∃ v, PanV b v ∧ e = pan v) ∧ Upd S w1 w' ∧ R w'))
    (hR : ∀ w2 w3, R w2 → w.heap.size ≤ w2.heap.size → Below w.heap.size w2 w3 → R w3) :
    Calls Tryd.prog 11 #[fv f cap] w (fun e w' => e = .returned (.tuple #[.agg z5, .int .i64 34]) ∧ Upd S w w' ∧ R w') := by
  have hmf : ∀ (fn : Fn) (first cap : Array Value) (w : World), (Instr.makeFunc fn first cap).run Tryd.prog w = .ok (.func fn first cap) w := fun _ _ _ _ => rfl
  obtain ⟨B3, hb3, hsz⟩ := runStart w (fv f cap)

  have hT := told_pan (f := 25) (cap := #[.pointer (some ⟨w.heap.size, 0, none⟩), .pointer (some ⟨w.heap.size + 1, 0, none⟩), .pointer (some ⟨w.heap.size + 1 + 1, 0, none⟩)]) (w := RunStart w (fv f cap)) (S := fun y => S y ∨ y = w.heap.size + 1 ∨ y = w.heap.size + 1 + 1) (R := fun w' => R w' ∧ Boxes w' w.heap.size (w.heap.size + 1) (w.heap.size + 1 + 1) (fv f cap) z5 0) (b := b) ent_run1
    (fun y hy => by rw [hsz]; rcases hy with e | e | e
                    · have := hS y e; omega
                    · omega
                    · omega)
    (fun w1 hb1 => (run1_pan (S := S) (R := R) hent (B3.upd (Upd.of_below_size (S := fun _ => False) hb1) (fun _ _ e => e)) (h w1 (below_then' hb1 hb3 (by omega)))).mono (fun e w' ⟨q1, q2, q3⟩ => ⟨q1, q2.mono (fun _ _ e => .inl e), q3, (B3.upd (Upd.of_below_size (S := fun _ => False) hb1) (fun _ _ e => e)).upd q2 (fun y hy e => by have := hS y e; omega)⟩))
    (fun w2 w3 ⟨hr, hB⟩ hs hb => ⟨hR w2 w3 hr (by omega) (hb.mono (by omega)), hB.upd (hb' hb hs) (fun y hy e => by omega)⟩)

  unfold RunStart at hT B3 hb3 hsz
  unfold fv at hT B3 hb3 hsz ⊢
  replace hT := Lib.hid hT
  replace hR := Lib.hid hR
  clear h hent
  go_enter Tryd.func11, Tryd.ntmps11
  go_wp2_with fail
  refine hT.out.mono ?_
  clear hT
  generalize ((w.alloc (.cells #[.func (.func f) #[] cap] 35)).alloc (.cells #[.int .i64 0, .int .i64 0, .float .f64 0, .string ⟨#[]⟩, .slice none 0 0] 31)).alloc (.cells #[.int .i64 0] 32) = w3 at *
  rintro e w5 ⟨⟨t, -, rfl⟩, hu5, hRR, BX5⟩
  try dsimp only
  have hUS : Upd S w w5 := by
    refine (Upd.of_below_size hb3).trans hu5 (fun y hy e => ?_)
    rcases e with e | e | e
    · exact e
    · omega
    · omega
  have hg6 := hu5.size
  obtain ⟨g, hg⟩ : ∃ g, w.heap.size = g := ⟨_, rfl⟩
  obtain ⟨g', hg'⟩ : ∃ g, w.heap.size + 1 = g := ⟨_, rfl⟩
  obtain ⟨g'', hg''⟩ : ∃ g, w.heap.size + 1 + 1 = g := ⟨_, rfl⟩
  rw [hg''] at BX5 ⊢
  rw [hg'] at BX5 ⊢
  rw [hg] at BX5 ⊢
  have hgg : g < g' := by omega
  have hgg2 : g' < g'' := by omega
  have hg6l : g ≤ w5.heap.size := by omega
  clear B3 hg' hg'' hu5
  unfold z5 at BX5
  have q3 := BX5.b3.cell 0
  have q3f := BX5.b3.frozen 0
  have BX : Boxes (w5.setCell ⟨g'', 0, none⟩ (.int .i64 34)) g g' g'' (.func (.func f) #[] cap) #[.int .i64 0, .int .i64 0, .float .f64 0, .string ⟨#[]⟩, .slice none 0 0] 34 := ⟨BX5.b1.far (p := ⟨g'', 0, none⟩) (by show g ≠ g''; omega) _, BX5.b2.far (p := ⟨g'', 0, none⟩) (by show g' ≠ g''; omega) _, BX5.b3.set_ 0 _⟩
  have U0 : Upd (fun y => g ≤ y) w5 (w5.setCell ⟨g'', 0, none⟩ (.int .i64 34)) := (Upd.refl (fun y => g ≤ y) w5).setCell (p := ⟨g'', 0, none⟩) (fun _ => by show g ≤ g''; omega) _
  have x2 := BX.b2
  have BY : Boxes ((w5.setCell ⟨g'', 0, none⟩ (.int .i64 34)).setRow g' #[.int .i64 0, .int .i64 0, .float .f64 0, .string ⟨#[]⟩, .slice none 0 0]) g g' g'' (.func (.func f) #[] cap) #[.int .i64 0, .int .i64 0, .float .f64 0, .string ⟨#[]⟩, .slice none 0 0] 34 := ⟨BX.b1.farRow (by omega) _, BX.b2.row _, BX.b3.farRow (by omega) _⟩
  have hbz : Below w.heap.size w5 ((w5.setCell ⟨g'', 0, none⟩ (.int .i64 34)).setRow g' #[.int .i64 0, .int .i64 0, .float .f64 0, .string ⟨#[]⟩, .slice none 0 0]) := by rw [hg]; exact (U0.setRow (g := g') (fun _ => by show g ≤ g'; omega) _).below (by omega) (fun k hk e => by omega)
  have cE := BX.b3.cell 0
  have cY := BY.b3.cell 0
  obtain ⟨wz, hwz⟩ : ∃ wz, wz = (w5.setCell ⟨g'', 0, none⟩ (.int .i64 34)).setRow g' #[.int .i64 0, .int .i64 0, .float .f64 0, .string ⟨#[]⟩, .slice none 0 0] := ⟨_, rfl⟩
  rw [← hwz] at BY hbz cY
  replace hbz := Lib.hid hbz
  replace hwz := Lib.hid hwz
  clear BX U0
  go_upto_region 6 with (refine store_row_gen rfl 31 _ _ rfl g' #[.int .i64 0, .int .i64 0, .float .f64 0, .string ⟨#[]⟩, .slice none 0 0] rfl rfl 31 _ x2 (by kernel_rfl) rfl (by simp [Value.oneCell']) (fun w7 hw7 => ?_); rw [hw7, ← hwz.out]; clear hw7 x2)
  try dsimp only [Act.put]
  have BX := BY
  -- both go back into their own boxes
  go_upto_region 6 with (fail)
  have hS0 := BX.upd (S := fun _ => False) (Upd.of_below_size (Below.refl wz.heap.size wz).drew) (fun _ _ e => e)
  refine wp_region_lex (fun W => Boxes W g g' g'' (.func (.func f) #[] cap) #[.int .i64 0, .int .i64 0, .float .f64 0, .string ⟨#[]⟩, .slice none 0 0] 34) [0, 1] [2, 3] [0, 1, 2, 3] (by kernel_rfl) rfl (by kernel_rfl) (by kernel_rfl) (fun _ _ d _ _ h => by cases d <;> exact h) ?_
  repeat (first | (refine lexG_take _ ?_ rfl rfl rfl rfl (fun _ => ?_) ?_; rotate_left; (focus (go_simp; with_reducible rfl)); try simp only [Act.put, List.setIfInBounds_toArray, List.set_cons_zero, List.set_cons_succ]) | (refine lexG_held _ ?_ rfl rfl rfl rfl (by assumption) (fun _ hSw => ?_) ?_; rotate_left; (focus (have h1 := hSw.b2.cell 0; have h2 := hSw.b2.cell 1; have h3 := hSw.b2.cell 2; have h4 := hSw.b2.cell 3; have h5 := hSw.b2.cell 4; have h6 := hSw.b3.cell 0; clear hSw; go_simp; with_reducible rfl)); try simp only [Act.put, List.setIfInBounds_toArray, List.set_cons_zero, List.set_cons_succ]) | (refine lexG_skip _ rfl rfl (by assumption) ?_; try simp only [Act.put, List.setIfInBounds_toArray, List.set_cons_zero, List.set_cons_succ]))
  have B7 := BX.upd (S := fun _ => False) (Upd.of_below_size (Below.refl wz.heap.size wz).drew) (fun _ _ e => e)
  have U7 : Upd (fun y => g ≤ y) wz wz.drew := Upd.of_below_size (Below.refl wz.heap.size wz).drew
  generalize wz.drew = w7 at *
  refine lexG_now _ rfl rfl rfl (fun K0 hK => ?_)
  refine wp_store_row 31 _ _ rfl g' #[.int .i64 0, .int .i64 0, .float .f64 0, .string ⟨#[]⟩, .slice none 0 0] (by simp [go_sem]) (by simp [go_sem]) 31 _ B7.b2 (by kernel_rfl) rfl (by simp [Value.oneCell']) ?_
  have n21 : g ≠ g' := by omega
  have n23 : g'' ≠ g' := by omega
  have B8 : Boxes (w7.setRow g' #[.int .i64 0, .int .i64 0, .float .f64 0, .string ⟨#[]⟩, .slice none 0 0]) g g' g'' (.func (.func f) #[] cap) #[.int .i64 0, .int .i64 0, .float .f64 0, .string ⟨#[]⟩, .slice none 0 0] 34 := ⟨B7.b1.farRow n21 _, B7.b2.row _, B7.b3.farRow n23 _⟩
  have U8 : Upd (fun y => g ≤ y) wz (w7.setRow g' #[.int .i64 0, .int .i64 0, .float .f64 0, .string ⟨#[]⟩, .slice none 0 0]) := U7.trans ((Upd.refl (fun y => g ≤ y) w7).setRow (fun _ => by show g ≤ g'; omega) _) (fun _ _ e => e)
  generalize w7.setRow g' #[.int .i64 0, .int .i64 0, .float .f64 0, .string ⟨#[]⟩, .slice none 0 0] = w8 at *
  refine hK _ _ _ (fun _ h => h) B8 ?_
  clear hK K0
  try simp only [Act.put, List.setIfInBounds_toArray, List.set_cons_zero, List.set_cons_succ]
  repeat (first | (refine lexG_take _ ?_ rfl rfl rfl rfl (fun _ => ?_) ?_; rotate_left; (focus (go_simp; with_reducible rfl)); try simp only [Act.put, List.setIfInBounds_toArray, List.set_cons_zero, List.set_cons_succ]) | (refine lexG_held _ ?_ rfl rfl rfl rfl (by assumption) (fun _ hSw => ?_) ?_; rotate_left; (focus (have h1 := hSw.b2.cell 0; have h2 := hSw.b2.cell 1; have h3 := hSw.b2.cell 2; have h4 := hSw.b2.cell 3; have h5 := hSw.b2.cell 4; have h6 := hSw.b3.cell 0; clear hSw; go_simp; with_reducible rfl)); try simp only [Act.put, List.setIfInBounds_toArray, List.set_cons_zero, List.set_cons_succ]) | (refine lexG_skip _ rfl rfl (by assumption) ?_; try simp only [Act.put, List.setIfInBounds_toArray, List.set_cons_zero, List.set_cons_succ]))
  have c8 := B8.b3.cell 0
  have f8 := B8.b3.frozen 0
  have B9 : Boxes (w8.setCell ⟨g'', 0, none⟩ (.int .i64 34)) g g' g'' (.func (.func f) #[] cap) #[.int .i64 0, .int .i64 0, .float .f64 0, .string ⟨#[]⟩, .slice none 0 0] 34 := ⟨B8.b1.far (p := ⟨g'', 0, none⟩) (by show g ≠ g''; omega) _, B8.b2.far (p := ⟨g'', 0, none⟩) (by show g' ≠ g''; omega) _, B8.b3.set_ 0 _⟩
  have U9 : Upd (fun y => g ≤ y) wz (w8.setCell ⟨g'', 0, none⟩ (.int .i64 34)) := U8.setCell (p := ⟨g'', 0, none⟩) (fun _ => by show g ≤ g''; omega) _
  refine lexG_nowF _ rfl rfl rfl (by kernel_rfl) (fun K0 hK => ?_)
  go_wp2_with fail
  try simp only [Act.put, List.setIfInBounds_toArray, List.set_cons_zero, List.set_cons_succ]
  refine lexG_nil ?_
  generalize w8.setCell ⟨g'', 0, none⟩ (.int .i64 34) = w9 at *
  go_wp2_with fail
  have c9 := B9.b3.cell 0
  have hbE : Below w.heap.size wz w9 := by rw [hg]; exact U9.below (by have := hbz.out.size; omega) (fun k hk e => by omega)
  refine bodyPost_ret (v := .tuple #[.agg #[.int .i64 0, .int .i64 0, .float .f64 0, .string ⟨#[]⟩, .slice none 0 0], .int .i64 34]) ?hr rfl ?_
  case hr => exact results_cc rfl _ _ g' g'' #[.int .i64 0, .int .i64 0, .float .f64 0, .string ⟨#[]⟩, .slice none 0 0] _ _ rfl rfl B9.b2 (by simp [loadVar, go_sem, c9]) Tryd.underlying31 rfl (by kernel_rfl)
  exact ⟨rfl, hUS.thenBelow (hbz.out.trans hbE) (Nat.le_refl _), hR.out _ _ hRR (by omega) (hbz.out.trans hbE)⟩
end Go.Proofs.YtffpkencgbiafaaDoor
