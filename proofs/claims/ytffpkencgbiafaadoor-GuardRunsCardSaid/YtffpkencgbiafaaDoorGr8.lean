/- The chapter's 'told': a closure that tells. -/
import Derived.Test.YtffpkencgbiafaaDoorGr7
set_option linter.unusedSimpArgs false
set_option linter.unusedVariables false
namespace Go.Proofs.YtffpkencgbiafaaDoor
open Go.RowKit
set_option maxRecDepth 100000

theorem results_ct {P : Program} {fn : Func} {p u : Tmp} {ty : TypeId} (h : fn.results = #[.cell p ty, .tmp u]) (tmps : Array Value) (w : World) (g : Nat) (t : TypeId) (cs : Array Value) (fr : Nat × Nat) (d : TypeDesc) (v : Value)
    (hp : tmps.getD p undef = .pointer (some ⟨g, 0, none⟩)) (hv : tmps.getD u undef = v) (hg : w.heap[g]? = some (.cells cs t fr))
    (hu : P.underlying ty = some d) (hd : (match d with | .struct _ | .array _ _ => true | _ => false) = true) (hi : (P.info? ty).map (·.size) = some cs.size) :
    (results fn tmps).run P w = .ok (.tuple #[.agg cs, v]) w := by
  have hp' : tmps[p]?.getD undef = .pointer (some ⟨g, 0, none⟩) := by simpa using hp
  have hv' : tmps[u]?.getD undef = v := by simpa using hv
  simp [results, h, hp', hv', asAddr, run_loadVar_row w g t ty cs fr d hg hu hd hi]
structure Bx2 (w : World) (p q : Nat) (cs : Array Value) (e : Int) : Prop where
  b1 : Blk w p 31 cs
  b2 : Blk w q 3 #[.int .i64 e]
theorem Bx2.below {w w' : World} {p q : Nat} {cs : Array Value} {e : Int} (h : Bx2 w p q cs e) {B : Nat} (hb : Below B w w') (hp : p < B) (hq : q < B) : Bx2 w' p q cs e := ⟨h.b1.below hb hp, h.b2.below hb hq⟩
theorem told_mk (k i : Int) (fl : Nat) (s : ByteArray) (A : Option Addr) (n c : Nat) (er : Int) (w : World) : Calls Tryd.prog 16 #[.agg (v5 k i fl s A n c), .int .i64 er] w (fun e w' => ∃ p q, e = .returned (fv 29 #[ptr p, ptr q]) ∧ Bx2 w' p q (v5 k i fl s A n c) er ∧ Below w.heap.size w w' ∧ w.heap.size ≤ p ∧ w.heap.size ≤ q) := by
  have hmf : ∀ (fn : Fn) (first cap : Array Value) (w : World), (Instr.makeFunc fn first cap).run Tryd.prog w = .ok (.func fn first cap) w := fun _ _ _ _ => rfl
  unfold v5
  have b0 := Blk.new w 31 #[.int .i64 k, .int .i64 i, .float .f64 fl, .string s, .slice A n c]
  have e0 : (w.alloc (.cells #[.int .i64 k, .int .i64 i, .float .f64 fl, .string s, .slice A n c] 31)).heap.size = w.heap.size + 1 := by simp
  have l0 := (Below.refl w.heap.size w).alloc (Nat.le_refl _) (.cells #[.int .i64 k, .int .i64 i, .float .f64 fl, .string s, .slice A n c] 31)
  have b1 := Blk.new (w.alloc (.cells #[.int .i64 k, .int .i64 i, .float .f64 fl, .string s, .slice A n c] 31)) 3 #[.int .i64 er]
  have l1 := l0.alloc l0.size (.cells #[.int .i64 er] 3)
  have c0 := b0.alloc (.cells #[.int .i64 er] 3)
  rw [e0] at b1
  clear b0 l0 e0
  go_enter Tryd.func16, Tryd.ntmps16
  go_wp2_with fail
  go_ret
  exact ⟨_, _, rfl, ⟨c0, b1⟩, l1, by omega, by omega⟩
theorem ent_told1 : Ent 29 := fun args w => by kernel_rfl
set_option maxHeartbeats 3200000 in
theorem told1_ok {w : World} {p q : Nat} {k i : Int} {fl : Nat} {s : ByteArray} {A : Option Addr} {n c : Nat} {er : Int} (h : Bx2 w p q (v5 k i fl s A n c) er) : Calls Tryd.prog 29 #[ptr p, ptr q] w (Says w (.tuple #[.agg (v5 k i fl s A n c), .int .i64 er])) := by
  obtain ⟨w1, hw1⟩ : ∃ q, q = w.alloc (.cells #[.int .i64 0, .int .i64 0, .float .f64 0, .string ⟨#[]⟩, .slice none 0 0] 31) := ⟨_, rfl⟩
  have hb : Below w.heap.size w w1 := by rw [hw1]; exact (Below.refl _ _).alloc (Nat.le_refl _) _
  have hz : Blk w1 w.heap.size 31 #[.int .i64 0, .int .i64 0, .float .f64 0, .string ⟨#[]⟩, .slice none 0 0] := by rw [hw1]; exact Blk.new w _ _
  have h1 := h.below hb h.b1.lt h.b2.lt
  obtain ⟨g, hg⟩ : ∃ g, w.heap.size = g := ⟨_, rfl⟩
  have hpg : p < g := by rw [← hg]; exact h.b1.lt
  have hqg : q < g := by rw [← hg]; exact h.b2.lt
  rw [hg] at hz
  unfold v5 at h1
  unfold ptr
  go_enter Tryd.func29, Tryd.ntmps29
  go_upto_region 1 with (fail)
  rw [← hw1]
  try rw [hg]
  clear hw1
  have hS0 : Bx2 w1.drew p q #[.int .i64 k, .int .i64 i, .float .f64 fl, .string s, .slice A n c] er := ⟨h1.b1.drew, h1.b2.drew⟩
  refine wp_region_lex (fun W => Bx2 W p q #[.int .i64 k, .int .i64 i, .float .f64 fl, .string s, .slice A n c] er) [0, 1] [2] [0, 1, 2, 3] (by kernel_rfl) rfl (by kernel_rfl) (by kernel_rfl) (fun _ _ d _ _ h => by cases d <;> exact h) ?_
  repeat (first | (refine lexG_take _ ?_ rfl rfl rfl rfl (fun _ => ?_) ?_; rotate_left; (focus (go_simp; with_reducible rfl)); try simp only [Act.put, List.setIfInBounds_toArray, List.set_cons_zero, List.set_cons_succ]) | (refine lexG_held _ ?_ rfl rfl rfl rfl (by assumption) (fun _ hSw => ?_) ?_; rotate_left; (focus (have h1 := hSw.b1.cell 0; have h2 := hSw.b1.cell 1; have h3 := hSw.b1.cell 2; have h4 := hSw.b1.cell 3; have h5 := hSw.b1.cell 4; have h6 := hSw.b2.cell 0; clear hSw; go_simp; with_reducible rfl)); try simp only [Act.put, List.setIfInBounds_toArray, List.set_cons_zero, List.set_cons_succ]) | (refine lexG_skip _ rfl rfl (by assumption) ?_; try simp only [Act.put, List.setIfInBounds_toArray, List.set_cons_zero, List.set_cons_succ]))
  have hbd : Below w.heap.size w w1.drew := hb.drew
  have hzd := hz.drew
  have hB2 := hS0
  generalize w1.drew = w2 at *
  have hB3 : Bx2 (w2.setRow g #[.int .i64 k, .int .i64 i, .float .f64 fl, .string s, .slice A n c]) p q #[.int .i64 k, .int .i64 i, .float .f64 fl, .string s, .slice A n c] er := ⟨hB2.b1.farRow (by omega) _, hB2.b2.farRow (by omega) _⟩
  refine lexG_now _ rfl rfl rfl (fun K0 hK => ?_)
  refine wp_store_row 31 _ _ rfl g #[.int .i64 k, .int .i64 i, .float .f64 fl, .string s, .slice A n c] (by simp [go_sem]) (by simp [go_sem]) 31 _ hzd (by kernel_rfl) rfl (by simp [Value.oneCell']) ?_
  refine hK _ _ _ (fun _ h => h) hB3 ?_
  clear hK K0
  try simp only [Act.put, List.setIfInBounds_toArray, List.set_cons_zero, List.set_cons_succ]
  repeat (first | (refine lexG_take _ ?_ rfl rfl rfl rfl (fun _ => ?_) ?_; rotate_left; (focus (go_simp; with_reducible rfl)); try simp only [Act.put, List.setIfInBounds_toArray, List.set_cons_zero, List.set_cons_succ]) | (refine lexG_held _ ?_ rfl rfl rfl rfl (by assumption) (fun _ hSw => ?_) ?_; rotate_left; (focus ((try dsimp only at hSw); go_simp; with_reducible rfl)); try simp only [Act.put, List.setIfInBounds_toArray, List.set_cons_zero, List.set_cons_succ]) | (refine lexG_skip _ rfl rfl (by assumption) ?_; try simp only [Act.put, List.setIfInBounds_toArray, List.set_cons_zero, List.set_cons_succ]))
  refine lexG_nil ?_
  have hr := hzd.row (#[.int .i64 k, .int .i64 i, .float .f64 fl, .string s, .slice A n c])
  have hbe : Below w.heap.size w (w2.setRow g #[.int .i64 k, .int .i64 i, .float .f64 fl, .string s, .slice A n c]) := hbd.trans (((Upd.refl (fun y => y = g) w2).setRow (fun _ => rfl) _).below hbd.size (fun k hk e => by omega))
  generalize w2.setRow g #[.int .i64 k, .int .i64 i, .float .f64 fl, .string s, .slice A n c] = w3 at *
  go_wp2_with fail
  refine bodyPost_ret (v := .tuple #[.agg #[.int .i64 k, .int .i64 i, .float .f64 fl, .string s, .slice A n c], .int .i64 er]) ?hr rfl ?_
  case hr => exact results_ct rfl _ _ g 31 _ (0, 0) _ _ rfl rfl hr Tryd.underlying31 rfl (by kernel_rfl)
  exact ⟨rfl, hbe⟩
theorem run_told {w : World} {p q : Nat} {k i : Int} {fl : Nat} {s : ByteArray} {A : Option Addr} {n c : Nat} {er : Int} (h : Bx2 w p q (v5 k i fl s A n c) er) : Calls Tryd.prog 11 #[fv 29 #[ptr p, ptr q]] w (Says w (.tuple #[.agg (if er = 0 then v5 k i fl s A n c else z5), .int .i64 er])) := by
  by_cases he : er = 0
  · subst he
    rw [if_pos rfl]
    exact (run_ok (S := fun _ => False) (R := fun _ => True) ent_told1 (fun _ h => h.elim) (fun w1 hb => (told1_ok (h.below hb h.b1.lt h.b2.lt)).mono (fun e w' ⟨h1, h2⟩ => ⟨h1, Upd.of_below_size h2, trivial⟩)) (fun _ _ _ _ _ => trivial)).mono (fun e w' ⟨h1, h2, _⟩ => ⟨h1, h2.below (Nat.le_refl _) (fun _ _ h => h)⟩)
  · rw [if_neg he]
    exact (run_err (S := fun _ => False) (R := fun _ => True) he ent_told1 (fun _ h => h.elim) (fun w1 hb => (told1_ok (h.below hb h.b1.lt h.b2.lt)).mono (fun e w' ⟨h1, h2⟩ => ⟨h1, Upd.of_below_size h2, trivial⟩)) (fun _ _ _ _ _ => trivial)).mono (fun e w' ⟨h1, h2, _⟩ => ⟨h1, h2.below (Nat.le_refl _) (fun _ _ h => h)⟩)
end Go.Proofs.YtffpkencgbiafaaDoor
