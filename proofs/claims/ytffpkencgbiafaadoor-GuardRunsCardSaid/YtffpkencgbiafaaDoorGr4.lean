/- guard.Run's closure. -/
import Derived.Test.YtffpkencgbiafaaDoorGr3
set_option linter.unusedSimpArgs false
set_option linter.unusedVariables false
namespace Go.Proofs.YtffpkencgbiafaaDoor
open Go.RowKit
set_option maxRecDepth 100000

def v5 (k i : Int) (fl : Nat) (s : ByteArray) (A : Option Addr) (n c : Nat) : Array Value := #[.int .i64 k, .int .i64 i, .float .f64 fl, .string s, .slice A n c]
def z5 : Array Value := #[.int .i64 0, .int .i64 0, .float .f64 0, .string ⟨#[]⟩, .slice none 0 0]
structure Boxes (w : World) (g1 g2 g3 : Nat) (F : Value) (cs : Array Value) (er : Int) : Prop where
  b1 : Blk w g1 35 #[F]
  b2 : Blk w g2 31 cs
  b3 : Blk w g3 32 #[.int .i64 er]
theorem Boxes.upd {w w' : World} {g1 g2 g3 : Nat} {F : Value} {cs : Array Value} {er : Int} {S : Nat → Prop} (h : Boxes w g1 g2 g3 F cs er) (hu : Upd S w w') (hS : ∀ y, y = g1 ∨ y = g2 ∨ y = g3 → ¬ S y) : Boxes w' g1 g2 g3 F cs er :=
  ⟨h.b1.upd hu (hS _ (.inl rfl)), h.b2.upd hu (hS _ (.inr (.inl rfl))), h.b3.upd hu (hS _ (.inr (.inr rfl)))⟩
theorem ent_run1 : Ent 25 := fun args w => by kernel_rfl
set_option maxHeartbeats 1600000 in
theorem run1_pan {f : FuncId} {cap : Array Value} {w : World} {S : Nat → Prop} {R : World → Prop} {b : Bool} {g1 g2 g3 : Nat} (hent : Ent f) (hb : Boxes w g1 g2 g3 (fv f cap) z5 0)
    (h : Calls Tryd.prog f cap w (fun e w' => (∃ v, PanV b v ∧ e = pan v) ∧ Upd S w w' ∧ R w')) :
    Calls Tryd.prog 25 #[.pointer (some ⟨g1, 0, none⟩), .pointer (some ⟨g2, 0, none⟩), .pointer (some ⟨g3, 0, none⟩)] w (fun e w' => (∃ v, PanV b v ∧ e = pan v) ∧ Upd S w w' ∧ R w') := by
  have k1 := hb.b1.cell 0
  unfold fv at k1
  have he : ∀ w, Sem.run Tryd.prog (callFunc f cap) w = .ok (.enter f cap) w := fun w => hent cap w
  replace h := Lib.hid h
  go_enter Tryd.func25, Tryd.ntmps25
  go_wp2_with fail
  refine h.out.mono ?_
  rintro e w5 ⟨⟨v, hv, rfl⟩, hu, hr⟩
  unfold pan
  try dsimp only
  go_wp2_with fail
  exact ⟨rfl, ⟨v, hv, rfl⟩, hu, hr⟩
set_option maxHeartbeats 1600000 in
theorem run1_ok {f : FuncId} {cap : Array Value} {w : World} {S : Nat → Prop} {R : World → Prop} {g1 g2 g3 : Nat} {k i : Int} {fl : Nat} {s : ByteArray} {A : Option Addr} {n c : Nat} {er : Int} (hent : Ent f) (hb : Boxes w g1 g2 g3 (fv f cap) z5 0) (hS : ∀ y, y = g1 ∨ y = g2 ∨ y = g3 → ¬ S y)
    (h : Calls Tryd.prog f cap w (fun e w' => e = .returned (.tuple #[.agg (v5 k i fl s A n c), .int .i64 er]) ∧ Upd S w w' ∧ R w'))
    (hR : ∀ w2 w3, R w2 → w.heap.size ≤ w2.heap.size → Upd (fun y => y = g2 ∨ y = g3) w2 w3 → R w3) :
    Calls Tryd.prog 25 #[.pointer (some ⟨g1, 0, none⟩), .pointer (some ⟨g2, 0, none⟩), .pointer (some ⟨g3, 0, none⟩)] w (fun e w' => e = .returned (.tuple #[]) ∧ Upd (fun y => S y ∨ y = g2 ∨ y = g3) w w' ∧ R w' ∧ Boxes w' g1 g2 g3 (fv f cap) (v5 k i fl s A n c) er) := by
  have k1 := hb.b1.cell 0
  have hb0 := hb
  unfold fv at k1
  have he : ∀ w, Sem.run Tryd.prog (callFunc f cap) w = .ok (.enter f cap) w := fun w => hent cap w
  unfold v5 at h ⊢
  replace h := Lib.hid h
  replace hR := Lib.hid hR
  go_enter Tryd.func25, Tryd.ntmps25
  go_wp2_with fail
  refine h.out.mono ?_
  rintro e w5 ⟨rfl, hu, hr⟩
  try dsimp only
  have B5 := hb0.upd hu hS
  have n12 : g1 ≠ g2 := B5.b1.ne_ B5.b2 (by decide)
  have n13 : g1 ≠ g3 := B5.b1.ne_ B5.b3 (by decide)
  have n23 : g2 ≠ g3 := B5.b2.ne_ B5.b3 (by decide)
  have x2 := B5.b2
  have e3 := (B5.b3.farRow n23.symm #[.int .i64 k, .int .i64 i, .float .f64 fl, .string s, .slice A n c])
  have c3 := e3.cell 0
  have f3 := e3.frozen 0
  have hU : Upd (fun y => y = g2 ∨ y = g3) w5 ((w5.setRow g2 #[.int .i64 k, .int .i64 i, .float .f64 fl, .string s, .slice A n c]).setCell ⟨g3, 0, none⟩ (.int .i64 er)) := ((Upd.refl (fun y => y = g2 ∨ y = g3) w5).setRow (fun _ => .inl rfl) _).setCell (p := ⟨g3, 0, none⟩) (fun _ => .inr rfl) _
  have hend : Upd (fun y => S y ∨ y = g2 ∨ y = g3) w ((w5.setRow g2 #[.int .i64 k, .int .i64 i, .float .f64 fl, .string s, .slice A n c]).setCell ⟨g3, 0, none⟩ (.int .i64 er)) ∧ R ((w5.setRow g2 #[.int .i64 k, .int .i64 i, .float .f64 fl, .string s, .slice A n c]).setCell ⟨g3, 0, none⟩ (.int .i64 er)) ∧ Boxes ((w5.setRow g2 #[.int .i64 k, .int .i64 i, .float .f64 fl, .string s, .slice A n c]).setCell ⟨g3, 0, none⟩ (.int .i64 er)) g1 g2 g3 (fv f cap) #[.int .i64 k, .int .i64 i, .float .f64 fl, .string s, .slice A n c] er :=
    ⟨(hu.mono (fun _ _ e => .inl e)).trans hU (fun _ _ e => .inr e), hR.out _ _ hr hu.size hU, ⟨B5.b1.upd hU (fun e => e.elim n12 n13), (B5.b2.row _).far (p := ⟨g3, 0, none⟩) n23 _, e3.set_ 0 _⟩⟩
  replace hend := Lib.hid hend
  clear hb hb0 hU B5 e3
  unfold z5 at x2
  go_wp2_with (refine store_row_gen rfl 31 _ _ rfl g2 #[.int .i64 k, .int .i64 i, .float .f64 fl, .string s, .slice A n c] rfl rfl 31 _ x2 (by kernel_rfl) rfl (by simp [Value.oneCell']) (fun w6 hw6 => ?_); rw [← hw6] at hend c3 f3; clear hw6 x2)
  (try simp only [Exit.inBlock, Exit.then])
  refine bodyPost_end (results_none rfl _ _ _) rfl ?_
  exact ⟨rfl, hend.out.1, hend.out.2.1, hend.out.2.2⟩
end Go.Proofs.YtffpkencgbiafaaDoor
