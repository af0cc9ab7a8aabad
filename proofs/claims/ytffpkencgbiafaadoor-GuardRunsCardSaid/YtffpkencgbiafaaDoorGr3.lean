/- guard.Told. -/
import Derived.Test.YtffpkencgbiafaaDoorGr2
set_option linter.unusedSimpArgs false
set_option linter.unusedVariables false
namespace Go.Proofs.YtffpkencgbiafaaDoor
open Go.RowKit
set_option maxRecDepth 100000

def pan (v : Value) : Ending := .panicked [{ v := v, recovered := false }]
def fv (f : FuncId) (cap : Array Value) : Value := .func (.func f) #[] cap
def Ent (f : FuncId) : Prop := ∀ (args : Array Value) (w : World), (callFunc f args).run Tryd.prog w = .ok (.enter f args) w
def ToldStart (w : World) : World := (w.alloc (.cells #[.string ⟨#[]⟩] 9)).alloc (.cells #[.bool false] 4)
theorem toldStart (w : World) : Blk (ToldStart w) w.heap.size 9 #[.string ⟨#[]⟩] ∧ Blk (ToldStart w) (w.heap.size + 1) 4 #[.bool false] ∧ Below w.heap.size w (ToldStart w) ∧ (ToldStart w).heap.size = w.heap.size + 2 := by
  unfold ToldStart
  have b0 := Blk.new w 9 #[.string ⟨#[]⟩]
  have e0 : (w.alloc (.cells #[.string ⟨#[]⟩] 9)).heap.size = w.heap.size + 1 := by simp
  have l0 := (Below.refl w.heap.size w).alloc (Nat.le_refl _) (.cells #[.string ⟨#[]⟩] 9)
  generalize w.alloc (.cells #[.string ⟨#[]⟩] 9) = w1 at *
  have b1 := Blk.new w1 4 #[.bool false]
  rw [e0] at b1
  exact ⟨b0.alloc _, b1, l0.alloc l0.size _, by simp [e0]⟩
set_option maxHeartbeats 1600000 in
theorem told_ok {f : FuncId} {cap : Array Value} {w : World} {S : Nat → Prop} {R : World → Prop} (hent : Ent f) (hS : ∀ y, S y → y < w.heap.size)
    (h : ∀ w1, Below w.heap.size w w1 → Calls Tryd.prog f cap w1 (fun e w' => e = .returned (.tuple #[]) ∧ Upd S w1 w' ∧ R w'))
    (hR : ∀ w2 w3, R w2 → w.heap.size ≤ w2.heap.size → Below w.heap.size w2 w3 → R w3) :
    Calls Tryd.prog 8 #[fv f cap] w (fun e w' => e = .returned (.tuple #[.string ⟨#[]⟩, .bool false]) ∧ Upd S w w' ∧ R w') := by
  have hmf : ∀ (fn : Fn) (first cap : Array Value) (w : World), (Instr.makeFunc fn first cap).run Tryd.prog w = .ok (.func fn first cap) w := fun _ _ _ _ => rfl
  obtain ⟨b0, b1, hb, hsz⟩ := toldStart w
  have hc := h (ToldStart w) hb
  unfold fv
  unfold ToldStart at b0 b1 hb hsz hc
  have he : ∀ w, Sem.run Tryd.prog (callFunc f cap) w = .ok (.enter f cap) w := fun w => hent cap w
  replace hc := Lib.hid hc
  replace hR := Lib.hid hR
  clear h
  go_enter_defers Tryd.func8, Tryd.ntmps8
  go_wp2_with fail
  refine hc.out.mono ?_
  clear hc
  rintro e w5 ⟨rfl, hu, hr⟩
  try dsimp only
  generalize (w.alloc (.cells #[.string ⟨#[]⟩] 9)).alloc (.cells #[.bool false] 4) = w1 at *
  have c0 := b0.upd hu (fun e => by have := hS _ e; omega)
  have c1 := b1.upd hu (fun e => by have := hS _ e; omega)
  obtain ⟨p, hp⟩ : ∃ p, w.heap.size = p := ⟨_, rfl⟩
  rw [hp] at c0 c1 ⊢
  have k0 := c0.cell 0
  have f0 := c0.frozen 0
  have c1' := c1.far (p := ⟨p, 0, none⟩) (by show p + 1 ≠ p; omega) (.string ⟨#[]⟩)
  have k1 := c1'.cell 0
  have f1 := c1'.frozen 0
  have d0 := (c0.set_ 0 (.string ⟨#[]⟩)).far (p := ⟨p + 1, 0, none⟩) (by show p ≠ p + 1; omega) (.bool false)
  have d1 := c1'.set_ 0 (.bool false)
  go_wp2_with fail
  refine leaves_cons (f := 23) (args := #[.pointer (some ⟨p, 0, none⟩), .pointer (some ⟨p + 1, 0, none⟩)]) (by simp) (by simp [go_sem]) ?_
  refine (catch_idle _ _ _).mono ?_
  rintro e u' w'' ⟨rfl, rfl, rfl⟩
  have x0 := d0.cell 0
  have x1 := d1.cell 0
  have hu5 := hu.size
  have hbb : Below w.heap.size w5 ((w5.setCell ⟨p, 0, none⟩ (.string ⟨#[]⟩)).setCell ⟨p + 1, 0, none⟩ (.bool false)) := by
    rw [hp]
    exact (((Upd.refl (fun y => p ≤ y) w5).setCell (p := ⟨p, 0, none⟩) (fun _ => Nat.le_refl _) _).setCell (p := ⟨p + 1, 0, none⟩) (fun _ => by show p ≤ p + 1; omega) _).below (by omega) (fun k hk e => by omega)
  have hRR := hR.out w5 _ hr (by omega) hbb
  have hUU : Upd S w ((w5.setCell ⟨p, 0, none⟩ (.string ⟨#[]⟩)).setCell ⟨p + 1, 0, none⟩ (.bool false)) := ((Upd.of_below_size hb).trans hu (fun _ _ e => e)).thenBelow hbb (Nat.le_refl _)
  simp [Leaves, settle, results, Tryd.results8, go_sem, x0, x1, hRR, hUU]
set_option maxHeartbeats 1600000 in
theorem told_pan {f : FuncId} {cap : Array Value} {w : World} {S : Nat → Prop} {R : World → Prop} {b : Bool} (hent : Ent f) (hS : ∀ y, S y → y < w.heap.size)
    (h : ∀ w1, Below w.heap.size w w1 → Calls Tryd.prog f cap w1 (fun e w' => (∃ v, PanV b v ∧ e = pan v) ∧ Upd S w1 w' ∧ R w'))
    (hR : ∀ w2 w3, R w2 → w.heap.size ≤ w2.heap.size → Below w.heap.size w2 w3 → R w3) :
    Calls Tryd.prog 8 #[fv f cap] w (fun e w' => (∃ t, TextOk b t ∧ e = .returned (.tuple #[.string t, .bool true])) ∧ Upd S w w' ∧ R w') := by
  have hmf : ∀ (fn : Fn) (first cap : Array Value) (w : World), (Instr.makeFunc fn first cap).run Tryd.prog w = .ok (.func fn first cap) w := fun _ _ _ _ => rfl
  obtain ⟨b0, b1, hb, hsz⟩ := toldStart w
  have hc := h (ToldStart w) hb
  unfold fv
  unfold ToldStart at b0 b1 hb hsz hc
  have he : ∀ w, Sem.run Tryd.prog (callFunc f cap) w = .ok (.enter f cap) w := fun w => hent cap w
  replace hc := Lib.hid hc
  replace hR := Lib.hid hR
  clear h
  go_enter_defers Tryd.func8, Tryd.ntmps8
  go_wp2_with fail
  refine hc.out.mono ?_
  clear hc
  rintro e w5 ⟨⟨v, hv, rfl⟩, hu, hr⟩
  unfold pan
  try dsimp only
  generalize (w.alloc (.cells #[.string ⟨#[]⟩] 9)).alloc (.cells #[.bool false] 4) = w1 at *
  have c0 := b0.upd hu (fun e => by have := hS _ e; omega)
  have c1 := b1.upd hu (fun e => by have := hS _ e; omega)
  obtain ⟨p, hp⟩ : ∃ p, w.heap.size = p := ⟨_, rfl⟩
  rw [hp] at c0 c1 ⊢
  go_wp2_with fail
  refine leaves_cons (f := 23) (args := #[.pointer (some ⟨p, 0, none⟩), .pointer (some ⟨p + 1, 0, none⟩)]) (by simp) (by simp [go_sem]) ?_
  refine (catch_pan hv p (p + 1) w5 _ _ c0 c1).mono ?_
  rintro e u' w'' ⟨rfl, rfl, t, ht, rfl⟩
  have c1' := c1.far (p := ⟨p, 0, none⟩) (by show p + 1 ≠ p; omega) (.string t)
  have d0 := (c0.set_ 0 (.string t)).far (p := ⟨p + 1, 0, none⟩) (by show p ≠ p + 1; omega) (.bool true)
  have d1 := c1'.set_ 0 (.bool true)
  have x0 := d0.cell 0
  have x1 := d1.cell 0
  have hu5 := hu.size
  have hbb : Below w.heap.size w5 ((w5.setCell ⟨p, 0, none⟩ (.string t)).setCell ⟨p + 1, 0, none⟩ (.bool true)) := by
    rw [hp]
    exact (((Upd.refl (fun y => p ≤ y) w5).setCell (p := ⟨p, 0, none⟩) (fun _ => Nat.le_refl _) _).setCell (p := ⟨p + 1, 0, none⟩) (fun _ => by show p ≤ p + 1; omega) _).below (by omega) (fun k hk e => by omega)
  have hRR := hR.out w5 _ hr (by omega) hbb
  have hUU : Upd S w ((w5.setCell ⟨p, 0, none⟩ (.string t)).setCell ⟨p + 1, 0, none⟩ (.bool true)) := ((Upd.of_below_size hb).trans hu (fun _ _ e => e)).thenBelow hbb (Nat.le_refl _)
  simp [Leaves, settle, results, Tryd.results8, go_sem, x0, x1, hRR, hUU, ht]
end Go.Proofs.YtffpkencgbiafaaDoor
