/- guard.Told's deferred closure. -/
import Derived.Test.YtffpkencgbiafaaDoorGr1
import Derived.Defers
import Derived.Recover
set_option linter.unusedSimpArgs false
set_option linter.unusedVariables false
namespace Go.Proofs.YtffpkencgbiafaaDoor
open Go.RowKit
set_option maxRecDepth 100000

theorem catch_idle (p q : Addr) (w : World) :
    CallsD Tryd.prog 23 #[.pointer (some p), .pointer (some q)] .returning w fun e u' w' => e = .returned (.tuple #[]) ∧ u' = .returning ∧ w = w' := by
  refine callsD_of_wpS Tryd.func23 rfl fun c₀ cs hu => ?_
  apply wpS_seq
  apply wpS_region
  simp [wpOpsS, go_sem, recoverD, hu, Tryd.ntmps23, Exit.thenS]
  apply wpS_seq
  apply wpS_region
  simp [wpOpsS, go_sem, Exit.thenS]
  refine wpS_cond (t := false) (by simp [Act.eval, Array.replicate]) ?_
  simp only [Bool.false_eq_true, if_false]
  refine wpS_of_wp (wp_skip ?_)
  cases c₀
  simp_all [bodyPostS, results, Tryd.results23, Exit.thenS]
set_option maxHeartbeats 1600000 in
theorem catch_pan {b : Bool} {v : Value} (hv : PanV b v) (p q : Nat) (w : World) (s0 b0 : Value) (hp : Blk w p 9 #[s0]) (hq : Blk w q 4 #[b0]) :
    CallsD Tryd.prog 23 #[.pointer (some ⟨p, 0, none⟩), .pointer (some ⟨q, 0, none⟩)] (.panicking [{ v := v, recovered := false }]) w fun e u' w' => e = .returned (.tuple #[]) ∧ u' = .panicking [{ v := v, recovered := true }] ∧
      ∃ t, TextOk b t ∧ w' = (w.setCell ⟨p, 0, none⟩ (.string t)).setCell ⟨q, 0, none⟩ (.bool true) := by
  have htold := told_text hv
  obtain ⟨ty, x, rfl⟩ : ∃ ty x, v = .iface ty x := by cases hv <;> exact ⟨_, _, rfl⟩
  have hpq : p ≠ q := hp.ne_ hq (by decide)
  have fp := hp.frozen 0
  have cp := hp.cell 0
  have fq := hq.frozen 0
  have cq := hq.cell 0
  refine callsD_of_wpS Tryd.func23 rfl fun c₀ cs hu => ?_
  apply wpS_seq
  apply wpS_region
  simp [wpOpsS, go_sem, recoverD, hu, Tryd.ntmps23, Exit.thenS]
  refine wpS_of_wp (wp_mono (Q := fun e a' w' => (e = .normal ∨ e = .ret) ∧ a'.defers = [] ∧ ∃ t, TextOk b t ∧ w' = (w.setCell ⟨p, 0, none⟩ (.string t)).setCell ⟨q, 0, none⟩ (.bool true)) ?_ ?_)
  · clear hu
    change Code.wp _ _ _ ⟨#[.pointer (some ⟨p, 0, none⟩), .pointer (some ⟨q, 0, none⟩), .iface ty x, .iface ty x, undef, undef, undef, undef], []⟩ w
    go_wp2_with fail
    refine (htold _).mono ?_
    rintro e w2 ⟨t, rfl, ht, rfl⟩
    have cq2 := (hq.far (p := ⟨p, 0, none⟩) hpq.symm (.string t)).cell 0
    have fq2 := (hq.far (p := ⟨p, 0, none⟩) hpq.symm (.string t)).frozen 0
    try dsimp only
    go_wp2_with fail
    exact ⟨t, ht, rfl⟩
  · rintro e a' w' ⟨he, hd, h⟩
    rcases he with rfl | rfl <;> simp [bodyPostS, results, Tryd.results23, hd, h]
end Go.Proofs.YtffpkencgbiafaaDoor
