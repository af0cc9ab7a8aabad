/- call.try: what panics short is one error. -/
import Derived.Test.YtblakaddanoilaaRdL
import Derived.Defers
import Derived.Recover
namespace Go.Proofs.Ytblakaddanoilaa
open Go.RowKit
set_option maxRecDepth 100000

theorem ctry_idle (p : Addr) (w : World) :
    CallsD Try.prog 63 #[.pointer (some p)] .returning w fun e u' w' => e = .returned (.tuple #[]) ∧ u' = .returning ∧ w = w' := by
  refine callsD_of_wpS Try.func63 rfl fun c₀ cs hu => ?_
  apply wpS_seq
  apply wpS_region
  simp [wpOpsS, go_sem, recoverD, hu, Try.ntmps63, Exit.thenS]
  apply wpS_seq
  apply wpS_region
  simp [wpOpsS, go_sem, Exit.thenS]
  refine wpS_cond (t := false) (by simp [Act.eval, Array.replicate]) ?_
  simp only [Bool.false_eq_true, if_false]
  refine wpS_of_wp (wp_skip ?_)
  cases c₀
  simp_all [bodyPostS, results, Try.results63, Exit.thenS]

theorem run_assert_shortC (w : World) : (Instr.typeAssert (.iface 102 (.agg #[])) 20 102 true).run Try.prog w = .ok (.tuple #[.agg #[], .bool true]) w := by
  simp [Instr.typeAssert, go_sem]

set_option maxHeartbeats 1600000 in
theorem ctry_short (p : Nat) (w : World) (b : Int) (hs : Blk w p 35 #[.int .i64 b]) :
    CallsD Try.prog 63 #[.pointer (some ⟨p, 0, none⟩)] (.panicking shortC) w fun e u' w' => e = .returned (.tuple #[]) ∧ u' = .panicking [{ v := .iface 102 (.agg #[]), recovered := true }] ∧
      Blk w' p 35 #[.int .i64 20] ∧ Upd (fun x => x = p) w w' := by
  unfold shortC
  have hta := fun w => run_assert_shortC w
  have hs1 := hs.alloc (.cells #[] 102)
  have hu1 := (Upd.refl (fun x => x = p) w).alloc (.cells #[] 102)
  have zs := hs1.cell 0
  have fs := hs1.frozen 0
  have hsf := hs1.set_ 0 (.int .i64 20)
  have huf := hu1.setCell (p := ⟨p, 0, none⟩) (fun _ => rfl) (.int .i64 20)
  replace hsf := Lib.hid hsf
  replace huf := Lib.hid huf
  clear hs hs1 hu1
  refine callsD_of_wpS Try.func63 rfl fun c₀ cs hu => ?_
  apply wpS_seq
  apply wpS_region
  simp [wpOpsS, go_sem, recoverD, hu, Try.ntmps63, Exit.thenS]
  refine wpS_of_wp (wp_mono (Q := fun e a' w' => (e = .normal ∨ e = .ret) ∧ a'.defers = [] ∧ Blk w' p 35 #[.int .i64 20] ∧ Upd (fun x => x = p) w w') ?_ ?_)
  · clear hu
    change Code.wp _ _ _ ⟨#[.pointer (some ⟨p, 0, none⟩), .iface 102 (.agg #[]), undef, undef, .iface 102 (.agg #[]), undef, undef, undef, undef, undef, undef, undef, undef, undef, undef], []⟩ w
    go_wp2_with fail
    exact ⟨hsf.out, huf.out⟩
  · rintro e a' w' ⟨he, hd, h⟩
    rcases he with rfl | rfl <;> simp [bodyPostS, results, Try.results63, hd, h]

def TryPost (good bad : World → Prop) (e : Ending) (w' : World) : Prop := (e = .returned (.tuple #[]) ∧ good w') ∨ (e = .panicked shortC ∧ bad w')
/-- What try leaves: 0 behind what went well, 20 behind a short panic; its own cell besides. -/
def TryRes (te : Nat) (good bad : World → Prop) (e : Ending) (w' : World) : Prop :=
  (∃ w1, e = .returned (.int .i64 0) ∧ good w1 ∧ Upd (fun x => x = te) w1 w') ∨ (∃ w1, e = .returned (.int .i64 20) ∧ bad w1 ∧ Upd (fun x => x = te) w1 w')

set_option maxHeartbeats 1600000 in
theorem try_read {pb ob : Nat} {w : World} {good bad : World → Prop} (hgood : ∀ w1, good w1 → Blk w1 w.heap.size 35 #[.int .i64 0]) (hbad : ∀ w1, bad w1 → Blk w1 w.heap.size 35 #[.int .i64 0])
    (hcall : Calls Try.prog 33 #[.pointer (some ⟨pb, 0, none⟩), .pointer (some ⟨ob, 0, none⟩)] (w.alloc (.cells #[.int .i64 0] 35)) (TryPost good bad)) :
    Calls Try.prog 32 #[.func (Fn.func 33) #[] #[.pointer (some ⟨pb, 0, none⟩), .pointer (some ⟨ob, 0, none⟩)]] w (TryRes w.heap.size good bad) := by
  have hmf : ∀ (fn : Fn) (first cap : Array Value) (w : World), (Instr.makeFunc fn first cap).run Try.prog w = .ok (.func fn first cap) w := fun _ _ _ _ => rfl
  replace hcall := Lib.hid hcall
  go_enter_defers Try.func32, Try.ntmps32
  go_wp2_with fail
  generalize w.alloc (.cells #[.int .i64 0] 35) = w2 at *
  refine hcall.out.mono ?_
  rintro e w3 (⟨rfl, hg⟩ | ⟨rfl, hb⟩)
  · dsimp only
    have h3 := hgood _ hg
    have x0 := h3.cell 0
    have xf := h3.frozen 0
    have h4 := h3.set_ 0 (.int .i64 0)
    have hu4 := (Upd.refl (fun x => x = w.heap.size) w3).setCell (p := ⟨w.heap.size, 0, none⟩) (fun _ => rfl) (.int .i64 0)
    go_wp2_with fail
    refine leaves_cons (f := 63) (args := #[.pointer (some ⟨w.heap.size, 0, none⟩)]) (by simp) (by simp [go_sem]) ?_
    refine (ctry_idle _ _).mono ?_
    rintro e u' w'' ⟨rfl, rfl, rfl⟩
    have y0 := h4.cell 0
    clear x0 xf
    simp [Leaves, settle, results, Try.results32, go_sem, y0]
    exact .inl ⟨w3, rfl, hg, hu4⟩
  · dsimp only
    have h3 := hbad _ hb
    go_wp2_with fail
    refine leaves_cons (f := 63) (args := #[.pointer (some ⟨w.heap.size, 0, none⟩)]) (by simp) (by simp [go_sem]) ?_
    refine (ctry_short _ _ _ h3).mono ?_
    rintro e u' w'' ⟨rfl, rfl, h4, hu4⟩
    have y0 := h4.cell 0
    simp [Leaves, settle, results, Try.results32, go_sem, y0]
    exact .inr ⟨w3, rfl, hb, hu4⟩
end Go.Proofs.Ytblakaddanoilaa
