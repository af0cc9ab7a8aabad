/- The chapter's panics: raise. -/
import Derived.Test.YtffpkencgbiafaaDoorGr5
set_option linter.unusedSimpArgs false
set_option linter.unusedVariables false
namespace Go.Proofs.YtffpkencgbiafaaDoor
open Go.RowKit
set_option maxRecDepth 100000

theorem bounds_run {α : Type} {P : Program} {w : World} (k : IntKind) (x y : Int) (code : BoundsCode) :
    ∃ (s : Bool) (w' : World), (boundsPanic k x y code : Sem α).run P w = .halt (.panic (boundsValue P (IntKind.i64.wrap x) y s code.toNat)) w' ∧ (w' = w ∨ w' = w.drew) := by
  unfold boundsPanic boundsValue
  split
  · simp [runtimePanic, goPanic, go_sem]
    exact (Classical.em _).elim (fun h => .inr ⟨_, ⟨h, rfl⟩, .inr rfl⟩) (fun h => .inl ⟨_, ⟨h, rfl⟩, .inr rfl⟩)
  · simp [runtimePanic, goPanic, go_sem]
    exact (Classical.em _).elim (fun h => .inl ⟨_, ⟨h, rfl⟩, .inl rfl⟩) (fun h => .inr ⟨_, ⟨h, rfl⟩, .inl rfl⟩)
theorem index_out {P : Program} {w : World} (t : TypeId) (a : Addr) (len cap : Nat) (k : IntKind) (i : Int) (h : P.underlying t = some (.slice (P.elem t))) (ho : i < 0 ∨ (len : Int) ≤ i) :
    ∃ (s : Bool) (w' : World), (Instr.indexAt t (.slice (some a) len cap) (.int k i)).run P w = .halt (.panic (boundsValue P (IntKind.i64.wrap i) len s 0)) w' ∧ (w' = w ∨ w' = w.drew) := by
  rw [run_indexAt_slice (h := h), if_neg (by omega)]
  exact bounds_run k i len .index
theorem slice_out {P : Program} {w : World} (t e : TypeId) (a : Option Addr) (len cap : Nat) (k : IntKind) (l : Int) (h : P.underlying t = some (.slice e)) (ho : l < 0 ∨ (len : Int) < l) :
    ∃ (s : Bool) (w' : World), (Instr.slice t (.slice a len cap) (some (.int k l)) none none).run P w = .halt (.panic (boundsValue P (IntKind.i64.wrap l) len s 3)) w' ∧ (w' = w ∨ w' = w.drew) := by
  have hn : ¬ (0 ≤ l ∧ l ≤ (len : Int)) := by omega
  obtain ⟨s, w', e1, hw⟩ := bounds_run (α := Nat) (P := P) (w := w) k l len .sliceB
  have e2 : (Instr.sliceBound (.int k l) len .sliceB).run P w = (boundsPanic k l len .sliceB).run P w := by
    simp [Instr.sliceBound, asIntOf, hn, go_sem]
  rw [← e2] at e1
  refine ⟨s, w', run_slice_of_bounds t e a len cap _ _ _ h ?_, hw⟩
  simp [Instr.sliceBounds, go_sem, e1, BoundsCode.toNat]
theorem below_drew2 {w w0 w' : World} (h : Below w.heap.size w w0) (hw : w' = w0 ∨ w' = w0.drew) : Below w.heap.size w w' := by
  rcases hw with rfl | rfl
  · exact h
  · exact h.drew
theorem bounds_pan (x y : Int) (s : Bool) (c : Nat) (hc : c < 8) : PanV false (boundsValue Tryd.prog x y s c) := by
  unfold boundsValue
  rw [rt_bounds]
  exact PanV.bounds x y s c hc
set_option maxHeartbeats 3200000 in
theorem raise_pan (how : Nat) (hh : how ≤ 255) (s : ByteArray) (hs : s.size ≤ 40) (n : Int) (w : World) : Calls Tryd.prog 10 #[.int .u8 (how : Int), .string s, .int .i64 n] w (fun e w' => (∃ v, PanV (how % 5 == 1) v ∧ e = pan v) ∧ Below w.heap.size w w') := by
  obtain ⟨r, hr⟩ : ∃ r, how % 5 = r := ⟨_, rfl⟩
  have t5 : Int.tmod (how : Int) 5 = (r : Int) := by rw [Int.tmod_eq_emod_of_nonneg (by omega)]; omega
  have t5' : (how : Int) % 5 = (r : Int) := by omega
  have v5_ : IntKind.u8.wrap (r : Int) = (r : Int) := by unfold IntKind.wrap; simp [IntKind.bits, IntKind.signed]; omega
  have hr5 : r < 5 := by omega
  have hb1 : Below w.heap.size w (w.alloc (.cells #[.int .i64 1, .int .i64 2] 3)) := (Below.refl _ _).alloc (Nat.le_refl _) _
  have hw2 : IntKind.i64.wrap ((s.size : Int) + 2) = (s.size : Int) + 2 := by rw [IntKind.wrap_i64]; omega
  have hw3 : IntKind.i64.wrap ((s.size : Int) + 3) = (s.size : Int) + 3 := by rw [IntKind.wrap_i64]; omega
  have i0 := Tryd.underlying53
  rcases (show r = 0 ∨ r = 1 ∨ r = 2 ∨ r = 3 ∨ r = 4 by omega) with rfl | rfl | rfl | rfl | rfl
  · obtain ⟨sg, w2, hrun, hw⟩ := index_out (P := Tryd.prog) (w := w.alloc (.cells #[.int .i64 1, .int .i64 2] 3)) 53 ⟨w.heap.size, 0, none⟩ 2 2 .i64 ((s.size : Int) + 2) (by kernel_rfl) (by omega)
    have hp := bounds_pan (IntKind.i64.wrap ((s.size : Int) + 2)) (2 : Nat) sg 0 (by decide)
    have hb2 := below_drew2 hb1 hw
    generalize boundsValue Tryd.prog (IntKind.i64.wrap ((s.size : Int) + 2)) (2 : Nat) sg 0 = v at *
    replace hp := Lib.hid hp
    rw [hr]
    clear hw
    go_enter Tryd.func10, Tryd.ntmps10
    go_wp2_with fail
    exact ⟨rfl, ⟨v, hp.out, rfl⟩, hb2⟩
  · have hrun := fun key value w => run_mapUpdate_nil (P := Tryd.prog) (w := w) 54 9 3 Tryd.underlying54 key value
    have hp : PanV true (nilMapPanic Tryd.prog) := by unfold nilMapPanic; rw [rt_plain]; exact PanV.plain
    generalize nilMapPanic Tryd.prog = v at *
    replace hp := Lib.hid hp
    rw [hr]
    go_enter Tryd.func10, Tryd.ntmps10
    go_wp2_with fail
    exact ⟨rfl, ⟨v, hp.out, rfl⟩, hb1⟩
  · rw [hr]
    have hp := PanV.text "integer divide by zero"
    have hz : IntKind.i64.wrap ((s.size : Int) - (s.size : Int)) = 0 := by rw [IntKind.wrap_i64]; omega
    have hre := rt_error
    replace hp := Lib.hid hp
    go_enter Tryd.func10, Tryd.ntmps10
    go_wp2_with fail
    exact ⟨rfl, ⟨_, hp.out, rfl⟩, hb1⟩
  · obtain ⟨sg, w2, hrun, hw⟩ := slice_out (P := Tryd.prog) (w := w.alloc (.cells #[.int .i64 1, .int .i64 2] 3)) 53 3 (some ⟨w.heap.size, 0, none⟩) 2 2 .i64 ((s.size : Int) + 3) i0 (by omega)
    have hp := bounds_pan (IntKind.i64.wrap ((s.size : Int) + 3)) (2 : Nat) sg 3 (by decide)
    have hb2 := below_drew2 hb1 hw
    generalize boundsValue Tryd.prog (IntKind.i64.wrap ((s.size : Int) + 3)) (2 : Nat) sg 3 = v at *
    replace hp := Lib.hid hp
    rw [hr]
    clear hw
    go_enter Tryd.func10, Tryd.ntmps10
    go_wp2_with fail
    exact ⟨rfl, ⟨v, hp.out, rfl⟩, hb2⟩
  · rw [hr]
    have hp := PanV.text "invalid memory address or nil pointer dereference"
    have hre := rt_error
    replace hp := Lib.hid hp
    go_enter Tryd.func10, Tryd.ntmps10
    go_wp2_with fail
    exact ⟨rfl, ⟨_, hp.out, rfl⟩, hb1⟩
end Go.Proofs.YtffpkencgbiafaaDoor
