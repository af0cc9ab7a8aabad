/- wire.Read's deferred closure. -/
import Derived.Test.YtafogjonicdbmaaReadVal
import Derived.Defers
import Derived.Recover
namespace Go.Proofs.Ytafogjonicdbmaa
open Go.RowKit

theorem catch_idle (p q s : Addr) (w : World) :
    CallsD Try.prog 34 #[.pointer (some p), .pointer (some q), .pointer (some s)] .returning w fun e u' w' => e = .returned (.tuple #[]) ∧ u' = .returning ∧ w = w' := by
  refine callsD_of_wpS Try.func34 rfl fun c₀ cs hu => ?_
  apply wpS_seq
  apply wpS_region
  simp [wpOpsS, go_sem, recoverD, hu, Try.ntmps34, Exit.thenS]
  apply wpS_seq
  apply wpS_region
  simp [wpOpsS, go_sem, Exit.thenS]
  refine wpS_cond (t := false) (by simp [Act.eval, Array.replicate]) ?_
  simp only [Bool.false_eq_true, if_false]
  refine wpS_of_wp (wp_skip ?_)
  cases c₀
  simp_all [bodyPostS, results, Try.results34, Exit.thenS]

theorem Blk.row {w : World} {g : Nat} {t : TypeId} {old : Array Value} (h : Blk w g t old) (cs : Array Value) : Blk (w.setRow g cs) g t cs := setRow_heap w g old cs t (0, 0) h
theorem Blk.farRow {w : World} {g k : Nat} {t : TypeId} {cur : Array Value} (h : Blk w k t cur) (hne : k ≠ g) (cs : Array Value) : Blk (w.setRow g cs) k t cur := (setRow_other w g k cs hne).trans h
theorem Upd.setRow {S : Nat → Prop} {w w' : World} (h : Upd S w w') {g : Nat} (hg : g < w.heap.size → S g) (cs : Array Value) : Upd S w (w'.setRow g cs) :=
  ⟨h.os, h.tape, h.output, by rw [size_setRow]; exact h.size, fun k hk hs => by
    by_cases hkg : k = g
    · subst hkg; exact absurd (hg hk) hs
    · rw [setRow_other _ _ _ _ hkg]; exact h.block k hk hs⟩

theorem below_row {B g : Nat} {w0 w : World} (hb : Below B w0 w) (h : B ≤ g) (cs : Array Value) : Below B w0 (w.setRow g cs) :=
  ⟨hb.os, hb.tape, hb.output, by rw [size_setRow]; exact hb.size, fun k hk => by rw [setRow_other _ _ _ _ (by omega)]; exact hb.block k hk⟩
theorem store_row_gen {P : Program} {ops : Array Oper} {rest : List Oper} {o : Oper} {a : Act} {w : World} {Q : Exit → Act → World → Prop} (hgd : o.guard = none) (ty : TypeId) (x y : Operand) (ho : o.op = .store ty x y)
    (g : Nat) (cells : Array Value) (hx : a.eval x = .pointer (some ⟨g, 0, none⟩)) (hy : a.eval y = .agg cells)
    (t : TypeId) (old : Array Value) (hg : Blk w g t old) (hi : (P.info? ty).map (·.size) = some cells.size)
    (hold : old.size = cells.size) (h1 : cells.all (·.oneCell') = true)
    (h : ∀ w2, w2 = w.setRow g cells → wpList P ops Q rest (a.put o.dst undef) w2) : wpList P ops Q (o :: rest) a w :=
  wpList_store_row hgd ty x y ho g cells hx hy t old hg hi hold h1 (h _ rfl)

theorem run_assert_short (w : World) : (Instr.typeAssert (.iface 67 (.agg #[])) 20 67 true).run Try.prog w = .ok (.tuple #[.agg #[], .bool true]) w := by
  simp [Instr.typeAssert, go_sem]

set_option maxHeartbeats 1600000 in
theorem catch_short (p q s : Nat) (w : World) (vs : Array Value) (a b : Int) (hz : Blk w p 26 vs) (hvs : vs.size = 5) (hq : Blk w q 3 #[.int .i64 a]) (hs : Blk w s 29 #[.int .i64 b]) :
    CallsD Try.prog 34 #[.pointer (some ⟨p, 0, none⟩), .pointer (some ⟨q, 0, none⟩), .pointer (some ⟨s, 0, none⟩)] (.panicking shortP) w fun e u' w' => e = .returned (.tuple #[]) ∧ u' = .panicking [{ v := .iface 67 (.agg #[]), recovered := true }] ∧
      Blk w' p 26 #[.int .i64 0, .int .i64 0, .float .f64 0, .string ⟨#[]⟩, .slice none 0 0] ∧ Blk w' q 3 #[.int .i64 0] ∧ Blk w' s 29 #[.int .i64 20] ∧ Upd (fun x => x = p ∨ x = q ∨ x = s) w w' := by
  unfold shortP
  have hta := fun w => run_assert_short w
  obtain ⟨v0, v1, v2, v3, v4, rfl⟩ : ∃ v0 v1 v2 v3 v4, vs = #[v0, v1, v2, v3, v4] := by
    match vs, hvs with
    | ⟨[v0, v1, v2, v3, v4]⟩, _ => exact ⟨v0, v1, v2, v3, v4, rfl⟩
  have npq := hz.ne_ hq (by decide)
  have nps := hz.ne_ hs (by decide)
  have nqs := hq.ne_ hs (by decide)
  have hz1 := hz.alloc (.cells #[] 67)
  have hzr := hz1.row #[.int .i64 0, .int .i64 0, .float .f64 0, .string ⟨#[]⟩, .slice none 0 0]
  have hq1 := (hq.alloc (.cells #[] 67)).farRow (g := p) npq.symm #[.int .i64 0, .int .i64 0, .float .f64 0, .string ⟨#[]⟩, .slice none 0 0]
  have hs1 := (hs.alloc (.cells #[] 67)).farRow (g := p) nps.symm #[.int .i64 0, .int .i64 0, .float .f64 0, .string ⟨#[]⟩, .slice none 0 0]
  have hu1 := ((Upd.refl (fun x => x = p ∨ x = q ∨ x = s) w).alloc (.cells #[] 67)).setRow (g := p) (fun _ => .inl rfl) #[.int .i64 0, .int .i64 0, .float .f64 0, .string ⟨#[]⟩, .slice none 0 0]
  clear hz hq hs
  refine callsD_of_wpS Try.func34 rfl fun c₀ cs hu => ?_
  apply wpS_seq
  apply wpS_region
  simp [wpOpsS, go_sem, recoverD, hu, Try.ntmps34, Exit.thenS]
  refine wpS_of_wp (wp_mono (Q := fun e a' w' => (e = .normal ∨ e = .ret) ∧ a'.defers = [] ∧ Blk w' p 26 #[.int .i64 0, .int .i64 0, .float .f64 0, .string ⟨#[]⟩, .slice none 0 0] ∧ Blk w' q 3 #[.int .i64 0] ∧ Blk w' s 29 #[.int .i64 20] ∧ Upd (fun x => x = p ∨ x = q ∨ x = s) w w') ?_ ?_)
  · clear hu
    change Code.wp _ _ _ ⟨#[.pointer (some ⟨p, 0, none⟩), .pointer (some ⟨q, 0, none⟩), .pointer (some ⟨s, 0, none⟩), .iface 67 (.agg #[]), undef, undef, .iface 67 (.agg #[]), undef, undef, undef, undef, undef, undef, undef, undef, undef, undef, undef], []⟩ w
    go_wp2_with (refine store_row_gen rfl 26 _ _ rfl p #[.int .i64 0, .int .i64 0, .float .f64 0, .string ⟨#[]⟩, .slice none 0 0] rfl rfl 26 _ hz1 (by kernel_rfl) rfl (by simp [Value.oneCell']) (fun w2 hw2 => ?_); clear hz1; rw [← hw2] at hzr hq1 hs1 hu1; clear hw2; have zq := hq1.cell 0; have zs := hs1.cell 0; have fq := hq1.frozen; have fs := hs1.frozen; have hzf := (hzr.far (p := ⟨q, 0, none⟩) npq (.int .i64 0)).far (p := ⟨s, 0, none⟩) nps (.int .i64 20); have hqf := (hq1.set_ 0 (.int .i64 0)).far (p := ⟨s, 0, none⟩) nqs (.int .i64 20); have hsf := (hs1.far (p := ⟨q, 0, none⟩) nqs.symm (.int .i64 0)).set_ 0 (.int .i64 20); have huf := (hu1.setCell (p := ⟨q, 0, none⟩) (fun _ => .inr (.inl rfl)) (.int .i64 0)).setCell (p := ⟨s, 0, none⟩) (fun _ => .inr (.inr rfl)) (.int .i64 20); replace hzf := Lib.hid hzf; replace hqf := Lib.hid hqf; replace hsf := Lib.hid hsf; replace huf := Lib.hid huf; clear hzr hu1)
    exact ⟨hzf.out, hqf.out, hsf.out, huf.out⟩
  · rintro e a' w' ⟨he, hd, h⟩
    rcases he with rfl | rfl <;> simp [bodyPostS, results, Try.results34, hd, h]
end Go.Proofs.Ytafogjonicdbmaa
