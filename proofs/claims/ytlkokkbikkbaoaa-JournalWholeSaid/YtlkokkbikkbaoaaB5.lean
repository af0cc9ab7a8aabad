/- call.try: what panics short is one error. -/
import Derived.Test.YtlkokkbikkbaoaaRdL
import Derived.Defers
import Derived.Recover
import Derived.Test.YtlkokkbikkbaoaaPlan
set_option linter.unusedSimpArgs false
set_option linter.unusedVariables false
set_option linter.unusedSimpArgs false
set_option linter.unusedVariables false
namespace Go.Proofs.Ytlkokkbikkbaoaa
open Go.RowKit
set_option maxRecDepth 100000

theorem ctry_idle (p : Addr) (w : World) :
    CallsD Try.prog 68 #[.pointer (some p)] .returning w fun e u' w' => e = .returned (.tuple #[]) ∧ u' = .returning ∧ w = w' := by
  refine callsD_of_wpS Try.func68 rfl fun c₀ cs hu => ?_
  apply wpS_seq
  apply wpS_region
  simp [wpOpsS, go_sem, recoverD, hu, Try.ntmps68, Exit.thenS]
  apply wpS_seq
  apply wpS_region
  simp [wpOpsS, go_sem, Exit.thenS]
  refine wpS_cond (t := false) (by simp [Act.eval, Array.replicate]) ?_
  simp only [Bool.false_eq_true, if_false]
  refine wpS_of_wp (wp_skip ?_)
  cases c₀
  simp_all [bodyPostS, results, Try.results68, Exit.thenS]

theorem run_assert_shortC (w : World) : (Instr.typeAssert (.iface 123 (.agg #[])) 20 123 true).run Try.prog w = .ok (.tuple #[.agg #[], .bool true]) w := by
  simp [Instr.typeAssert, go_sem]

set_option maxHeartbeats 1600000 in
theorem ctry_short (p : Nat) (w : World) (b : Int) (hs : Blk w p 28 #[.int .i64 b]) :
    CallsD Try.prog 68 #[.pointer (some ⟨p, 0, none⟩)] (.panicking shortC) w fun e u' w' => e = .returned (.tuple #[]) ∧ u' = .panicking [{ v := .iface 123 (.agg #[]), recovered := true }] ∧
      Blk w' p 28 #[.int .i64 20] ∧ Upd (fun x => x = p) w w' := by
  unfold shortC
  have hta := fun w => run_assert_shortC w
  have hs1 := hs.alloc (.cells #[] 123)
  have hu1 := (Upd.refl (fun x => x = p) w).alloc (.cells #[] 123)
  have zs := hs1.cell 0
  have fs := hs1.frozen 0
  have hsf := hs1.set_ 0 (.int .i64 20)
  have huf := hu1.setCell (p := ⟨p, 0, none⟩) (fun _ => rfl) (.int .i64 20)
  replace hsf := Lib.hid hsf
  replace huf := Lib.hid huf
  clear hs hs1 hu1
  refine callsD_of_wpS Try.func68 rfl fun c₀ cs hu => ?_
  apply wpS_seq
  apply wpS_region
  simp [wpOpsS, go_sem, recoverD, hu, Try.ntmps68, Exit.thenS]
  refine wpS_of_wp (wp_mono (Q := fun e a' w' => (e = .normal ∨ e = .ret) ∧ a'.defers = [] ∧ Blk w' p 28 #[.int .i64 20] ∧ Upd (fun x => x = p) w w') ?_ ?_)
  · clear hu
    change Code.wp _ _ _ ⟨#[.pointer (some ⟨p, 0, none⟩), .iface 123 (.agg #[]), undef, undef, .iface 123 (.agg #[]), undef, undef, undef, undef, undef, undef, undef, undef, undef, undef], []⟩ w
    go_wp2_with fail
    exact ⟨hsf.out, huf.out⟩
  · rintro e a' w' ⟨he, hd, h⟩
    rcases he with rfl | rfl <;> simp [bodyPostS, results, Try.results68, hd, h]

def TryPost (good bad : World → Prop) (e : Ending) (w' : World) : Prop := (e = .returned (.tuple #[]) ∧ good w') ∨ (e = .panicked shortC ∧ bad w')
/-- What try leaves: 0 behind what went well, 20 behind a short panic; its own cell besides. -/
def TryRes (te : Nat) (good bad : World → Prop) (e : Ending) (w' : World) : Prop :=
  (∃ w1, e = .returned (.int .i64 0) ∧ good w1 ∧ Upd (fun x => x = te) w1 w') ∨ (∃ w1, e = .returned (.int .i64 20) ∧ bad w1 ∧ Upd (fun x => x = te) w1 w')

set_option maxHeartbeats 1600000 in
theorem try_read {pb ob : Nat} {w : World} {good bad : World → Prop} (hgood : ∀ w1, good w1 → Blk w1 w.heap.size 28 #[.int .i64 0]) (hbad : ∀ w1, bad w1 → Blk w1 w.heap.size 28 #[.int .i64 0])
    (hcall : Calls Try.prog 56 #[.pointer (some ⟨pb, 0, none⟩), .pointer (some ⟨ob, 0, none⟩)] (w.alloc (.cells #[.int .i64 0] 28)) (TryPost good bad)) :
    Calls Try.prog 55 #[.func (Fn.func 56) #[] #[.pointer (some ⟨pb, 0, none⟩), .pointer (some ⟨ob, 0, none⟩)]] w (TryRes w.heap.size good bad) := by
  have hmf : ∀ (fn : Fn) (first cap : Array Value) (w : World), (Instr.makeFunc fn first cap).run Try.prog w = .ok (.func fn first cap) w := fun _ _ _ _ => rfl
  replace hcall := Lib.hid hcall
  go_enter_defers Try.func55, Try.ntmps55
  go_wp2_with fail
  generalize w.alloc (.cells #[.int .i64 0] 28) = w2 at *
  refine hcall.out.mono ?_
  rintro e w3 (⟨rfl, hg⟩ | ⟨rfl, hb⟩)
  · dsimp only
    have h3 := hgood _ hg
    have x0 := h3.cell 0
    have xf := h3.frozen 0
    have h4 := h3.set_ 0 (.int .i64 0)
    have hu4 := (Upd.refl (fun x => x = w.heap.size) w3).setCell (p := ⟨w.heap.size, 0, none⟩) (fun _ => rfl) (.int .i64 0)
    go_wp2_with fail
    refine leaves_cons (f := 68) (args := #[.pointer (some ⟨w.heap.size, 0, none⟩)]) (by simp) (by simp [go_sem]) ?_
    refine (ctry_idle _ _).mono ?_
    rintro e u' w'' ⟨rfl, rfl, rfl⟩
    have y0 := h4.cell 0
    clear x0 xf
    simp [Leaves, settle, results, Try.results55, go_sem, y0]
    exact .inl ⟨w3, rfl, hg, hu4⟩
  · dsimp only
    have h3 := hbad _ hb
    go_wp2_with fail
    refine leaves_cons (f := 68) (args := #[.pointer (some ⟨w.heap.size, 0, none⟩)]) (by simp) (by simp [go_sem]) ?_
    refine (ctry_short _ _ _ h3).mono ?_
    rintro e u' w'' ⟨rfl, rfl, h4, hu4⟩
    have y0 := h4.cell 0
    simp [Leaves, settle, results, Try.results55, go_sem, y0]
    exact .inr ⟨w3, rfl, hb, hu4⟩
end Go.Proofs.Ytlkokkbikkbaoaa
set_option linter.unusedSimpArgs false
set_option linter.unusedVariables false
namespace Go.Proofs.Ytlkokkbikkbaoaa
open Go.RowKit
set_option maxRecDepth 100000

def OpRd (w : World) (R : Option (OpD × Nat)) (e : Ending) (w' : World) : Prop :=
  match R with
  | some (o, q) => ∃ A' c' xs css, e = .returned (.tuple #[.agg #[.int .u32 (o.c : Int), .int .u32 (o.s : Int), .int .u16 (o.n : Int), .string (bstr o.g), .string (bstr o.m), .slice A' o.l.length c'], .int .i64 (q : Int), .int .i64 0]) ∧ VRow w' w.heap.size o.l A' c' xs css ∧ Below w.heap.size w w'
  | none => e = .returned (.tuple #[.agg #[.int .u32 0, .int .u32 0, .int .u16 0, .string ⟨#[]⟩, .string ⟨#[]⟩, .slice none 0 0], .int .i64 0, .int .i64 20]) ∧ Below w.heap.size w w'

set_option maxHeartbeats 3200000 in
theorem call_read {A : Option Addr} {c : Nat} {b : List UInt8} {w : World} (hr : Reads w w.heap.size 1 A b.length (bys b)) (hA : A = none → c = 0) (hc : b.length ≤ c) (hl : b.length ≤ 1000000000) (R : Option (OpD × Nat)) (hR : rdOp b = R) :
    Calls Try.prog 49 #[.slice A b.length c] w (OpRd w R) := by
  have hmf : ∀ (fn : Fn) (first cap : Array Value) (w : World), (Instr.makeFunc fn first cap).run Try.prog w = .ok (.func fn first cap) w := fun _ _ _ _ => rfl
  have s1 : (w.alloc (.cells #[.int .u32 0, .int .u32 0, .int .u16 0, .string ⟨#[]⟩, .string ⟨#[]⟩, .slice none 0 0] 38)).heap.size = w.heap.size + 1 := by simp
  have s2 : ((w.alloc (.cells #[.int .u32 0, .int .u32 0, .int .u16 0, .string ⟨#[]⟩, .string ⟨#[]⟩, .slice none 0 0] 38)).alloc (.cells #[.slice A b.length c, .int .i64 0] 111)).heap.size = w.heap.size + 1 + 1 := by simp
  have s3 : (((w.alloc (.cells #[.int .u32 0, .int .u32 0, .int .u16 0, .string ⟨#[]⟩, .string ⟨#[]⟩, .slice none 0 0] 38)).alloc (.cells #[.slice A b.length c, .int .i64 0] 111)).alloc (.cells #[.pointer (some ⟨w.heap.size + 1, 0, none⟩)] 109)).heap.size = w.heap.size + 1 + 1 + 1 := by simp
  have s4 : ((((w.alloc (.cells #[.int .u32 0, .int .u32 0, .int .u16 0, .string ⟨#[]⟩, .string ⟨#[]⟩, .slice none 0 0] 38)).alloc (.cells #[.slice A b.length c, .int .i64 0] 111)).alloc (.cells #[.pointer (some ⟨w.heap.size + 1, 0, none⟩)] 109)).alloc (.cells #[.int .u32 0, .int .u32 0, .int .u16 0, .string ⟨#[]⟩, .string ⟨#[]⟩, .slice none 0 0] 38)).heap.size = w.heap.size + 1 + 1 + 1 + 1 := by simp
  have b0 := (((Blk.new w 38 #[.int .u32 0, .int .u32 0, .int .u16 0, .string ⟨#[]⟩, .string ⟨#[]⟩, .slice none 0 0]).alloc (.cells #[.slice A b.length c, .int .i64 0] 111)).alloc (.cells #[.pointer (some ⟨w.heap.size + 1, 0, none⟩)] 109)).alloc (.cells #[.int .u32 0, .int .u32 0, .int .u16 0, .string ⟨#[]⟩, .string ⟨#[]⟩, .slice none 0 0] 38)
  have b1 := ((Blk.new (w.alloc (.cells #[.int .u32 0, .int .u32 0, .int .u16 0, .string ⟨#[]⟩, .string ⟨#[]⟩, .slice none 0 0] 38)) 111 #[.slice A b.length c, .int .i64 0]).alloc (.cells #[.pointer (some ⟨w.heap.size + 1, 0, none⟩)] 109)).alloc (.cells #[.int .u32 0, .int .u32 0, .int .u16 0, .string ⟨#[]⟩, .string ⟨#[]⟩, .slice none 0 0] 38)
  have b2 := (Blk.new ((w.alloc (.cells #[.int .u32 0, .int .u32 0, .int .u16 0, .string ⟨#[]⟩, .string ⟨#[]⟩, .slice none 0 0] 38)).alloc (.cells #[.slice A b.length c, .int .i64 0] 111)) 109 #[.pointer (some ⟨w.heap.size + 1, 0, none⟩)]).alloc (.cells #[.int .u32 0, .int .u32 0, .int .u16 0, .string ⟨#[]⟩, .string ⟨#[]⟩, .slice none 0 0] 38)
  have b3 := Blk.new (((w.alloc (.cells #[.int .u32 0, .int .u32 0, .int .u16 0, .string ⟨#[]⟩, .string ⟨#[]⟩, .slice none 0 0] 38)).alloc (.cells #[.slice A b.length c, .int .i64 0] 111)).alloc (.cells #[.pointer (some ⟨w.heap.size + 1, 0, none⟩)] 109)) 38 #[.int .u32 0, .int .u32 0, .int .u16 0, .string ⟨#[]⟩, .string ⟨#[]⟩, .slice none 0 0]
  rw [s1] at b1
  rw [s2] at b2
  rw [s3] at b3
  have hb4 : Below w.heap.size w ((((w.alloc (.cells #[.int .u32 0, .int .u32 0, .int .u16 0, .string ⟨#[]⟩, .string ⟨#[]⟩, .slice none 0 0] 38)).alloc (.cells #[.slice A b.length c, .int .i64 0] 111)).alloc (.cells #[.pointer (some ⟨w.heap.size + 1, 0, none⟩)] 109)).alloc (.cells #[.int .u32 0, .int .u32 0, .int .u16 0, .string ⟨#[]⟩, .string ⟨#[]⟩, .slice none 0 0] 38)) := ((((Below.refl w.heap.size w).alloc (Nat.le_refl _) _).alloc (by simp) _).alloc (by simp; omega) _).alloc (by simp; omega) _
  clear s1 s2 s3
  have hrx := fun (w1 : World) (hb : Below w.heap.size w w1) => hr.below hb
  replace hrx := Lib.hid hrx
  clear hr
  obtain ⟨bl, hbl⟩ : ∃ bl, b.length = bl := ⟨_, rfl⟩
  rw [hbl] at b1 hb4 s4 b0 b2 b3 ⊢
  obtain ⟨w4, hw4⟩ : ∃ w4, (((w.alloc (.cells #[.int .u32 0, .int .u32 0, .int .u16 0, .string ⟨#[]⟩, .string ⟨#[]⟩, .slice none 0 0] 38)).alloc (.cells #[.slice A bl c, .int .i64 0] 111)).alloc (.cells #[.pointer (some ⟨w.heap.size + 1, 0, none⟩)] 109)).alloc (.cells #[.int .u32 0, .int .u32 0, .int .u16 0, .string ⟨#[]⟩, .string ⟨#[]⟩, .slice none 0 0] 38) = w4 := ⟨_, rfl⟩
  rw [hw4] at s4 b0 b1 b2 b3 hb4
  have bt := Blk.new w4 28 #[.int .i64 0]
  rw [s4] at bt
  have hb5 := hb4.alloc hb4.size (.cells #[.int .i64 0] 28)
  have s5 : (w4.alloc (.cells #[.int .i64 0] 28)).heap.size = w.heap.size + 1 + 1 + 1 + 1 + 1 := by rw [World.size_alloc, s4]
  have hcl := read_cl (A := A) (c := c) (B := w.heap.size) (r := w.heap.size + 1) (pb := w.heap.size + 1 + 1) (ob := w.heap.size + 1 + 1 + 1) (b := b) (w := w4.alloc (.cells #[.int .i64 0] 28)) (by rw [hbl]; exact Blk.alloc b1 _) (hrx.out _ hb5) hA (by omega) (by omega) hc hl (b2.alloc _) (b3.alloc _) R hR
  rw [hbl] at hcl
  have htry : Calls Try.prog 56 #[.pointer (some ⟨w.heap.size + 1 + 1, 0, none⟩), .pointer (some ⟨w.heap.size + 1 + 1 + 1, 0, none⟩)] (w4.alloc (.cells #[.int .i64 0] 28)) (TryPost (fun w1 => R ≠ none ∧ ClRes (w4.alloc (.cells #[.int .i64 0] 28)) (w.heap.size + 1) (w.heap.size + 1 + 1 + 1) A bl c R (.returned (.tuple #[])) w1 ∧ Upd (fun x => x = w.heap.size + 1 ∨ x = w.heap.size + 1 + 1 + 1) (w4.alloc (.cells #[.int .i64 0] 28)) w1) (fun w1 => R = none ∧ Upd (fun x => x = w.heap.size + 1 ∨ x = w.heap.size + 1 + 1 + 1) (w4.alloc (.cells #[.int .i64 0] 28)) w1)) := by
    refine hcl.mono ?_
    intro e w1 h
    cases R with
    | none => exact .inr ⟨h.1, rfl, h.2⟩
    | some x => exact .inl ⟨h.1, by simp, ⟨rfl, h.2⟩, h.2.2.2⟩
  have htr := try_read (w := w4) (fun w1 hg => by rw [s4]; exact bt.upd hg.2.2 (fun e => by omega)) (fun w1 hg => by rw [s4]; exact bt.upd hg.2 (fun e => by omega)) htry
  rw [s4] at htr
  clear hcl htry hrx hA hc hl hR hbl
  replace htr := Lib.hid htr
  go_enter Try.func49, Try.ntmps49
  go_wp2_with fail
  refine htr.out.mono ?_
  rintro e w6 (⟨w5, rfl, ⟨hne, hcl, hu5⟩, hu6⟩ | ⟨w5, rfl, ⟨hnn, hu5⟩, hu6⟩)
  · dsimp only
    cases R with
    | none => exact absurd rfl hne
    | some x =>
    obtain ⟨o, q⟩ := x
    obtain ⟨-, hR5, ⟨A', c', xs, css, ho5, row5⟩, -⟩ := hcl
    rw [s5] at row5
    have hz6 := ((b0.alloc (.cells #[.int .i64 0] 28)).upd hu5 (fun e => by omega)).upd hu6 (fun e => by omega)
    have hp6 := ((b2.alloc (.cells #[.int .i64 0] 28)).upd hu5 (fun e => by omega)).upd hu6 (fun e => by omega)
    have ho6 := ho5.upd hu6 (fun e => by omega)
    have hR6 : CAt w6 (w.heap.size + 1) A bl c q := Blk.upd hR5 hu6 (fun e => by omega)
    have row6 := row5.upd hu6 (fun g hg e => by omega)
    have hB5 := hb5.trans (hu5.below (B := w.heap.size) hb5.size (fun k hk e => by omega))
    have hB6 := hB5.trans (hu6.below (B := w.heap.size) hB5.size (fun k hk e => by omega))
    have hres : ∀ w9, VRow w9 (w.heap.size + 1 + 1 + 1 + 1 + 1) o.l A' c' xs css → Below w.heap.size w w9 → OpRd w (some (o, q)) (.returned (.tuple #[.agg #[.int .u32 (o.c : Int), .int .u32 (o.s : Int), .int .u16 (o.n : Int), .string (bstr o.g), .string (bstr o.m), .slice A' o.l.length c'], .int .i64 (q : Int), .int .i64 0])) w9 := fun w9 h1 h2 => ⟨A', c', xs, css, rfl, h1.down (by omega), h2⟩
    generalize o.c = oc at *
    generalize o.s = os at *
    generalize o.n = on at *
    generalize bstr o.g = og at *
    generalize bstr o.m = om at *
    generalize o.l.length = ol at *
    replace hres := Lib.hid hres
    clear htr hu5 hu6 hB5 hb5 b0 b1 b2 b3 bt hR5 ho5 row5 hne
    have hS : w6.drew.cell? ⟨w.heap.size + 1 + 1 + 1, 0, none⟩ = some (.int .u32 (oc : Int)) ∧ w6.drew.cell? ⟨w.heap.size + 1 + 1 + 1, 1, none⟩ = some (.int .u32 (os : Int)) ∧ w6.drew.cell? ⟨w.heap.size + 1 + 1 + 1, 2, none⟩ = some (.int .u16 (on : Int)) ∧ w6.drew.cell? ⟨w.heap.size + 1 + 1 + 1, 3, none⟩ = some (.string og) ∧ w6.drew.cell? ⟨w.heap.size + 1 + 1 + 1, 4, none⟩ = some (.string om) ∧ w6.drew.cell? ⟨w.heap.size + 1 + 1 + 1, 5, none⟩ = some (.slice A' ol c') ∧ w6.drew.cell? ⟨w.heap.size + 1 + 1, 0, none⟩ = some (.pointer (some ⟨w.heap.size + 1, 0, none⟩)) ∧ w6.drew.cell? ⟨w.heap.size + 1, 1, none⟩ = some (.int .i64 (q : Int)) := ⟨ho6.cell 0, ho6.cell 1, ho6.cell 2, ho6.cell 3, ho6.cell 4, ho6.cell 5, hp6.cell 0, Blk.cell hR6 1⟩
    go_wp2_with fail
    refine wp_region_lex (fun W => W.cell? ⟨w.heap.size + 1 + 1 + 1, 0, none⟩ = some (.int .u32 (oc : Int)) ∧ W.cell? ⟨w.heap.size + 1 + 1 + 1, 1, none⟩ = some (.int .u32 (os : Int)) ∧ W.cell? ⟨w.heap.size + 1 + 1 + 1, 2, none⟩ = some (.int .u16 (on : Int)) ∧ W.cell? ⟨w.heap.size + 1 + 1 + 1, 3, none⟩ = some (.string og) ∧ W.cell? ⟨w.heap.size + 1 + 1 + 1, 4, none⟩ = some (.string om) ∧ W.cell? ⟨w.heap.size + 1 + 1 + 1, 5, none⟩ = some (.slice A' ol c') ∧ W.cell? ⟨w.heap.size + 1 + 1, 0, none⟩ = some (.pointer (some ⟨w.heap.size + 1, 0, none⟩)) ∧ W.cell? ⟨w.heap.size + 1, 1, none⟩ = some (.int .i64 (q : Int))) [0, 1, 4] [5] [0, 1, 2, 3, 4, 5, 6, 7] (by kernel_rfl) rfl (by kernel_rfl) (by kernel_rfl) (fun _ _ d _ _ h => by cases d <;> exact h) ?_
    repeat (first | (refine lexG_take _ ?_ rfl rfl rfl rfl (fun _ => ?_) ?_; rotate_left; (focus (go_simp; with_reducible rfl)); try simp only [Act.put, List.setIfInBounds_toArray, List.set_cons_zero, List.set_cons_succ]) | (refine lexG_held _ ?_ rfl rfl rfl rfl (by assumption) (fun _ hSw => ?_) ?_; rotate_left; (focus ((try dsimp only at hSw); go_simp; with_reducible rfl)); try simp only [Act.put, List.setIfInBounds_toArray, List.set_cons_zero, List.set_cons_succ]) | (refine lexG_skip _ rfl rfl (by assumption) ?_; try simp only [Act.put, List.setIfInBounds_toArray, List.set_cons_zero, List.set_cons_succ]))
    refine lexG_now _ rfl rfl rfl (fun K hK => ?_)
    refine wp_store_row 38 (Operand.tmp 2) (Operand.tmp 17) rfl w.heap.size #[.int .u32 (oc : Int), .int .u32 (os : Int), .int .u16 (on : Int), .string og, .string om, .slice A' ol c'] (by simp [go_sem]) (by simp [go_sem]) 38 _ hz6.drew (by kernel_rfl) rfl (by simp [Value.oneCell']) ?_
    have ho7 := ho6.drew.farRow (g := w.heap.size) (by omega) #[.int .u32 (oc : Int), .int .u32 (os : Int), .int .u16 (on : Int), .string og, .string om, .slice A' ol c']
    have hp7 := hp6.drew.farRow (g := w.heap.size) (by omega) #[.int .u32 (oc : Int), .int .u32 (os : Int), .int .u16 (on : Int), .string og, .string om, .slice A' ol c']
    have hR7 := (show Blk w6 (w.heap.size + 1) _ _ from hR6).drew.farRow (g := w.heap.size) (by omega) #[.int .u32 (oc : Int), .int .u32 (os : Int), .int .u16 (on : Int), .string og, .string om, .slice A' ol c']
    refine hK _ _ _ (fun _ h => h) ⟨ho7.cell 0, ho7.cell 1, ho7.cell 2, ho7.cell 3, ho7.cell 4, ho7.cell 5, hp7.cell 0, hR7.cell 1⟩ ?_
    have hz7 := hz6.drew.row #[.int .u32 (oc : Int), .int .u32 (os : Int), .int .u16 (on : Int), .string og, .string om, .slice A' ol c']
    have hb7 := below_row (below_drewN hB6 1) (g := w.heap.size) (Nat.le_refl _) #[.int .u32 (oc : Int), .int .u32 (os : Int), .int .u16 (on : Int), .string og, .string om, .slice A' ol c']
    have row7 := row6.upd (((Upd.refl (fun x => x = w.heap.size) w6).drew).setRow (g := w.heap.size) (fun _ => rfl) #[.int .u32 (oc : Int), .int .u32 (os : Int), .int .u16 (on : Int), .string og, .string om, .slice A' ol c']) (fun g hg e => by omega)
    clear hK K hz6 hp6 ho6 hR6 hB6 row6 hS ho7 hp7 hR7
    replace hb7 : Below w.heap.size w (w6.drew.setRow w.heap.size #[.int .u32 (oc : Int), .int .u32 (os : Int), .int .u16 (on : Int), .string og, .string om, .slice A' ol c']) := hb7
    generalize w6.drew.setRow w.heap.size #[.int .u32 (oc : Int), .int .u32 (os : Int), .int .u16 (on : Int), .string og, .string om, .slice A' ol c'] = w9 at *
    try simp only [Act.put, List.setIfInBounds_toArray, List.set_cons_zero, List.set_cons_succ]
    repeat (first | (refine lexG_take _ ?_ rfl rfl rfl rfl (fun _ => ?_) ?_; rotate_left; (focus (go_simp; with_reducible rfl)); try simp only [Act.put, List.setIfInBounds_toArray, List.set_cons_zero, List.set_cons_succ]) | (refine lexG_held _ ?_ rfl rfl rfl rfl (by assumption) (fun _ hSw => ?_) ?_; rotate_left; (focus ((try dsimp only at hSw); go_simp; with_reducible rfl)); try simp only [Act.put, List.setIfInBounds_toArray, List.set_cons_zero, List.set_cons_succ]) | (refine lexG_skip _ rfl rfl (by assumption) ?_; try simp only [Act.put, List.setIfInBounds_toArray, List.set_cons_zero, List.set_cons_succ]))
    refine lexG_nil ?_
    go_wp2_with fail
    refine bodyPost_ret (v := .tuple #[.agg #[.int .u32 (oc : Int), .int .u32 (os : Int), .int .u16 (on : Int), .string og, .string om, .slice A' ol c'], .int .i64 (q : Int), .int .i64 0]) ?hr rfl ?_
    case hr => exact results_ctt rfl _ _ w.heap.size 38 _ (0, 0) _ _ _ rfl rfl rfl hz7 Try.underlying38 rfl (by kernel_rfl)
    exact hres.out w9 row7 hb7
  · subst hnn
    dsimp only
    have hz6 := ((b0.alloc (.cells #[.int .i64 0] 28)).upd hu5 (fun e => by omega)).upd hu6 (fun e => by omega)
    have hB5 := hb5.trans (hu5.below (B := w.heap.size) hb5.size (fun k hk e => by omega))
    have hB6 := hB5.trans (hu6.below (B := w.heap.size) hB5.size (fun k hk e => by omega))
    have hz7 := hz6.row #[.int .u32 0, .int .u32 0, .int .u16 0, .string ⟨#[]⟩, .string ⟨#[]⟩, .slice none 0 0]
    have hb7 := below_row hB6 (g := w.heap.size) (Nat.le_refl _) #[.int .u32 0, .int .u32 0, .int .u16 0, .string ⟨#[]⟩, .string ⟨#[]⟩, .slice none 0 0]
    clear htr hu5 hu6 hB5 hb5 b0 b1 b2 b3 bt
    go_wp2_with (refine store_row_gen rfl 38 (Operand.tmp 2) _ rfl w.heap.size #[.int .u32 0, .int .u32 0, .int .u16 0, .string ⟨#[]⟩, .string ⟨#[]⟩, .slice none 0 0] (by simp [go_sem]) (by simp [go_sem]) 38 _ hz6 (by kernel_rfl) rfl (by simp [Value.oneCell']) (fun w9 hw9 => ?_); rw [← hw9] at hz7 hb7; clear hw9)
    refine bodyPost_ret (v := .tuple #[.agg #[.int .u32 0, .int .u32 0, .int .u16 0, .string ⟨#[]⟩, .string ⟨#[]⟩, .slice none 0 0], .int .i64 0, .int .i64 20]) ?hr rfl ?_
    case hr => exact results_ctt rfl _ _ w.heap.size 38 _ (0, 0) _ _ _ rfl rfl rfl hz7 Try.underlying38 rfl (by kernel_rfl)
    exact ⟨rfl, hb7⟩
end Go.Proofs.Ytlkokkbikkbaoaa
set_option linter.unusedSimpArgs false
set_option linter.unusedVariables false
namespace Go.Proofs.Ytlkokkbikkbaoaa
open Go.RowKit
set_option maxRecDepth 100000

theorem readT_encm (s more : List UInt8) (m : Int) (h : (s.length : Int) ≤ m) (h65 : s.length ≤ 65535) : readT (putU s.length 2 ++ s ++ more) m = (s, 2 + s.length, 0) := by
  have hr : readU (putU s.length 2) = s.length := by rw [readU_put]; exact Nat.mod_eq_of_lt (by omega)
  unfold readT
  rw [List.append_assoc, take_putU, drop_putU, hr, if_pos ⟨by simp [putU_len], by omega, by simp [putU_len]; omega⟩, List.take_left]

theorem rdV_enc (v : Val) (more : List UInt8) (hok : OkV v) (h : checkV v = 0) : rdV (encV v ++ more) = some (cleanV v, (encV v).length) := by
  obtain ⟨h1, h2, h3⟩ := checkV_zero h
  rw [rdV_some (pv_enc v 8 more hok h1 h2) h3, encV_len]
theorem pl_rdV_enc : ∀ (l : List Val) (more : List UInt8), (∀ v ∈ l, OkV v) → errL l = 0 → pl rdV l.length (encL l ++ more) = some (l.map cleanV, (encL l).length)
  | [], more, _, _ => rfl
  | v :: l, more, hok, he => by
    have hv : checkV v = 0 := by
      unfold errL at he
      split at he
      · assumption
      · rename_i h; simpa using h
    have hl : errL l = 0 := by
      unfold errL at he
      rw [if_neg (by simp [hv])] at he
      exact he
    show pl rdV (l.length + 1) ((encV v ++ encL l) ++ more) = some (cleanV v :: l.map cleanV, (encV v ++ encL l).length)
    rw [List.append_assoc, pl, rdV_enc v _ (hok v (by simp)) hv]
    dsimp only
    rw [List.drop_left, pl_rdV_enc l more (fun x hx => hok x (by simp [hx])) hl, List.length_append]

theorem bytesO_app (o : OpD) (more : List UInt8) : bytesO o ++ more = putU o.c 4 ++ (putU o.s 4 ++ (putU o.n 2 ++ ((putU o.g.length 2 ++ o.g) ++ ((putU o.m.length 2 ++ o.m) ++ ([UInt8.ofNat o.l.length] ++ (encL o.l ++ more)))))) := by
  unfold bytesO headO idB
  simp only [List.append_assoc]
theorem bytesO_len (o : OpD) : (bytesO o).length = 10 + (2 + o.g.length) + (2 + o.m.length) + 1 + (encL o.l).length := by
  unfold bytesO headO
  simp only [List.length_append, idB_len, putU_len, List.length_cons, List.length_nil]
theorem putU_back (v k : Nat) (h : v < 256 ^ k) : readU (putU v k) = v := by rw [readU_put]; exact Nat.mod_eq_of_lt h

theorem drop_at {b x y : List UInt8} {a n m : Nat} (h : b.drop a = x ++ y) (hx : x.length = n) (hm : a + n = m) : b.drop m = y := by
  rw [← hm, ← List.drop_drop, h, ← hx, List.drop_left]

theorem errO_zero {o : OpD} (h : errO o = 0) : o.l.length ≤ 16 ∧ o.g.length ≤ 32 ∧ o.m.length ≤ 32 ∧ errL o.l = 0 := by
  unfold errO at h
  split at h
  · cases h
  · split at h
    · cases h
    · split at h
      · cases h
      · exact ⟨by omega, by omega, by omega, h⟩

theorem rdOp_enc (o : OpD) (more : List UInt8) (hok : ∀ v ∈ o.l, OkV v) (hc : o.c < 4294967296) (hs : o.s < 4294967296) (hn : o.n < 65536) (he : errO o = 0) :
    rdOp (bytesO o ++ more) = some (⟨o.c, o.s, o.n, o.g, o.m, o.l.map cleanV⟩, (bytesO o).length) := by
  obtain ⟨hl, hg, hm, hel⟩ := errO_zero he
  obtain ⟨b, hb⟩ : ∃ b, bytesO o ++ more = b := ⟨_, rfl⟩
  have hlen : b.length = (bytesO o).length + more.length := by rw [← hb, List.length_append]
  have hbl := bytesO_len o
  rw [hb]
  have hb0 := bytesO_app o more
  rw [hb, show b = b.drop 0 from rfl] at hb0
  have h4 := drop_at hb0 (putU_len _ _) (m := 4) rfl
  have h8 := drop_at h4 (putU_len _ _) (m := 8) rfl
  have h10 := drop_at h8 (putU_len _ _) (m := 10) rfl
  have hg2 : (putU o.g.length 2 ++ o.g).length = 2 + o.g.length := by rw [List.length_append, putU_len]
  have hm2 : (putU o.m.length 2 ++ o.m).length = 2 + o.m.length := by rw [List.length_append, putU_len]
  have h12 := drop_at h10 hg2 (m := 10 + (2 + o.g.length)) rfl
  have h14 := drop_at h12 hm2 (m := 10 + (2 + o.g.length) + (2 + o.m.length)) rfl
  have h15 := drop_at h14 (n := 1) rfl (m := 10 + (2 + o.g.length) + (2 + o.m.length) + 1) rfl
  have t1 : b.take 4 = putU o.c 4 := by rw [show b = b.drop 0 from rfl, hb0, take_putU]
  have t2 : (b.drop 4).take 4 = putU o.s 4 := by rw [h4, take_putU]
  have t3 : (b.drop 8).take 2 = putU o.n 2 := by rw [h8, take_putU]
  have r1 : readT (b.drop 10) 32 = (o.g, 2 + o.g.length, 0) := by rw [h10]; exact readT_encm _ _ _ (by omega) (by omega)
  have r2 : readT (b.drop (10 + (2 + o.g.length))) 32 = (o.m, 2 + o.m.length, 0) := by rw [h12]; exact readT_encm _ _ _ (by omega) (by omega)
  have hk : readU ((b.drop (10 + (2 + o.g.length) + (2 + o.m.length))).take 1) = o.l.length := by
    rw [h14]
    show readU [UInt8.ofNat o.l.length] = _
    have h1 : readU [UInt8.ofNat o.l.length] = (UInt8.ofNat o.l.length).toNat := by unfold readU; simp
    rw [h1, UInt8.toNat_ofNat']
    omega
  unfold rdOp
  rw [if_neg (by omega), r1]
  dsimp only
  rw [if_neg (by omega), r2]
  dsimp only
  rw [if_neg (by omega), if_neg (by omega), hk, if_neg (by omega), h15, pl_rdV_enc o.l more hok hel]
  dsimp only
  rw [t1, t2, t3, putU_back _ _ (by omega), putU_back _ _ (by omega), putU_back _ _ (by omega), hbl]

end Go.Proofs.Ytlkokkbikkbaoaa
set_option linter.unusedSimpArgs false
set_option linter.unusedVariables false
namespace Go.Proofs.Ytlkokkbikkbaoaa
open Go.RowKit
set_option maxRecDepth 100000

theorem Blk.op6 {w : World} {g : Nat} {t : TypeId} {a b c d e f : Value} (h : Blk w g t #[a, b, c, d, e, f]) : w.cell? ⟨g, 0, none⟩ = some a ∧ w.cell? ⟨g, 1, none⟩ = some b ∧ w.cell? ⟨g, 2, none⟩ = some c ∧ w.cell? ⟨g, 3, none⟩ = some d ∧ w.cell? ⟨g, 4, none⟩ = some e ∧ w.cell? ⟨g, 5, none⟩ = some f := ⟨h.cell 0, h.cell 1, h.cell 2, h.cell 3, h.cell 4, h.cell 5⟩

theorem VReads.up {w : World} {B B' : Nat} {v : Val} {cs : Array Value} (h : VReads w B v cs) (hB : B ≤ B') : VReads w B' v cs := by
  induction h with
  | mk css hn hr hx hxs ih => exact .mk css hn (hr.more hB) (fun j v hv => ih j v hv) hxs
theorem OpReads.up {w : World} {B B' : Nat} {o : OpD} {cs : Array Value} (h : OpReads w B o cs) (hB : B ≤ B') : OpReads w B' o cs := by
  obtain ⟨A, cc, xs, css, h1, h2, h3, h4, h5, h6⟩ := h
  exact ⟨A, cc, xs, css, h1, h2.more hB, fun j v hv => (h3 j v hv).up hB, h4, h5, h6⟩
theorem op_of_row {w : World} {b : Nat} {o : OpD} {A : Option Addr} {c : Nat} {xs : List Value} {css : Nat → Array Value} (R : VRow w b o.l A c xs css) (hn : o.l.length ≤ 2199023255488) (hok : ∀ v ∈ o.l, OkV v) (h1 : o.c < 4294967296) (h2 : o.s < 4294967296) (h3 : o.n < 65536) :
    OpReads w w.heap.size o #[.int .u32 o.c, .int .u32 o.s, .int .u16 o.n, .string (bstr o.g), .string (bstr o.m), .slice A o.l.length c] :=
  ⟨A, c, xs, css, rfl, R.ho.reads_, fun j v hv => (R.hx j v hv).reads, R.hxs, hn, hok, h1, h2, h3⟩

end Go.Proofs.Ytlkokkbikkbaoaa
set_option linter.unusedSimpArgs false
set_option linter.unusedVariables false
namespace Go.Proofs.Ytlkokkbikkbaoaa
open Go.RowKit
set_option maxRecDepth 100000

theorem clean_okv {v : Val} (h : OkV v) : OkV (cleanV v) := by
  induction h with
  | @mk k i f s l h1 h2 h3 h4 ih =>
    have hl : ∀ x ∈ cleanL l, OkV x := by
      intro x hx
      rw [cleanL_map, List.mem_map] at hx
      obtain ⟨v, hv, rfl⟩ := hx
      exact ih v hv
    unfold cleanV
    split
    · exact .mk (by decide) h2 (by simp) (by simp)
    split
    · exact .mk (cb_lt h1) (by decide) (by simp) (by simp)
    split
    · exact .mk (by decide) (by decide) (by simp) (by simp)
    split
    · exact .mk (by decide) (by decide) hl (by rw [cleanL_map, List.length_map]; exact h4)
    · exact .mk (by decide) (by decide) (by simp) (by simp)

theorem op_parts {w : World} {B c s n : Nat} {g m : List UInt8} {l : List Val} {gg mm : ByteArray} {A : Option Addr} {L cc : Nat} (h : OpReads w B ⟨c, s, n, g, m, l⟩ #[.int .u32 (c : Int), .int .u32 (s : Int), .int .u16 (n : Int), .string gg, .string mm, .slice A L cc]) :
    gg = bstr g ∧ mm = bstr m ∧ L = l.length := by
  obtain ⟨A0, cc0, xs, css, hcs, -⟩ := h
  simp at hcs
  exact ⟨hcs.1, hcs.2.1, hcs.2.2.2.1⟩

theorem encL_le : ∀ l : List Val, errL l = 0 → (encL l).length ≤ l.length * 4096
  | [], _ => Nat.zero_le _
  | v :: l, h => by
    have hv : checkV v = 0 := by
      unfold errL at h
      split at h
      · assumption
      · rename_i h1; simpa using h1
    have hl : errL l = 0 := by
      unfold errL at h
      rw [if_neg (by simp [hv])] at h
      exact h
    have h1 := encV_small hv
    have h2 := encL_le l hl
    show (encV v ++ encL l).length ≤ (l.length + 1) * 4096
    rw [List.length_append]
    omega

/-- A call's own row, read; of the length given. -/
theorem opread_reads {w w' : World} {o : OpD} {A' : Option Addr} {c' L : Nat} {xs : List Value} {css : Nat → Array Value} (R : VRow w' w.heap.size o.l A' c' xs css) (hL : o.l.length = L) (h16 : L ≤ 2199023255488) (hok : ∀ v ∈ o.l, OkV v) (h1 : o.c < 4294967296) (h2 : o.s < 4294967296) (h3 : o.n < 65536) :
    OpReads w' w'.heap.size o #[.int .u32 (o.c : Int), .int .u32 (o.s : Int), .int .u16 (o.n : Int), .string (bstr o.g), .string (bstr o.m), .slice A' L c'] := by
  subst hL
  exact op_of_row R h16 hok h1 h2 h3
end Go.Proofs.Ytlkokkbikkbaoaa
set_option linter.unusedSimpArgs false
set_option linter.unusedVariables false
namespace Go.Proofs.Ytlkokkbikkbaoaa

inductive Alts where
  | nil
  | one (i : Nat) (p : Alts)
  | alt (i : Nat) (p q : Alts)
def Alts.len : Alts → Nat
  | .nil => 0
  | .one _ p => p.len + 1
  | .alt _ p _ => p.len + 1
def Alts.even : Alts → Bool
  | .nil => true
  | .one _ p => p.even
  | .alt _ p q => p.even && q.even && q.len == p.len + 1
def Alts.heads : Alts → List Nat
  | .nil => []
  | .one i _ => [i]
  | .alt i _ q => i :: q.heads

section
variable {P : Program} {ops : Array Oper} {Q : Exit → Act → World → Prop} {md : Region.Mode} {H N : List Nat}

/-- 'f': the plan stands behind an 'alt': what is ready is looked at there. -/
def altOk (md : Region.Mode) (ops : Array Oper) (N : List Nat) : Bool → Alts → Array Bool → Bool
  | f, .nil, listed => !f && (Region.ready md ops listed).isEmpty
  | f, .one i p, listed => readyAt md ops listed i && (if N.contains i then f || Region.ready md ops listed == [i] else !f && Region.free md ops listed i) && altOk md ops N false p (listed.setIfInBounds i true)
  | f, .alt i p q, listed => N.contains i && (f || Region.ready md ops listed == (Alts.alt i p q).heads) && altOk md ops N false p (listed.setIfInBounds i true) && altOk md ops N true q listed

def altG (P : Program) (md : Region.Mode) (ops : Array Oper) (Q : Exit → Act → World → Prop) (H N : List Nat) : Alts → (World → Prop) → Act → World → Prop
  | .nil, _, a, w => Q .normal a w
  | .one i p, S, a, w =>
    if N.contains i then wpOp P ops Q i (fun a' w' => ∃ S' : World → Prop, (∀ x, S' x → S x) ∧ (needS md ops H i = true → S' w') ∧ altG P md ops Q H N p S' a' w') a w
    else ∃ o v, ops[i]? = some o ∧ YieldsIf P ops (fun w' => H.contains i = true → S w') o v a ∧ (H.contains i = true → S w) ∧ altG P md ops Q H N p S (a.put o.dst v) w
  | .alt i p q, S, a, w =>
    wpOp P ops Q i (fun a' w' => ∃ S' : World → Prop, (∀ x, S' x → S x) ∧ (needS md ops H i = true → S' w') ∧ altG P md ops Q H N p S' a' w') a w ∧ altG P md ops Q H N q S a w

theorem alt_both (hsel : ∀ (j : Nat) (o : Oper) cs b, ops[j]? = some o → o.op ≠ .select cs b) (hQ : ∀ c a d v w, Q (.panic c) (a.put d v) w → Q (.panic c) a w) :
    ∀ (p : Alts) (S : World → Prop) (listed : Array Bool) (a : Act) (w : World), p.even = true → altG P md ops Q H N p S a w →
      (altOk md ops N false p listed = true → wpAnyG P md ops Q H N p.len S listed a w) ∧
      (altOk md ops N true p listed = true → ∀ k ∈ p.heads, wpOp P ops Q k (fun a' w' => ∃ S' : World → Prop, (∀ x, S' x → S x) ∧ askS md ops S S' H N k w w' ∧ wpAnyG P md ops Q H N (p.len - 1) S' (listed.setIfInBounds k true) a' w') a w)
  | .nil, S, listed, a, w, _, h => by
    refine ⟨fun hok => ?_, fun hok => ?_⟩
    · simp only [altOk, Bool.and_eq_true] at hok
      exact ⟨by simpa using hok.2, h⟩
    · simp [altOk] at hok
  | .one i p, S, listed, a, w, hev, h => by
    have ih := fun S' a' w' hg => alt_both hsel hQ p S' (listed.setIfInBounds i true) a' w' hev hg
    cases hN : N.contains i with
    | true =>
      unfold altG at h
      rw [hN] at h
      simp only [if_true] at h
      have step : altOk md ops N false p (listed.setIfInBounds i true) = true → wpOp P ops Q i (fun a' w' => ∃ S' : World → Prop, (∀ x, S' x → S x) ∧ askS md ops S S' H N i w w' ∧ wpAnyG P md ops Q H N p.len S' (listed.setIfInBounds i true) a' w') a w := fun hrest =>
        wpOp_mono (fun a' w' ⟨S', hsub, hask, hl⟩ => ⟨S', hsub, by unfold askS; rw [hN]; exact hask, (ih S' a' w' hl).1 hrest⟩) h
      refine ⟨fun hok => ?_, fun hok => ?_⟩
      · simp only [altOk, Bool.and_eq_true, hN, if_true, Bool.false_or, beq_iff_eq] at hok
        obtain ⟨⟨hr, hk⟩, hrest⟩ := hok
        refine ⟨fun h0 => (by rw [h0] at hk; cases hk), fun j hj => ?_⟩
        rw [hk] at hj
        obtain rfl : j = i := by simpa using hj
        exact step hrest
      · simp only [altOk, Bool.and_eq_true] at hok
        intro k hk
        obtain rfl : k = i := by simpa [Alts.heads] using hk
        exact step hok.2
    | false =>
      refine ⟨fun hok => ?_, fun hok => ?_⟩
      · simp only [altOk, Bool.and_eq_true, hN, Bool.false_eq_true, if_false] at hok
        obtain ⟨⟨hr, -, hk⟩, hrest⟩ := hok
        unfold altG at h
        rw [hN] at h
        simp only [Bool.false_eq_true, if_false] at h
        obtain ⟨o, v, ho, hy, hS, hl⟩ := h
        exact wpAnyG_first ho hN hsel (fun c a w => hQ c a o.dst v w) _ S listed a w (Region.free_spec ho hk) (ready_of_at hr) hy hS ((ih S _ w hl).1 hrest)
      · rw [altOk, hN] at hok
        simp at hok
  | .alt i p q, S, listed, a, w, hev, h => by
    simp only [Alts.even, Bool.and_eq_true, beq_iff_eq] at hev
    obtain ⟨⟨ev1, ev2⟩, hlen⟩ := hev
    have ih := fun S' a' w' hg => alt_both hsel hQ p S' (listed.setIfInBounds i true) a' w' ev1 hg
    unfold altG at h
    have ihq := alt_both hsel hQ q S listed a w ev2 h.2
    have all : N.contains i = true → altOk md ops N false p (listed.setIfInBounds i true) = true → altOk md ops N true q listed = true → ∀ k ∈ (Alts.alt i p q).heads, wpOp P ops Q k (fun a' w' => ∃ S' : World → Prop, (∀ x, S' x → S x) ∧ askS md ops S S' H N k w w' ∧ wpAnyG P md ops Q H N p.len S' (listed.setIfInBounds k true) a' w') a w := by
      intro hN hp hq k hk
      rcases List.mem_cons.1 (show k ∈ i :: q.heads from hk) with rfl | hk
      · exact wpOp_mono (fun a' w' ⟨S', hsub, hask, hl⟩ => ⟨S', hsub, by unfold askS; rw [hN]; exact hask, (ih S' a' w' hl).1 hp⟩) h.1
      · have h2 := ihq.2 hq k hk
        rw [hlen] at h2
        exact h2
    refine ⟨fun hok => ?_, fun hok => ?_⟩
    · simp only [altOk, Bool.and_eq_true, Bool.false_or, beq_iff_eq] at hok
      obtain ⟨⟨⟨hi, hr⟩, ok1⟩, ok2⟩ := hok
      refine ⟨fun h0 => (by rw [h0] at hr; cases hr), fun k hk => ?_⟩
      rw [hr] at hk
      exact all hi ok1 ok2 k hk
    · simp only [altOk, Bool.and_eq_true] at hok
      obtain ⟨⟨⟨hi, -⟩, ok1⟩, ok2⟩ := hok
      exact all hi ok1 ok2

theorem wp_region_alts {id : Nat} {a : Act} {w : World} {l : List Oper} (S : World → Prop) (H N : List Nat) (p : Alts) (hm : P.follows .mixedOrders = true) (hlen : p.len = l.toArray.size) (hev : p.even = true)
    (hs : Region.noSelect l.toArray = true) (hok : altOk .any l.toArray N false p (Array.replicate l.toArray.size false) = true) (hQ : ∀ c a d v w, Q (.panic c) (a.put d v) w → Q (.panic c) a w)
    (h : altG P .any l.toArray Q H N p S a w.drew) : (Code.region id l.toArray true).wp P Q a w :=
  wp_region_any hm (wpAny_of_G _ S _ _ _ (hlen ▸ (alt_both (Region.noSelect_spec hs) hQ p S _ a w.drew hev h).1 hok))

/-! ### The steps -/
section
variable {i : Nat} {rest : Alts} {a : Act} {w : World} {l : List Oper} {S : World → Prop}
theorem altG_nil (h : Q .normal a w) : altG P md l.toArray Q H N .nil S a w := h
theorem altG_take (o : Oper) (v : Value) (hN : N.contains i = false) (ho : l[i]? = some o) (hw : Region.wanted o (yielded l.toArray a.tmps) = true)
    (hH : H.contains i = false) (hy : ∀ w', (execOp a.eval o).run P w' = .ok (.value v) w') (h : altG P md l.toArray Q H N rest S (a.put o.dst v) w) : altG P md l.toArray Q H N (.one i rest) S a w := by
  unfold altG
  rw [hN]
  exact ⟨o, v, by simpa using ho, .inl ⟨hw, fun w' _ => hy w'⟩, fun hc => (by rw [hH] at hc; cases hc), h⟩
theorem altG_held (o : Oper) (v : Value) (hN : N.contains i = false) (ho : l[i]? = some o) (hw : Region.wanted o (yielded l.toArray a.tmps) = true)
    (hHi : H.contains i = true) (hS : S w) (hy : ∀ w', S w' → (execOp a.eval o).run P w' = .ok (.value v) w') (h : altG P md l.toArray Q H N rest S (a.put o.dst v) w) : altG P md l.toArray Q H N (.one i rest) S a w := by
  unfold altG
  rw [hN]
  exact ⟨o, v, by simpa using ho, .inl ⟨hw, fun w' hs => hy w' (hs hHi)⟩, fun _ => hS, h⟩
theorem altG_skip (o : Oper) (ho : l[i]? = some o) (hw : Region.wanted o (yielded l.toArray a.tmps) = false)
    (hS : S w) (h : altG P md l.toArray Q H N rest S (a.put o.dst undef) w) : altG P md l.toArray Q H N (.one i rest) S a w := by
  unfold altG
  split
  · unfold wpOp
    rw [show l.toArray[i]? = some o from by simpa using ho]
    simp only [hw, Bool.false_eq_true, if_false]
    exact ⟨S, fun _ h => h, fun _ => hS, h⟩
  · exact ⟨o, undef, by simpa using ho, .inr ⟨hw, rfl⟩, fun _ => hS, h⟩
theorem altG_now (o : Oper) (hN : N.contains i = true) (ho : l[i]? = some o) (hw : Region.wanted o (yielded l.toArray a.tmps) = true)
    (h : ∀ K : Act → World → Prop, (∀ a' w' (S' : World → Prop), (∀ x, S' x → S x) → S' w' → altG P md l.toArray Q H N rest S' a' w' → K a' w') → o.wp P a w K Q) : altG P md l.toArray Q H N (.one i rest) S a w := by
  unfold altG
  rw [hN]
  unfold wpOp
  rw [show l.toArray[i]? = some o from by simpa using ho]
  simp only [hw, if_true]
  exact .inl (h _ fun a' w' S' h1 h2 h3 => ⟨S', h1, fun _ => h2, h3⟩)
theorem altG_nowF (o : Oper) (hN : N.contains i = true) (ho : l[i]? = some o) (hw : Region.wanted o (yielded l.toArray a.tmps) = true) (hn : needS md l.toArray H i = false)
    (h : ∀ K : Act → World → Prop, (∀ a' w', altG P md l.toArray Q H N rest S a' w' → K a' w') → o.wp P a w K Q) : altG P md l.toArray Q H N (.one i rest) S a w := by
  unfold altG
  rw [hN]
  unfold wpOp
  rw [show l.toArray[i]? = some o from by simpa using ho]
  simp only [hw, if_true]
  exact .inl (h _ fun a' w' h3 => ⟨S, fun _ h => h, fun hc => (by rw [hn] at hc; cases hc), h3⟩)
theorem altG_alt {p q : Alts} (hi : N.contains i = true) (h1 : altG P md l.toArray Q H N (.one i p) S a w) (h2 : altG P md l.toArray Q H N q S a w) : altG P md l.toArray Q H N (.alt i p q) S a w := by
  unfold altG at h1
  rw [hi] at h1
  simp only [if_true] at h1
  unfold altG
  exact ⟨h1, h2⟩
end
end
end Go.Proofs.Ytlkokkbikkbaoaa
set_option linter.unusedSimpArgs false
set_option linter.unusedVariables false
namespace Go.Proofs.Ytlkokkbikkbaoaa
open Go.RowKit
set_option maxRecDepth 100000

theorem results_ct {P : Program} {fn : Func} {p u : Tmp} {ty : TypeId} (h : fn.results = #[.cell p ty, .tmp u]) (tmps : Array Value) (w : World) (g : Nat) (t : TypeId) (cs : Array Value) (fr : Nat × Nat) (d : TypeDesc) (v : Value)
    (hp : tmps.getD p undef = .pointer (some ⟨g, 0, none⟩)) (hv : tmps.getD u undef = v) (hg : w.heap[g]? = some (.cells cs t fr))
    (hu : P.underlying ty = some d) (hd : (match d with | .struct _ | .array _ _ => true | _ => false) = true) (hi : (P.info? ty).map (·.size) = some cs.size) :
    (results fn tmps).run P w = .ok (.tuple #[.agg cs, v]) w := by
  have hp' : tmps[p]?.getD undef = .pointer (some ⟨g, 0, none⟩) := by simpa using hp
  have hv' : tmps[u]?.getD undef = v := by simpa using hv
  simp [results, h, hp', hv', asAddr, run_loadVar_row w g t ty cs fr d hg hu hd hi]

end Go.Proofs.Ytlkokkbikkbaoaa
set_option linter.unusedSimpArgs false
set_option linter.unusedVariables false
namespace Go.Proofs.Ytlkokkbikkbaoaa
open Go.RowKit
set_option maxRecDepth 100000

theorem Blk.val5 {w : World} {g : Nat} {t : TypeId} {a b c d e : Value} (h : Blk w g t #[a, b, c, d, e]) : w.cell? ⟨g, 0, none⟩ = some a ∧ w.cell? ⟨g, 1, none⟩ = some b ∧ w.cell? ⟨g, 2, none⟩ = some c ∧ w.cell? ⟨g, 3, none⟩ = some d ∧ w.cell? ⟨g, 4, none⟩ = some e := ⟨h.cell 0, h.cell 1, h.cell 2, h.cell 3, h.cell 4⟩

end Go.Proofs.Ytlkokkbikkbaoaa
set_option linter.unusedSimpArgs false
set_option linter.unusedVariables false
namespace Go.Proofs.Ytlkokkbikkbaoaa
open Go.RowKit
set_option maxRecDepth 100000

theorem w64_le {e : Nat} (h : e ≤ 2000000000) : IntKind.i64.wrap (e : Int) = (e : Int) := w64_id _ (by omega) (by omega)
end Go.Proofs.Ytlkokkbikkbaoaa
