/- call.try: what panics short is one error. -/
import Derived.Test.YtjljlgkghlphnaaB4
import Derived.Defers
import Derived.Recover
set_option linter.unusedSimpArgs false
set_option linter.unusedVariables false
namespace Go.Proofs.Ytjljlgkghlphnaa
open Go.RowKit
set_option maxRecDepth 100000

theorem ctry_idle (p : Addr) (w : World) :
    CallsD Try.prog 100 #[.pointer (some p)] .returning w fun e u' w' => e = .returned (.tuple #[]) ∧ u' = .returning ∧ w = w' := by
  refine callsD_of_wpS Try.func100 rfl fun c₀ cs hu => ?_
  apply wpS_seq
  apply wpS_region
  simp [wpOpsS, go_sem, recoverD, hu, Try.ntmps100, Exit.thenS]
  apply wpS_seq
  apply wpS_region
  simp [wpOpsS, go_sem, Exit.thenS]
  refine wpS_cond (t := false) (by simp [Act.eval, Array.replicate]) ?_
  simp only [Bool.false_eq_true, if_false]
  refine wpS_of_wp (wp_skip ?_)
  cases c₀
  simp_all [bodyPostS, results, Try.results100, Exit.thenS]

theorem run_assert_shortC (w : World) : (Instr.typeAssert (.iface 162 (.agg #[])) 20 162 true).run Try.prog w = .ok (.tuple #[.agg #[], .bool true]) w := by
  simp [Instr.typeAssert, go_sem]

set_option maxHeartbeats 1600000 in
theorem ctry_short (p : Nat) (w : World) (b : Int) (hs : Blk w p 36 #[.int .i64 b]) :
    CallsD Try.prog 100 #[.pointer (some ⟨p, 0, none⟩)] (.panicking shortC) w fun e u' w' => e = .returned (.tuple #[]) ∧ u' = .panicking [{ v := .iface 162 (.agg #[]), recovered := true }] ∧
      Blk w' p 36 #[.int .i64 20] ∧ Upd (fun x => x = p) w w' := by
  unfold shortC
  have hta := fun w => run_assert_shortC w
  have hs1 := hs.alloc (.cells #[] 162)
  have hu1 := (Upd.refl (fun x => x = p) w).alloc (.cells #[] 162)
  have zs := hs1.cell 0
  have fs := hs1.frozen 0
  have hsf := hs1.set_ 0 (.int .i64 20)
  have huf := hu1.setCell (p := ⟨p, 0, none⟩) (fun _ => rfl) (.int .i64 20)
  replace hsf := Lib.hid hsf
  replace huf := Lib.hid huf
  clear hs hs1 hu1
  refine callsD_of_wpS Try.func100 rfl fun c₀ cs hu => ?_
  apply wpS_seq
  apply wpS_region
  simp [wpOpsS, go_sem, recoverD, hu, Try.ntmps100, Exit.thenS]
  refine wpS_of_wp (wp_mono (Q := fun e a' w' => (e = .normal ∨ e = .ret) ∧ a'.defers = [] ∧ Blk w' p 36 #[.int .i64 20] ∧ Upd (fun x => x = p) w w') ?_ ?_)
  · clear hu
    change Code.wp _ _ _ ⟨#[.pointer (some ⟨p, 0, none⟩), .iface 162 (.agg #[]), undef, undef, .iface 162 (.agg #[]), undef, undef, undef, undef, undef, undef, undef, undef, undef, undef], []⟩ w
    go_wp2_with fail
    exact ⟨hsf.out, huf.out⟩
  · rintro e a' w' ⟨he, hd, h⟩
    rcases he with rfl | rfl <;> simp [bodyPostS, results, Try.results100, hd, h]

def TryPost (good bad : World → Prop) (e : Ending) (w' : World) : Prop := (e = .returned (.tuple #[]) ∧ good w') ∨ (e = .panicked shortC ∧ bad w')
/-- What try leaves: 0 behind what went well, 20 behind a short panic; its own cell besides. -/
def TryRes (te : Nat) (good bad : World → Prop) (e : Ending) (w' : World) : Prop :=
  (∃ w1, e = .returned (.int .i64 0) ∧ good w1 ∧ Upd (fun x => x = te) w1 w') ∨ (∃ w1, e = .returned (.int .i64 20) ∧ bad w1 ∧ Upd (fun x => x = te) w1 w')

set_option maxHeartbeats 1600000 in
theorem try_read {pb ob : Nat} {w : World} {good bad : World → Prop} (hgood : ∀ w1, good w1 → Blk w1 w.heap.size 36 #[.int .i64 0]) (hbad : ∀ w1, bad w1 → Blk w1 w.heap.size 36 #[.int .i64 0])
    (hcall : Calls Try.prog 84 #[.pointer (some ⟨pb, 0, none⟩), .pointer (some ⟨ob, 0, none⟩)] (w.alloc (.cells #[.int .i64 0] 36)) (TryPost good bad)) :
    Calls Try.prog 83 #[.func (Fn.func 84) #[] #[.pointer (some ⟨pb, 0, none⟩), .pointer (some ⟨ob, 0, none⟩)]] w (TryRes w.heap.size good bad) := by
  have hmf : ∀ (fn : Fn) (first cap : Array Value) (w : World), (Instr.makeFunc fn first cap).run Try.prog w = .ok (.func fn first cap) w := fun _ _ _ _ => rfl
  replace hcall := Lib.hid hcall
  go_enter_defers Try.func83, Try.ntmps83
  go_wp2_with fail
  generalize w.alloc (.cells #[.int .i64 0] 36) = w2 at *
  refine hcall.out.mono ?_
  rintro e w3 (⟨rfl, hg⟩ | ⟨rfl, hb⟩)
  · dsimp only
    have h3 := hgood _ hg
    have x0 := h3.cell 0
    have xf := h3.frozen 0
    have h4 := h3.set_ 0 (.int .i64 0)
    have hu4 := (Upd.refl (fun x => x = w.heap.size) w3).setCell (p := ⟨w.heap.size, 0, none⟩) (fun _ => rfl) (.int .i64 0)
    go_wp2_with fail
    refine leaves_cons (f := 100) (args := #[.pointer (some ⟨w.heap.size, 0, none⟩)]) (by simp) (by simp [go_sem]) ?_
    refine (ctry_idle _ _).mono ?_
    rintro e u' w'' ⟨rfl, rfl, rfl⟩
    have y0 := h4.cell 0
    clear x0 xf
    simp [Leaves, settle, results, Try.results83, go_sem, y0]
    exact .inl ⟨w3, rfl, hg, hu4⟩
  · dsimp only
    have h3 := hbad _ hb
    go_wp2_with fail
    refine leaves_cons (f := 100) (args := #[.pointer (some ⟨w.heap.size, 0, none⟩)]) (by simp) (by simp [go_sem]) ?_
    refine (ctry_short _ _ _ h3).mono ?_
    rintro e u' w'' ⟨rfl, rfl, h4, hu4⟩
    have y0 := h4.cell 0
    simp [Leaves, settle, results, Try.results83, go_sem, y0]
    exact .inr ⟨w3, rfl, hb, hu4⟩
end Go.Proofs.Ytjljlgkghlphnaa
namespace Go.Proofs.Ytjljlgkghlphnaa
open Go.RowKit
set_option maxRecDepth 100000

def OpRd (w : World) (R : Option (OpD × Nat)) (e : Ending) (w' : World) : Prop :=
  match R with
  | some (o, q) => ∃ A' c' xs css, e = .returned (.tuple #[.agg #[.int .u32 (o.c : Int), .int .u32 (o.s : Int), .int .u16 (o.n : Int), .string (bstr o.g), .string (bstr o.m), .slice A' o.l.length c'], .int .i64 (q : Int), .int .i64 0]) ∧ VRow w' w.heap.size o.l A' c' xs css ∧ Below w.heap.size w w'
  | none => e = .returned (.tuple #[.agg #[.int .u32 0, .int .u32 0, .int .u16 0, .string ⟨#[]⟩, .string ⟨#[]⟩, .slice none 0 0], .int .i64 0, .int .i64 20]) ∧ Below w.heap.size w w'

set_option maxHeartbeats 3200000 in
theorem call_read {A : Option Addr} {c : Nat} {b : List UInt8} {w : World} (hr : Reads w w.heap.size 1 A b.length (bys b)) (hA : A = none → c = 0) (hc : b.length ≤ c) (hl : b.length ≤ 1000000000) (R : Option (OpD × Nat)) (hR : rdOp b = R) :
    Calls Try.prog 59 #[.slice A b.length c] w (OpRd w R) := by
  have hmf : ∀ (fn : Fn) (first cap : Array Value) (w : World), (Instr.makeFunc fn first cap).run Try.prog w = .ok (.func fn first cap) w := fun _ _ _ _ => rfl
  have s1 : (w.alloc (.cells #[.int .u32 0, .int .u32 0, .int .u16 0, .string ⟨#[]⟩, .string ⟨#[]⟩, .slice none 0 0] 30)).heap.size = w.heap.size + 1 := by simp
  have s2 : ((w.alloc (.cells #[.int .u32 0, .int .u32 0, .int .u16 0, .string ⟨#[]⟩, .string ⟨#[]⟩, .slice none 0 0] 30)).alloc (.cells #[.slice A b.length c, .int .i64 0] 147)).heap.size = w.heap.size + 1 + 1 := by simp
  have s3 : (((w.alloc (.cells #[.int .u32 0, .int .u32 0, .int .u16 0, .string ⟨#[]⟩, .string ⟨#[]⟩, .slice none 0 0] 30)).alloc (.cells #[.slice A b.length c, .int .i64 0] 147)).alloc (.cells #[.pointer (some ⟨w.heap.size + 1, 0, none⟩)] 145)).heap.size = w.heap.size + 1 + 1 + 1 := by simp
  have s4 : ((((w.alloc (.cells #[.int .u32 0, .int .u32 0, .int .u16 0, .string ⟨#[]⟩, .string ⟨#[]⟩, .slice none 0 0] 30)).alloc (.cells #[.slice A b.length c, .int .i64 0] 147)).alloc (.cells #[.pointer (some ⟨w.heap.size + 1, 0, none⟩)] 145)).alloc (.cells #[.int .u32 0, .int .u32 0, .int .u16 0, .string ⟨#[]⟩, .string ⟨#[]⟩, .slice none 0 0] 30)).heap.size = w.heap.size + 1 + 1 + 1 + 1 := by simp
  have b0 := (((Blk.new w 30 #[.int .u32 0, .int .u32 0, .int .u16 0, .string ⟨#[]⟩, .string ⟨#[]⟩, .slice none 0 0]).alloc (.cells #[.slice A b.length c, .int .i64 0] 147)).alloc (.cells #[.pointer (some ⟨w.heap.size + 1, 0, none⟩)] 145)).alloc (.cells #[.int .u32 0, .int .u32 0, .int .u16 0, .string ⟨#[]⟩, .string ⟨#[]⟩, .slice none 0 0] 30)
  have b1 := ((Blk.new (w.alloc (.cells #[.int .u32 0, .int .u32 0, .int .u16 0, .string ⟨#[]⟩, .string ⟨#[]⟩, .slice none 0 0] 30)) 147 #[.slice A b.length c, .int .i64 0]).alloc (.cells #[.pointer (some ⟨w.heap.size + 1, 0, none⟩)] 145)).alloc (.cells #[.int .u32 0, .int .u32 0, .int .u16 0, .string ⟨#[]⟩, .string ⟨#[]⟩, .slice none 0 0] 30)
  have b2 := (Blk.new ((w.alloc (.cells #[.int .u32 0, .int .u32 0, .int .u16 0, .string ⟨#[]⟩, .string ⟨#[]⟩, .slice none 0 0] 30)).alloc (.cells #[.slice A b.length c, .int .i64 0] 147)) 145 #[.pointer (some ⟨w.heap.size + 1, 0, none⟩)]).alloc (.cells #[.int .u32 0, .int .u32 0, .int .u16 0, .string ⟨#[]⟩, .string ⟨#[]⟩, .slice none 0 0] 30)
  have b3 := Blk.new (((w.alloc (.cells #[.int .u32 0, .int .u32 0, .int .u16 0, .string ⟨#[]⟩, .string ⟨#[]⟩, .slice none 0 0] 30)).alloc (.cells #[.slice A b.length c, .int .i64 0] 147)).alloc (.cells #[.pointer (some ⟨w.heap.size + 1, 0, none⟩)] 145)) 30 #[.int .u32 0, .int .u32 0, .int .u16 0, .string ⟨#[]⟩, .string ⟨#[]⟩, .slice none 0 0]
  rw [s1] at b1
  rw [s2] at b2
  rw [s3] at b3
  have hb4 : Below w.heap.size w ((((w.alloc (.cells #[.int .u32 0, .int .u32 0, .int .u16 0, .string ⟨#[]⟩, .string ⟨#[]⟩, .slice none 0 0] 30)).alloc (.cells #[.slice A b.length c, .int .i64 0] 147)).alloc (.cells #[.pointer (some ⟨w.heap.size + 1, 0, none⟩)] 145)).alloc (.cells #[.int .u32 0, .int .u32 0, .int .u16 0, .string ⟨#[]⟩, .string ⟨#[]⟩, .slice none 0 0] 30)) := ((((Below.refl w.heap.size w).alloc (Nat.le_refl _) _).alloc (by simp) _).alloc (by simp; omega) _).alloc (by simp; omega) _
  clear s1 s2 s3
  have hrx := fun (w1 : World) (hb : Below w.heap.size w w1) => hr.below hb
  replace hrx := Lib.hid hrx
  clear hr
  obtain ⟨bl, hbl⟩ : ∃ bl, b.length = bl := ⟨_, rfl⟩
  rw [hbl] at b1 hb4 s4 b0 b2 b3 ⊢
  obtain ⟨w4, hw4⟩ : ∃ w4, (((w.alloc (.cells #[.int .u32 0, .int .u32 0, .int .u16 0, .string ⟨#[]⟩, .string ⟨#[]⟩, .slice none 0 0] 30)).alloc (.cells #[.slice A bl c, .int .i64 0] 147)).alloc (.cells #[.pointer (some ⟨w.heap.size + 1, 0, none⟩)] 145)).alloc (.cells #[.int .u32 0, .int .u32 0, .int .u16 0, .string ⟨#[]⟩, .string ⟨#[]⟩, .slice none 0 0] 30) = w4 := ⟨_, rfl⟩
  rw [hw4] at s4 b0 b1 b2 b3 hb4
  have bt := Blk.new w4 36 #[.int .i64 0]
  rw [s4] at bt
  have hb5 := hb4.alloc hb4.size (.cells #[.int .i64 0] 36)
  have s5 : (w4.alloc (.cells #[.int .i64 0] 36)).heap.size = w.heap.size + 1 + 1 + 1 + 1 + 1 := by rw [World.size_alloc, s4]
  have hcl := read_cl (A := A) (c := c) (B := w.heap.size) (r := w.heap.size + 1) (pb := w.heap.size + 1 + 1) (ob := w.heap.size + 1 + 1 + 1) (b := b) (w := w4.alloc (.cells #[.int .i64 0] 36)) (by rw [hbl]; exact Blk.alloc b1 _) (hrx.out _ hb5) hA (by omega) (by omega) hc hl (b2.alloc _) (b3.alloc _) R hR
  rw [hbl] at hcl
  have htry : Calls Try.prog 84 #[.pointer (some ⟨w.heap.size + 1 + 1, 0, none⟩), .pointer (some ⟨w.heap.size + 1 + 1 + 1, 0, none⟩)] (w4.alloc (.cells #[.int .i64 0] 36)) (TryPost (fun w1 => R ≠ none ∧ ClRes (w4.alloc (.cells #[.int .i64 0] 36)) (w.heap.size + 1) (w.heap.size + 1 + 1 + 1) A bl c R (.returned (.tuple #[])) w1 ∧ Upd (fun x => x = w.heap.size + 1 ∨ x = w.heap.size + 1 + 1 + 1) (w4.alloc (.cells #[.int .i64 0] 36)) w1) (fun w1 => R = none ∧ Upd (fun x => x = w.heap.size + 1 ∨ x = w.heap.size + 1 + 1 + 1) (w4.alloc (.cells #[.int .i64 0] 36)) w1)) := by
    refine hcl.mono ?_
    intro e w1 h
    cases R with
    | none => exact .inr ⟨h.1, rfl, h.2⟩
    | some x => exact .inl ⟨h.1, by simp, ⟨rfl, h.2⟩, h.2.2.2⟩
  have htr := try_read (w := w4) (fun w1 hg => by rw [s4]; exact bt.upd hg.2.2 (fun e => by omega)) (fun w1 hg => by rw [s4]; exact bt.upd hg.2 (fun e => by omega)) htry
  rw [s4] at htr
  clear hcl htry hrx hA hc hl hR hbl
  replace htr := Lib.hid htr
  go_enter Try.func59, Try.ntmps59
  go_wp2_with fail
  refine htr.out.mono ?_
  rintro e w6 (⟨w5, rfl, ⟨hne, hcl, hu5⟩, hu6⟩ | ⟨w5, rfl, ⟨hnn, hu5⟩, hu6⟩)
  · dsimp only
    cases R with
    | none => exact absurd rfl hne
    | some x =>
    obtain ⟨o, q⟩ := x
    obtain ⟨-, hR5, ⟨A', c', xs, css, ho5, row5⟩, -⟩ := hcl
    rw [s5] at row5
    have hz6 := ((b0.alloc (.cells #[.int .i64 0] 36)).upd hu5 (fun e => by omega)).upd hu6 (fun e => by omega)
    have hp6 := ((b2.alloc (.cells #[.int .i64 0] 36)).upd hu5 (fun e => by omega)).upd hu6 (fun e => by omega)
    have ho6 := ho5.upd hu6 (fun e => by omega)
    have hR6 : CAt w6 (w.heap.size + 1) A bl c q := Blk.upd hR5 hu6 (fun e => by omega)
    have row6 := row5.upd hu6 (fun g hg e => by omega)
    have hB5 := hb5.trans (hu5.below (B := w.heap.size) hb5.size (fun k hk e => by omega))
    have hB6 := hB5.trans (hu6.below (B := w.heap.size) hB5.size (fun k hk e => by omega))
    have hres : ∀ w9, VRow w9 (w.heap.size + 1 + 1 + 1 + 1 + 1) o.l A' c' xs css → Below w.heap.size w w9 → OpRd w (some (o, q)) (.returned (.tuple #[.agg #[.int .u32 (o.c : Int), .int .u32 (o.s : Int), .int .u16 (o.n : Int), .string (bstr o.g), .string (bstr o.m), .slice A' o.l.length c'], .int .i64 (q : Int), .int .i64 0])) w9 := fun w9 h1 h2 => ⟨A', c', xs, css, rfl, h1.down (by omega), h2⟩
    generalize o.c = oc at *
    generalize o.s = os at *
    generalize o.n = on at *
    generalize bstr o.g = og at *
    generalize bstr o.m = om at *
    generalize o.l.length = ol at *
    replace hres := Lib.hid hres
    clear htr hu5 hu6 hB5 hb5 b0 b1 b2 b3 bt hR5 ho5 row5 hne
    have hS : w6.drew.cell? ⟨w.heap.size + 1 + 1 + 1, 0, none⟩ = some (.int .u32 (oc : Int)) ∧ w6.drew.cell? ⟨w.heap.size + 1 + 1 + 1, 1, none⟩ = some (.int .u32 (os : Int)) ∧ w6.drew.cell? ⟨w.heap.size + 1 + 1 + 1, 2, none⟩ = some (.int .u16 (on : Int)) ∧ w6.drew.cell? ⟨w.heap.size + 1 + 1 + 1, 3, none⟩ = some (.string og) ∧ w6.drew.cell? ⟨w.heap.size + 1 + 1 + 1, 4, none⟩ = some (.string om) ∧ w6.drew.cell? ⟨w.heap.size + 1 + 1 + 1, 5, none⟩ = some (.slice A' ol c') ∧ w6.drew.cell? ⟨w.heap.size + 1 + 1, 0, none⟩ = some (.pointer (some ⟨w.heap.size + 1, 0, none⟩)) ∧ w6.drew.cell? ⟨w.heap.size + 1, 1, none⟩ = some (.int .i64 (q : Int)) := ⟨ho6.cell 0, ho6.cell 1, ho6.cell 2, ho6.cell 3, ho6.cell 4, ho6.cell 5, hp6.cell 0, Blk.cell hR6 1⟩
    go_wp2_with fail
    refine wp_region_lex (fun W => W.cell? ⟨w.heap.size + 1 + 1 + 1, 0, none⟩ = some (.int .u32 (oc : Int)) ∧ W.cell? ⟨w.heap.size + 1 + 1 + 1, 1, none⟩ = some (.int .u32 (os : Int)) ∧ W.cell? ⟨w.heap.size + 1 + 1 + 1, 2, none⟩ = some (.int .u16 (on : Int)) ∧ W.cell? ⟨w.heap.size + 1 + 1 + 1, 3, none⟩ = some (.string og) ∧ W.cell? ⟨w.heap.size + 1 + 1 + 1, 4, none⟩ = some (.string om) ∧ W.cell? ⟨w.heap.size + 1 + 1 + 1, 5, none⟩ = some (.slice A' ol c') ∧ W.cell? ⟨w.heap.size + 1 + 1, 0, none⟩ = some (.pointer (some ⟨w.heap.size + 1, 0, none⟩)) ∧ W.cell? ⟨w.heap.size + 1, 1, none⟩ = some (.int .i64 (q : Int))) [0, 1, 4] [5] [0, 1, 2, 3, 4, 5, 6, 7] (by kernel_rfl) rfl (by kernel_rfl) (by kernel_rfl) (fun _ _ d _ _ h => by cases d <;> exact h) ?_
    repeat (first | (refine lexG_take _ ?_ rfl rfl rfl rfl (fun _ => ?_) ?_; rotate_left; (focus (go_simp; with_reducible rfl)); try simp only [Act.put, List.setIfInBounds_toArray, List.set_cons_zero, List.set_cons_succ]) | (refine lexG_held _ ?_ rfl rfl rfl rfl (by assumption) (fun _ hSw => ?_) ?_; rotate_left; (focus ((try dsimp only at hSw); go_simp; with_reducible rfl)); try simp only [Act.put, List.setIfInBounds_toArray, List.set_cons_zero, List.set_cons_succ]) | (refine lexG_skip _ rfl rfl (by assumption) ?_; try simp only [Act.put, List.setIfInBounds_toArray, List.set_cons_zero, List.set_cons_succ]))
    refine lexG_now _ rfl rfl rfl (fun K hK => ?_)
    refine wp_store_row 30 (Operand.tmp 2) (Operand.tmp 17) rfl w.heap.size #[.int .u32 (oc : Int), .int .u32 (os : Int), .int .u16 (on : Int), .string og, .string om, .slice A' ol c'] (by simp [go_sem]) (by simp [go_sem]) 30 _ hz6.drew (by kernel_rfl) rfl (by simp [Value.oneCell']) ?_
    have ho7 := ho6.drew.farRow (g := w.heap.size) (by omega) #[.int .u32 (oc : Int), .int .u32 (os : Int), .int .u16 (on : Int), .string og, .string om, .slice A' ol c']
    have hp7 := hp6.drew.farRow (g := w.heap.size) (by omega) #[.int .u32 (oc : Int), .int .u32 (os : Int), .int .u16 (on : Int), .string og, .string om, .slice A' ol c']
    have hR7 := (show Blk w6 (w.heap.size + 1) _ _ from hR6).drew.farRow (g := w.heap.size) (by omega) #[.int .u32 (oc : Int), .int .u32 (os : Int), .int .u16 (on : Int), .string og, .string om, .slice A' ol c']
    refine hK _ _ _ (fun _ h => h) ⟨ho7.cell 0, ho7.cell 1, ho7.cell 2, ho7.cell 3, ho7.cell 4, ho7.cell 5, hp7.cell 0, hR7.cell 1⟩ ?_
    have hz7 := hz6.drew.row #[.int .u32 (oc : Int), .int .u32 (os : Int), .int .u16 (on : Int), .string og, .string om, .slice A' ol c']
    have hb7 := below_row (below_drewN hB6 1) (g := w.heap.size) (Nat.le_refl _) #[.int .u32 (oc : Int), .int .u32 (os : Int), .int .u16 (on : Int), .string og, .string om, .slice A' ol c']
    have row7 := row6.upd (((Upd.refl (fun x => x = w.heap.size) w6).drew).setRow (g := w.heap.size) (fun _ => rfl) #[.int .u32 (oc : Int), .int .u32 (os : Int), .int .u16 (on : Int), .string og, .string om, .slice A' ol c']) (fun g hg e => by omega)
    clear hK K hz6 hp6 ho6 hR6 hB6 row6 hS ho7 hp7 hR7
    replace hb7 : Below w.heap.size w (w6.drew.setRow w.heap.size #[.int .u32 (oc : Int), .int .u32 (os : Int), .int .u16 (on : Int), .string og, .string om, .slice A' ol c']) := hb7
    generalize w6.drew.setRow w.heap.size #[.int .u32 (oc : Int), .int .u32 (os : Int), .int .u16 (on : Int), .string og, .string om, .slice A' ol c'] = w9 at *
    try simp only [Act.put, List.setIfInBounds_toArray, List.set_cons_zero, List.set_cons_succ]
    repeat (first | (refine lexG_take _ ?_ rfl rfl rfl rfl (fun _ => ?_) ?_; rotate_left; (focus (go_simp; with_reducible rfl)); try simp only [Act.put, List.setIfInBounds_toArray, List.set_cons_zero, List.set_cons_succ]) | (refine lexG_held _ ?_ rfl rfl rfl rfl (by assumption) (fun _ hSw => ?_) ?_; rotate_left; (focus ((try dsimp only at hSw); go_simp; with_reducible rfl)); try simp only [Act.put, List.setIfInBounds_toArray, List.set_cons_zero, List.set_cons_succ]) | (refine lexG_skip _ rfl rfl (by assumption) ?_; try simp only [Act.put, List.setIfInBounds_toArray, List.set_cons_zero, List.set_cons_succ]))
    refine lexG_nil ?_
    go_wp2_with fail
    refine bodyPost_ret (v := .tuple #[.agg #[.int .u32 (oc : Int), .int .u32 (os : Int), .int .u16 (on : Int), .string og, .string om, .slice A' ol c'], .int .i64 (q : Int), .int .i64 0]) ?hr rfl ?_
    case hr => exact results_ctt rfl _ _ w.heap.size 30 _ (0, 0) _ _ _ rfl rfl rfl hz7 Try.underlying30 rfl (by kernel_rfl)
    exact hres.out w9 row7 hb7
  · subst hnn
    dsimp only
    have hz6 := ((b0.alloc (.cells #[.int .i64 0] 36)).upd hu5 (fun e => by omega)).upd hu6 (fun e => by omega)
    have hB5 := hb5.trans (hu5.below (B := w.heap.size) hb5.size (fun k hk e => by omega))
    have hB6 := hB5.trans (hu6.below (B := w.heap.size) hB5.size (fun k hk e => by omega))
    have hz7 := hz6.row #[.int .u32 0, .int .u32 0, .int .u16 0, .string ⟨#[]⟩, .string ⟨#[]⟩, .slice none 0 0]
    have hb7 := below_row hB6 (g := w.heap.size) (Nat.le_refl _) #[.int .u32 0, .int .u32 0, .int .u16 0, .string ⟨#[]⟩, .string ⟨#[]⟩, .slice none 0 0]
    clear htr hu5 hu6 hB5 hb5 b0 b1 b2 b3 bt
    go_wp2_with (refine store_row_gen rfl 30 (Operand.tmp 2) _ rfl w.heap.size #[.int .u32 0, .int .u32 0, .int .u16 0, .string ⟨#[]⟩, .string ⟨#[]⟩, .slice none 0 0] (by simp [go_sem]) (by simp [go_sem]) 30 _ hz6 (by kernel_rfl) rfl (by simp [Value.oneCell']) (fun w9 hw9 => ?_); rw [← hw9] at hz7 hb7; clear hw9)
    refine bodyPost_ret (v := .tuple #[.agg #[.int .u32 0, .int .u32 0, .int .u16 0, .string ⟨#[]⟩, .string ⟨#[]⟩, .slice none 0 0], .int .i64 0, .int .i64 20]) ?hr rfl ?_
    case hr => exact results_ctt rfl _ _ w.heap.size 30 _ (0, 0) _ _ _ rfl rfl rfl hz7 Try.underlying30 rfl (by kernel_rfl)
    exact ⟨rfl, hb7⟩
end Go.Proofs.Ytjljlgkghlphnaa
namespace Go.Proofs.Ytjljlgkghlphnaa
open Go.RowKit
set_option maxRecDepth 100000

def errR (er : Int) (v : Val) : Nat := if er < 0 ∨ 65535 < er then 22 else checkV v
def bytesR (c s n : Nat) (er : Int) (v : Val) : List UInt8 := idB c s n ++ putU er.toNat 2 ++ encV v
def RepPut (w : World) (bs : List UInt8) (c s n : Nat) (er : Int) (v : Val) (e : Ending) (w' : World) : Prop := (errR er v = 0 → PutOk w (bs ++ bytesR c s n er v) e w') ∧ (errR er v ≠ 0 → PutNo w (errR er v) e w')

end Go.Proofs.Ytjljlgkghlphnaa
namespace Go.Proofs.Ytjljlgkghlphnaa
open Go.RowKit
set_option maxRecDepth 100000

/-- What the reading of a reply comes to: its id, error, value, and how far. -/
def rdRep (b : List UInt8) : Option ((Nat × Nat × Nat × Nat) × Val × Nat) :=
  if b.length < 10 then none
  else if b.length < 12 then none
  else match rdV (b.drop 12) with
    | none => none
    | some (v, m) => some ((readU (b.take 4), readU ((b.drop 4).take 4), readU ((b.drop 8).take 2), readU ((b.drop 10).take 2)), v, 12 + m)

end Go.Proofs.Ytjljlgkghlphnaa
namespace Go.Proofs.Ytjljlgkghlphnaa
open Go.RowKit
set_option maxRecDepth 100000

def RepRd (w : World) (R : Option ((Nat × Nat × Nat × Nat) × Val × Nat)) (e : Ending) (w' : World) : Prop :=
  match R with
  | some ((c1, s1, n1, e1), v, q) => ∃ k i f s A' n' c', e = .returned (.tuple #[.agg #[.int .u32 (c1 : Int), .int .u32 (s1 : Int), .int .u16 (n1 : Int), .int .i64 (e1 : Int), .int .i64 k, .int .i64 i, .float .f64 f, .string s, .slice A' n' c'], .int .i64 (q : Int), .int .i64 0]) ∧ VOwn w' (fun g => w.heap.size ≤ g) v #[.int .i64 k, .int .i64 i, .float .f64 f, .string s, .slice A' n' c'] ∧ Below w.heap.size w w'
  | none => e = .returned (.tuple #[.agg #[.int .u32 0, .int .u32 0, .int .u16 0, .int .i64 0, .int .i64 0, .int .i64 0, .float .f64 0, .string ⟨#[]⟩, .slice none 0 0], .int .i64 0, .int .i64 20]) ∧ Below w.heap.size w w'

end Go.Proofs.Ytjljlgkghlphnaa
namespace Go.Proofs.Ytjljlgkghlphnaa
open Go.RowKit
set_option maxRecDepth 100000

theorem readT_encm (s more : List UInt8) (m : Int) (h : (s.length : Int) ≤ m) (h65 : s.length ≤ 65535) : readT (putU s.length 2 ++ s ++ more) m = (s, 2 + s.length, 0) := by
  have hr : readU (putU s.length 2) = s.length := by rw [readU_put]; exact Nat.mod_eq_of_lt (by omega)
  unfold readT
  rw [List.append_assoc, take_putU, drop_putU, hr, if_pos ⟨by simp [putU_len], by omega, by simp [putU_len]; omega⟩, List.take_left]

theorem rdV_enc (v : Val) (more : List UInt8) (hok : OkV v) (h : checkV v = 0) : rdV (encV v ++ more) = some (cleanV v, (encV v).length) := by
  obtain ⟨h1, h2, h3⟩ := checkV_zero h
  rw [rdV_some (pv_enc v 8 more hok h1 h2) h3, encV_len]
theorem pl_rdV_enc : ∀ (l : List Val) (more : List UInt8), (∀ v ∈ l, OkV v) → errL l = 0 → pl rdV l.length (encL l ++ more) = some (l.map cleanV, (encL l).length)
  | [], more, _, _ => rfl
  | v :: l, more, hok, he => by
    have hv : checkV v = 0 := by
      unfold errL at he
      split at he
      · assumption
      · rename_i h; simpa using h
    have hl : errL l = 0 := by
      unfold errL at he
      rw [if_neg (by simp [hv])] at he
      exact he
    show pl rdV (l.length + 1) ((encV v ++ encL l) ++ more) = some (cleanV v :: l.map cleanV, (encV v ++ encL l).length)
    rw [List.append_assoc, pl, rdV_enc v _ (hok v (by simp)) hv]
    dsimp only
    rw [List.drop_left, pl_rdV_enc l more (fun x hx => hok x (by simp [hx])) hl, List.length_append]

theorem bytesO_app (o : OpD) (more : List UInt8) : bytesO o ++ more = putU o.c 4 ++ (putU o.s 4 ++ (putU o.n 2 ++ ((putU o.g.length 2 ++ o.g) ++ ((putU o.m.length 2 ++ o.m) ++ ([UInt8.ofNat o.l.length] ++ (encL o.l ++ more)))))) := by
  unfold bytesO headO idB
  simp only [List.append_assoc]
theorem bytesO_len (o : OpD) : (bytesO o).length = 10 + (2 + o.g.length) + (2 + o.m.length) + 1 + (encL o.l).length := by
  unfold bytesO headO
  simp only [List.length_append, idB_len, putU_len, List.length_cons, List.length_nil]
theorem putU_back (v k : Nat) (h : v < 256 ^ k) : readU (putU v k) = v := by rw [readU_put]; exact Nat.mod_eq_of_lt h

theorem drop_at {b x y : List UInt8} {a n m : Nat} (h : b.drop a = x ++ y) (hx : x.length = n) (hm : a + n = m) : b.drop m = y := by
  rw [← hm, ← List.drop_drop, h, ← hx, List.drop_left]

theorem errO_zero {o : OpD} (h : errO o = 0) : o.l.length ≤ 16 ∧ o.g.length ≤ 32 ∧ o.m.length ≤ 32 ∧ errL o.l = 0 := by
  unfold errO at h
  split at h
  · cases h
  · split at h
    · cases h
    · split at h
      · cases h
      · exact ⟨by omega, by omega, by omega, h⟩

theorem rdOp_enc (o : OpD) (more : List UInt8) (hok : ∀ v ∈ o.l, OkV v) (hc : o.c < 4294967296) (hs : o.s < 4294967296) (hn : o.n < 65536) (he : errO o = 0) :
    rdOp (bytesO o ++ more) = some (⟨o.c, o.s, o.n, o.g, o.m, o.l.map cleanV⟩, (bytesO o).length) := by
  obtain ⟨hl, hg, hm, hel⟩ := errO_zero he
  obtain ⟨b, hb⟩ : ∃ b, bytesO o ++ more = b := ⟨_, rfl⟩
  have hlen : b.length = (bytesO o).length + more.length := by rw [← hb, List.length_append]
  have hbl := bytesO_len o
  rw [hb]
  have hb0 := bytesO_app o more
  rw [hb, show b = b.drop 0 from rfl] at hb0
  have h4 := drop_at hb0 (putU_len _ _) (m := 4) rfl
  have h8 := drop_at h4 (putU_len _ _) (m := 8) rfl
  have h10 := drop_at h8 (putU_len _ _) (m := 10) rfl
  have hg2 : (putU o.g.length 2 ++ o.g).length = 2 + o.g.length := by rw [List.length_append, putU_len]
  have hm2 : (putU o.m.length 2 ++ o.m).length = 2 + o.m.length := by rw [List.length_append, putU_len]
  have h12 := drop_at h10 hg2 (m := 10 + (2 + o.g.length)) rfl
  have h14 := drop_at h12 hm2 (m := 10 + (2 + o.g.length) + (2 + o.m.length)) rfl
  have h15 := drop_at h14 (n := 1) rfl (m := 10 + (2 + o.g.length) + (2 + o.m.length) + 1) rfl
  have t1 : b.take 4 = putU o.c 4 := by rw [show b = b.drop 0 from rfl, hb0, take_putU]
  have t2 : (b.drop 4).take 4 = putU o.s 4 := by rw [h4, take_putU]
  have t3 : (b.drop 8).take 2 = putU o.n 2 := by rw [h8, take_putU]
  have r1 : readT (b.drop 10) 32 = (o.g, 2 + o.g.length, 0) := by rw [h10]; exact readT_encm _ _ _ (by omega) (by omega)
  have r2 : readT (b.drop (10 + (2 + o.g.length))) 32 = (o.m, 2 + o.m.length, 0) := by rw [h12]; exact readT_encm _ _ _ (by omega) (by omega)
  have hk : readU ((b.drop (10 + (2 + o.g.length) + (2 + o.m.length))).take 1) = o.l.length := by
    rw [h14]
    show readU [UInt8.ofNat o.l.length] = _
    have h1 : readU [UInt8.ofNat o.l.length] = (UInt8.ofNat o.l.length).toNat := by unfold readU; simp
    rw [h1, UInt8.toNat_ofNat']
    omega
  unfold rdOp
  rw [if_neg (by omega), r1]
  dsimp only
  rw [if_neg (by omega), r2]
  dsimp only
  rw [if_neg (by omega), if_neg (by omega), hk, if_neg (by omega), h15, pl_rdV_enc o.l more hok hel]
  dsimp only
  rw [t1, t2, t3, putU_back _ _ (by omega), putU_back _ _ (by omega), putU_back _ _ (by omega), hbl]

theorem bytesR_app (c s n : Nat) (er : Int) (v : Val) (more : List UInt8) : bytesR c s n er v ++ more = putU c 4 ++ (putU s 4 ++ (putU n 2 ++ (putU er.toNat 2 ++ (encV v ++ more)))) := by
  unfold bytesR idB
  simp only [List.append_assoc]
theorem bytesR_len (c s n : Nat) (er : Int) (v : Val) : (bytesR c s n er v).length = 12 + (encV v).length := by
  unfold bytesR
  simp only [List.length_append, idB_len, putU_len]

theorem rdRep_enc (c s n : Nat) (er : Int) (v : Val) (more : List UInt8) (hok : OkV v) (hc : c < 4294967296) (hs : s < 4294967296) (hn : n < 65536) (he : errR er v = 0) :
    rdRep (bytesR c s n er v ++ more) = some ((c, s, n, er.toNat), cleanV v, (bytesR c s n er v).length) := by
  have he2 : (0 ≤ er ∧ er ≤ 65535) ∧ checkV v = 0 := by
    unfold errR at he
    split at he
    · cases he
    · exact ⟨by omega, he⟩
  obtain ⟨⟨he0, he1⟩, hv⟩ := he2
  obtain ⟨b, hb⟩ : ∃ b, bytesR c s n er v ++ more = b := ⟨_, rfl⟩
  have hbl := bytesR_len c s n er v
  have hlen : b.length = 12 + (encV v).length + more.length := by rw [← hb, List.length_append, hbl]
  rw [hb]
  have hb0 := bytesR_app c s n er v more
  rw [hb, show b = b.drop 0 from rfl] at hb0
  have h4 := drop_at hb0 (putU_len _ _) (m := 4) rfl
  have h8 := drop_at h4 (putU_len _ _) (m := 8) rfl
  have h10 := drop_at h8 (putU_len _ _) (m := 10) rfl
  have h12 := drop_at h10 (putU_len _ _) (m := 12) rfl
  have t1 : b.take 4 = putU c 4 := by rw [show b = b.drop 0 from rfl, hb0, take_putU]
  have t2 : (b.drop 4).take 4 = putU s 4 := by rw [h4, take_putU]
  have t3 : (b.drop 8).take 2 = putU n 2 := by rw [h8, take_putU]
  have t4 : (b.drop 10).take 2 = putU er.toNat 2 := by rw [h10, take_putU]
  unfold rdRep
  rw [if_neg (by omega), if_neg (by omega), h12, rdV_enc v more hok hv]
  dsimp only
  rw [t1, t2, t3, t4, putU_back _ _ (by omega), putU_back _ _ (by omega), putU_back _ _ (by omega), putU_back _ _ (by omega), hbl]
end Go.Proofs.Ytjljlgkghlphnaa
namespace Go.Proofs.Ytjljlgkghlphnaa
open Go.RowKit
set_option maxRecDepth 100000

def sameL (l l' : List Val) : Bool := decide (l.length = l'.length) && decide (ordL l l' = 0)

def sameO (o o' : OpD) : Bool := (decide (o.c = o'.c) && decide (o.s = o'.s) && decide (o.n = o'.n)) && decide (bstr o.g = bstr o'.g) && decide (bstr o.m = bstr o'.m) && sameL o.l o'.l

end Go.Proofs.Ytjljlgkghlphnaa
namespace Go.Proofs.Ytjljlgkghlphnaa
open Go.RowKit
set_option maxRecDepth 100000

def op0 : OpD := ⟨1, 2, 0, [103], [109], [.mk 1 3 0 [] []]⟩
theorem val1_reads (w : World) (B : Nat) (k i : Int) (f : Nat) : VReads w B (.mk k i f [] []) #[.int .i64 k, .int .i64 i, .float .f64 f, .string ⟨#[]⟩, .slice none 0 0] :=
  .mk (l := []) (s := []) (A := none) (c := 0) (xs := []) (fun _ => #[]) (by simp) ⟨rfl, by simp⟩ (by simp) (by simp)
theorem val1_ok (k i : Int) (f : Nat) (hf : f < 18446744073709551616) (hi : -9223372036854775808 ≤ i ∧ i ≤ 9223372036854775807) : OkV (.mk k i f [] []) := .mk hf hi (by simp) (by simp)
theorem op0_err : errO op0 = 0 := by decide +kernel
theorem op0_bytes : ([] ++ bytesO op0).length = 26 := by decide +kernel
theorem op0_ok : ∀ v ∈ op0.l, OkV v := by
  intro v hv
  simp [op0] at hv
  subst hv
  exact val1_ok 1 3 0 (by decide) (by decide)
theorem op0_read : rdOp ([] ++ bytesO op0) = some (op0, 26) := by
  have := rdOp_enc op0 [] op0_ok (by decide) (by decide) (by decide) op0_err
  rw [List.append_nil] at this
  rw [List.nil_append, this, ← List.nil_append (bytesO op0), op0_bytes]
  rfl
theorem op0_same : sameO op0 op0 = true := by decide +kernel
theorem op0_reads {w : World} {g : Nat} {t : TypeId} (h : Blk w g t #[.int .i64 1, .int .i64 3, .float .f64 0, .string ⟨#[]⟩, .slice none 0 0]) (c : Nat) :
    OpReads w w.heap.size op0 #[.int .u32 1, .int .u32 2, .int .u16 0, .string ⟨#[103]⟩, .string ⟨#[109]⟩, .slice (some ⟨g, 0, none⟩) 1 c] := by
  refine ⟨some ⟨g, 0, none⟩, c, [.int .i64 1, .int .i64 3, .float .f64 0, .string ⟨#[]⟩, .slice none 0 0], fun _ => #[.int .i64 1, .int .i64 3, .float .f64 0, .string ⟨#[]⟩, .slice none 0 0], rfl, ⟨rfl, fun _ => ⟨⟨g, 0, none⟩, rfl, h.lt, fun j u hj => by rw [add_row]; exact (h.cell j).trans (by simpa using hj)⟩⟩, ?_, ?_, by decide, op0_ok, by decide, by decide, by decide⟩
  · intro j v hv
    cases j with
    | zero =>
      simp [op0] at hv
      subst hv
      exact val1_reads w _ 1 3 0
    | succ j => simp [op0] at hv
  · intro j hj
    have : j = 0 := by simp [op0] at hj; exact hj
    subst this
    rfl
theorem rep0_err : errR 30 (.mk 0 0 0 [] []) = 0 := by decide +kernel
theorem rep0_len : ([] ++ bytesR 1 2 0 30 (.mk 0 0 0 [] [])).length = 13 := by decide +kernel
theorem rep0_read : rdRep ([] ++ bytesR 1 2 0 30 (.mk 0 0 0 [] [])) = some ((1, 2, 0, 30), .mk 0 0 0 [] [], 13) := by
  have := rdRep_enc 1 2 0 30 (.mk 0 0 0 [] []) [] (val1_ok 0 0 0 (by decide) (by decide)) (by decide) (by decide) (by decide) rep0_err
  rw [List.append_nil] at this
  rw [List.nil_append, this, ← List.nil_append (bytesR _ _ _ _ _), rep0_len]
  rfl

theorem Blk.op6 {w : World} {g : Nat} {t : TypeId} {a b c d e f : Value} (h : Blk w g t #[a, b, c, d, e, f]) : w.cell? ⟨g, 0, none⟩ = some a ∧ w.cell? ⟨g, 1, none⟩ = some b ∧ w.cell? ⟨g, 2, none⟩ = some c ∧ w.cell? ⟨g, 3, none⟩ = some d ∧ w.cell? ⟨g, 4, none⟩ = some e ∧ w.cell? ⟨g, 5, none⟩ = some f := ⟨h.cell 0, h.cell 1, h.cell 2, h.cell 3, h.cell 4, h.cell 5⟩

theorem VReads.up {w : World} {B B' : Nat} {v : Val} {cs : Array Value} (h : VReads w B v cs) (hB : B ≤ B') : VReads w B' v cs := by
  induction h with
  | mk css hn hr hx hxs ih => exact .mk css hn (hr.more hB) (fun j v hv => ih j v hv) hxs
theorem OpReads.up {w : World} {B B' : Nat} {o : OpD} {cs : Array Value} (h : OpReads w B o cs) (hB : B ≤ B') : OpReads w B' o cs := by
  obtain ⟨A, cc, xs, css, h1, h2, h3, h4, h5, h6⟩ := h
  exact ⟨A, cc, xs, css, h1, h2.more hB, fun j v hv => (h3 j v hv).up hB, h4, h5, h6⟩
theorem op_of_row {w : World} {b : Nat} {o : OpD} {A : Option Addr} {c : Nat} {xs : List Value} {css : Nat → Array Value} (R : VRow w b o.l A c xs css) (hn : o.l.length ≤ 2199023255488) (hok : ∀ v ∈ o.l, OkV v) (h1 : o.c < 4294967296) (h2 : o.s < 4294967296) (h3 : o.n < 65536) :
    OpReads w w.heap.size o #[.int .u32 o.c, .int .u32 o.s, .int .u16 o.n, .string (bstr o.g), .string (bstr o.m), .slice A o.l.length c] :=
  ⟨A, c, xs, css, rfl, R.ho.reads_, fun j v hv => (R.hx j v hv).reads, R.hxs, hn, hok, h1, h2, h3⟩

end Go.Proofs.Ytjljlgkghlphnaa
namespace Go.Proofs.Ytjljlgkghlphnaa
open Go.RowKit
set_option maxRecDepth 100000

theorem Blk.cells9 {w : World} {g : Nat} {t : TypeId} {a b c d e f h i j : Value} (x : Blk w g t #[a, b, c, d, e, f, h, i, j]) : w.cell? ⟨g, 0, none⟩ = some a ∧ w.cell? ⟨g, 1, none⟩ = some b ∧ w.cell? ⟨g, 2, none⟩ = some c ∧ w.cell? ⟨g, 3, none⟩ = some d ∧ w.cell? ⟨g, 4, none⟩ = some e ∧ w.cell? ⟨g, 5, none⟩ = some f ∧ w.cell? ⟨g, 6, none⟩ = some h ∧ w.cell? ⟨g, 7, none⟩ = some i ∧ w.cell? ⟨g, 8, none⟩ = some j := ⟨x.cell 0, x.cell 1, x.cell 2, x.cell 3, x.cell 4, x.cell 5, x.cell 6, x.cell 7, x.cell 8⟩

end Go.Proofs.Ytjljlgkghlphnaa
namespace Go.Proofs.Ytjljlgkghlphnaa
open Go.ChangeShapes Go.WideShapes Go.ChangeAt Go.RowKit

section
variable {H : Type} {enc : TypeId × Value → H} {W : World}

theorem okWide_flt {P : Program} {w : World} {r : Reach} {base : Nat} {t : TypeId} {v : Value} {k : FloatKind} (ht : P.underlying t = some (.float k)) (h : Value.okWide P w r base t v) : ∃ n, v = .float k n := by
  simp only [Value.okWide, ht, Cell.okWide] at h
  cases v <;> simp_all [Cell.ok]
set_option maxRecDepth 100000 in
theorem open_flt {r : Reach} {b0 : Nat} {t : TypeId} {v : Value} {d : DataW H} {p : List MemPlace} (ht : Try.prog.underlying t = some (.float .f64)) (hval : Value.okWide Try.prog W r b0 t v) (h : DataW.Trod enc Try.prog W 0 (fun _ => true) true t v d p) : ∃ n, v = .float .f64 n ∧ n < 18446744073709551616 := by
  obtain ⟨n, rfl⟩ := okWide_flt ht hval
  obtain ⟨fuel, hf⟩ := h
  obtain ⟨m, hm, w2⟩ := trod_flt ht hf
  simp [Value.cells] at hm
  subst hm
  refine ⟨n, rfl, ?_⟩
  simp [Lit.wf] at w2
  omega

theorem u32_nat {n : Int} (h : (Lit.int .u32 n).wf = true) : ∃ m : Nat, n = (m : Int) ∧ m < 4294967296 := by
  simp [Lit.wf, IntKind.min, IntKind.max, IntKind.signed, IntKind.bits] at h
  exact ⟨n.toNat, by omega, by omega⟩
theorem u16_nat {n : Int} (h : (Lit.int .u16 n).wf = true) : ∃ m : Nat, n = (m : Int) ∧ m < 65536 := by
  simp [Lit.wf, IntKind.min, IntKind.max, IntKind.signed, IntKind.bits] at h
  exact ⟨n.toNat, by omega, by omega⟩

end
end Go.Proofs.Ytjljlgkghlphnaa
namespace Go.Proofs.Ytjljlgkghlphnaa
open Go.RowKit
set_option maxRecDepth 100000

theorem clean_okv {v : Val} (h : OkV v) : OkV (cleanV v) := by
  induction h with
  | @mk k i f s l h1 h2 h3 h4 ih =>
    have hl : ∀ x ∈ cleanL l, OkV x := by
      intro x hx
      rw [cleanL_map, List.mem_map] at hx
      obtain ⟨v, hv, rfl⟩ := hx
      exact ih v hv
    unfold cleanV
    split
    · exact .mk (by decide) h2 (by simp) (by simp)
    split
    · exact .mk (cb_lt h1) (by decide) (by simp) (by simp)
    split
    · exact .mk (by decide) (by decide) (by simp) (by simp)
    split
    · exact .mk (by decide) (by decide) hl (by rw [cleanL_map, List.length_map]; exact h4)
    · exact .mk (by decide) (by decide) (by simp) (by simp)

def OpCl (w : World) (o : OpD) (gg mm : ByteArray) (L : Nat) (e : Ending) (w' : World) : Prop :=
  ∃ A' c', e = .returned (.agg #[.int .u32 (o.c : Int), .int .u32 (o.s : Int), .int .u16 (o.n : Int), .string gg, .string mm, .slice A' L c']) ∧ OpReads w' w'.heap.size o #[.int .u32 (o.c : Int), .int .u32 (o.s : Int), .int .u16 (o.n : Int), .string gg, .string mm, .slice A' L c'] ∧ Below w.heap.size w w'

theorem opcl_of {w : World} {c s n : Nat} {g m : List UInt8} {l : List Val} (hll : l.length ≤ 2199023255488) (hok : ∀ v ∈ l, OkV v) (hc : c < 4294967296) (hs : s < 4294967296) (hn : n < 65536) (e : Ending) (w' : World) (h : OpCleanRes w (c : Int) (s : Int) (n : Int) (bstr g) (bstr m) l e w') :
    OpCl w ⟨c, s, n, g, m, l.map cleanV⟩ (bstr g) (bstr m) l.length e w' := by
  obtain ⟨A', c', xs', css', rfl, R, hb⟩ := h
  have := op_of_row (o := ⟨c, s, n, g, m, l.map cleanV⟩) R (by simp only [List.length_map]; exact hll) (fun v hv => by
    simp only [List.mem_map] at hv
    obtain ⟨u, hu, rfl⟩ := hv
    exact clean_okv (hok u hu)) hc hs hn
  simp only [List.length_map] at this
  exact ⟨A', c', rfl, this, hb⟩

theorem op_parts {w : World} {B c s n : Nat} {g m : List UInt8} {l : List Val} {gg mm : ByteArray} {A : Option Addr} {L cc : Nat} (h : OpReads w B ⟨c, s, n, g, m, l⟩ #[.int .u32 (c : Int), .int .u32 (s : Int), .int .u16 (n : Int), .string gg, .string mm, .slice A L cc]) :
    gg = bstr g ∧ mm = bstr m ∧ L = l.length := by
  obtain ⟨A0, cc0, xs, css, hcs, -⟩ := h
  simp at hcs
  exact ⟨hcs.1, hcs.2.1, hcs.2.2.2.1⟩

theorem clean_prog {w : World} {B c s n : Nat} {g m : List UInt8} {l : List Val} {gg mm : ByteArray} {A : Option Addr} {L cc : Nat} (h : OpReads w B ⟨c, s, n, g, m, l⟩ #[.int .u32 (c : Int), .int .u32 (s : Int), .int .u16 (n : Int), .string gg, .string mm, .slice A L cc]) (hB : B ≤ w.heap.size) :
    Calls Try.prog 41 #[.agg #[.int .u32 (c : Int), .int .u32 (s : Int), .int .u16 (n : Int), .string gg, .string mm, .slice A L cc]] w (OpCl w ⟨c, s, n, g, m, l.map cleanV⟩ gg mm L) := by
  obtain ⟨rfl, rfl, rfl⟩ := op_parts h
  obtain ⟨A0, cc0, xs, css, hcs, hr, hx, hxs, hll, hok, hc, hs, hn⟩ := h
  simp at hcs
  obtain ⟨rfl, rfl⟩ := hcs
  exact (op_clean hr hB hxs hx hll (fun j v hv w1 hb1 => val_clean_s (hx j v hv) w1 (short_of_ok (hok v (List.mem_of_getElem? hv))) (hb1.mono hB) (Nat.le_trans hB hb1.size))).mono (opcl_of hll hok hc hs hn)

theorem clean_ref {w : World} {B c s n : Nat} {g m : List UInt8} {l : List Val} {gg mm : ByteArray} {A : Option Addr} {L cc : Nat} (h : OpReads w B ⟨c, s, n, g, m, l⟩ #[.int .u32 (c : Int), .int .u32 (s : Int), .int .u16 (n : Int), .string gg, .string mm, .slice A L cc]) (hB : B ≤ w.heap.size) :
    Calls Try.prog 65 #[.agg #[.int .u32 (c : Int), .int .u32 (s : Int), .int .u16 (n : Int), .string gg, .string mm, .slice A L cc]] w (OpCl w ⟨c, s, n, g, m, l.map cleanV⟩ gg mm L) := by
  obtain ⟨rfl, rfl, rfl⟩ := op_parts h
  obtain ⟨A0, cc0, xs, css, hcs, hr, hx, hxs, hll, hok, hc, hs, hn⟩ := h
  simp at hcs
  obtain ⟨rfl, rfl⟩ := hcs
  exact (ref_clean_op hr hB hxs hx hll hok).mono (opcl_of hll hok hc hs hn)

theorem encL_le : ∀ l : List Val, errL l = 0 → (encL l).length ≤ l.length * 4096
  | [], _ => Nat.zero_le _
  | v :: l, h => by
    have hv : checkV v = 0 := by
      unfold errL at h
      split at h
      · assumption
      · rename_i h1; simpa using h1
    have hl : errL l = 0 := by
      unfold errL at h
      rw [if_neg (by simp [hv])] at h
      exact h
    have h1 := encV_small hv
    have h2 := encL_le l hl
    show (encV v ++ encL l).length ≤ (l.length + 1) * 4096
    rw [List.length_append]
    omega

/-- A call's own row, read; of the length given. -/
theorem opread_reads {w w' : World} {o : OpD} {A' : Option Addr} {c' L : Nat} {xs : List Value} {css : Nat → Array Value} (R : VRow w' w.heap.size o.l A' c' xs css) (hL : o.l.length = L) (h16 : L ≤ 2199023255488) (hok : ∀ v ∈ o.l, OkV v) (h1 : o.c < 4294967296) (h2 : o.s < 4294967296) (h3 : o.n < 65536) :
    OpReads w' w'.heap.size o #[.int .u32 (o.c : Int), .int .u32 (o.s : Int), .int .u16 (o.n : Int), .string (bstr o.g), .string (bstr o.m), .slice A' L c'] := by
  subst hL
  exact op_of_row R h16 hok h1 h2 h3
end Go.Proofs.Ytjljlgkghlphnaa
namespace Go.Proofs.Ytjljlgkghlphnaa
open Go.ChangeShapes Go.WideShapes Go.ChangeAt Go.RowKit
set_option maxRecDepth 100000

section
variable {H : Type} {enc : TypeId × Value → H} {W : World}

theorem open_vals {fuel : Nat} {v : Value} {y : DataW H × List MemPlace} (hf : DataW.trod enc Try.prog W 0 (fun _ => true) true fuel 28 [v] = some y) (hwy : ∀ u ∈ DataW.weights Try.prog 28 y.1, u ≤ reachBytes) :
    ∃ (A : Option Addr) (c : Nat) (l : List Val) (xs : List Value) (css : Nat → Array Value), v = .slice A l.length c ∧ Reads W W.heap.size 5 A l.length xs ∧ (∀ (j : Nat) (x : Val), l[j]? = some x → VReads W W.heap.size x (css j)) ∧ (∀ j, j < l.length → (xs.drop (j * 5)).take 5 = (css j).toList) ∧ (∀ x, x ∈ l → OkV x) ∧ l.length ≤ 2199023255488 := by
  have c5 : Try.prog.cellsOf 110 = 5 := by kernel_rfl
  have b64 : Try.prog.bytesOf 110 = 64 := by kernel_rfl
  rcases DataW.trod_slice Try.underlying28 hf with ⟨h0, -⟩ | ⟨a, len, cap, elems, rest, n', hnn, h1, hy4, -, hlc, -, hlen, hel, -, -⟩
  · simp at h0
    subst h0
    exact ⟨none, 0, [], [], fun _ => #[], rfl, Reads.none_, by simp, by simp, by simp, by simp⟩
  · have hy4d : y.1 = .slice (elems.map (·.1)) (rest.map (·.1)) := congrArg Prod.fst hy4
    rw [hy4d] at hwy
    simp at h1
    subst h1
    have hwl : (elems.length + rest.length) * 64 ≤ reachBytes := by
      refine hwy _ ?_
      unfold DataW.weights
      rw [Try.underlying28]
      dsimp only
      rw [b64, List.length_map, List.length_map]
      exact List.mem_cons_self
    have hwe : ∀ y ∈ elems, ∀ u ∈ DataW.weights Try.prog 110 y.1, u ≤ reachBytes := by
      intro y hy u hu
      refine hwy u ?_
      unfold DataW.weights
      rw [Try.underlying28]
      exact List.mem_cons_of_mem _ (List.mem_append_left _ (weightsAll_mem _ y.1 (List.mem_map_of_mem hy) u hu))
    have each : ∀ i, ∃ (p : Val × Array Value), i < len → VReads W W.heap.size p.1 p.2 ∧ OkV p.1 ∧ ∀ j u, p.2.toList[j]? = some u → W.cell? (a.add (i * 5 + j)) = some u := by
      intro i
      by_cases hi2 : i < len
      · have h5 := hel i hi2
        rw [c5] at h5
        have hie : i < elems.length := by omega
        rw [List.getElem?_eq_getElem hie] at h5
        cases hc : W.cells? 0 (a.add (i * 5)) 5 with
        | none => rw [hc] at h5; cases h5
        | some cs' =>
          rw [hc] at h5
          obtain ⟨v, ca, hca, hv, ho⟩ := open_tree n' cs' _ h5 (hwe _ (List.getElem_mem hie))
          refine ⟨(v, ca), fun _ => ⟨hv, ho, fun j u hj => ?_⟩⟩
          obtain ⟨-, hcl, hat⟩ := World.cells?_some hc
          have hj5 : j < 5 := by
            have := (List.getElem?_eq_some_iff.1 hj).1
            rw [← hca, hcl] at this
            exact this
          have := hat j hj5
          rw [add_of_add] at this
          rw [this, hca]
          exact hj
      · exact ⟨(.mk 0 0 0 [] [], #[]), fun h => absurd h hi2⟩
    obtain ⟨f, hfx⟩ := Classical.axiomOfChoice each
    have hfs : ∀ i, i < len → (f i).2.toList.length = 5 := by
      intro i hi2
      obtain ⟨_, _, _, _, _, _, _, e⟩ := (hfx i hi2).1.form
      rw [e]
      rfl
    have hr64 : len * 64 ≤ 140737488351232 := by
      have : (elems.length + rest.length) * 64 ≤ 140737488351232 := hwl
      omega
    have hll : ((List.range len).map fun i => (f i).1).length = len := by simp
    have hflat : ∀ m, m ≤ len → ((List.range m).flatMap fun i => (f i).2.toList).length = m * 5 := by
      intro m
      induction m with
      | zero => intro _; rfl
      | succ m ihm =>
        intro hm
        rw [List.range_succ, List.flatMap_append, List.length_append, ihm (by omega)]
        simp only [List.flatMap_cons, List.flatMap_nil, List.append_nil]
        rw [hfs m (by omega)]
        omega
    have hget : ∀ m, m ≤ len → ∀ i j u, i < m → (f i).2.toList[j]? = some u → ((List.range m).flatMap fun i => (f i).2.toList)[i * 5 + j]? = some u := by
      intro m
      induction m with
      | zero => intro _ i j u hi2; omega
      | succ m ihm =>
        intro hm i j u hi2 hu
        have hj5 : j < 5 := by
          have := (List.getElem?_eq_some_iff.1 hu).1
          rw [hfs i (by omega)] at this
          exact this
        rw [List.range_succ, List.flatMap_append]
        simp only [List.flatMap_cons, List.flatMap_nil, List.append_nil]
        by_cases him : i < m
        · rw [List.getElem?_append_left (by rw [hflat m (by omega)]; omega)]
          exact ihm (by omega) i j u him hu
        · have : i = m := by omega
          subst this
          rw [List.getElem?_append_right (by rw [hflat i (by omega)]; omega), hflat i (by omega), show i * 5 + j - i * 5 = j from by omega]
          exact hu
    have hreads : Reads W W.heap.size 5 (some a) len ((List.range len).flatMap fun i => (f i).2.toList) := by
      refine ⟨hflat len (Nat.le_refl _), fun hn => ⟨a, rfl, ?_, fun q u hq => ?_⟩⟩
      · have h5 := hfs 0 hn
        obtain ⟨u, hu⟩ : ∃ u, (f 0).2.toList[0]? = some u := ⟨_, List.getElem?_eq_getElem (by omega)⟩
        have := World.block_lt_of_cell? W _ ((hfx 0 hn).2.2 0 u hu)
        rwa [block_of_add] at this
      · have hql := (List.getElem?_eq_some_iff.1 hq).1
        rw [hflat len (Nat.le_refl _)] at hql
        have hi2 : q / 5 < len := by omega
        have hj : q % 5 < (f (q / 5)).2.toList.length := by rw [hfs _ hi2]; omega
        have hg := hget len (Nat.le_refl _) (q / 5) (q % 5) _ hi2 (List.getElem?_eq_getElem hj)
        rw [show q / 5 * 5 + q % 5 = q from by omega, hq] at hg
        have hcell := (hfx (q / 5) hi2).2.2 (q % 5) _ (List.getElem?_eq_getElem hj)
        rw [show q / 5 * 5 + q % 5 = q from by omega] at hcell
        rw [hcell, ← hg]
    refine ⟨some a, cap, (List.range len).map fun i => (f i).1, (List.range len).flatMap fun i => (f i).2.toList, fun i => (f i).2, by rw [hll], by rw [hll]; exact hreads, fun j v hv => ?_, fun j hj => ?_, fun v hv => ?_, by rw [hll]; omega⟩
    · rw [List.getElem?_map] at hv
      have hjl : j < len := by
        rcases Nat.lt_or_ge j len with h | h
        · exact h
        · rw [List.getElem?_eq_none (by simpa using h)] at hv; cases hv
      rw [List.getElem?_range hjl] at hv
      simp only [Option.map_some, Option.some.injEq] at hv
      subst hv
      exact (hfx j hjl).1
    · rw [hll] at hj
      apply List.ext_getElem?
      intro q
      rw [List.getElem?_take, List.getElem?_drop]
      by_cases hq : q < 5
      · rw [if_pos hq]
        have hj5 : q < (f j).2.toList.length := by rw [hfs _ hj]; exact hq
        rw [hget len (Nat.le_refl _) j q _ hj (List.getElem?_eq_getElem hj5), List.getElem?_eq_getElem hj5]
      · rw [if_neg hq, List.getElem?_eq_none (by rw [hfs _ hj]; omega)]
    · obtain ⟨i, hi2, rfl⟩ := List.mem_map.1 hv
      exact (hfx i (List.mem_range.1 hi2)).2.1

theorem open_op {r : Reach} {base : Nat} {v : Value} {d : DataW H} {p : List MemPlace} (hval : Value.okWide Try.prog W r base 30 v) (h : DataW.Trod enc Try.prog W 0 (fun _ => true) true 30 v d p) {ts : List TypeId} {ds : List (DataW H)} {j : Nat}
    (hsz : (DataW.weightsEach Try.prog ts ds).all (· ≤ reachBytes) = true) (hj : ts[j]? = some 30) (hd : ds[j]? = some d) :
    ∃ (c s n : Nat) (g m : List UInt8) (gg mm : ByteArray) (l : List Val) (A : Option Addr) (K cc : Nat), v = .agg #[.int .u32 (c : Int), .int .u32 (s : Int), .int .u16 (n : Int), .string gg, .string mm, .slice A K cc] ∧ OpReads W W.heap.size ⟨c, s, n, g, m, l⟩ #[.int .u32 (c : Int), .int .u32 (s : Int), .int .u16 (n : Int), .string gg, .string mm, .slice A K cc] := by
  obtain ⟨ca, rfl, -⟩ := okWide_struct Try.underlying30 hval
  obtain ⟨fuel, hf⟩ := h
  have hw := List.all_eq_true.1 hsz
  have c6 : Try.prog.cellsOf 30 = 6 := by kernel_rfl
  have k0 : Try.prog.cellsOf 27 = 3 := by kernel_rfl
  have k1 : Try.prog.cellsOf 9 = 1 := by kernel_rfl
  have k2 : Try.prog.cellsOf 28 = 1 := by kernel_rfl
  have q0 : Try.prog.cellsOf 24 = 1 := by kernel_rfl
  have q1 : Try.prog.cellsOf 25 = 1 := by kernel_rfl
  obtain ⟨ys, n0, rfl, hd0, hl, hyl, hff⟩ := DataW.trod_struct Try.underlying30 hf
  have hdy : d = .agg (ys.map (·.1)) := by injection hd0
  rw [c6] at hl
  obtain ⟨cs, hcs⟩ : ∃ cs, ca.toList = cs := ⟨_, rfl⟩
  have hcc : (Value.agg ca).cells.toList = cs := hcs
  rw [hcc] at hl hff
  obtain ⟨a0, a1, a2, a3, a4, a5, rfl⟩ : ∃ a0 a1 a2 a3 a4 a5, cs = [a0, a1, a2, a3, a4, a5] := by
    match cs, hl with
    | [a0, a1, a2, a3, a4, a5], _ => exact ⟨a0, a1, a2, a3, a4, a5, rfl⟩
  obtain ⟨y0, y1, y2, y3, rfl⟩ : ∃ y0 y1 y2 y3, ys = [y0, y1, y2, y3] := by
    match ys, hyl with
    | [y0, y1, y2, y3], _ => exact ⟨y0, y1, y2, y3, rfl⟩
  have t0 : DataW.trod enc Try.prog W 0 (fun _ => true) true n0 27 (([a0, a1, a2, a3, a4, a5].drop 0).take (Try.prog.cellsOf 27)) = some y0 := hff 0 _ rfl
  have t1 : DataW.trod enc Try.prog W 0 (fun _ => true) true n0 9 (([a0, a1, a2, a3, a4, a5].drop 3).take (Try.prog.cellsOf 9)) = some y1 := hff 1 _ rfl
  have t2 : DataW.trod enc Try.prog W 0 (fun _ => true) true n0 9 (([a0, a1, a2, a3, a4, a5].drop 4).take (Try.prog.cellsOf 9)) = some y2 := hff 2 _ rfl
  have t3 : DataW.trod enc Try.prog W 0 (fun _ => true) true n0 28 (([a0, a1, a2, a3, a4, a5].drop 5).take (Try.prog.cellsOf 28)) = some y3 := hff 3 _ rfl
  rw [k0] at t0
  rw [k1] at t1 t2
  rw [k2] at t3
  simp only [List.drop_zero, List.take_succ_cons, List.take_zero, List.drop_succ_cons] at t0 t1 t2 t3
  obtain ⟨gg, e1, -, -⟩ := DataW.trod_string Try.underlying9 t1
  obtain ⟨mm, e5, -, -⟩ := DataW.trod_string Try.underlying9 t2
  obtain ⟨zs, n1, rfl, -, -, hzl, hgg⟩ := DataW.trod_struct Try.underlying27 t0
  obtain ⟨z0, z1, z2, rfl⟩ : ∃ z0 z1 z2, zs = [z0, z1, z2] := by
    match zs, hzl with
    | [z0, z1, z2], _ => exact ⟨z0, z1, z2, rfl⟩
  have u0 : DataW.trod enc Try.prog W 0 (fun _ => true) true n1 24 (([a0, a1, a2].drop 0).take (Try.prog.cellsOf 24)) = some z0 := hgg 0 _ rfl
  have u1 : DataW.trod enc Try.prog W 0 (fun _ => true) true n1 24 (([a0, a1, a2].drop 1).take (Try.prog.cellsOf 24)) = some z1 := hgg 1 _ rfl
  have u2 : DataW.trod enc Try.prog W 0 (fun _ => true) true n1 25 (([a0, a1, a2].drop 2).take (Try.prog.cellsOf 25)) = some z2 := hgg 2 _ rfl
  rw [q0] at u0 u1
  rw [q1] at u2
  simp only [List.drop_zero, List.take_succ_cons, List.take_zero, List.drop_succ_cons] at u0 u1 u2
  obtain ⟨c, e2, -, wc⟩ := DataW.trod_int Try.underlying24 u0
  obtain ⟨s, e3, -, ws⟩ := DataW.trod_int Try.underlying24 u1
  obtain ⟨n, e4, -, wn⟩ := DataW.trod_int Try.underlying25 u2
  obtain ⟨c, rfl, bc⟩ := u32_nat wc
  obtain ⟨s, rfl, bs⟩ := u32_nat ws
  obtain ⟨n, rfl, bn⟩ := u16_nat wn
  simp at e1 e2 e3 e4 e5
  subst e1 e2 e3 e4 e5
  obtain ⟨A, cc, l, xs, css, rfl, hr, hx, hxs, hok, hll⟩ := open_vals t3 (fun u hu => by
    have h1 : u ∈ DataW.weights Try.prog 30 d := by
      unfold DataW.weights
      rw [Try.underlying30, hdy]
      exact DataW.weights_mem_each (j := 3) rfl rfl u hu
    have := hw _ (DataW.weights_mem_each hj hd u h1)
    simpa using this)
  have hb : ∀ x : ByteArray, bstr x.data.toList = x := fun x => by cases x; simp [bstr]
  refine ⟨c, s, n, gg.data.toList, mm.data.toList, gg, mm, l, A, l.length, cc, ?_, ⟨A, cc, xs, css, by simp only [hb], hr, hx, hxs, hll, hok, bc, bs, bn⟩⟩
  congr 1
  apply Array.toList_inj.1
  exact hcs
end
end Go.Proofs.Ytjljlgkghlphnaa
namespace Go.Proofs.Ytjljlgkghlphnaa

inductive Alts where
  | nil
  | one (i : Nat) (p : Alts)
  | alt (i : Nat) (p q : Alts)
def Alts.len : Alts → Nat
  | .nil => 0
  | .one _ p => p.len + 1
  | .alt _ p _ => p.len + 1
def Alts.even : Alts → Bool
  | .nil => true
  | .one _ p => p.even
  | .alt _ p q => p.even && q.even && q.len == p.len + 1
def Alts.heads : Alts → List Nat
  | .nil => []
  | .one i _ => [i]
  | .alt i _ q => i :: q.heads

section
variable {P : Program} {ops : Array Oper} {Q : Exit → Act → World → Prop} {md : Region.Mode} {H N : List Nat}

/-- 'f': the plan stands behind an 'alt': what is ready is looked at there. -/
def altOk (md : Region.Mode) (ops : Array Oper) (N : List Nat) : Bool → Alts → Array Bool → Bool
  | f, .nil, listed => !f && (Region.ready md ops listed).isEmpty
  | f, .one i p, listed => readyAt md ops listed i && (if N.contains i then f || Region.ready md ops listed == [i] else !f && Region.free md ops listed i) && altOk md ops N false p (listed.setIfInBounds i true)
  | f, .alt i p q, listed => N.contains i && (f || Region.ready md ops listed == (Alts.alt i p q).heads) && altOk md ops N false p (listed.setIfInBounds i true) && altOk md ops N true q listed

def altG (P : Program) (md : Region.Mode) (ops : Array Oper) (Q : Exit → Act → World → Prop) (H N : List Nat) : Alts → (World → Prop) → Act → World → Prop
  | .nil, _, a, w => Q .normal a w
  | .one i p, S, a, w =>
    if N.contains i then wpOp P ops Q i (fun a' w' => ∃ S' : World → Prop, (∀ x, S' x → S x) ∧ (needS md ops H i = true → S' w') ∧ altG P md ops Q H N p S' a' w') a w
    else ∃ o v, ops[i]? = some o ∧ YieldsIf P ops (fun w' => H.contains i = true → S w') o v a ∧ (H.contains i = true → S w) ∧ altG P md ops Q H N p S (a.put o.dst v) w
  | .alt i p q, S, a, w =>
    wpOp P ops Q i (fun a' w' => ∃ S' : World → Prop, (∀ x, S' x → S x) ∧ (needS md ops H i = true → S' w') ∧ altG P md ops Q H N p S' a' w') a w ∧ altG P md ops Q H N q S a w

theorem alt_both (hsel : ∀ (j : Nat) (o : Oper) cs b, ops[j]? = some o → o.op ≠ .select cs b) (hQ : ∀ c a d v w, Q (.panic c) (a.put d v) w → Q (.panic c) a w) :
    ∀ (p : Alts) (S : World → Prop) (listed : Array Bool) (a : Act) (w : World), p.even = true → altG P md ops Q H N p S a w →
      (altOk md ops N false p listed = true → wpAnyG P md ops Q H N p.len S listed a w) ∧
      (altOk md ops N true p listed = true → ∀ k ∈ p.heads, wpOp P ops Q k (fun a' w' => ∃ S' : World → Prop, (∀ x, S' x → S x) ∧ askS md ops S S' H N k w w' ∧ wpAnyG P md ops Q H N (p.len - 1) S' (listed.setIfInBounds k true) a' w') a w)
  | .nil, S, listed, a, w, _, h => by
    refine ⟨fun hok => ?_, fun hok => ?_⟩
    · simp only [altOk, Bool.and_eq_true] at hok
      exact ⟨by simpa using hok.2, h⟩
    · simp [altOk] at hok
  | .one i p, S, listed, a, w, hev, h => by
    have ih := fun S' a' w' hg => alt_both hsel hQ p S' (listed.setIfInBounds i true) a' w' hev hg
    cases hN : N.contains i with
    | true =>
      unfold altG at h
      rw [hN] at h
      simp only [if_true] at h
      have step : altOk md ops N false p (listed.setIfInBounds i true) = true → wpOp P ops Q i (fun a' w' => ∃ S' : World → Prop, (∀ x, S' x → S x) ∧ askS md ops S S' H N i w w' ∧ wpAnyG P md ops Q H N p.len S' (listed.setIfInBounds i true) a' w') a w := fun hrest =>
        wpOp_mono (fun a' w' ⟨S', hsub, hask, hl⟩ => ⟨S', hsub, by unfold askS; rw [hN]; exact hask, (ih S' a' w' hl).1 hrest⟩) h
      refine ⟨fun hok => ?_, fun hok => ?_⟩
      · simp only [altOk, Bool.and_eq_true, hN, if_true, Bool.false_or, beq_iff_eq] at hok
        obtain ⟨⟨hr, hk⟩, hrest⟩ := hok
        refine ⟨fun h0 => (by rw [h0] at hk; cases hk), fun j hj => ?_⟩
        rw [hk] at hj
        obtain rfl : j = i := by simpa using hj
        exact step hrest
      · simp only [altOk, Bool.and_eq_true] at hok
        intro k hk
        obtain rfl : k = i := by simpa [Alts.heads] using hk
        exact step hok.2
    | false =>
      refine ⟨fun hok => ?_, fun hok => ?_⟩
      · simp only [altOk, Bool.and_eq_true, hN, Bool.false_eq_true, if_false] at hok
        obtain ⟨⟨hr, -, hk⟩, hrest⟩ := hok
        unfold altG at h
        rw [hN] at h
        simp only [Bool.false_eq_true, if_false] at h
        obtain ⟨o, v, ho, hy, hS, hl⟩ := h
        exact wpAnyG_first ho hN hsel (fun c a w => hQ c a o.dst v w) _ S listed a w (Region.free_spec ho hk) (ready_of_at hr) hy hS ((ih S _ w hl).1 hrest)
      · rw [altOk, hN] at hok
        simp at hok
  | .alt i p q, S, listed, a, w, hev, h => by
    simp only [Alts.even, Bool.and_eq_true, beq_iff_eq] at hev
    obtain ⟨⟨ev1, ev2⟩, hlen⟩ := hev
    have ih := fun S' a' w' hg => alt_both hsel hQ p S' (listed.setIfInBounds i true) a' w' ev1 hg
    unfold altG at h
    have ihq := alt_both hsel hQ q S listed a w ev2 h.2
    have all : N.contains i = true → altOk md ops N false p (listed.setIfInBounds i true) = true → altOk md ops N true q listed = true → ∀ k ∈ (Alts.alt i p q).heads, wpOp P ops Q k (fun a' w' => ∃ S' : World → Prop, (∀ x, S' x → S x) ∧ askS md ops S S' H N k w w' ∧ wpAnyG P md ops Q H N p.len S' (listed.setIfInBounds k true) a' w') a w := by
      intro hN hp hq k hk
      rcases List.mem_cons.1 (show k ∈ i :: q.heads from hk) with rfl | hk
      · exact wpOp_mono (fun a' w' ⟨S', hsub, hask, hl⟩ => ⟨S', hsub, by unfold askS; rw [hN]; exact hask, (ih S' a' w' hl).1 hp⟩) h.1
      · have h2 := ihq.2 hq k hk
        rw [hlen] at h2
        exact h2
    refine ⟨fun hok => ?_, fun hok => ?_⟩
    · simp only [altOk, Bool.and_eq_true, Bool.false_or, beq_iff_eq] at hok
      obtain ⟨⟨⟨hi, hr⟩, ok1⟩, ok2⟩ := hok
      refine ⟨fun h0 => (by rw [h0] at hr; cases hr), fun k hk => ?_⟩
      rw [hr] at hk
      exact all hi ok1 ok2 k hk
    · simp only [altOk, Bool.and_eq_true] at hok
      obtain ⟨⟨⟨hi, -⟩, ok1⟩, ok2⟩ := hok
      exact all hi ok1 ok2

theorem wp_region_alts {id : Nat} {a : Act} {w : World} {l : List Oper} (S : World → Prop) (H N : List Nat) (p : Alts) (hm : P.follows .mixedOrders = true) (hlen : p.len = l.toArray.size) (hev : p.even = true)
    (hs : Region.noSelect l.toArray = true) (hok : altOk .any l.toArray N false p (Array.replicate l.toArray.size false) = true) (hQ : ∀ c a d v w, Q (.panic c) (a.put d v) w → Q (.panic c) a w)
    (h : altG P .any l.toArray Q H N p S a w.drew) : (Code.region id l.toArray true).wp P Q a w :=
  wp_region_any hm (wpAny_of_G _ S _ _ _ (hlen ▸ (alt_both (Region.noSelect_spec hs) hQ p S _ a w.drew hev h).1 hok))

/-! ### The steps -/
section
variable {i : Nat} {rest : Alts} {a : Act} {w : World} {l : List Oper} {S : World → Prop}
theorem altG_nil (h : Q .normal a w) : altG P md l.toArray Q H N .nil S a w := h
theorem altG_take (o : Oper) (v : Value) (hN : N.contains i = false) (ho : l[i]? = some o) (hw : Region.wanted o (yielded l.toArray a.tmps) = true)
    (hH : H.contains i = false) (hy : ∀ w', (execOp a.eval o).run P w' = .ok (.value v) w') (h : altG P md l.toArray Q H N rest S (a.put o.dst v) w) : altG P md l.toArray Q H N (.one i rest) S a w := by
  unfold altG
  rw [hN]
  exact ⟨o, v, by simpa using ho, .inl ⟨hw, fun w' _ => hy w'⟩, fun hc => (by rw [hH] at hc; cases hc), h⟩
theorem altG_held (o : Oper) (v : Value) (hN : N.contains i = false) (ho : l[i]? = some o) (hw : Region.wanted o (yielded l.toArray a.tmps) = true)
    (hHi : H.contains i = true) (hS : S w) (hy : ∀ w', S w' → (execOp a.eval o).run P w' = .ok (.value v) w') (h : altG P md l.toArray Q H N rest S (a.put o.dst v) w) : altG P md l.toArray Q H N (.one i rest) S a w := by
  unfold altG
  rw [hN]
  exact ⟨o, v, by simpa using ho, .inl ⟨hw, fun w' hs => hy w' (hs hHi)⟩, fun _ => hS, h⟩
theorem altG_skip (o : Oper) (ho : l[i]? = some o) (hw : Region.wanted o (yielded l.toArray a.tmps) = false)
    (hS : S w) (h : altG P md l.toArray Q H N rest S (a.put o.dst undef) w) : altG P md l.toArray Q H N (.one i rest) S a w := by
  unfold altG
  split
  · unfold wpOp
    rw [show l.toArray[i]? = some o from by simpa using ho]
    simp only [hw, Bool.false_eq_true, if_false]
    exact ⟨S, fun _ h => h, fun _ => hS, h⟩
  · exact ⟨o, undef, by simpa using ho, .inr ⟨hw, rfl⟩, fun _ => hS, h⟩
theorem altG_now (o : Oper) (hN : N.contains i = true) (ho : l[i]? = some o) (hw : Region.wanted o (yielded l.toArray a.tmps) = true)
    (h : ∀ K : Act → World → Prop, (∀ a' w' (S' : World → Prop), (∀ x, S' x → S x) → S' w' → altG P md l.toArray Q H N rest S' a' w' → K a' w') → o.wp P a w K Q) : altG P md l.toArray Q H N (.one i rest) S a w := by
  unfold altG
  rw [hN]
  unfold wpOp
  rw [show l.toArray[i]? = some o from by simpa using ho]
  simp only [hw, if_true]
  exact .inl (h _ fun a' w' S' h1 h2 h3 => ⟨S', h1, fun _ => h2, h3⟩)
theorem altG_nowF (o : Oper) (hN : N.contains i = true) (ho : l[i]? = some o) (hw : Region.wanted o (yielded l.toArray a.tmps) = true) (hn : needS md l.toArray H i = false)
    (h : ∀ K : Act → World → Prop, (∀ a' w', altG P md l.toArray Q H N rest S a' w' → K a' w') → o.wp P a w K Q) : altG P md l.toArray Q H N (.one i rest) S a w := by
  unfold altG
  rw [hN]
  unfold wpOp
  rw [show l.toArray[i]? = some o from by simpa using ho]
  simp only [hw, if_true]
  exact .inl (h _ fun a' w' h3 => ⟨S, fun _ h => h, fun hc => (by rw [hn] at hc; cases hc), h3⟩)
theorem altG_alt {p q : Alts} (hi : N.contains i = true) (h1 : altG P md l.toArray Q H N (.one i p) S a w) (h2 : altG P md l.toArray Q H N q S a w) : altG P md l.toArray Q H N (.alt i p q) S a w := by
  unfold altG at h1
  rw [hi] at h1
  simp only [if_true] at h1
  unfold altG
  exact ⟨h1, h2⟩
end
end
end Go.Proofs.Ytjljlgkghlphnaa
namespace Go.Proofs.Ytjljlgkghlphnaa
open Go.RowKit
set_option maxRecDepth 100000

theorem results_ct {P : Program} {fn : Func} {p u : Tmp} {ty : TypeId} (h : fn.results = #[.cell p ty, .tmp u]) (tmps : Array Value) (w : World) (g : Nat) (t : TypeId) (cs : Array Value) (fr : Nat × Nat) (d : TypeDesc) (v : Value)
    (hp : tmps.getD p undef = .pointer (some ⟨g, 0, none⟩)) (hv : tmps.getD u undef = v) (hg : w.heap[g]? = some (.cells cs t fr))
    (hu : P.underlying ty = some d) (hd : (match d with | .struct _ | .array _ _ => true | _ => false) = true) (hi : (P.info? ty).map (·.size) = some cs.size) :
    (results fn tmps).run P w = .ok (.tuple #[.agg cs, v]) w := by
  have hp' : tmps[p]?.getD undef = .pointer (some ⟨g, 0, none⟩) := by simpa using hp
  have hv' : tmps[u]?.getD undef = v := by simpa using hv
  simp [results, h, hp', hv', asAddr, run_loadVar_row w g t ty cs fr d hg hu hd hi]

theorem ref_id_no {A : Option Addr} {c n : Nat} {w : World} (h : n < 10) :
    Calls Try.prog 60 #[.slice A n c] w (fun e w' => e = .returned (.tuple #[.agg #[.int .u32 0, .int .u32 0, .int .u16 0], .bool false]) ∧ Below w.heap.size w w') := by
  have hz := Blk.new w 27 #[.int .u32 0, .int .u32 0, .int .u16 0]
  have hb2 := (Below.refl w.heap.size w).alloc (Nat.le_refl _) (.cells #[.int .u32 0, .int .u32 0, .int .u16 0] 27)
  go_enter Try.func60, Try.ntmps60
  have hzr := hz.row #[.int .u32 0, .int .u32 0, .int .u16 0]
  have hbr := below_row hb2 (g := w.heap.size) (Nat.le_refl _) #[.int .u32 0, .int .u32 0, .int .u16 0]
  go_wp2_with (refine store_row_gen rfl 27 (Operand.tmp 2) _ rfl w.heap.size #[.int .u32 0, .int .u32 0, .int .u16 0] (by simp [go_sem]) (by simp [go_sem]) 27 _ hz (by kernel_rfl) rfl (by simp [Value.oneCell']) (fun w9 hw9 => ?_); rw [← hw9] at hzr hbr; clear hw9)
  refine bodyPost_ret (v := .tuple #[.agg #[.int .u32 0, .int .u32 0, .int .u16 0], .bool false]) ?hr rfl ?_
  case hr => exact results_ct rfl _ _ w.heap.size 27 _ (0, 0) _ _ rfl rfl hzr Try.underlying27 rfl (by kernel_rfl)
  exact ⟨rfl, hbr⟩

set_option maxHeartbeats 1600000 in
theorem ref_id_ok {A : Option Addr} {c : Nat} {b : List UInt8} {w : World} (h : Reads w w.heap.size 1 A b.length (bys b)) (hc : b.length ≤ c) (hl : b.length ≤ 1000000000) (hat : 10 ≤ b.length)
    (c1 s1 n1 : Nat) (hc1 : readU (b.take 4) = c1) (hs1 : readU ((b.drop 4).take 4) = s1) (hn1 : readU ((b.drop 8).take 2) = n1) :
    Calls Try.prog 60 #[.slice A b.length c] w (fun e w' => e = .returned (.tuple #[.agg #[.int .u32 (c1 : Int), .int .u32 (s1 : Int), .int .u16 (n1 : Int)], .bool true]) ∧ Below w.heap.size w w') := by
  obtain ⟨ad, rfl, -, -⟩ := h.2 (by omega)
  have hw1 := wrap_r32 c1 (by rw [← hc1]; exact readU_4 _)
  have hw2 := wrap_r32 s1 (by rw [← hs1]; exact readU_4 _)
  have hw3 := wrap_r16 n1 (by rw [← hn1]; exact readU_2 _)
  have hz := Blk.new w 27 #[.int .u32 0, .int .u32 0, .int .u16 0]
  have hb2 := (Below.refl w.heap.size w).alloc (Nat.le_refl _) (.cells #[.int .u32 0, .int .u32 0, .int .u16 0] 27)
  have h1 := fun (W : World) (hb : Below w.heap.size w W) => ref_read (c := c) (k := 4) ((h.below hb).more hb.size) (by omega) (by omega) (by omega)
  have h2 := fun (W : World) (hb : Below w.heap.size w W) => ref_read (c := c - 4) (k := 4) (bs := b.drop 4) (by
    have hcut := ((h.below hb).more hb.size).cut (k := 4) (cap := c) (by omega) hc
    rw [if_neg (by omega), Nat.mul_one, bys_drop, ← List.length_drop] at hcut
    exact hcut) (by omega) (by rw [List.length_drop]; omega) (by rw [List.length_drop]; omega)
  have h3 := fun (W : World) (hb : Below w.heap.size w W) => ref_read (c := c - 8) (k := 2) (bs := b.drop 8) (by
    have hcut := ((h.below hb).more hb.size).cut (k := 8) (cap := c) (by omega) hc
    rw [if_neg (by omega), Nat.mul_one, bys_drop, ← List.length_drop] at hcut
    exact hcut) (by omega) (by rw [List.length_drop]; omega) (by rw [List.length_drop]; omega)
  rw [hc1] at h1
  rw [hs1] at h2
  rw [hn1] at h3
  rw [List.length_drop] at h2 h3
  obtain ⟨bl, hbl⟩ : ∃ bl, b.length = bl := ⟨_, rfl⟩
  rw [hbl] at h1 h2 h3 hc hl hat ⊢
  replace h1 := Lib.hid h1
  replace h2 := Lib.hid h2
  replace h3 := Lib.hid h3
  clear h hc1 hs1 hn1 hbl
  obtain ⟨z, hzz⟩ : ∃ z, w.heap.size = z := ⟨_, rfl⟩
  go_enter Try.func60, Try.ntmps60
  go_wp2_with fail
  generalize w.alloc (.cells #[.int .u32 0, .int .u32 0, .int .u16 0] 27) = w2 at *
  rw [hzz] at hz
  have hzw : z ≤ w.heap.size := by omega
  have hzw2 : w.heap.size ≤ z := by omega
  replace hzz := Lib.hid hzz
  refine (h1.out w2 hb2).mono ?_
  rintro e w3 ⟨rfl, hb3⟩
  dsimp only
  have hz3 := hz.below hb3 hz.lt
  have hb3' := below_then hb3 hb2
  clear hb2 hb3 hz h1
  have h4i : (4 : Int) ≤ (bl : Int) := by omega
  have h8i : (8 : Int) ≤ (bl : Int) := by omega
  go_wp2_with fail
  refine (h2.out w3 hb3').mono ?_
  rintro e w4 ⟨rfl, hb4⟩
  dsimp only
  have hz4 := hz3.below hb4 hz3.lt
  have hb4' := below_then hb4 hb3'
  clear hb3' hb4 hz3 h2
  go_wp2_with fail
  refine (h3.out w4 hb4').mono ?_
  rintro e w5 ⟨rfl, hb5⟩
  dsimp only
  have hz5 := hz4.below hb5 hz4.lt
  have hb5' := below_then hb5 hb4'
  clear hb4' hb5 hz4 h3
  have hzr := hz5.row #[.int .u32 (c1 : Int), .int .u32 (s1 : Int), .int .u16 (n1 : Int)]
  have hbr := below_row hb5' (g := z) hzw2 #[.int .u32 (c1 : Int), .int .u32 (s1 : Int), .int .u16 (n1 : Int)]
  go_wp2_with (refine store_row_gen rfl 27 (Operand.tmp 2) _ rfl z #[.int .u32 (c1 : Int), .int .u32 (s1 : Int), .int .u16 (n1 : Int)] (by simp [go_sem]) (by simp [go_sem]) 27 _ hz5 (by kernel_rfl) rfl (by simp [Value.oneCell']) (fun w9 hw9 => ?_); rw [← hw9] at hzr hbr; clear hw9)
  refine bodyPost_ret (v := .tuple #[.agg #[.int .u32 (c1 : Int), .int .u32 (s1 : Int), .int .u16 (n1 : Int)], .bool true]) ?hr rfl ?_
  case hr => exact results_ct rfl _ _ z 27 _ (0, 0) _ _ rfl rfl hzr Try.underlying27 rfl (by kernel_rfl)
  exact ⟨rfl, hbr⟩
end Go.Proofs.Ytjljlgkghlphnaa
namespace Go.Proofs.Ytjljlgkghlphnaa
open Go.RowKit
set_option maxRecDepth 100000

theorem Blk.val5 {w : World} {g : Nat} {t : TypeId} {a b c d e : Value} (h : Blk w g t #[a, b, c, d, e]) : w.cell? ⟨g, 0, none⟩ = some a ∧ w.cell? ⟨g, 1, none⟩ = some b ∧ w.cell? ⟨g, 2, none⟩ = some c ∧ w.cell? ⟨g, 3, none⟩ = some d ∧ w.cell? ⟨g, 4, none⟩ = some e := ⟨h.cell 0, h.cell 1, h.cell 2, h.cell 3, h.cell 4⟩

theorem w64_16 {e : Nat} (h : e < 65536) : IntKind.i64.wrap (e : Int) = (e : Int) := w64_id _ (by omega) (by omega)
theorem w64_12 {m : Nat} (h : m ≤ 1000000000) : IntKind.i64.wrap (12 + (m : Int)) = 12 + (m : Int) := w64_id _ (by omega) (by omega)

end Go.Proofs.Ytjljlgkghlphnaa
namespace Go.Proofs.Ytjljlgkghlphnaa
open Go.RowKit
set_option maxRecDepth 100000

theorem w64_le {e : Nat} (h : e ≤ 2000000000) : IntKind.i64.wrap (e : Int) = (e : Int) := w64_id _ (by omega) (by omega)
theorem w64_sum {a n s : Nat} (hs : a + n = s) (h : s ≤ 2000000000) : IntKind.i64.wrap ((a : Int) + (n : Int)) = (s : Int) := by
  rw [show (a : Int) + (n : Int) = (s : Int) by omega]; exact w64_le h
theorem w64_10 {n s : Nat} (hs : 10 + n = s) (h : s ≤ 2000000000) : IntKind.i64.wrap (10 + (n : Int)) = (s : Int) := by
  rw [show 10 + (n : Int) = (s : Int) by omega]; exact w64_le h
theorem w64_s1 {a s : Nat} (hs : a + 1 = s) (h : s ≤ 2000000000) : IntKind.i64.wrap ((a : Int) + 1) = (s : Int) := by
  rw [show (a : Int) + 1 = (s : Int) by omega]; exact w64_le h
theorem readT_two {b t : List UInt8} {m : Int} {n e : Nat} (h : readT b m = (t, n, e)) : (e = 0 ∧ 2 ≤ n ∧ n ≤ b.length) ∨ (t = [] ∧ n = 0 ∧ e = 20) := by
  unfold readT at h
  split at h
  · simp only [Prod.mk.injEq] at h
    obtain ⟨-, rfl, rfl⟩ := h
    left; omega
  · simp only [Prod.mk.injEq] at h
    obtain ⟨rfl, rfl, rfl⟩ := h
    right; exact ⟨rfl, rfl, rfl⟩
theorem rdV_nil : rdV [] = none := by rfl

def rdOpK (p : List UInt8 → Option (Val × Nat)) (b : List UInt8) (k at0 c1 s1 n1 : Nat) (t1 t2 : List UInt8) : Option (OpD × Nat) :=
  match pl p k (b.drop at0) with
  | none => none
  | some (l, q) => some (⟨c1, s1, n1, t1, t2, l⟩, at0 + q)

/-- What stands while a call's args are read. -/
structure QRel (b : List UInt8) (k at0 z y : Nat) (w wr : World) (c1 s1 n1 : Nat) (gg mm : ByteArray) (j : Nat) (l1 : List Val) (A : Option Addr) (c' : Nat) (xs : List Value) (css : Nat → Array Value) (at' : Nat) : Prop where
  jn : j ≤ k
  jl : l1.length = j
  hat : at' ≤ b.length
  hl : at0 ≤ at'
  hz : Blk wr z 30 #[.int .u32 0, .int .u32 0, .int .u16 0, .string ⟨#[]⟩, .string ⟨#[]⟩, .slice none 0 0]
  hy : Blk wr y 30 #[.int .u32 (c1 : Int), .int .u32 (s1 : Int), .int .u16 (n1 : Int), .string gg, .string mm, .slice A j c']
  R : VRow wr (y + 1) l1 A c' xs css
  hb : Below w.heap.size w wr
  pp : pl rdV k (b.drop at0) = (pl rdV (k - j) (b.drop at')).map (fun x => (l1 ++ x.1, (at' - at0) + x.2))

set_option maxHeartbeats 6400000 in
theorem ref_read_op {A : Option Addr} {c : Nat} {b : List UInt8} {w : World} (h : Reads w w.heap.size 1 A b.length (bys b)) (hc : b.length ≤ c) (hl : b.length ≤ 1000000000) (Q : Option (OpD × Nat)) (hQ : rdOp b = Q) :
    Calls Try.prog 35 #[.slice A b.length c] w (OpRd w Q) := by
  obtain ⟨i1, gi, gz0, gz1, gz2⟩ := info_parts info_val
  have hsf := fun a k x m w => run_store_float (P := Try.prog) a k x m w
  have hz := Blk.new w 30 #[.int .u32 0, .int .u32 0, .int .u16 0, .string ⟨#[]⟩, .string ⟨#[]⟩, .slice none 0 0]
  have hb2 := (Below.refl w.heap.size w).alloc (Nat.le_refl _) (.cells #[.int .u32 0, .int .u32 0, .int .u16 0, .string ⟨#[]⟩, .string ⟨#[]⟩, .slice none 0 0] 30)
  unfold rdOp at hQ
  by_cases h10 : b.length < 10
  · rw [if_pos h10] at hQ
    subst hQ
    obtain ⟨bl, hbl⟩ : ∃ bl, b.length = bl := ⟨_, rfl⟩
    rw [hbl] at h10 ⊢
    clear h hc hl hbl
    go_enter Try.func35, Try.ntmps35
    go_wp2_with fail
    generalize w.alloc (.cells #[.int .u32 0, .int .u32 0, .int .u16 0, .string ⟨#[]⟩, .string ⟨#[]⟩, .slice none 0 0] 30) = w2 at *
    obtain ⟨z, hzz⟩ : ∃ z, w.heap.size = z := ⟨_, rfl⟩
    rw [hzz] at hz ⊢
    have hzw : w.heap.size ≤ z := by omega
    have hzw2 : z ≤ w.heap.size := by omega
    replace hzz := Lib.hid hzz
    refine (ref_id_no h10).mono ?_
    rintro e w3 ⟨rfl, hb3⟩
    dsimp only
    have hz3 := (hz.below hb3 hz.lt).alloc (.cells #[.int .u32 0, .int .u32 0, .int .u16 0] 27)
    have hb3' := (below_then hb3 hb2).alloc (Nat.le_trans hb2.size hb3.size) (.cells #[.int .u32 0, .int .u32 0, .int .u16 0] 27)
    clear hz hb2 hb3
    have hzr := hz3.row #[.int .u32 0, .int .u32 0, .int .u16 0, .string ⟨#[]⟩, .string ⟨#[]⟩, .slice none 0 0]
    have hbr := below_row hb3' (g := z) hzw #[.int .u32 0, .int .u32 0, .int .u16 0, .string ⟨#[]⟩, .string ⟨#[]⟩, .slice none 0 0]
    go_wp2_with (refine store_row_gen rfl 30 (Operand.tmp 2) _ rfl z #[.int .u32 0, .int .u32 0, .int .u16 0, .string ⟨#[]⟩, .string ⟨#[]⟩, .slice none 0 0] (by simp [go_sem]) (by simp [go_sem]) 30 _ hz3 (by kernel_rfl) rfl (by simp [Value.oneCell']) (fun w9 hw9 => ?_); rw [← hw9] at hzr hbr; clear hw9)
    refine bodyPost_ret (v := .tuple #[.agg #[.int .u32 0, .int .u32 0, .int .u16 0, .string ⟨#[]⟩, .string ⟨#[]⟩, .slice none 0 0], .int .i64 0, .int .i64 20]) (by exact results_ctt rfl _ _ z 30 _ (0, 0) _ _ _ rfl rfl rfl hzr Try.underlying30 rfl (by kernel_rfl)) rfl ?_
    exact ⟨rfl, hbr⟩
  rw [if_neg h10] at hQ
  obtain ⟨ad, rfl, -, -⟩ := h.2 (by omega)
  obtain ⟨c1, hc1⟩ : ∃ c1, readU (b.take 4) = c1 := ⟨_, rfl⟩
  obtain ⟨s1, hs1⟩ : ∃ s1, readU ((b.drop 4).take 4) = s1 := ⟨_, rfl⟩
  obtain ⟨n1, hn1⟩ : ∃ n1, readU ((b.drop 8).take 2) = n1 := ⟨_, rfl⟩
  rw [hc1, hs1, hn1] at hQ
  have hid := fun (W : World) (hb : Below w.heap.size w W) => ref_id_ok ((h.below hb).more hb.size) hc hl (by omega) c1 s1 n1 hc1 hs1 hn1
  have hcutx : ∀ a, a ≤ b.length → ∀ (W : World), Below w.heap.size w W → Reads W W.heap.size 1 (if c = a then some ad else some (ad.add a)) (b.drop a).length (bys (b.drop a)) := fun a ha W hb => by
    have hcut := ((h.below hb).more hb.size).cut (k := a) (cap := c) ha hc
    rw [Nat.mul_one, bys_drop, ← List.length_drop] at hcut
    exact hcut
  obtain ⟨T1, hT1⟩ : ∃ T1, readT (b.drop 10) 32 = T1 := ⟨_, rfl⟩
  rw [hT1] at hQ
  obtain ⟨t1, m1, e1⟩ := T1
  dsimp only at hQ
  have hx1 := fun (W : World) (hb : Below w.heap.size w W) => ref_read_text (c := c - 10) (hcutx 10 (by omega) W hb) (by rw [List.length_drop]; omega) (by rw [List.length_drop]; omega) hT1
  rw [List.length_drop] at hx1
  have hf1 := readT_two hT1
  rw [List.length_drop] at hf1
  have hxa : ∀ a t m e, a ≤ b.length → readT (b.drop a) 32 = (t, m, e) → ∀ (W : World), Below w.heap.size w W → Calls Try.prog 61 #[.slice (if c = a then some ad else some (ad.add a)) (b.length - a) (c - a), .int .i64 32] W (TextRes W (t, m, e)) := fun a t m e ha hT W hb => by
    have := ref_read_text (c := c - a) (hcutx a ha W hb) (by rw [List.length_drop]; omega) (by rw [List.length_drop]; omega) hT
    rw [List.length_drop] at this
    exact this
  have hva : ∀ a, a ≤ b.length → ∀ (W : World), Below w.heap.size w W → Calls Try.prog 62 #[.slice (if c = a then some ad else some (ad.add a)) (b.length - a) (c - a)] W (RdRes W (rdV (b.drop a))) := fun a ha W hb => by
    have := ref_read_v (c := c - a) (hcutx a ha W hb) (by rw [List.length_drop]; omega) (by rw [List.length_drop]; omega)
    rw [List.length_drop] at this
    exact this
  have hca : ∀ (a : Nat) (ha : a < b.length) (W : World), Below w.heap.size w W → W.cell? (ad.add a) = some (.int .u8 ((b[a].toNat : Nat) : Int)) := fun a ha W hb => by
    obtain ⟨ad', u, he, -, hu, hcell⟩ := (h.below hb).at_ ha
    cases he
    rw [hcell, ← hu]
    simp [bys, byv, List.getElem?_eq_getElem ha]
  have hdr : ∀ a, (b.drop a).length = b.length - a := fun a => List.length_drop ..
  obtain ⟨bl, hbl⟩ : ∃ bl, b.length = bl := ⟨_, rfl⟩
  have hbl' := hbl
  rw [hbl] at h10 hid hx1 hf1 hc hl hQ ⊢
  replace hid := Lib.hid hid
  replace hx1 := Lib.hid hx1
  replace hxa := Lib.hid hxa
  replace hva := Lib.hid hva
  replace hca := Lib.hid hca
  replace hdr := Lib.hid hdr
  replace hQ := Lib.hid hQ
  replace hbl := Lib.hid hbl
  clear h hc1 hs1 hn1 hT1 hcutx hbl'
  go_enter Try.func35, Try.ntmps35
  go_wp2_with fail
  generalize w.alloc (.cells #[.int .u32 0, .int .u32 0, .int .u16 0, .string ⟨#[]⟩, .string ⟨#[]⟩, .slice none 0 0] 30) = w2 at *
  obtain ⟨z, hzz⟩ : ∃ z, w.heap.size = z := ⟨_, rfl⟩
  rw [hzz] at hz ⊢
  have hzw : w.heap.size ≤ z := by omega
  have hzw2 : z ≤ w.heap.size := by omega
  replace hzz := Lib.hid hzz
  refine (hid.out w2 hb2).mono ?_
  rintro e w3 ⟨rfl, hb3⟩
  dsimp only
  have hz3 := (hz.below hb3 hz.lt).alloc (.cells #[.int .u32 (c1 : Int), .int .u32 (s1 : Int), .int .u16 (n1 : Int)] 27)
  have hi3 := Blk.new w3 27 #[.int .u32 (c1 : Int), .int .u32 (s1 : Int), .int .u16 (n1 : Int)]
  have hb3' := (below_then hb3 hb2).alloc (Nat.le_trans hb2.size hb3.size) (.cells #[.int .u32 (c1 : Int), .int .u32 (s1 : Int), .int .u16 (n1 : Int)] 27)
  have hs3 : z < w3.heap.size := Nat.lt_of_lt_of_le hz.lt hb3.size
  clear hz hb2 hb3 hid
  have h10i : (10 : Int) ≤ (bl : Int) := by omega
  have hi3c := hi3.id3
  have hz4 := hz3.alloc (.cells #[.int .u32 (c1 : Int), .int .u32 (s1 : Int), .int .u16 (n1 : Int), .string ⟨#[]⟩, .string ⟨#[]⟩, .slice none 0 0] 30)
  have hy4 := Blk.new (w3.alloc (.cells #[.int .u32 (c1 : Int), .int .u32 (s1 : Int), .int .u16 (n1 : Int)] 27)) 30 #[.int .u32 (c1 : Int), .int .u32 (s1 : Int), .int .u16 (n1 : Int), .string ⟨#[]⟩, .string ⟨#[]⟩, .slice none 0 0]
  have hb4 := hb3'.alloc hb3'.size (.cells #[.int .u32 (c1 : Int), .int .u32 (s1 : Int), .int .u16 (n1 : Int), .string ⟨#[]⟩, .string ⟨#[]⟩, .slice none 0 0] 30)
  rcases hf1 with ⟨rfl, hm1, hm1b⟩ | ⟨rfl, rfl, rfl⟩
  case inr =>
    have hQn : Q = none := by rw [← hQ.out, if_pos (by decide)]
    subst hQn
    by_cases hcc : c = 10
    all_goals
      replace hx1 := hx1.out _ hb4
      first | (have hbe : bl = 10 := by omega); subst hbe hcc; rw [if_pos rfl, Nat.sub_self] at hx1 | rw [if_neg hcc] at hx1
      go_wp2_with fail
      refine hx1.mono ?_
      rintro e w5 ⟨rfl, hb5⟩
      dsimp only
      have hz5 := hz4.below hb5 hz4.lt
      have hy5 := hy4.below hb5 hy4.lt
      have hb5' := below_then hb5 hb4
      rw [World.size_alloc] at hy5
      have hz6 := hz5.far (p := ⟨w3.heap.size + 1, 3, none⟩) (show z ≠ w3.heap.size + 1 by omega) (.string (bstr []))
      have hb6 := hb5'.setCell (p := ⟨w3.heap.size + 1, 3, none⟩) (show w.heap.size ≤ w3.heap.size + 1 by omega) (.string (bstr []))
      have hyc := hy5.op6
      have hyf := hy5.frozen 3
      clear hz3 hi3 hi3c hb3' hz4 hy4 hb4 hx1 hb5 hz5 hb5' hy5
      have hzr := hz6.row #[.int .u32 0, .int .u32 0, .int .u16 0, .string ⟨#[]⟩, .string ⟨#[]⟩, .slice none 0 0]
      have hbr := below_row hb6 (g := z) hzw #[.int .u32 0, .int .u32 0, .int .u16 0, .string ⟨#[]⟩, .string ⟨#[]⟩, .slice none 0 0]
      go_wp2_with (refine store_row_gen rfl 30 (Operand.tmp 2) _ rfl z #[.int .u32 0, .int .u32 0, .int .u16 0, .string ⟨#[]⟩, .string ⟨#[]⟩, .slice none 0 0] (by simp [go_sem]) (by simp [go_sem]) 30 _ hz6 (by kernel_rfl) rfl (by simp [Value.oneCell']) (fun w9 hw9 => ?_); rw [← hw9] at hzr hbr; clear hw9)
      refine bodyPost_ret (v := .tuple #[.agg #[.int .u32 0, .int .u32 0, .int .u16 0, .string ⟨#[]⟩, .string ⟨#[]⟩, .slice none 0 0], .int .i64 0, .int .i64 20]) (by exact results_ctt rfl _ _ z 30 _ (0, 0) _ _ _ rfl rfl rfl hzr Try.underlying30 rfl (by kernel_rfl)) rfl ?_
      exact ⟨rfl, hbr⟩
  obtain ⟨y, hy⟩ : ∃ y, w3.heap.size + 1 = y := ⟨_, rfl⟩
  rw [World.size_alloc, hy] at hy4
  have hzy : z < y := by omega
  replace hx1 := hx1.out _ hb4
  rw [if_neg (show ¬ c = 10 by omega)] at hx1
  go_wp2_with fail
  generalize (w3.alloc (.cells #[.int .u32 (c1 : Int), .int .u32 (s1 : Int), .int .u16 (n1 : Int)] 27)).alloc (.cells #[.int .u32 (c1 : Int), .int .u32 (s1 : Int), .int .u16 (n1 : Int), .string ⟨#[]⟩, .string ⟨#[]⟩, .slice none 0 0] 30) = w4 at *
  replace hy := Lib.hid hy
  refine hx1.mono ?_
  rintro e w5 ⟨rfl, hb5⟩
  dsimp only
  obtain ⟨gg, hgg⟩ : ∃ gg, bstr t1 = gg := ⟨_, rfl⟩
  rw [hgg]
  have hz5 := (hz4.below hb5 hz4.lt).far (p := ⟨y, 3, none⟩) (show z ≠ y by omega) (.string gg)
  have hy5 := hy4.below hb5 hy4.lt
  have hy6 := hy5.set_ 3 (.string gg)
  have hb5' := (below_then hb5 hb4).setCell (p := ⟨y, 3, none⟩) (show w.heap.size ≤ y by omega) (.string gg)
  have hyc := hy5.op6
  have hyf := hy5.frozen 3
  have hQ2 := hQ.out
  rw [if_neg (by decide)] at hQ2
  obtain ⟨a1, ha1⟩ : ∃ a1, 10 + m1 = a1 := ⟨_, rfl⟩
  rw [ha1] at hQ2
  have hw1 := w64_10 ha1 (by omega)
  have ha1l : a1 ≤ bl := by omega
  have ha1i : (a1 : Int) ≤ (bl : Int) := by omega
  obtain ⟨T2, hT2⟩ : ∃ T2, readT (b.drop a1) 32 = T2 := ⟨_, rfl⟩
  rw [hT2] at hQ2
  obtain ⟨t2, m2, e2⟩ := T2
  dsimp only at hQ2
  have hf2 := readT_two hT2
  rw [hdr.out, hbl.out] at hf2
  have hx2 := hxa.out a1 t2 m2 e2 (by rw [hbl.out]; exact ha1l) hT2 _ hb5'
  rw [hbl.out] at hx2
  replace ha1 := Lib.hid ha1
  replace hQ2 := Lib.hid hQ2
  replace hgg := Lib.hid hgg
  clear hz4 hy4 hb4 hx1 hb5 hz3 hi3 hi3c hb3' hT2 hQ
  rcases hf2 with ⟨rfl, hm2, hm2b⟩ | ⟨rfl, rfl, rfl⟩
  case inr =>
    have hQn : Q = none := by rw [← hQ2.out, if_pos (by decide)]
    subst hQn
    by_cases hcc : c = a1
    all_goals
      first | (have hbe : bl = a1 := by omega); subst hbe hcc; rw [if_pos rfl, Nat.sub_self] at hx2 | rw [if_neg hcc] at hx2
      go_wp2_with fail
      generalize w5.setCell ⟨y, 3, none⟩ (.string gg) = w6 at *
      refine hx2.mono ?_
      rintro e w7 ⟨rfl, hb7⟩
      dsimp only
      have hz7 := hz5.below hb7 hz5.lt
      have hy7 := hy6.below hb7 hy6.lt
      have hb7' := below_then hb7 hb5'
      have hz8 := hz7.far (p := ⟨y, 4, none⟩) (show z ≠ y by omega) (.string (bstr []))
      have hb8 := hb7'.setCell (p := ⟨y, 4, none⟩) (show w.heap.size ≤ y by omega) (.string (bstr []))
      have hyc2 := (hy7.op6 : _)
      have hyf2 := hy7.frozen 4
      clear hyc hyf hz5 hy5 hy6 hb5' hx2 hb7 hz7 hb7' hy7
      have hzr := hz8.row #[.int .u32 0, .int .u32 0, .int .u16 0, .string ⟨#[]⟩, .string ⟨#[]⟩, .slice none 0 0]
      have hbr := below_row hb8 (g := z) hzw #[.int .u32 0, .int .u32 0, .int .u16 0, .string ⟨#[]⟩, .string ⟨#[]⟩, .slice none 0 0]
      go_wp2_with (refine store_row_gen rfl 30 (Operand.tmp 2) _ rfl z #[.int .u32 0, .int .u32 0, .int .u16 0, .string ⟨#[]⟩, .string ⟨#[]⟩, .slice none 0 0] (by simp [go_sem]) (by simp [go_sem]) 30 _ hz8 (by kernel_rfl) rfl (by simp [Value.oneCell']) (fun w9 hw9 => ?_); rw [← hw9] at hzr hbr; clear hw9)
      refine bodyPost_ret (v := .tuple #[.agg #[.int .u32 0, .int .u32 0, .int .u16 0, .string ⟨#[]⟩, .string ⟨#[]⟩, .slice none 0 0], .int .i64 0, .int .i64 20]) (by exact results_ctt rfl _ _ z 30 _ (0, 0) _ _ _ rfl rfl rfl hzr Try.underlying30 rfl (by kernel_rfl)) rfl ?_
      exact ⟨rfl, hbr⟩
  rw [if_neg (show ¬ c = a1 by omega)] at hx2
  go_wp2_with fail
  generalize w5.setCell ⟨y, 3, none⟩ (.string gg) = w6 at *
  refine hx2.mono ?_
  rintro e w7 ⟨rfl, hb7⟩
  dsimp only
  obtain ⟨mm, hmm⟩ : ∃ mm, bstr t2 = mm := ⟨_, rfl⟩
  rw [hmm]
  have hz7 := (hz5.below hb7 hz5.lt).far (p := ⟨y, 4, none⟩) (show z ≠ y by omega) (.string mm)
  have hy7 := hy6.below hb7 hy6.lt
  have hy8 := hy7.set_ 4 (.string mm)
  have hb7' := (below_then hb7 hb5').setCell (p := ⟨y, 4, none⟩) (show w.heap.size ≤ y by omega) (.string mm)
  have hyc2 := (hy7.op6 : _)
  have hyf2 := hy7.frozen 4
  have hQ3 := hQ2.out
  rw [if_neg (by decide)] at hQ3
  obtain ⟨a2, ha2⟩ : ∃ a2, a1 + m2 = a2 := ⟨_, rfl⟩
  rw [ha2] at hQ3
  have hw2 := w64_sum ha2 (by omega)
  have ha2l : a2 ≤ bl := by omega
  replace ha2 := Lib.hid ha2
  replace hQ3 := Lib.hid hQ3
  replace hmm := Lib.hid hmm
  clear hyc hyf hz5 hy5 hy6 hb5' hx2 hb7 hQ2
  by_cases h2e : bl ≤ a2
  · have hQn : Q = none := by rw [← hQ3.out, if_pos (by omega)]
    subst hQn
    have hd : decide ((bl : Int) ≤ (a2 : Int)) = true := decide_eq_true (by omega)
    have hzr := hz7.row #[.int .u32 0, .int .u32 0, .int .u16 0, .string ⟨#[]⟩, .string ⟨#[]⟩, .slice none 0 0]
    have hbr := below_row hb7' (g := z) hzw #[.int .u32 0, .int .u32 0, .int .u16 0, .string ⟨#[]⟩, .string ⟨#[]⟩, .slice none 0 0]
    go_wp2_with (refine store_row_gen rfl 30 (Operand.tmp 2) _ rfl z #[.int .u32 0, .int .u32 0, .int .u16 0, .string ⟨#[]⟩, .string ⟨#[]⟩, .slice none 0 0] (by simp [go_sem]) (by simp [go_sem]) 30 _ hz7 (by kernel_rfl) rfl (by simp [Value.oneCell']) (fun w9 hw9 => ?_); rw [← hw9] at hzr hbr; clear hw9)
    refine bodyPost_ret (v := .tuple #[.agg #[.int .u32 0, .int .u32 0, .int .u16 0, .string ⟨#[]⟩, .string ⟨#[]⟩, .slice none 0 0], .int .i64 0, .int .i64 20]) (by exact results_ctt rfl _ _ z 30 _ (0, 0) _ _ _ rfl rfl rfl hzr Try.underlying30 rfl (by kernel_rfl)) rfl ?_
    exact ⟨rfl, hbr⟩
  have hcell := hca.out a2 (by rw [hbl.out]; omega) _ hb7'
  have hbd : b.drop a2 = b[a2]'(by rw [hbl.out]; omega) :: b.drop (a2 + 1) := List.drop_eq_getElem_cons _
  obtain ⟨x, hx⟩ : ∃ x, b[a2]'(by rw [hbl.out]; omega) = x := ⟨_, rfl⟩
  rw [hx] at hcell hbd
  have hQ4 := hQ3.out
  rw [if_neg (show ¬ bl < a2 + 1 by omega), hbd] at hQ4
  rw [show (x :: b.drop (a2 + 1)).take 1 = [x] from rfl, readU_one] at hQ4
  have hx8 : x.toNat < 256 := x.toNat_lt
  obtain ⟨k, hk⟩ : ∃ k, x.toNat = k := ⟨_, rfl⟩
  rw [hk] at hcell hQ4 hx8
  have hwk := w64_le (e := k) (by omega)
  have hd : decide ((bl : Int) ≤ (a2 : Int)) = false := decide_eq_false (by omega)
  have ha2i : (a2 : Int) < (bl : Int) := by omega
  have ha2n : a2 < bl := by omega
  replace hQ4 := Lib.hid hQ4
  clear hQ3 hbd hx hk
  by_cases hk16 : 16 < k
  · have hQn : Q = none := by rw [← hQ4.out, if_pos hk16]
    subst hQn
    have hd2 : decide ((16 : Int) < (k : Int)) = true := decide_eq_true (by omega)
    have hzr := hz7.row #[.int .u32 0, .int .u32 0, .int .u16 0, .string ⟨#[]⟩, .string ⟨#[]⟩, .slice none 0 0]
    have hbr := below_row hb7' (g := z) hzw #[.int .u32 0, .int .u32 0, .int .u16 0, .string ⟨#[]⟩, .string ⟨#[]⟩, .slice none 0 0]
    go_wp2_with (refine store_row_gen rfl 30 (Operand.tmp 2) _ rfl z #[.int .u32 0, .int .u32 0, .int .u16 0, .string ⟨#[]⟩, .string ⟨#[]⟩, .slice none 0 0] (by simp [go_sem]) (by simp [go_sem]) 30 _ hz7 (by kernel_rfl) rfl (by simp [Value.oneCell']) (fun w9 hw9 => ?_); rw [← hw9] at hzr hbr; clear hw9)
    refine bodyPost_ret (v := .tuple #[.agg #[.int .u32 0, .int .u32 0, .int .u16 0, .string ⟨#[]⟩, .string ⟨#[]⟩, .slice none 0 0], .int .i64 0, .int .i64 20]) (by exact results_ctt rfl _ _ z 30 _ (0, 0) _ _ _ rfl rfl rfl hzr Try.underlying30 rfl (by kernel_rfl)) rfl ?_
    exact ⟨rfl, hbr⟩
  have hd2 : decide ((16 : Int) < (k : Int)) = false := decide_eq_false (by omega)
  have hQ5 := hQ4.out
  rw [if_neg hk16] at hQ5
  obtain ⟨a3, ha3⟩ : ∃ a3, a2 + 1 = a3 := ⟨_, rfl⟩
  rw [ha3] at hQ5
  have hw3 := w64_s1 ha3 (by omega)
  have ha3l : a3 ≤ bl := by omega
  replace ha3 := Lib.hid ha3
  replace hQ5 := Lib.hid hQ5
  clear hQ4
  go_wp2_with fail
  generalize w7.setCell ⟨y, 4, none⟩ (.string mm) = w8 at *
  clear hyc2 hyf2 hy7 hd hd2 hcell hca hxa hw1 hw2 hwk hw3
  have hQa : rdOpK rdV b k a3 c1 s1 n1 t1 t2 = Q := by
    rw [← hQ5.out]
    unfold rdOpK
    cases pl rdV k (b.drop a3) <;> rfl
  replace hQa := Lib.hid hQa
  clear hQ5
  go_loopw [8, 12] (fun at_ ii wr => ∃ (j : Nat) (l1 : List Val) (A : Option Addr) (c' : Nat) (xs : List Value) (css : Nat → Array Value) (at' : Nat), at_ = .int .i64 (at' : Int) ∧ ii = .int .i64 (j : Int) ∧ QRel b k a3 z y w wr c1 s1 n1 gg mm j l1 A c' xs css at') (fun _ ii _ => k - (intOf ii).toNat)
  case atStart => exact ⟨0, [], none, 0, [], _, a3, rfl, rfl, ⟨Nat.zero_le _, rfl, by rw [hbl.out]; exact ha3l, Nat.le_refl _, hz7, hy8, VRow.nil _ _, hb7', by simp⟩⟩
  case round =>
    rename_i hrel
    obtain ⟨j, l1, A, c', xs, css, at', rfl, rfl, R⟩ := hrel
    have hjn := R.jn
    have hat := R.hat
    rw [hbl.out] at hat
    have hyl : y < wr.heap.size := R.hy.lt
    by_cases hlt : j < k
    · have hat1 : (at' : Int) ≤ (bl : Int) := by omega
      have hcall := hva.out at' (by rw [hbl.out]; exact hat) wr R.hb
      rw [hbl.out] at hcall
      have hpp := R.pp
      obtain ⟨bd, hbd⟩ : ∃ bd, b.drop at' = bd := ⟨_, rfl⟩
      have hbdl : bd.length = bl - at' := by rw [← hbd, List.length_drop, hbl.out]
      rw [hbd] at hpp hcall
      obtain ⟨rr, hrr⟩ : ∃ rr, rdV bd = rr := ⟨_, rfl⟩
      rw [hrr] at hcall
      cases rr with
      | none =>
        have hQn : Q = none := by
          rw [← hQa.out]
          unfold rdOpK
          rw [hpp, pl_none (by omega) hrr]
          rfl
        subst hQn
        have hzz := R.hz
        have hbb := R.hb
        clear hbd hpp hbdl hrr R
        by_cases hcc : c = at'
        all_goals
          first | (have hbe : bl = at' := by omega); subst hbe hcc; rw [if_pos rfl, Nat.sub_self] at hcall | rw [if_neg hcc] at hcall
          go_wp2_with fail
          refine hcall.mono ?_
          clear hcall
          rintro e w9 ⟨rfl, hb9⟩
          dsimp only
          have hz9 := (hzz.below hb9 hzz.lt).alloc (.cells #[.int .i64 0, .int .i64 0, .float .f64 0, .string ⟨#[]⟩, .slice none 0 0] 110)
          have hb9' := (below_then hb9 hbb).alloc (Nat.le_trans hbb.size hb9.size) (.cells #[.int .i64 0, .int .i64 0, .float .f64 0, .string ⟨#[]⟩, .slice none 0 0] 110)
          clear hzz hbb hb9
          have hzr := hz9.row #[.int .u32 0, .int .u32 0, .int .u16 0, .string ⟨#[]⟩, .string ⟨#[]⟩, .slice none 0 0]
          have hbr := below_row hb9' (g := z) hzw #[.int .u32 0, .int .u32 0, .int .u16 0, .string ⟨#[]⟩, .string ⟨#[]⟩, .slice none 0 0]
          go_wp2_with (refine store_row_gen rfl 30 (Operand.tmp 2) _ rfl z #[.int .u32 0, .int .u32 0, .int .u16 0, .string ⟨#[]⟩, .string ⟨#[]⟩, .slice none 0 0] (by simp [go_sem]) (by simp [go_sem]) 30 _ hz9 (by kernel_rfl) rfl (by simp [Value.oneCell']) (fun w9 hw9 => ?_); rw [← hw9] at hzr hbr; clear hw9)
          refine bodyPost_ret (v := .tuple #[.agg #[.int .u32 0, .int .u32 0, .int .u16 0, .string ⟨#[]⟩, .string ⟨#[]⟩, .slice none 0 0], .int .i64 0, .int .i64 20]) (by exact results_ctt rfl _ _ z 30 _ (0, 0) _ _ _ rfl rfl rfl hzr Try.underlying30 rfl (by kernel_rfl)) rfl ?_
          exact ⟨rfl, hbr⟩
      | some vm =>
        obtain ⟨v, m⟩ := vm
        have hm : m ≤ bl - at' := by rw [← hbdl]; exact rdV_le hrr
        have hatl : at' < bl := by
          refine Nat.lt_of_not_le fun hge => ?_
          have : bd = [] := List.eq_nil_of_length_eq_zero (by omega)
          rw [this, rdV_nil] at hrr
          cases hrr
        rw [if_neg (show ¬ c = at' by omega)] at hcall
        replace hpp := Lib.hid hpp
        replace hrr := Lib.hid hrr
        replace hbd := Lib.hid hbd
        replace hbdl := Lib.hid hbdl
        go_wp2_with fail
        refine hcall.mono ?_
        clear hcall
        rintro e2 w6 ⟨cs, rfl, hv, hb6⟩
        dsimp only
        obtain ⟨k', i', f', s', A', n', c9, hform⟩ := hv.reads.form
        subst hform
        have hone := hv.one
        have hb6u := Upd.of_below_size (S := fun _ => False) hb6
        have hy6 := (R.hy.below hb6 R.hy.lt).alloc (.cells #[.int .i64 k', .int .i64 i', .float .f64 f', .string s', .slice A' n' c9] 110)
        have hz6 := (R.hz.below hb6 R.hz.lt).alloc (.cells #[.int .i64 k', .int .i64 i', .float .f64 f', .string s', .slice A' n' c9] 110)
        have hv6 := hv.upd ((Upd.refl (fun _ => False) w6).alloc (.cells #[.int .i64 k', .int .i64 i', .float .f64 f', .string s', .slice A' n' c9] 110)) (fun _ _ h => h)
        have hu6 := hb6u.alloc (.cells #[.int .i64 k', .int .i64 i', .float .f64 f', .string s', .slice A' n' c9] 110)
        have hbv := (Blk.new w6 110 #[.int .i64 k', .int .i64 i', .float .f64 f', .string s', .slice A' n' c9]).val5
        have ho6 := R.R.ho.upd hu6 (fun g _ h => h)
        rw [R.jl] at ho6
        have hb7 := (below_then hb6 R.hb).alloc (Nat.le_trans R.hb.size hb6.size) (.cells #[.int .i64 k', .int .i64 i', .float .f64 f', .string s', .slice A' n' c9] 110)
        have hw67 : (w6.alloc (.cells #[.int .i64 k', .int .i64 i', .float .f64 f', .string s', .slice A' n' c9] 110)).heap.size = w6.heap.size + 1 := by simp
        have hyc := hy6.op6
        have hsrc := Reads.lit (size := 5) (w6.alloc (.cells #[.int .i64 k', .int .i64 i', .float .f64 f', .string s', .slice A' n' c9] 110)) #[.int .i64 k', .int .i64 i', .float .f64 f', .string s', .slice A' n' c9] 110 (0, 0) 1 [.int .i64 k', .int .i64 i', .float .f64 f', .string s', .slice A' n' c9] rfl rfl
        rw [hw67] at hsrc
        have hwz6 : y < w6.heap.size := by have := hb6.size; omega
        have hws6 : wr.heap.size ≤ w6.heap.size := hb6.size
        have hbws := R.hb.size
        clear hb6 hv hb6u
        replace hw67 := Lib.hid hw67
        go_wp2_with (at_builtin; go_must (refine wpList_append_mine rfl _ _ 28 28 rfl 110 i1 _ 5 64 Try.underlying28 gi gz0 gz1 gz2 rfl rfl (ho6.alloc (.cells #[.int .i64 k', .int .i64 i', .float .f64 f', .string s', .slice A' n' c9] 110)) rfl (Src.ofReads Try.underlying28 _ hsrc (by intro u hu; exact hone u (by simpa using hu))) ?b1 ?b2 ?grow))
        case b1 => unfold maxLen; omega
        case b2 => omega
        case grow =>
          intro A8 c8 w8' ho8 hg8 hat8
          have hAz : ∀ g, bOf A = some g → y + 1 ≤ g := R.R.hA
          have R8 := R.R.push (w6 := w6.alloc (.cells #[.int .i64 k', .int .i64 i', .float .f64 f', .string s', .slice A' n' c9] 110)) (by omega) hu6 (fun _ h => h.elim) hv6 ⟨_, rfl⟩ (by rw [R.jl]; exact ho8) hg8 (by rw [World.size_alloc]; rw [hw67.out]; exact hat8)
          have hy8' := (hy6.alloc (.cells #[.int .i64 k', .int .i64 i', .float .f64 f', .string s', .slice A' n' c9] 110)).grown hg8 (fun e => by have := hAz _ e.symm; omega)
          have hz8 := (hz6.alloc (.cells #[.int .i64 k', .int .i64 i', .float .f64 f', .string s', .slice A' n' c9] 110)).grown hg8 (fun e => by have := hAz _ e.symm; omega)
          have hb8 := (hb7.alloc hb7.size (.cells #[.int .i64 k', .int .i64 i', .float .f64 f', .string s', .slice A' n' c9] 110)).grown hg8 (by rw [World.size_alloc, World.size_alloc]; omega) (fun k e => by have := hAz k e; omega)
          have hy9 := hy8'.set_ 5 (.slice A8 (j + 1) c8)
          have hz9 := hz8.far (p := ⟨y, 5, none⟩) (show z ≠ y by omega) (.slice A8 (j + 1) c8)
          have hb9 := hb8.setCell (p := ⟨y, 5, none⟩) (show w.heap.size ≤ y by omega) (.slice A8 (j + 1) c8)
          have R9 := R8.upd ((Upd.refl (fun x => x = y) w8').setCell (p := ⟨y, 5, none⟩) (fun _ => rfl) (.slice A8 (j + 1) c8)) (fun g hg e => by omega)
          have y84 := hy8'.cell 5
          have yf8 := hy8'.frozen 5
          have hnew : QRel b k a3 z y w (w8'.setCell ⟨y, 5, none⟩ (.slice A8 (j + 1) c8)) c1 s1 n1 gg mm (j + 1) (l1 ++ [v]) A8 c8 (xs ++ (#[.int .i64 k', .int .i64 i', .float .f64 f', .string s', .slice A' n' c9] : Array Value).toList) (fun k => if k = l1.length then #[.int .i64 k', .int .i64 i', .float .f64 f', .string s', .slice A' n' c9] else css k) (at' + m) := by
            refine ⟨by omega, by simp [R.jl], by rw [hbl.out]; omega, by have := R.hl; omega, hz9, hy9, R9, hb9, ?_⟩
            have hl2 := R.hl
            rw [hpp.out, pl_some (by omega) hrr.out, ← hbd.out, List.drop_drop]
            rw [show k - j - 1 = k - (j + 1) from by omega]
            cases pl rdV (k - (j + 1)) (b.drop (at' + m)) with
            | none => rfl
            | some x =>
              simp only [Option.map_some, List.append_assoc, List.singleton_append]
              rw [show at' - a3 + (m + x.2) = at' + m - a3 + x.2 from by omega]
          clear hy9 hz9 hb9 R9 hy8' hz8 hb8 R8 hsrc ho8 hg8 hat8 hv6 hu6 hz6 hy6 hyc hbv ho6 hone R hb7
          replace hnew := Lib.hid hnew
          have hwm := w64_sum (a := at') (n := m) rfl (by omega)
          go_wp2_with fail
          go_roundw
          case rel => exact ⟨u3, u4, _, _, ⟨j + 1, l1 ++ [v], A8, c8, _, _, at' + m, rfl, rfl, hnew.out⟩, rfl, rfl, by simp, by simp⟩
          case measure => simp [intOf]; omega
    · have hjn' : j = k := by omega
      subst hjn'
      have hyc := R.hy.op6
      have hjl := R.jl
      have hz7 := R.hz.row #[.int .u32 (c1 : Int), .int .u32 (s1 : Int), .int .u16 (n1 : Int), .string gg, .string mm, .slice A j c']
      have hb8 := below_row R.hb (g := z) hzw #[.int .u32 (c1 : Int), .int .u32 (s1 : Int), .int .u16 (n1 : Int), .string gg, .string mm, .slice A j c']
      have hzz := R.hz
      have hown := (R.R.upd ((Upd.refl (fun x => x = z) wr).setRow (g := z) (fun _ => rfl) #[.int .u32 (c1 : Int), .int .u32 (s1 : Int), .int .u16 (n1 : Int), .string gg, .string mm, .slice A j c']) (fun g hg e => by omega)).down (show w.heap.size ≤ y + 1 by omega)
      have hQs : Q = some (⟨c1, s1, n1, t1, t2, l1⟩, at') := by
        have hl2 := R.hl
        rw [← hQa.out]
        unfold rdOpK
        rw [R.pp, Nat.sub_self]
        simp only [pl, Option.map_some, List.append_nil, Nat.add_zero]
        rw [show a3 + (at' - a3) = at' from by omega]
      clear R hva
      go_wp2_with (refine store_row_gen rfl 30 (Operand.tmp 2) _ rfl z #[.int .u32 (c1 : Int), .int .u32 (s1 : Int), .int .u16 (n1 : Int), .string gg, .string mm, .slice A j c'] (by simp [go_sem]) (by simp [go_sem]) 30 _ hzz (by kernel_rfl) rfl (by simp [Value.oneCell']) (fun w9 hw9 => ?_); rw [← hw9] at hz7 hb8 hown; clear hw9)
      refine bodyPost_ret (v := .tuple #[.agg #[.int .u32 (c1 : Int), .int .u32 (s1 : Int), .int .u16 (n1 : Int), .string gg, .string mm, .slice A j c'], .int .i64 (at' : Int), .int .i64 0]) (by exact results_ctt rfl _ _ z 30 _ (0, 0) _ _ _ rfl rfl rfl hz7 Try.underlying30 rfl (by kernel_rfl)) rfl ?_
      rw [hQs]
      refine ⟨A, c', xs, css, ?_, hown, hb8⟩
      dsimp only
      rw [hgg.out, hmm.out, hjl]
end Go.Proofs.Ytjljlgkghlphnaa
