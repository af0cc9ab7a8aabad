/- call.Read: a call read from any bytes. -/
import Derived.Test.YtblakaddanoilaaTryC
namespace Go.Proofs.Ytblakaddanoilaa
open Go.RowKit
set_option maxRecDepth 100000

def OpRd (w : World) (R : Option (OpD × Nat)) (e : Ending) (w' : World) : Prop :=
  match R with
  | some (o, q) => ∃ A' c' xs css, e = .returned (.tuple #[.agg #[.int .u32 (o.c : Int), .int .u32 (o.s : Int), .int .u16 (o.n : Int), .string (bstr o.g), .string (bstr o.m), .slice A' o.l.length c'], .int .i64 (q : Int), .int .i64 0]) ∧ VRow w' w.heap.size o.l A' c' xs css ∧ Below w.heap.size w w'
  | none => e = .returned (.tuple #[.agg #[.int .u32 0, .int .u32 0, .int .u16 0, .string ⟨#[]⟩, .string ⟨#[]⟩, .slice none 0 0], .int .i64 0, .int .i64 20]) ∧ Below w.heap.size w w'

set_option maxHeartbeats 3200000 in
theorem call_read {A : Option Addr} {c : Nat} {b : List UInt8} {w : World} (hr : Reads w w.heap.size 1 A b.length (bys b)) (hA : A = none → c = 0) (hc : b.length ≤ c) (hl : b.length ≤ 1000000000) (R : Option (OpD × Nat)) (hR : rdOp b = R) :
    Calls Try.prog 11 #[.slice A b.length c] w (OpRd w R) := by
  have hmf : ∀ (fn : Fn) (first cap : Array Value) (w : World), (Instr.makeFunc fn first cap).run Try.prog w = .ok (.func fn first cap) w := fun _ _ _ _ => rfl
  have s1 : (w.alloc (.cells #[.int .u32 0, .int .u32 0, .int .u16 0, .string ⟨#[]⟩, .string ⟨#[]⟩, .slice none 0 0] 29)).heap.size = w.heap.size + 1 := by simp
  have s2 : ((w.alloc (.cells #[.int .u32 0, .int .u32 0, .int .u16 0, .string ⟨#[]⟩, .string ⟨#[]⟩, .slice none 0 0] 29)).alloc (.cells #[.slice A b.length c, .int .i64 0] 71)).heap.size = w.heap.size + 1 + 1 := by simp
  have s3 : (((w.alloc (.cells #[.int .u32 0, .int .u32 0, .int .u16 0, .string ⟨#[]⟩, .string ⟨#[]⟩, .slice none 0 0] 29)).alloc (.cells #[.slice A b.length c, .int .i64 0] 71)).alloc (.cells #[.pointer (some ⟨w.heap.size + 1, 0, none⟩)] 69)).heap.size = w.heap.size + 1 + 1 + 1 := by simp
  have s4 : ((((w.alloc (.cells #[.int .u32 0, .int .u32 0, .int .u16 0, .string ⟨#[]⟩, .string ⟨#[]⟩, .slice none 0 0] 29)).alloc (.cells #[.slice A b.length c, .int .i64 0] 71)).alloc (.cells #[.pointer (some ⟨w.heap.size + 1, 0, none⟩)] 69)).alloc (.cells #[.int .u32 0, .int .u32 0, .int .u16 0, .string ⟨#[]⟩, .string ⟨#[]⟩, .slice none 0 0] 29)).heap.size = w.heap.size + 1 + 1 + 1 + 1 := by simp
  have b0 := (((Blk.new w 29 #[.int .u32 0, .int .u32 0, .int .u16 0, .string ⟨#[]⟩, .string ⟨#[]⟩, .slice none 0 0]).alloc (.cells #[.slice A b.length c, .int .i64 0] 71)).alloc (.cells #[.pointer (some ⟨w.heap.size + 1, 0, none⟩)] 69)).alloc (.cells #[.int .u32 0, .int .u32 0, .int .u16 0, .string ⟨#[]⟩, .string ⟨#[]⟩, .slice none 0 0] 29)
  have b1 := ((Blk.new (w.alloc (.cells #[.int .u32 0, .int .u32 0, .int .u16 0, .string ⟨#[]⟩, .string ⟨#[]⟩, .slice none 0 0] 29)) 71 #[.slice A b.length c, .int .i64 0]).alloc (.cells #[.pointer (some ⟨w.heap.size + 1, 0, none⟩)] 69)).alloc (.cells #[.int .u32 0, .int .u32 0, .int .u16 0, .string ⟨#[]⟩, .string ⟨#[]⟩, .slice none 0 0] 29)
  have b2 := (Blk.new ((w.alloc (.cells #[.int .u32 0, .int .u32 0, .int .u16 0, .string ⟨#[]⟩, .string ⟨#[]⟩, .slice none 0 0] 29)).alloc (.cells #[.slice A b.length c, .int .i64 0] 71)) 69 #[.pointer (some ⟨w.heap.size + 1, 0, none⟩)]).alloc (.cells #[.int .u32 0, .int .u32 0, .int .u16 0, .string ⟨#[]⟩, .string ⟨#[]⟩, .slice none 0 0] 29)
  have b3 := Blk.new (((w.alloc (.cells #[.int .u32 0, .int .u32 0, .int .u16 0, .string ⟨#[]⟩, .string ⟨#[]⟩, .slice none 0 0] 29)).alloc (.cells #[.slice A b.length c, .int .i64 0] 71)).alloc (.cells #[.pointer (some ⟨w.heap.size + 1, 0, none⟩)] 69)) 29 #[.int .u32 0, .int .u32 0, .int .u16 0, .string ⟨#[]⟩, .string ⟨#[]⟩, .slice none 0 0]
  rw [s1] at b1
  rw [s2] at b2
  rw [s3] at b3
  have hb4 : Below w.heap.size w ((((w.alloc (.cells #[.int .u32 0, .int .u32 0, .int .u16 0, .string ⟨#[]⟩, .string ⟨#[]⟩, .slice none 0 0] 29)).alloc (.cells #[.slice A b.length c, .int .i64 0] 71)).alloc (.cells #[.pointer (some ⟨w.heap.size + 1, 0, none⟩)] 69)).alloc (.cells #[.int .u32 0, .int .u32 0, .int .u16 0, .string ⟨#[]⟩, .string ⟨#[]⟩, .slice none 0 0] 29)) := ((((Below.refl w.heap.size w).alloc (Nat.le_refl _) _).alloc (by simp) _).alloc (by simp; omega) _).alloc (by simp; omega) _
  clear s1 s2 s3
  have hrx := fun (w1 : World) (hb : Below w.heap.size w w1) => hr.below hb
  replace hrx := Lib.hid hrx
  clear hr
  obtain ⟨bl, hbl⟩ : ∃ bl, b.length = bl := ⟨_, rfl⟩
  rw [hbl] at b1 hb4 s4 b0 b2 b3 ⊢
  obtain ⟨w4, hw4⟩ : ∃ w4, (((w.alloc (.cells #[.int .u32 0, .int .u32 0, .int .u16 0, .string ⟨#[]⟩, .string ⟨#[]⟩, .slice none 0 0] 29)).alloc (.cells #[.slice A bl c, .int .i64 0] 71)).alloc (.cells #[.pointer (some ⟨w.heap.size + 1, 0, none⟩)] 69)).alloc (.cells #[.int .u32 0, .int .u32 0, .int .u16 0, .string ⟨#[]⟩, .string ⟨#[]⟩, .slice none 0 0] 29) = w4 := ⟨_, rfl⟩
  rw [hw4] at s4 b0 b1 b2 b3 hb4
  have bt := Blk.new w4 35 #[.int .i64 0]
  rw [s4] at bt
  have hb5 := hb4.alloc hb4.size (.cells #[.int .i64 0] 35)
  have s5 : (w4.alloc (.cells #[.int .i64 0] 35)).heap.size = w.heap.size + 1 + 1 + 1 + 1 + 1 := by rw [World.size_alloc, s4]
  have hcl := read_cl (A := A) (c := c) (B := w.heap.size) (r := w.heap.size + 1) (pb := w.heap.size + 1 + 1) (ob := w.heap.size + 1 + 1 + 1) (b := b) (w := w4.alloc (.cells #[.int .i64 0] 35)) (by rw [hbl]; exact Blk.alloc b1 _) (hrx.out _ hb5) hA (by omega) (by omega) hc hl (b2.alloc _) (b3.alloc _) R hR
  rw [hbl] at hcl
  have htry : Calls Try.prog 33 #[.pointer (some ⟨w.heap.size + 1 + 1, 0, none⟩), .pointer (some ⟨w.heap.size + 1 + 1 + 1, 0, none⟩)] (w4.alloc (.cells #[.int .i64 0] 35)) (TryPost (fun w1 => R ≠ none ∧ ClRes (w4.alloc (.cells #[.int .i64 0] 35)) (w.heap.size + 1) (w.heap.size + 1 + 1 + 1) A bl c R (.returned (.tuple #[])) w1 ∧ Upd (fun x => x = w.heap.size + 1 ∨ x = w.heap.size + 1 + 1 + 1) (w4.alloc (.cells #[.int .i64 0] 35)) w1) (fun w1 => R = none ∧ Upd (fun x => x = w.heap.size + 1 ∨ x = w.heap.size + 1 + 1 + 1) (w4.alloc (.cells #[.int .i64 0] 35)) w1)) := by
    refine hcl.mono ?_
    intro e w1 h
    cases R with
    | none => exact .inr ⟨h.1, rfl, h.2⟩
    | some x => exact .inl ⟨h.1, by simp, ⟨rfl, h.2⟩, h.2.2.2⟩
  have htr := try_read (w := w4) (fun w1 hg => by rw [s4]; exact bt.upd hg.2.2 (fun e => by omega)) (fun w1 hg => by rw [s4]; exact bt.upd hg.2 (fun e => by omega)) htry
  rw [s4] at htr
  clear hcl htry hrx hA hc hl hR hbl
  replace htr := Lib.hid htr
  go_enter Try.func11, Try.ntmps11
  go_wp2_with fail
  refine htr.out.mono ?_
  rintro e w6 (⟨w5, rfl, ⟨hne, hcl, hu5⟩, hu6⟩ | ⟨w5, rfl, ⟨hnn, hu5⟩, hu6⟩)
  · dsimp only
    cases R with
    | none => exact absurd rfl hne
    | some x =>
    obtain ⟨o, q⟩ := x
    obtain ⟨-, hR5, ⟨A', c', xs, css, ho5, row5⟩, -⟩ := hcl
    rw [s5] at row5
    have hz6 := ((b0.alloc (.cells #[.int .i64 0] 35)).upd hu5 (fun e => by omega)).upd hu6 (fun e => by omega)
    have hp6 := ((b2.alloc (.cells #[.int .i64 0] 35)).upd hu5 (fun e => by omega)).upd hu6 (fun e => by omega)
    have ho6 := ho5.upd hu6 (fun e => by omega)
    have hR6 : CAt w6 (w.heap.size + 1) A bl c q := Blk.upd hR5 hu6 (fun e => by omega)
    have row6 := row5.upd hu6 (fun g hg e => by omega)
    have hB5 := hb5.trans (hu5.below (B := w.heap.size) hb5.size (fun k hk e => by omega))
    have hB6 := hB5.trans (hu6.below (B := w.heap.size) hB5.size (fun k hk e => by omega))
    have hres : ∀ w9, VRow w9 (w.heap.size + 1 + 1 + 1 + 1 + 1) o.l A' c' xs css → Below w.heap.size w w9 → OpRd w (some (o, q)) (.returned (.tuple #[.agg #[.int .u32 (o.c : Int), .int .u32 (o.s : Int), .int .u16 (o.n : Int), .string (bstr o.g), .string (bstr o.m), .slice A' o.l.length c'], .int .i64 (q : Int), .int .i64 0])) w9 := fun w9 h1 h2 => ⟨A', c', xs, css, rfl, h1.down (by omega), h2⟩
    generalize o.c = oc at *
    generalize o.s = os at *
    generalize o.n = on at *
    generalize bstr o.g = og at *
    generalize bstr o.m = om at *
    generalize o.l.length = ol at *
    replace hres := Lib.hid hres
    clear htr hu5 hu6 hB5 hb5 b0 b1 b2 b3 bt hR5 ho5 row5 hne
    have hS : w6.drew.cell? ⟨w.heap.size + 1 + 1 + 1, 0, none⟩ = some (.int .u32 (oc : Int)) ∧ w6.drew.cell? ⟨w.heap.size + 1 + 1 + 1, 1, none⟩ = some (.int .u32 (os : Int)) ∧ w6.drew.cell? ⟨w.heap.size + 1 + 1 + 1, 2, none⟩ = some (.int .u16 (on : Int)) ∧ w6.drew.cell? ⟨w.heap.size + 1 + 1 + 1, 3, none⟩ = some (.string og) ∧ w6.drew.cell? ⟨w.heap.size + 1 + 1 + 1, 4, none⟩ = some (.string om) ∧ w6.drew.cell? ⟨w.heap.size + 1 + 1 + 1, 5, none⟩ = some (.slice A' ol c') ∧ w6.drew.cell? ⟨w.heap.size + 1 + 1, 0, none⟩ = some (.pointer (some ⟨w.heap.size + 1, 0, none⟩)) ∧ w6.drew.cell? ⟨w.heap.size + 1, 1, none⟩ = some (.int .i64 (q : Int)) := ⟨ho6.cell 0, ho6.cell 1, ho6.cell 2, ho6.cell 3, ho6.cell 4, ho6.cell 5, hp6.cell 0, Blk.cell hR6 1⟩
    go_wp2_with fail
    refine wp_region_lex (fun W => W.cell? ⟨w.heap.size + 1 + 1 + 1, 0, none⟩ = some (.int .u32 (oc : Int)) ∧ W.cell? ⟨w.heap.size + 1 + 1 + 1, 1, none⟩ = some (.int .u32 (os : Int)) ∧ W.cell? ⟨w.heap.size + 1 + 1 + 1, 2, none⟩ = some (.int .u16 (on : Int)) ∧ W.cell? ⟨w.heap.size + 1 + 1 + 1, 3, none⟩ = some (.string og) ∧ W.cell? ⟨w.heap.size + 1 + 1 + 1, 4, none⟩ = some (.string om) ∧ W.cell? ⟨w.heap.size + 1 + 1 + 1, 5, none⟩ = some (.slice A' ol c') ∧ W.cell? ⟨w.heap.size + 1 + 1, 0, none⟩ = some (.pointer (some ⟨w.heap.size + 1, 0, none⟩)) ∧ W.cell? ⟨w.heap.size + 1, 1, none⟩ = some (.int .i64 (q : Int))) [0, 1, 4] [5] [0, 1, 2, 3, 4, 5, 6, 7] (by kernel_rfl) rfl (by kernel_rfl) (by kernel_rfl) (fun _ _ d _ _ h => by cases d <;> exact h) ?_
    repeat (first | (refine lexG_take _ ?_ rfl rfl rfl rfl (fun _ => ?_) ?_; rotate_left; (focus (go_simp; with_reducible rfl)); try simp only [Act.put, List.setIfInBounds_toArray, List.set_cons_zero, List.set_cons_succ]) | (refine lexG_held _ ?_ rfl rfl rfl rfl (by assumption) (fun _ hSw => ?_) ?_; rotate_left; (focus ((try dsimp only at hSw); go_simp; with_reducible rfl)); try simp only [Act.put, List.setIfInBounds_toArray, List.set_cons_zero, List.set_cons_succ]) | (refine lexG_skip _ rfl rfl (by assumption) ?_; try simp only [Act.put, List.setIfInBounds_toArray, List.set_cons_zero, List.set_cons_succ]))
    refine lexG_now _ rfl rfl rfl (fun K hK => ?_)
    refine wp_store_row 29 (Operand.tmp 2) (Operand.tmp 17) rfl w.heap.size #[.int .u32 (oc : Int), .int .u32 (os : Int), .int .u16 (on : Int), .string og, .string om, .slice A' ol c'] (by simp [go_sem]) (by simp [go_sem]) 29 _ hz6.drew (by kernel_rfl) rfl (by simp [Value.oneCell']) ?_
    have ho7 := ho6.drew.farRow (g := w.heap.size) (by omega) #[.int .u32 (oc : Int), .int .u32 (os : Int), .int .u16 (on : Int), .string og, .string om, .slice A' ol c']
    have hp7 := hp6.drew.farRow (g := w.heap.size) (by omega) #[.int .u32 (oc : Int), .int .u32 (os : Int), .int .u16 (on : Int), .string og, .string om, .slice A' ol c']
    have hR7 := (show Blk w6 (w.heap.size + 1) _ _ from hR6).drew.farRow (g := w.heap.size) (by omega) #[.int .u32 (oc : Int), .int .u32 (os : Int), .int .u16 (on : Int), .string og, .string om, .slice A' ol c']
    refine hK _ _ _ (fun _ h => h) ⟨ho7.cell 0, ho7.cell 1, ho7.cell 2, ho7.cell 3, ho7.cell 4, ho7.cell 5, hp7.cell 0, hR7.cell 1⟩ ?_
    have hz7 := hz6.drew.row #[.int .u32 (oc : Int), .int .u32 (os : Int), .int .u16 (on : Int), .string og, .string om, .slice A' ol c']
    have hb7 := below_row (below_drewN hB6 1) (g := w.heap.size) (Nat.le_refl _) #[.int .u32 (oc : Int), .int .u32 (os : Int), .int .u16 (on : Int), .string og, .string om, .slice A' ol c']
    have row7 := row6.upd (((Upd.refl (fun x => x = w.heap.size) w6).drew).setRow (g := w.heap.size) (fun _ => rfl) #[.int .u32 (oc : Int), .int .u32 (os : Int), .int .u16 (on : Int), .string og, .string om, .slice A' ol c']) (fun g hg e => by omega)
    clear hK K hz6 hp6 ho6 hR6 hB6 row6 hS ho7 hp7 hR7
    replace hb7 : Below w.heap.size w (w6.drew.setRow w.heap.size #[.int .u32 (oc : Int), .int .u32 (os : Int), .int .u16 (on : Int), .string og, .string om, .slice A' ol c']) := hb7
    generalize w6.drew.setRow w.heap.size #[.int .u32 (oc : Int), .int .u32 (os : Int), .int .u16 (on : Int), .string og, .string om, .slice A' ol c'] = w9 at *
    try simp only [Act.put, List.setIfInBounds_toArray, List.set_cons_zero, List.set_cons_succ]
    repeat (first | (refine lexG_take _ ?_ rfl rfl rfl rfl (fun _ => ?_) ?_; rotate_left; (focus (go_simp; with_reducible rfl)); try simp only [Act.put, List.setIfInBounds_toArray, List.set_cons_zero, List.set_cons_succ]) | (refine lexG_held _ ?_ rfl rfl rfl rfl (by assumption) (fun _ hSw => ?_) ?_; rotate_left; (focus ((try dsimp only at hSw); go_simp; with_reducible rfl)); try simp only [Act.put, List.setIfInBounds_toArray, List.set_cons_zero, List.set_cons_succ]) | (refine lexG_skip _ rfl rfl (by assumption) ?_; try simp only [Act.put, List.setIfInBounds_toArray, List.set_cons_zero, List.set_cons_succ]))
    refine lexG_nil ?_
    go_wp2_with fail
    refine bodyPost_ret (v := .tuple #[.agg #[.int .u32 (oc : Int), .int .u32 (os : Int), .int .u16 (on : Int), .string og, .string om, .slice A' ol c'], .int .i64 (q : Int), .int .i64 0]) ?hr rfl ?_
    case hr => exact results_ctt rfl _ _ w.heap.size 29 _ (0, 0) _ _ _ rfl rfl rfl hz7 Try.underlying29 rfl (by kernel_rfl)
    exact hres.out w9 row7 hb7
  · subst hnn
    dsimp only
    have hz6 := ((b0.alloc (.cells #[.int .i64 0] 35)).upd hu5 (fun e => by omega)).upd hu6 (fun e => by omega)
    have hB5 := hb5.trans (hu5.below (B := w.heap.size) hb5.size (fun k hk e => by omega))
    have hB6 := hB5.trans (hu6.below (B := w.heap.size) hB5.size (fun k hk e => by omega))
    have hz7 := hz6.row #[.int .u32 0, .int .u32 0, .int .u16 0, .string ⟨#[]⟩, .string ⟨#[]⟩, .slice none 0 0]
    have hb7 := below_row hB6 (g := w.heap.size) (Nat.le_refl _) #[.int .u32 0, .int .u32 0, .int .u16 0, .string ⟨#[]⟩, .string ⟨#[]⟩, .slice none 0 0]
    clear htr hu5 hu6 hB5 hb5 b0 b1 b2 b3 bt
    go_wp2_with (refine store_row_gen rfl 29 (Operand.tmp 2) _ rfl w.heap.size #[.int .u32 0, .int .u32 0, .int .u16 0, .string ⟨#[]⟩, .string ⟨#[]⟩, .slice none 0 0] (by simp [go_sem]) (by simp [go_sem]) 29 _ hz6 (by kernel_rfl) rfl (by simp [Value.oneCell']) (fun w9 hw9 => ?_); rw [← hw9] at hz7 hb7; clear hw9)
    refine bodyPost_ret (v := .tuple #[.agg #[.int .u32 0, .int .u32 0, .int .u16 0, .string ⟨#[]⟩, .string ⟨#[]⟩, .slice none 0 0], .int .i64 0, .int .i64 20]) ?hr rfl ?_
    case hr => exact results_ctt rfl _ _ w.heap.size 29 _ (0, 0) _ _ _ rfl rfl rfl hz7 Try.underlying29 rfl (by kernel_rfl)
    exact ⟨rfl, hb7⟩
end Go.Proofs.Ytblakaddanoilaa
