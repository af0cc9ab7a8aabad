/- call.ReadReply: a reply read from any bytes. -/
import Derived.Test.YtblakaddanoilaaRepC
namespace Go.Proofs.Ytblakaddanoilaa
open Go.RowKit
set_option maxRecDepth 100000

set_option maxHeartbeats 1600000 in
theorem try_rep {pb ob : Nat} {w : World} {good bad : World → Prop} (hgood : ∀ w1, good w1 → Blk w1 w.heap.size 35 #[.int .i64 0]) (hbad : ∀ w1, bad w1 → Blk w1 w.heap.size 35 #[.int .i64 0])
    (hcall : Calls Try.prog 43 #[.pointer (some ⟨pb, 0, none⟩), .pointer (some ⟨ob, 0, none⟩)] (w.alloc (.cells #[.int .i64 0] 35)) (TryPost good bad)) :
    Calls Try.prog 32 #[.func (Fn.func 43) #[] #[.pointer (some ⟨pb, 0, none⟩), .pointer (some ⟨ob, 0, none⟩)]] w (TryRes w.heap.size good bad) := by
  have hmf : ∀ (fn : Fn) (first cap : Array Value) (w : World), (Instr.makeFunc fn first cap).run Try.prog w = .ok (.func fn first cap) w := fun _ _ _ _ => rfl
  replace hcall := Lib.hid hcall
  go_enter_defers Try.func32, Try.ntmps32
  go_wp2_with fail
  generalize w.alloc (.cells #[.int .i64 0] 35) = w2 at *
  refine hcall.out.mono ?_
  rintro e w3 (⟨rfl, hg⟩ | ⟨rfl, hb⟩)
  · dsimp only
    have h3 := hgood _ hg
    have x0 := h3.cell 0
    have xf := h3.frozen 0
    have h4 := h3.set_ 0 (.int .i64 0)
    have hu4 := (Upd.refl (fun x => x = w.heap.size) w3).setCell (p := ⟨w.heap.size, 0, none⟩) (fun _ => rfl) (.int .i64 0)
    go_wp2_with fail
    refine leaves_cons (f := 63) (args := #[.pointer (some ⟨w.heap.size, 0, none⟩)]) (by simp) (by simp [go_sem]) ?_
    refine (ctry_idle _ _).mono ?_
    rintro e u' w'' ⟨rfl, rfl, rfl⟩
    have y0 := h4.cell 0
    clear x0 xf
    simp [Leaves, settle, results, Try.results32, go_sem, y0]
    exact .inl ⟨w3, rfl, hg, hu4⟩
  · dsimp only
    have h3 := hbad _ hb
    go_wp2_with fail
    refine leaves_cons (f := 63) (args := #[.pointer (some ⟨w.heap.size, 0, none⟩)]) (by simp) (by simp [go_sem]) ?_
    refine (ctry_short _ _ _ h3).mono ?_
    rintro e u' w'' ⟨rfl, rfl, h4, hu4⟩
    have y0 := h4.cell 0
    simp [Leaves, settle, results, Try.results32, go_sem, y0]
    exact .inr ⟨w3, rfl, hb, hu4⟩

def RepRd (w : World) (R : Option ((Nat × Nat × Nat × Nat) × Val × Nat)) (e : Ending) (w' : World) : Prop :=
  match R with
  | some ((c1, s1, n1, e1), v, q) => ∃ k i f s A' n' c', e = .returned (.tuple #[.agg #[.int .u32 (c1 : Int), .int .u32 (s1 : Int), .int .u16 (n1 : Int), .int .i64 (e1 : Int), .int .i64 k, .int .i64 i, .float .f64 f, .string s, .slice A' n' c'], .int .i64 (q : Int), .int .i64 0]) ∧ VOwn w' (fun g => w.heap.size ≤ g) v #[.int .i64 k, .int .i64 i, .float .f64 f, .string s, .slice A' n' c'] ∧ Below w.heap.size w w'
  | none => e = .returned (.tuple #[.agg #[.int .u32 0, .int .u32 0, .int .u16 0, .int .i64 0, .int .i64 0, .int .i64 0, .float .f64 0, .string ⟨#[]⟩, .slice none 0 0], .int .i64 0, .int .i64 20]) ∧ Below w.heap.size w w'

set_option maxHeartbeats 3200000 in
theorem call_read_reply {A : Option Addr} {c : Nat} {b : List UInt8} {w : World} (hr : Reads w w.heap.size 1 A b.length (bys b)) (hA : A = none → c = 0) (hc : b.length ≤ c) (hl : b.length ≤ 1000000000) (R : Option ((Nat × Nat × Nat × Nat) × Val × Nat)) (hR : rdRep b = R) :
    Calls Try.prog 14 #[.slice A b.length c] w (RepRd w R) := by
  have hmf : ∀ (fn : Fn) (first cap : Array Value) (w : World), (Instr.makeFunc fn first cap).run Try.prog w = .ok (.func fn first cap) w := fun _ _ _ _ => rfl
  have s1 : (w.alloc (.cells #[.int .u32 0, .int .u32 0, .int .u16 0, .int .i64 0, .int .i64 0, .int .i64 0, .float .f64 0, .string ⟨#[]⟩, .slice none 0 0] 45)).heap.size = w.heap.size + 1 := by simp
  have s2 : ((w.alloc (.cells #[.int .u32 0, .int .u32 0, .int .u16 0, .int .i64 0, .int .i64 0, .int .i64 0, .float .f64 0, .string ⟨#[]⟩, .slice none 0 0] 45)).alloc (.cells #[.slice A b.length c, .int .i64 0] 71)).heap.size = w.heap.size + 1 + 1 := by simp
  have s3 : (((w.alloc (.cells #[.int .u32 0, .int .u32 0, .int .u16 0, .int .i64 0, .int .i64 0, .int .i64 0, .float .f64 0, .string ⟨#[]⟩, .slice none 0 0] 45)).alloc (.cells #[.slice A b.length c, .int .i64 0] 71)).alloc (.cells #[.pointer (some ⟨w.heap.size + 1, 0, none⟩)] 69)).heap.size = w.heap.size + 1 + 1 + 1 := by simp
  have s4 : ((((w.alloc (.cells #[.int .u32 0, .int .u32 0, .int .u16 0, .int .i64 0, .int .i64 0, .int .i64 0, .float .f64 0, .string ⟨#[]⟩, .slice none 0 0] 45)).alloc (.cells #[.slice A b.length c, .int .i64 0] 71)).alloc (.cells #[.pointer (some ⟨w.heap.size + 1, 0, none⟩)] 69)).alloc (.cells #[.int .u32 0, .int .u32 0, .int .u16 0, .int .i64 0, .int .i64 0, .int .i64 0, .float .f64 0, .string ⟨#[]⟩, .slice none 0 0] 45)).heap.size = w.heap.size + 1 + 1 + 1 + 1 := by simp
  have b0 := (((Blk.new w 45 #[.int .u32 0, .int .u32 0, .int .u16 0, .int .i64 0, .int .i64 0, .int .i64 0, .float .f64 0, .string ⟨#[]⟩, .slice none 0 0]).alloc (.cells #[.slice A b.length c, .int .i64 0] 71)).alloc (.cells #[.pointer (some ⟨w.heap.size + 1, 0, none⟩)] 69)).alloc (.cells #[.int .u32 0, .int .u32 0, .int .u16 0, .int .i64 0, .int .i64 0, .int .i64 0, .float .f64 0, .string ⟨#[]⟩, .slice none 0 0] 45)
  have b1 := ((Blk.new (w.alloc (.cells #[.int .u32 0, .int .u32 0, .int .u16 0, .int .i64 0, .int .i64 0, .int .i64 0, .float .f64 0, .string ⟨#[]⟩, .slice none 0 0] 45)) 71 #[.slice A b.length c, .int .i64 0]).alloc (.cells #[.pointer (some ⟨w.heap.size + 1, 0, none⟩)] 69)).alloc (.cells #[.int .u32 0, .int .u32 0, .int .u16 0, .int .i64 0, .int .i64 0, .int .i64 0, .float .f64 0, .string ⟨#[]⟩, .slice none 0 0] 45)
  have b2 := (Blk.new ((w.alloc (.cells #[.int .u32 0, .int .u32 0, .int .u16 0, .int .i64 0, .int .i64 0, .int .i64 0, .float .f64 0, .string ⟨#[]⟩, .slice none 0 0] 45)).alloc (.cells #[.slice A b.length c, .int .i64 0] 71)) 69 #[.pointer (some ⟨w.heap.size + 1, 0, none⟩)]).alloc (.cells #[.int .u32 0, .int .u32 0, .int .u16 0, .int .i64 0, .int .i64 0, .int .i64 0, .float .f64 0, .string ⟨#[]⟩, .slice none 0 0] 45)
  have b3 := Blk.new (((w.alloc (.cells #[.int .u32 0, .int .u32 0, .int .u16 0, .int .i64 0, .int .i64 0, .int .i64 0, .float .f64 0, .string ⟨#[]⟩, .slice none 0 0] 45)).alloc (.cells #[.slice A b.length c, .int .i64 0] 71)).alloc (.cells #[.pointer (some ⟨w.heap.size + 1, 0, none⟩)] 69)) 45 #[.int .u32 0, .int .u32 0, .int .u16 0, .int .i64 0, .int .i64 0, .int .i64 0, .float .f64 0, .string ⟨#[]⟩, .slice none 0 0]
  rw [s1] at b1
  rw [s2] at b2
  rw [s3] at b3
  have hb4 : Below w.heap.size w ((((w.alloc (.cells #[.int .u32 0, .int .u32 0, .int .u16 0, .int .i64 0, .int .i64 0, .int .i64 0, .float .f64 0, .string ⟨#[]⟩, .slice none 0 0] 45)).alloc (.cells #[.slice A b.length c, .int .i64 0] 71)).alloc (.cells #[.pointer (some ⟨w.heap.size + 1, 0, none⟩)] 69)).alloc (.cells #[.int .u32 0, .int .u32 0, .int .u16 0, .int .i64 0, .int .i64 0, .int .i64 0, .float .f64 0, .string ⟨#[]⟩, .slice none 0 0] 45)) := ((((Below.refl w.heap.size w).alloc (Nat.le_refl _) _).alloc (by simp) _).alloc (by simp; omega) _).alloc (by simp; omega) _
  clear s1 s2 s3
  have hrx := fun (w1 : World) (hb : Below w.heap.size w w1) => hr.below hb
  replace hrx := Lib.hid hrx
  clear hr
  obtain ⟨bl, hbl⟩ : ∃ bl, b.length = bl := ⟨_, rfl⟩
  rw [hbl] at b1 hb4 s4 b0 b2 b3 ⊢
  obtain ⟨w4, hw4⟩ : ∃ w4, (((w.alloc (.cells #[.int .u32 0, .int .u32 0, .int .u16 0, .int .i64 0, .int .i64 0, .int .i64 0, .float .f64 0, .string ⟨#[]⟩, .slice none 0 0] 45)).alloc (.cells #[.slice A bl c, .int .i64 0] 71)).alloc (.cells #[.pointer (some ⟨w.heap.size + 1, 0, none⟩)] 69)).alloc (.cells #[.int .u32 0, .int .u32 0, .int .u16 0, .int .i64 0, .int .i64 0, .int .i64 0, .float .f64 0, .string ⟨#[]⟩, .slice none 0 0] 45) = w4 := ⟨_, rfl⟩
  rw [hw4] at s4 b0 b1 b2 b3 hb4
  have bt := Blk.new w4 35 #[.int .i64 0]
  rw [s4] at bt
  have hb5 := hb4.alloc hb4.size (.cells #[.int .i64 0] 35)
  have s5 : (w4.alloc (.cells #[.int .i64 0] 35)).heap.size = w.heap.size + 1 + 1 + 1 + 1 + 1 := by rw [World.size_alloc, s4]
  have hcl := rep_cl (A := A) (c := c) (B := w.heap.size) (r := w.heap.size + 1) (pb := w.heap.size + 1 + 1) (rb := w.heap.size + 1 + 1 + 1) (b := b) (w := w4.alloc (.cells #[.int .i64 0] 35)) (by rw [hbl]; exact Blk.alloc b1 _) (hrx.out _ hb5) hA (by omega) (by omega) hc hl (b2.alloc _) (b3.alloc _) R hR
  rw [hbl] at hcl
  have htry : Calls Try.prog 43 #[.pointer (some ⟨w.heap.size + 1 + 1, 0, none⟩), .pointer (some ⟨w.heap.size + 1 + 1 + 1, 0, none⟩)] (w4.alloc (.cells #[.int .i64 0] 35)) (TryPost (fun w1 => R ≠ none ∧ RClRes (w4.alloc (.cells #[.int .i64 0] 35)) (w.heap.size + 1) (w.heap.size + 1 + 1 + 1) A bl c R (.returned (.tuple #[])) w1 ∧ Upd (fun x => x = w.heap.size + 1 ∨ x = w.heap.size + 1 + 1 + 1) (w4.alloc (.cells #[.int .i64 0] 35)) w1) (fun w1 => R = none ∧ Upd (fun x => x = w.heap.size + 1 ∨ x = w.heap.size + 1 + 1 + 1) (w4.alloc (.cells #[.int .i64 0] 35)) w1)) := by
    refine hcl.mono ?_
    intro e w1 h
    cases R with
    | none => exact .inr ⟨h.1, rfl, h.2⟩
    | some x => exact .inl ⟨h.1, by simp, ⟨rfl, h.2⟩, h.2.2.2⟩
  have htr := try_rep (w := w4) (fun w1 hg => by rw [s4]; exact bt.upd hg.2.2 (fun e => by omega)) (fun w1 hg => by rw [s4]; exact bt.upd hg.2 (fun e => by omega)) htry
  rw [s4] at htr
  clear hcl htry hrx hA hc hl hR hbl
  replace htr := Lib.hid htr
  go_enter Try.func14, Try.ntmps14
  go_wp2_with fail
  refine htr.out.mono ?_
  rintro e w6 (⟨w5, rfl, ⟨hne, hcl, hu5⟩, hu6⟩ | ⟨w5, rfl, ⟨hnn, hu5⟩, hu6⟩)
  · dsimp only
    cases R with
    | none => exact absurd rfl hne
    | some x =>
    obtain ⟨⟨c1, s1, n1, e1⟩, v, q⟩ := x
    obtain ⟨-, hR5, ⟨k, i, f, s, A', n', c', ho5, row5⟩, -⟩ := hcl
    have hz6 := ((b0.alloc (.cells #[.int .i64 0] 35)).upd hu5 (fun e => by omega)).upd hu6 (fun e => by omega)
    have hp6 := ((b2.alloc (.cells #[.int .i64 0] 35)).upd hu5 (fun e => by omega)).upd hu6 (fun e => by omega)
    have ho6 := ho5.upd hu6 (fun e => by omega)
    have hR6 : CAt w6 (w.heap.size + 1) A bl c q := Blk.upd hR5 hu6 (fun e => by omega)
    have row6 := row5.upd hu6 (fun g hg e => by have h9 : (w4.alloc (.cells #[.int .i64 0] 35)).heap.size ≤ g := hg; omega)
    have hB5 := hb5.trans (hu5.below (B := w.heap.size) hb5.size (fun k hk e => by omega))
    have hB6 := hB5.trans (hu6.below (B := w.heap.size) hB5.size (fun k hk e => by omega))
    have hlo : w.heap.size < (w4.alloc (.cells #[.int .i64 0] 35)).heap.size := by omega
    have hres : ∀ w9, VOwn w9 (fun g => (w4.alloc (.cells #[.int .i64 0] 35)).heap.size ≤ g) v #[.int .i64 k, .int .i64 i, .float .f64 f, .string s, .slice A' n' c'] → Below w.heap.size w w9 → RepRd w (some ((c1, s1, n1, e1), v, q)) (.returned (.tuple #[.agg #[.int .u32 (c1 : Int), .int .u32 (s1 : Int), .int .u16 (n1 : Int), .int .i64 (e1 : Int), .int .i64 k, .int .i64 i, .float .f64 f, .string s, .slice A' n' c'], .int .i64 (q : Int), .int .i64 0])) w9 := fun w9 h1 h2 => ⟨k, i, f, s, A', n', c', rfl, h1.mono (fun g _ hg => by have h9 : (w4.alloc (.cells #[.int .i64 0] 35)).heap.size ≤ g := hg; omega), h2⟩
    replace hres := Lib.hid hres
    clear htr hu5 hu6 hB5 hb5 b0 b1 b2 b3 bt hR5 ho5 row5 hne
    have hS : w6.drew.cell? ⟨w.heap.size + 1 + 1 + 1, 0, none⟩ = some (.int .u32 (c1 : Int)) ∧ w6.drew.cell? ⟨w.heap.size + 1 + 1 + 1, 1, none⟩ = some (.int .u32 (s1 : Int)) ∧ w6.drew.cell? ⟨w.heap.size + 1 + 1 + 1, 2, none⟩ = some (.int .u16 (n1 : Int)) ∧ w6.drew.cell? ⟨w.heap.size + 1 + 1 + 1, 3, none⟩ = some (.int .i64 (e1 : Int)) ∧ w6.drew.cell? ⟨w.heap.size + 1 + 1 + 1, 4, none⟩ = some (.int .i64 k) ∧ w6.drew.cell? ⟨w.heap.size + 1 + 1 + 1, 5, none⟩ = some (.int .i64 i) ∧ w6.drew.cell? ⟨w.heap.size + 1 + 1 + 1, 6, none⟩ = some (.float .f64 f) ∧ w6.drew.cell? ⟨w.heap.size + 1 + 1 + 1, 7, none⟩ = some (.string s) ∧ w6.drew.cell? ⟨w.heap.size + 1 + 1 + 1, 8, none⟩ = some (.slice A' n' c') ∧ w6.drew.cell? ⟨w.heap.size + 1 + 1, 0, none⟩ = some (.pointer (some ⟨w.heap.size + 1, 0, none⟩)) ∧ w6.drew.cell? ⟨w.heap.size + 1, 1, none⟩ = some (.int .i64 (q : Int)) := ⟨ho6.cell 0, ho6.cell 1, ho6.cell 2, ho6.cell 3, ho6.cell 4, ho6.cell 5, ho6.cell 6, ho6.cell 7, ho6.cell 8, hp6.cell 0, Blk.cell hR6 1⟩
    go_wp2_with fail
    refine wp_region_lex (fun W => W.cell? ⟨w.heap.size + 1 + 1 + 1, 0, none⟩ = some (.int .u32 (c1 : Int)) ∧ W.cell? ⟨w.heap.size + 1 + 1 + 1, 1, none⟩ = some (.int .u32 (s1 : Int)) ∧ W.cell? ⟨w.heap.size + 1 + 1 + 1, 2, none⟩ = some (.int .u16 (n1 : Int)) ∧ W.cell? ⟨w.heap.size + 1 + 1 + 1, 3, none⟩ = some (.int .i64 (e1 : Int)) ∧ W.cell? ⟨w.heap.size + 1 + 1 + 1, 4, none⟩ = some (.int .i64 k) ∧ W.cell? ⟨w.heap.size + 1 + 1 + 1, 5, none⟩ = some (.int .i64 i) ∧ W.cell? ⟨w.heap.size + 1 + 1 + 1, 6, none⟩ = some (.float .f64 f) ∧ W.cell? ⟨w.heap.size + 1 + 1 + 1, 7, none⟩ = some (.string s) ∧ W.cell? ⟨w.heap.size + 1 + 1 + 1, 8, none⟩ = some (.slice A' n' c') ∧ W.cell? ⟨w.heap.size + 1 + 1, 0, none⟩ = some (.pointer (some ⟨w.heap.size + 1, 0, none⟩)) ∧ W.cell? ⟨w.heap.size + 1, 1, none⟩ = some (.int .i64 (q : Int))) [0, 1, 4] [5] [0, 1, 2, 3, 4, 5, 6, 7] (by kernel_rfl) rfl (by kernel_rfl) (by kernel_rfl) (fun _ _ d _ _ h => by cases d <;> exact h) ?_
    repeat (first | (refine lexG_take _ ?_ rfl rfl rfl rfl (fun _ => ?_) ?_; rotate_left; (focus (go_simp; with_reducible rfl)); try simp only [Act.put, List.setIfInBounds_toArray, List.set_cons_zero, List.set_cons_succ]) | (refine lexG_held _ ?_ rfl rfl rfl rfl (by assumption) (fun _ hSw => ?_) ?_; rotate_left; (focus ((try dsimp only at hSw); go_simp; with_reducible rfl)); try simp only [Act.put, List.setIfInBounds_toArray, List.set_cons_zero, List.set_cons_succ]) | (refine lexG_skip _ rfl rfl (by assumption) ?_; try simp only [Act.put, List.setIfInBounds_toArray, List.set_cons_zero, List.set_cons_succ]))
    refine lexG_now _ rfl rfl rfl (fun K hK => ?_)
    refine wp_store_row 45 (Operand.tmp 2) (Operand.tmp 17) rfl w.heap.size #[.int .u32 (c1 : Int), .int .u32 (s1 : Int), .int .u16 (n1 : Int), .int .i64 (e1 : Int), .int .i64 k, .int .i64 i, .float .f64 f, .string s, .slice A' n' c'] (by simp [go_sem]) (by simp [go_sem]) 45 _ hz6.drew (by kernel_rfl) rfl (by simp [Value.oneCell']) ?_
    have ho7 := ho6.drew.farRow (g := w.heap.size) (by omega) #[.int .u32 (c1 : Int), .int .u32 (s1 : Int), .int .u16 (n1 : Int), .int .i64 (e1 : Int), .int .i64 k, .int .i64 i, .float .f64 f, .string s, .slice A' n' c']
    have hp7 := hp6.drew.farRow (g := w.heap.size) (by omega) #[.int .u32 (c1 : Int), .int .u32 (s1 : Int), .int .u16 (n1 : Int), .int .i64 (e1 : Int), .int .i64 k, .int .i64 i, .float .f64 f, .string s, .slice A' n' c']
    have hR7 := (show Blk w6 (w.heap.size + 1) _ _ from hR6).drew.farRow (g := w.heap.size) (by omega) #[.int .u32 (c1 : Int), .int .u32 (s1 : Int), .int .u16 (n1 : Int), .int .i64 (e1 : Int), .int .i64 k, .int .i64 i, .float .f64 f, .string s, .slice A' n' c']
    refine hK _ _ _ (fun _ h => h) ⟨ho7.cell 0, ho7.cell 1, ho7.cell 2, ho7.cell 3, ho7.cell 4, ho7.cell 5, ho7.cell 6, ho7.cell 7, ho7.cell 8, hp7.cell 0, hR7.cell 1⟩ ?_
    have hz7 := hz6.drew.row #[.int .u32 (c1 : Int), .int .u32 (s1 : Int), .int .u16 (n1 : Int), .int .i64 (e1 : Int), .int .i64 k, .int .i64 i, .float .f64 f, .string s, .slice A' n' c']
    have hb7 := below_row (below_drewN hB6 1) (g := w.heap.size) (Nat.le_refl _) #[.int .u32 (c1 : Int), .int .u32 (s1 : Int), .int .u16 (n1 : Int), .int .i64 (e1 : Int), .int .i64 k, .int .i64 i, .float .f64 f, .string s, .slice A' n' c']
    have row7 := row6.upd (((Upd.refl (fun x => x = w.heap.size) w6).drew).setRow (g := w.heap.size) (fun _ => rfl) #[.int .u32 (c1 : Int), .int .u32 (s1 : Int), .int .u16 (n1 : Int), .int .i64 (e1 : Int), .int .i64 k, .int .i64 i, .float .f64 f, .string s, .slice A' n' c']) (fun g hg e => by have h9 : (w4.alloc (.cells #[.int .i64 0] 35)).heap.size ≤ g := hg; omega)
    clear hK K hz6 hp6 ho6 hR6 hB6 row6 hS ho7 hp7 hR7
    replace hb7 : Below w.heap.size w (w6.drew.setRow w.heap.size #[.int .u32 (c1 : Int), .int .u32 (s1 : Int), .int .u16 (n1 : Int), .int .i64 (e1 : Int), .int .i64 k, .int .i64 i, .float .f64 f, .string s, .slice A' n' c']) := hb7
    generalize w6.drew.setRow w.heap.size #[.int .u32 (c1 : Int), .int .u32 (s1 : Int), .int .u16 (n1 : Int), .int .i64 (e1 : Int), .int .i64 k, .int .i64 i, .float .f64 f, .string s, .slice A' n' c'] = w9 at *
    try simp only [Act.put, List.setIfInBounds_toArray, List.set_cons_zero, List.set_cons_succ]
    repeat (first | (refine lexG_take _ ?_ rfl rfl rfl rfl (fun _ => ?_) ?_; rotate_left; (focus (go_simp; with_reducible rfl)); try simp only [Act.put, List.setIfInBounds_toArray, List.set_cons_zero, List.set_cons_succ]) | (refine lexG_held _ ?_ rfl rfl rfl rfl (by assumption) (fun _ hSw => ?_) ?_; rotate_left; (focus ((try dsimp only at hSw); go_simp; with_reducible rfl)); try simp only [Act.put, List.setIfInBounds_toArray, List.set_cons_zero, List.set_cons_succ]) | (refine lexG_skip _ rfl rfl (by assumption) ?_; try simp only [Act.put, List.setIfInBounds_toArray, List.set_cons_zero, List.set_cons_succ]))
    refine lexG_nil ?_
    go_wp2_with fail
    refine bodyPost_ret (v := .tuple #[.agg #[.int .u32 (c1 : Int), .int .u32 (s1 : Int), .int .u16 (n1 : Int), .int .i64 (e1 : Int), .int .i64 k, .int .i64 i, .float .f64 f, .string s, .slice A' n' c'], .int .i64 (q : Int), .int .i64 0]) ?hr rfl ?_
    case hr => exact results_ctt rfl _ _ w.heap.size 45 _ (0, 0) _ _ _ rfl rfl rfl hz7 Try.underlying45 rfl (by kernel_rfl)
    exact hres.out w9 row7 hb7
  · subst hnn
    dsimp only
    have hz6 := ((b0.alloc (.cells #[.int .i64 0] 35)).upd hu5 (fun e => by omega)).upd hu6 (fun e => by omega)
    have hB5 := hb5.trans (hu5.below (B := w.heap.size) hb5.size (fun k hk e => by omega))
    have hB6 := hB5.trans (hu6.below (B := w.heap.size) hB5.size (fun k hk e => by omega))
    have hz7 := hz6.row #[.int .u32 0, .int .u32 0, .int .u16 0, .int .i64 0, .int .i64 0, .int .i64 0, .float .f64 0, .string ⟨#[]⟩, .slice none 0 0]
    have hb7 := below_row hB6 (g := w.heap.size) (Nat.le_refl _) #[.int .u32 0, .int .u32 0, .int .u16 0, .int .i64 0, .int .i64 0, .int .i64 0, .float .f64 0, .string ⟨#[]⟩, .slice none 0 0]
    clear htr hu5 hu6 hB5 hb5 b0 b1 b2 b3 bt
    go_wp2_with (refine store_row_gen rfl 45 (Operand.tmp 2) _ rfl w.heap.size #[.int .u32 0, .int .u32 0, .int .u16 0, .int .i64 0, .int .i64 0, .int .i64 0, .float .f64 0, .string ⟨#[]⟩, .slice none 0 0] (by simp [go_sem]) (by simp [go_sem]) 45 _ hz6 (by kernel_rfl) rfl (by simp [Value.oneCell']) (fun w9 hw9 => ?_); rw [← hw9] at hz7 hb7; clear hw9)
    refine bodyPost_ret (v := .tuple #[.agg #[.int .u32 0, .int .u32 0, .int .u16 0, .int .i64 0, .int .i64 0, .int .i64 0, .float .f64 0, .string ⟨#[]⟩, .slice none 0 0], .int .i64 0, .int .i64 20]) ?hr rfl ?_
    case hr => exact results_ctt rfl _ _ w.heap.size 45 _ (0, 0) _ _ _ rfl rfl rfl hz7 Try.underlying45 rfl (by kernel_rfl)
    exact ⟨rfl, hb7⟩
end Go.Proofs.Ytblakaddanoilaa
