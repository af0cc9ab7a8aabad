/- Vote: New, Count, Put. -/
import Derived.Test.YtiajbcfelhlapaaVote3
import Derived.Test.YtiajbcfelhlapaaMore
namespace Go.Proofs.Ytiajbcfelhlapaa
open Go.RowKit

theorem vset {w : World} {p : Nat} {a0 a1 a2 a3 a4 a5 a6 a7 b0 b1 b2 b3 b4 b5 b6 b7 b8 : Value} (h : Blk w p 63 #[a0, a1, a2, a3, a4, a5, a6, a7, b0, b1, b2, b3, b4, b5, b6, b7, b8]) (v0 v1 v2 v3 v4 v5 v6 v7 v8 v9 : Value) : Blk ((((((((((w.setCell ⟨p, 8, none⟩ v0).setCell ⟨p, 9, none⟩ v1).setCell ⟨p, 10, none⟩ v2).setCell ⟨p, 11, none⟩ v3).setCell ⟨p, 12, none⟩ v4).setCell ⟨p, 13, none⟩ v5).setCell ⟨p, 14, none⟩ v6).setCell ⟨p, 15, none⟩ v7).setCell ⟨p, 16, none⟩ v8).setCell ⟨p, 7, none⟩ v9) p 63 #[a0, a1, a2, a3, a4, a5, a6, v9, v0, v1, v2, v3, v4, v5, v6, v7, v8] := by
  have := (Blk.set_ (Blk.set_ (Blk.set_ (Blk.set_ (Blk.set_ (Blk.set_ (Blk.set_ (Blk.set_ (Blk.set_ (Blk.set_ h 8 v0) 9 v1) 10 v2) 11 v3) 12 v4) 13 v5) 14 v6) 15 v7) 16 v8) 7 v9)
  simpa only [List.setIfInBounds_toArray, Array.set!_eq_setIfInBounds, List.set_cons_zero, List.set_cons_succ] using this
theorem own_chain {w : World} {p : Nat} {t : TypeId} {sz m cc : Nat} {Q : Option Addr} {ys : List Value} (h : Own w t sz Q m cc ys) (hne : bOf Q ≠ some p) (v0 v1 v2 v3 v4 v5 v6 v7 v8 v9 : Value) : Own ((((((((((w.setCell ⟨p, 8, none⟩ v0).setCell ⟨p, 9, none⟩ v1).setCell ⟨p, 10, none⟩ v2).setCell ⟨p, 11, none⟩ v3).setCell ⟨p, 12, none⟩ v4).setCell ⟨p, 13, none⟩ v5).setCell ⟨p, 14, none⟩ v6).setCell ⟨p, 15, none⟩ v7).setCell ⟨p, 16, none⟩ v8).setCell ⟨p, 7, none⟩ v9) t sz Q m cc ys :=
  (Own.setCell (Own.setCell (Own.setCell (Own.setCell (Own.setCell (Own.setCell (Own.setCell (Own.setCell (Own.setCell (Own.setCell h (p := ⟨p, 8, none⟩) hne v0) (p := ⟨p, 9, none⟩) hne v1) (p := ⟨p, 10, none⟩) hne v2) (p := ⟨p, 11, none⟩) hne v3) (p := ⟨p, 12, none⟩) hne v4) (p := ⟨p, 13, none⟩) hne v5) (p := ⟨p, 14, none⟩) hne v6) (p := ⟨p, 15, none⟩) hne v7) (p := ⟨p, 16, none⟩) hne v8) (p := ⟨p, 7, none⟩) hne v9)
theorem upd_chain {w0 w : World} {p : Nat} {S : Nat → Prop} (h : Upd S w0 w) (hp : S p) (v0 v1 v2 v3 v4 v5 v6 v7 v8 v9 : Value) : Upd S w0 ((((((((((w.setCell ⟨p, 8, none⟩ v0).setCell ⟨p, 9, none⟩ v1).setCell ⟨p, 10, none⟩ v2).setCell ⟨p, 11, none⟩ v3).setCell ⟨p, 12, none⟩ v4).setCell ⟨p, 13, none⟩ v5).setCell ⟨p, 14, none⟩ v6).setCell ⟨p, 15, none⟩ v7).setCell ⟨p, 16, none⟩ v8).setCell ⟨p, 7, none⟩ v9) :=
  (Upd.setCell (Upd.setCell (Upd.setCell (Upd.setCell (Upd.setCell (Upd.setCell (Upd.setCell (Upd.setCell (Upd.setCell (Upd.setCell h (p := ⟨p, 8, none⟩) (fun _ => hp) v0) (p := ⟨p, 9, none⟩) (fun _ => hp) v1) (p := ⟨p, 10, none⟩) (fun _ => hp) v2) (p := ⟨p, 11, none⟩) (fun _ => hp) v3) (p := ⟨p, 12, none⟩) (fun _ => hp) v4) (p := ⟨p, 13, none⟩) (fun _ => hp) v5) (p := ⟨p, 14, none⟩) (fun _ => hp) v6) (p := ⟨p, 15, none⟩) (fun _ => hp) v7) (p := ⟨p, 16, none⟩) (fun _ => hp) v8) (p := ⟨p, 7, none⟩) (fun _ => hp) v9)

theorem info_int : (Try.prog.info? 3).map (fun i => (i.zero, i.size, i.bytes)) = some (some (.int .i64 0), 1, 8) := by kernel_rfl
theorem info_reply : (Try.prog.info? 32).map (fun i => (i.zero, i.size, i.bytes)) = some (some (.agg #[.int .u32 0, .int .u32 0, .int .u16 0, .int .i64 0, .int .i64 0, .int .i64 0, .float .f64 0, .string ⟨#[]⟩, .slice none 0 0]), 9, 88) := by kernel_rfl

theorem new_flat (c s n nn pol : Int) (w : World) (h1 : 1 ≤ nn) (h7 : nn ≤ 7) : Calls Try.prog 13 #[.agg #[.int .u32 c, .int .u32 s, .int .u16 n], .int .i64 nn, .int .i64 pol] w (fun e w' => ∃ p, e = .returned (.pointer (some ⟨p, 0, none⟩)) ∧ VAt w' w.heap.size p c s n nn pol [] [] none none none 0 0 [] ∧ Below w.heap.size w w' ∧ w.heap.size ≤ p) := by
  have e1 : (if nn < 1 then 1 else nn) = nn := if_neg (by omega)
  have e2 : (if 7 < nn then 7 else nn) = nn := if_neg (by omega)
  have hbl := ((Below.refl w.heap.size w).alloc (Nat.le_refl _) (.cells #[.int .u32 c, .int .u32 s, .int .u16 n] 25)).alloc (by simp) (.cells #[.int .u32 c, .int .u32 s, .int .u16 n, .int .i64 nn, .int .i64 pol, .slice none 0 0, .slice none 0 0, .bool false, .int .u32 0, .int .u32 0, .int .u16 0, .int .i64 0, .int .i64 0, .int .i64 0, .float .f64 0, .string ⟨#[]⟩, .slice none 0 0] 63)
  have hv := Blk.new (w.alloc (.cells #[.int .u32 c, .int .u32 s, .int .u16 n] 25)) 63 #[.int .u32 c, .int .u32 s, .int .u16 n, .int .i64 nn, .int .i64 pol, .slice none 0 0, .slice none 0 0, .bool false, .int .u32 0, .int .u32 0, .int .u16 0, .int .i64 0, .int .i64 0, .int .i64 0, .float .f64 0, .string ⟨#[]⟩, .slice none 0 0]
  have hsz : (w.alloc (.cells #[.int .u32 c, .int .u32 s, .int .u16 n] 25)).heap.size = w.heap.size + 1 := by simp
  rw [hsz] at hv
  have hsf := fun a k x m w => run_store_float (P := Try.prog) a k x m w
  go_enter Try.func13, Try.ntmps13
  go_wp2_with fail
  go_ret
  exact ⟨_, rfl, ⟨hv, Own.none_, Own.none_, by simp, by simp, trivial, by simp [bOf], by simp [bOf]⟩, hbl, by omega⟩

theorem count_flat {w : World} {b p : Nat} {c s n nn pol : Int} {who : List Int} {L : List FR} {D : Option FR} {Aw Al : Option Addr} {cw cl : Nat} {xs : List Value} (h : VAt w b p c s n nn pol who L D Aw Al cw cl xs) : Calls Try.prog 20 #[.pointer (some ⟨p, 0, none⟩)] w (fun e w' => e = .returned (.int .i64 (L.length : Int)) ∧ w = w') := by
  have h6 := h.blk.cell 6
  have h6' : w.cell? ⟨p, 6, none⟩ = some (.slice Al L.length cl) := h6
  clear h6 h
  go_enter Try.func20, Try.ntmps20
  go_wp2
  go_ret
  exact ⟨rfl, rfl⟩

def nextD (pol nn : Int) (D : Option FR) (L : List FR) : Option FR := if D.isSome then D else L.find? (wins (needOf pol nn) L)
def PutRes (Aw0 Al0 : Option Addr) (b p : Nat) (c s n nn pol : Int) (who : List Int) (L : List FR) (D : Option FR) (q : Bool) (w : World) (e : Ending) (w' : World) : Prop :=
  e = .returned (.bool q) ∧ (∃ Aw Al cw cl xs, VAt w' b p c s n nn pol who L D Aw Al cw cl xs) ∧ Upd (fun g => g = p ∨ some g = bOf Aw0 ∨ some g = bOf Al0) w w'

set_option maxHeartbeats 6400000 in
theorem put_ok {w : World} {b p : Nat} {c s n nn pol : Int} {who : List Int} {L : List FR} {D : Option FR} {Aw Al : Option Addr} {cw cl : Nat} {xs : List Value} (h : VAt w b p c s n nn pol who L D Aw Al cw cl xs) (at_ : Int) (x : FR) (ha0 : 0 ≤ at_) (han : at_ < nn) (hno : at_ ∉ who) (hfx : FlatC x.k x.i x.f) (hwl : who.length ≤ 100) (hLl : L.length ≤ 100) (h1 : 1 ≤ nn) (h7 : nn ≤ 7) (hb0 : b ≤ w.heap.size) :
    Calls Try.prog 14 #[.pointer (some ⟨p, 0, none⟩), .int .i64 at_, .agg #[.int .u32 c, .int .u32 s, .int .u16 n, .int .i64 x.e, .int .i64 x.k, .int .i64 x.i, .float .f64 x.f, .string ⟨#[]⟩, .slice none 0 0]] w (PutRes Aw Al b p c s n nn pol (who ++ [at_]) (L ++ [x]) (nextD pol nn D (L ++ [x])) true w) := by
  have hsf := fun a k x m w => run_store_float (P := Try.prog) a k x m w
  obtain ⟨i0, hi, hz0, hz1, hz2⟩ := info_parts info_int
  obtain ⟨i1, gi, gz0, gz1, gz2⟩ := info_parts info_reply
  have hcl := fun w2 => clone_flat x.k x.i x.f w2 hfx
  have hbx := Blk.new w 32 #[.int .u32 c, .int .u32 s, .int .u16 n, .int .i64 x.e, .int .i64 x.k, .int .i64 x.i, .float .f64 x.f, .string ⟨#[]⟩, .slice none 0 0]
  have hbl := (Below.refl w.heap.size w).alloc (Nat.le_refl _) (.cells #[.int .u32 c, .int .u32 s, .int .u16 n, .int .i64 x.e, .int .i64 x.k, .int .i64 x.i, .float .f64 x.f, .string ⟨#[]⟩, .slice none 0 0] 32)
  have h1V := h.below hbl
  have vb := h1V.blk
  have hgt : (nn ≤ at_) = False := by simp; omega
  have hS : ((w.alloc (.cells #[.int .u32 c, .int .u32 s, .int .u16 n, .int .i64 x.e, .int .i64 x.k, .int .i64 x.i, .float .f64 x.f, .string ⟨#[]⟩, .slice none 0 0] 32)).drew.cell? ⟨p, 0, none⟩ = some (.int .u32 c) ∧ (w.alloc (.cells #[.int .u32 c, .int .u32 s, .int .u16 n, .int .i64 x.e, .int .i64 x.k, .int .i64 x.i, .float .f64 x.f, .string ⟨#[]⟩, .slice none 0 0] 32)).drew.cell? ⟨p, 1, none⟩ = some (.int .u32 s) ∧ (w.alloc (.cells #[.int .u32 c, .int .u32 s, .int .u16 n, .int .i64 x.e, .int .i64 x.k, .int .i64 x.i, .float .f64 x.f, .string ⟨#[]⟩, .slice none 0 0] 32)).drew.cell? ⟨p, 2, none⟩ = some (.int .u16 n) ∧ (w.alloc (.cells #[.int .u32 c, .int .u32 s, .int .u16 n, .int .i64 x.e, .int .i64 x.k, .int .i64 x.i, .float .f64 x.f, .string ⟨#[]⟩, .slice none 0 0] 32)).drew.cell? ⟨p, 3, none⟩ = some (.int .i64 nn) ∧ (w.alloc (.cells #[.int .u32 c, .int .u32 s, .int .u16 n, .int .i64 x.e, .int .i64 x.k, .int .i64 x.i, .float .f64 x.f, .string ⟨#[]⟩, .slice none 0 0] 32)).drew.cell? ⟨p, 5, none⟩ = some (.slice Aw who.length cw)) ∧ ((w.alloc (.cells #[.int .u32 c, .int .u32 s, .int .u16 n, .int .i64 x.e, .int .i64 x.k, .int .i64 x.i, .float .f64 x.f, .string ⟨#[]⟩, .slice none 0 0] 32)).drew.cell? ⟨w.heap.size, 0, none⟩ = some (.int .u32 c) ∧ (w.alloc (.cells #[.int .u32 c, .int .u32 s, .int .u16 n, .int .i64 x.e, .int .i64 x.k, .int .i64 x.i, .float .f64 x.f, .string ⟨#[]⟩, .slice none 0 0] 32)).drew.cell? ⟨w.heap.size, 1, none⟩ = some (.int .u32 s) ∧ (w.alloc (.cells #[.int .u32 c, .int .u32 s, .int .u16 n, .int .i64 x.e, .int .i64 x.k, .int .i64 x.i, .float .f64 x.f, .string ⟨#[]⟩, .slice none 0 0] 32)).drew.cell? ⟨w.heap.size, 2, none⟩ = some (.int .u16 n) ∧ (w.alloc (.cells #[.int .u32 c, .int .u32 s, .int .u16 n, .int .i64 x.e, .int .i64 x.k, .int .i64 x.i, .float .f64 x.f, .string ⟨#[]⟩, .slice none 0 0] 32)).drew.cell? ⟨w.heap.size, 3, none⟩ = some (.int .i64 x.e) ∧ (w.alloc (.cells #[.int .u32 c, .int .u32 s, .int .u16 n, .int .i64 x.e, .int .i64 x.k, .int .i64 x.i, .float .f64 x.f, .string ⟨#[]⟩, .slice none 0 0] 32)).drew.cell? ⟨w.heap.size, 4, none⟩ = some (.int .i64 x.k) ∧ (w.alloc (.cells #[.int .u32 c, .int .u32 s, .int .u16 n, .int .i64 x.e, .int .i64 x.k, .int .i64 x.i, .float .f64 x.f, .string ⟨#[]⟩, .slice none 0 0] 32)).drew.cell? ⟨w.heap.size, 5, none⟩ = some (.int .i64 x.i) ∧ (w.alloc (.cells #[.int .u32 c, .int .u32 s, .int .u16 n, .int .i64 x.e, .int .i64 x.k, .int .i64 x.i, .float .f64 x.f, .string ⟨#[]⟩, .slice none 0 0] 32)).drew.cell? ⟨w.heap.size, 6, none⟩ = some (.float .f64 x.f) ∧ (w.alloc (.cells #[.int .u32 c, .int .u32 s, .int .u16 n, .int .i64 x.e, .int .i64 x.k, .int .i64 x.i, .float .f64 x.f, .string ⟨#[]⟩, .slice none 0 0] 32)).drew.cell? ⟨w.heap.size, 7, none⟩ = some (.string ⟨#[]⟩) ∧ (w.alloc (.cells #[.int .u32 c, .int .u32 s, .int .u16 n, .int .i64 x.e, .int .i64 x.k, .int .i64 x.i, .float .f64 x.f, .string ⟨#[]⟩, .slice none 0 0] 32)).drew.cell? ⟨w.heap.size, 8, none⟩ = some (.slice none 0 0)) ∧ Below w.heap.size w (w.alloc (.cells #[.int .u32 c, .int .u32 s, .int .u16 n, .int .i64 x.e, .int .i64 x.k, .int .i64 x.i, .float .f64 x.f, .string ⟨#[]⟩, .slice none 0 0] 32)).drew := ⟨⟨vb.cell 0, vb.cell 1, vb.cell 2, vb.cell 3, vb.cell 5⟩, ⟨hbx.cell 0, hbx.cell 1, hbx.cell 2, hbx.cell 3, hbx.cell 4, hbx.cell 5, hbx.cell 6, hbx.cell 7, hbx.cell 8⟩, hbl.drew⟩
  have hcon := fun w2 (hb : Below (w.alloc (.cells #[.int .u32 c, .int .u32 s, .int .u16 n, .int .i64 x.e, .int .i64 x.k, .int .i64 x.i, .float .f64 x.f, .string ⟨#[]⟩, .slice none 0 0] 32)).heap.size (w.alloc (.cells #[.int .u32 c, .int .u32 s, .int .u16 n, .int .i64 x.e, .int .i64 x.k, .int .i64 x.i, .float .f64 x.f, .string ⟨#[]⟩, .slice none 0 0] 32)) w2) => contains_ints (m := cw) (x := at_) (((h1V.hw.below hb (Nat.le_refl _)).reads_)) (by omega)
  rw [decide_eq_false hno] at hcon
  replace hcon := Lib.hid hcon
  have hpl : p < w.heap.size := h.blk.lt
  have hAlb : bOf Al ≠ some w.heap.size := fun e => absurd (h.hl.lt e) (Nat.lt_irrefl _)
  clear hno hgt
  have hge : decide (nn ≤ at_) = false := decide_eq_false (by omega)
  have hlt0 : decide (at_ < 0) = false := decide_eq_false (by omega)
  go_enter Try.func14, Try.ntmps14
  go_wp2_with fail
  generalize hw1 : w.alloc (.cells #[.int .u32 c, .int .u32 s, .int .u16 n, .int .i64 x.e, .int .i64 x.k, .int .i64 x.i, .float .f64 x.f, .string ⟨#[]⟩, .slice none 0 0] 32) = w1 at *
  replace hw1 := Lib.hid hw1
  refine wp_region_lex (fun W => (W.cell? ⟨p, 0, none⟩ = some (.int .u32 c) ∧ W.cell? ⟨p, 1, none⟩ = some (.int .u32 s) ∧ W.cell? ⟨p, 2, none⟩ = some (.int .u16 n) ∧ W.cell? ⟨p, 3, none⟩ = some (.int .i64 nn) ∧ W.cell? ⟨p, 5, none⟩ = some (.slice Aw who.length cw)) ∧ (W.cell? ⟨w.heap.size, 0, none⟩ = some (.int .u32 c) ∧ W.cell? ⟨w.heap.size, 1, none⟩ = some (.int .u32 s) ∧ W.cell? ⟨w.heap.size, 2, none⟩ = some (.int .u16 n) ∧ W.cell? ⟨w.heap.size, 3, none⟩ = some (.int .i64 x.e) ∧ W.cell? ⟨w.heap.size, 4, none⟩ = some (.int .i64 x.k) ∧ W.cell? ⟨w.heap.size, 5, none⟩ = some (.int .i64 x.i) ∧ W.cell? ⟨w.heap.size, 6, none⟩ = some (.float .f64 x.f) ∧ W.cell? ⟨w.heap.size, 7, none⟩ = some (.string ⟨#[]⟩) ∧ W.cell? ⟨w.heap.size, 8, none⟩ = some (.slice none 0 0)) ∧ Below w.heap.size w W) [1, 5, 16, 23] [25] [0, 1, 2, 3, 4, 5, 6, 7, 8, 9, 10, 11, 12, 13, 14, 15, 16, 17, 18, 19, 20, 21, 22, 23, 24, 25, 26] (by kernel_rfl) rfl (by kernel_rfl) (by kernel_rfl) (fun _ _ d _ _ h => by cases d <;> exact h) ?_
  repeat (first | (refine lexG_take _ ?_ rfl rfl rfl rfl (fun _ => ?_) ?_; rotate_left; (focus (go_simp; with_reducible rfl)); try simp only [Act.put, List.setIfInBounds_toArray, List.set_cons_zero, List.set_cons_succ]) | (refine lexG_held _ ?_ rfl rfl rfl rfl (by assumption) (fun _ hSw => ?_) ?_; rotate_left; (focus ((try dsimp only at hSw); go_simp; with_reducible rfl)); try simp only [Act.put, List.setIfInBounds_toArray, List.set_cons_zero, List.set_cons_succ]) | (refine lexG_skip _ rfl rfl (by assumption) ?_; try simp only [Act.put, List.setIfInBounds_toArray, List.set_cons_zero, List.set_cons_succ]))
  refine lexG_now _ rfl rfl rfl (fun K hK => ?_)
  go_wp2_with fail
  refine (hcon.out w1.drew (Below.refl _ _).drew).mono ?_
  clear hcon
  rintro e w2 ⟨rfl, hb2⟩
  dsimp only
  obtain ⟨⟨E0, E1, E2, E3, E5⟩, ⟨B0, B1, B2, B3, B4, B5, B6, B7, B8⟩, HB⟩ := hS
  have hb2' : Below w1.heap.size w1 w2 := below_of_drew hb2
  refine hK _ _ _ (fun _ h => h) ⟨⟨cell_keep hb2 E0, cell_keep hb2 E1, cell_keep hb2 E2, cell_keep hb2 E3, cell_keep hb2 E5⟩, ⟨cell_keep hb2 B0, cell_keep hb2 B1, cell_keep hb2 B2, cell_keep hb2 B3, cell_keep hb2 B4, cell_keep hb2 B5, cell_keep hb2 B6, cell_keep hb2 B7, cell_keep hb2 B8⟩, below_then hb2 HB⟩ ?_
  clear hK K
  try simp only [Act.put, List.setIfInBounds_toArray, List.set_cons_zero, List.set_cons_succ]
  repeat (first | (refine lexG_take _ ?_ rfl rfl rfl rfl (fun _ => ?_) ?_; rotate_left; (focus (go_simp; with_reducible rfl)); try simp only [Act.put, List.setIfInBounds_toArray, List.set_cons_zero, List.set_cons_succ]) | (refine lexG_held _ ?_ rfl rfl rfl rfl (by assumption) (fun _ hSw => ?_) ?_; rotate_left; (focus ((try dsimp only at hSw); go_simp; with_reducible rfl)); try simp only [Act.put, List.setIfInBounds_toArray, List.set_cons_zero, List.set_cons_succ]) | (refine lexG_skip _ rfl rfl (by assumption) ?_; try simp only [Act.put, List.setIfInBounds_toArray, List.set_cons_zero, List.set_cons_succ]))
  refine lexG_nil ?_
  have V2 := h1V.below hb2'
  have bx2 := hbx.below hb2' hbx.lt
  have p5 := V2.blk.cell 5
  have hp5 : w2.cell? ⟨p, 5, none⟩ = some (.slice Aw who.length cw) := p5
  have hB2 : Below b w w2 := ((hbl.mono hb0).trans (hb2'.mono (Nat.le_trans hb0 hbl.size)))
  have hU2 : Upd (fun g => g = p ∨ some g = bOf Aw ∨ some g = bOf Al) w w2 := Upd.of_below_size (hbl.trans (hb2'.mono hbl.size))
  have hsrcW := Reads.lit (size := 1) w2 #[.int .i64 at_] 3 (0, 0) 1 [.int .i64 at_] rfl rfl
  have hw2s : w.heap.size < w2.heap.size := bx2.lt
  clear p5 E0 E1 E2 E3 E5 B0 B1 B2 B3 B4 B5 B6 B7 B8 HB hb2 hb2' h1V vb hbx hbl h
  go_wp2_with (at_builtin; go_must (refine wpList_append_mine rfl _ _ 60 60 rfl 3 i0 (.int .i64 0) 1 8 Try.underlying60 hi hz0 hz1 hz2 rfl rfl (V2.hw.alloc _) rfl (Src.ofReads Try.underlying60 _ hsrcW (by intro u hu; simp at hu; subst hu; rfl)) ?b1 ?b2 ?grow))
  case b1 => unfold maxLen; omega
  case b2 => omega
  case grow =>
    intro A3 c3 w3 ho3 hg3 hat3
    have hnep : bOf Aw ≠ some p := V2.hw.ne_blk V2.blk (by decide)
    have hneb : bOf Aw ≠ some w.heap.size := V2.hw.ne_blk bx2 (by decide)
    have vb3 := (V2.blk.alloc (.cells #[.int .i64 at_] 3)).grown hg3 (fun e => hnep e.symm)
    have bx3 := (bx2.alloc (.cells #[.int .i64 at_] 3)).grown hg3 (fun e => hneb e.symm)
    have hl3 := (V2.hl.alloc (.cells #[.int .i64 at_] 3)).upd ((Upd.refl (fun g => some g = bOf Aw) _).grown hg3 (fun k e _ => e.symm)) (fun g hg e => V2.hl.ne_own V2.hw (by decide) g hg e.symm)
    have hB3 : Below b w w3 := ((hB2.alloc (by omega) (.cells #[.int .i64 at_] 3))).grown hg3 (by rw [World.size_alloc]; omega) (fun k e => V2.hAw k e)
    have hU3 := (hU2.alloc (.cells #[.int .i64 at_] 3)).grown hg3 (fun k e _ => .inr (.inl e.symm))
    have hA3 : ∀ g, bOf A3 = some g → b ≤ g := by
      rcases hat3 with e | e
      · rw [e]; exact V2.hAw
      · intro g hg; rw [e] at hg; simp at hg; omega
    have hw3 : (who ++ [at_]).map (Value.int .i64) = who.map (Value.int .i64) ++ [.int .i64 at_] := by simp
    have hwl3 : who.length + 1 = (who ++ [at_]).length := by simp
    rw [← hw3, hwl3] at ho3
    rw [hwl3]
    have hx3 := V2.hx
    have hD3 := V2.hD
    have hp3 := V2.hp
    have hAl3 := V2.hAl
    clear V2 bx2 hsrcW hg3 hat3 hnep hneb hB2 hp5 hw3
    have c5 := vb3.cell 5
    have f5 := vb3.frozen 5
    obtain ⟨who', hwho⟩ : ∃ who', who ++ [at_] = who' := ⟨_, rfl⟩
    rw [hwho] at ho3 ⊢
    replace hwho := Lib.hid hwho
    replace hwl3 := Lib.hid hwl3
    have vb4 := vb3.set_ 5 (.slice A3 who'.length c3)
    have hnb : p ≠ w.heap.size := by omega
    have bx4 := bx3.far (p := ⟨p, 5, none⟩) (by show w.heap.size ≠ p; omega) (.slice A3 who'.length c3)
    have hl4 := hl3.setCell (p := ⟨p, 5, none⟩) (hl3.ne_blk vb3 (by decide)) (.slice A3 who'.length c3)
    have ho4 := ho3.setCell (p := ⟨p, 5, none⟩) (ho3.ne_blk vb3 (by decide)) (.slice A3 who'.length c3)
    have hU4 := hU3.setCell (p := ⟨p, 5, none⟩) (fun _ => .inl rfl) (.slice A3 who'.length c3)
    go_wp2_with fail
    generalize w3.setCell ⟨p, 5, none⟩ (.slice A3 who'.length c3) = w4 at *
    clear c5 f5 vb3 bx3 hl3 ho3 hB3
    have hS : (w4.drew.cell? ⟨p, 6, none⟩ = some (.slice Al L.length cl)) ∧ (w4.drew.cell? ⟨w.heap.size, 0, none⟩ = some (.int .u32 c) ∧ w4.drew.cell? ⟨w.heap.size, 1, none⟩ = some (.int .u32 s) ∧ w4.drew.cell? ⟨w.heap.size, 2, none⟩ = some (.int .u16 n) ∧ w4.drew.cell? ⟨w.heap.size, 3, none⟩ = some (.int .i64 x.e) ∧ w4.drew.cell? ⟨w.heap.size, 4, none⟩ = some (.int .i64 x.k) ∧ w4.drew.cell? ⟨w.heap.size, 5, none⟩ = some (.int .i64 x.i) ∧ w4.drew.cell? ⟨w.heap.size, 6, none⟩ = some (.float .f64 x.f) ∧ w4.drew.cell? ⟨w.heap.size, 7, none⟩ = some (.string ⟨#[]⟩) ∧ w4.drew.cell? ⟨w.heap.size, 8, none⟩ = some (.slice none 0 0)) := ⟨vb4.cell 6, bx4.cell 0, bx4.cell 1, bx4.cell 2, bx4.cell 3, bx4.cell 4, bx4.cell 5, bx4.cell 6, bx4.cell 7, bx4.cell 8⟩
    refine wp_region_lex (fun W => (W.cell? ⟨p, 6, none⟩ = some (.slice Al L.length cl)) ∧ (W.cell? ⟨w.heap.size, 0, none⟩ = some (.int .u32 c) ∧ W.cell? ⟨w.heap.size, 1, none⟩ = some (.int .u32 s) ∧ W.cell? ⟨w.heap.size, 2, none⟩ = some (.int .u16 n) ∧ W.cell? ⟨w.heap.size, 3, none⟩ = some (.int .i64 x.e) ∧ W.cell? ⟨w.heap.size, 4, none⟩ = some (.int .i64 x.k) ∧ W.cell? ⟨w.heap.size, 5, none⟩ = some (.int .i64 x.i) ∧ W.cell? ⟨w.heap.size, 6, none⟩ = some (.float .f64 x.f) ∧ W.cell? ⟨w.heap.size, 7, none⟩ = some (.string ⟨#[]⟩) ∧ W.cell? ⟨w.heap.size, 8, none⟩ = some (.slice none 0 0))) [4, 6, 8, 10] [11, 13, 14, 17] [0, 1, 2, 3, 4, 5, 6, 7, 8, 9, 10, 11, 12, 13, 14, 15, 16, 17] (by kernel_rfl) rfl (by kernel_rfl) (by kernel_rfl) (fun _ _ d _ _ h => by cases d <;> exact h) ?_
    repeat (first | (refine lexG_take _ ?_ rfl rfl rfl rfl (fun _ => ?_) ?_; rotate_left; (focus (go_simp; with_reducible rfl)); try simp only [Act.put, List.setIfInBounds_toArray, List.set_cons_zero, List.set_cons_succ]) | (refine lexG_held _ ?_ rfl rfl rfl rfl (by assumption) (fun _ hSw => ?_) ?_; rotate_left; (focus ((try dsimp only at hSw); go_simp; with_reducible rfl)); try simp only [Act.put, List.setIfInBounds_toArray, List.set_cons_zero, List.set_cons_succ]) | (refine lexG_skip _ rfl rfl (by assumption) ?_; try simp only [Act.put, List.setIfInBounds_toArray, List.set_cons_zero, List.set_cons_succ]))
    refine lexG_now _ rfl rfl rfl (fun K hK => ?_)
    go_wp2_with fail
    refine (hcl _).mono ?_
    rintro e w5 ⟨rfl, hb5⟩
    dsimp only
    have hb5' : Below w4.heap.size w4 w5 := below_of_drew hb5
    have vb5 := vb4.below hb5' vb4.lt
    have bx5 := bx4.below hb5' bx4.lt
    have hl5 := hl4.below hb5' (Nat.le_refl _)
    have ho5 := ho4.below hb5' (Nat.le_refl _)
    have hU5 := hU4.thenBelow hb5' hU4.size
    refine hK _ _ _ (fun _ h => h) ⟨vb5.cell 6, bx5.cell 0, bx5.cell 1, bx5.cell 2, bx5.cell 3, bx5.cell 4, bx5.cell 5, bx5.cell 6, bx5.cell 7, bx5.cell 8⟩ ?_
    clear hK K hS vb4 bx4 hl4 ho4 hb5
    try simp only [Act.put, List.setIfInBounds_toArray, List.set_cons_zero, List.set_cons_succ]
    repeat (first | (refine lexG_take _ ?_ rfl rfl rfl rfl (fun _ => ?_) ?_; rotate_left; (focus (go_simp; with_reducible rfl)); try simp only [Act.put, List.setIfInBounds_toArray, List.set_cons_zero, List.set_cons_succ]) | (refine lexG_held _ ?_ rfl rfl rfl rfl (by assumption) (fun _ hSw => ?_) ?_; rotate_left; (focus ((try dsimp only at hSw); go_simp; with_reducible rfl)); try simp only [Act.put, List.setIfInBounds_toArray, List.set_cons_zero, List.set_cons_succ]) | (refine lexG_skip _ rfl rfl (by assumption) ?_; try simp only [Act.put, List.setIfInBounds_toArray, List.set_cons_zero, List.set_cons_succ]))
    have vb6 := vb5.alloc (.cells #[.int .u32 c, .int .u32 s, .int .u16 n, .int .i64 x.e, .int .i64 x.k, .int .i64 x.i, .float .f64 x.f, .string ⟨#[]⟩, .slice none 0 0] 32)
    have bx6 := bx5.alloc (.cells #[.int .u32 c, .int .u32 s, .int .u16 n, .int .i64 x.e, .int .i64 x.k, .int .i64 x.i, .float .f64 x.f, .string ⟨#[]⟩, .slice none 0 0] 32)
    have hl6 := hl5.alloc (.cells #[.int .u32 c, .int .u32 s, .int .u16 n, .int .i64 x.e, .int .i64 x.k, .int .i64 x.i, .float .f64 x.f, .string ⟨#[]⟩, .slice none 0 0] 32)
    have ho6 := ho5.alloc (.cells #[.int .u32 c, .int .u32 s, .int .u16 n, .int .i64 x.e, .int .i64 x.k, .int .i64 x.i, .float .f64 x.f, .string ⟨#[]⟩, .slice none 0 0] 32)
    have hsrcL := Reads.lit (size := 9) w5 #[.int .u32 c, .int .u32 s, .int .u16 n, .int .i64 x.e, .int .i64 x.k, .int .i64 x.i, .float .f64 x.f, .string ⟨#[]⟩, .slice none 0 0] 32 (0, 0) 1 [.int .u32 c, .int .u32 s, .int .u16 n, .int .i64 x.e, .int .i64 x.k, .int .i64 x.i, .float .f64 x.f, .string ⟨#[]⟩, .slice none 0 0] rfl rfl
    have hU6 := hU5.alloc (.cells #[.int .u32 c, .int .u32 s, .int .u16 n, .int .i64 x.e, .int .i64 x.k, .int .i64 x.i, .float .f64 x.f, .string ⟨#[]⟩, .slice none 0 0] 32)
    refine lexG_now _ rfl rfl rfl (fun K hK => ?_)
    go_wp2_with fail
    refine hK _ _ _ (fun _ h => h) ⟨vb6.cell 6, bx6.cell 0, bx6.cell 1, bx6.cell 2, bx6.cell 3, bx6.cell 4, bx6.cell 5, bx6.cell 6, bx6.cell 7, bx6.cell 8⟩ ?_
    clear hK K
    try simp only [Act.put, List.setIfInBounds_toArray, List.set_cons_zero, List.set_cons_succ]
    repeat (first | (refine lexG_take _ ?_ rfl rfl rfl rfl (fun _ => ?_) ?_; rotate_left; (focus (go_simp; with_reducible rfl)); try simp only [Act.put, List.setIfInBounds_toArray, List.set_cons_zero, List.set_cons_succ]) | (refine lexG_held _ ?_ rfl rfl rfl rfl (by assumption) (fun _ hSw => ?_) ?_; rotate_left; (focus ((try dsimp only at hSw); go_simp; with_reducible rfl)); try simp only [Act.put, List.setIfInBounds_toArray, List.set_cons_zero, List.set_cons_succ]) | (refine lexG_skip _ rfl rfl (by assumption) ?_; try simp only [Act.put, List.setIfInBounds_toArray, List.set_cons_zero, List.set_cons_succ]))
    refine lexG_now _ rfl rfl rfl (fun K hK => ?_)
    refine wp_append_mine _ _ 61 61 rfl 32 i1 _ 9 88 Try.underlying61 gi gz0 gz1 gz2 rfl rfl hl6 rfl (Src.ofReads Try.underlying61 _ hsrcL (by intro u hu; simp at hu; rcases hu with rfl | rfl | rfl | rfl | rfl | rfl | rfl | rfl | rfl <;> rfl)) (by unfold maxLen; omega) (by omega) (fun A8 c8 w8 ho8 hg8 hat8 => ?_)
    have hnep : bOf Al ≠ some p := hl6.ne_blk vb6 (by decide)
    have hneb := hAlb
    have vb8 := vb6.grown hg8 (fun e => hnep e.symm)
    have bx8 := bx6.grown hg8 (fun e => hneb e.symm)
    have hl8 := ho8
    have ho8' := ho6.upd ((Upd.refl (fun g => some g = bOf Al) _).grown hg8 (fun k e _ => e.symm)) (fun g hg e => ho6.ne_own hl6 (by decide) g hg e.symm)
    have hU8 := hU6.grown hg8 (fun k e _ => .inr (.inr e.symm))
    have hA8 : ∀ g, bOf A8 = some g → b ≤ g := by
      rcases hat8 with e | e
      · rw [e]; exact hAl3
      · intro g hg; rw [e] at hg; cases hg; exact Nat.le_trans hb0 hU6.size
    refine hK _ _ _ (fun _ h => h) ⟨vb8.cell 6, bx8.cell 0, bx8.cell 1, bx8.cell 2, bx8.cell 3, bx8.cell 4, bx8.cell 5, bx8.cell 6, bx8.cell 7, bx8.cell 8⟩ ?_
    clear hK K
    try simp only [Act.put, List.setIfInBounds_toArray, List.set_cons_zero, List.set_cons_succ]
    repeat (first | (refine lexG_take _ ?_ rfl rfl rfl rfl (fun _ => ?_) ?_; rotate_left; (focus (go_simp; with_reducible rfl)); try simp only [Act.put, List.setIfInBounds_toArray, List.set_cons_zero, List.set_cons_succ]) | (refine lexG_held _ ?_ rfl rfl rfl rfl (by assumption) (fun _ hSw => ?_) ?_; rotate_left; (focus ((try dsimp only at hSw); go_simp; with_reducible rfl)); try simp only [Act.put, List.setIfInBounds_toArray, List.set_cons_zero, List.set_cons_succ]) | (refine lexG_skip _ rfl rfl (by assumption) ?_; try simp only [Act.put, List.setIfInBounds_toArray, List.set_cons_zero, List.set_cons_succ]))
    refine lexG_nowF _ rfl rfl rfl (by kernel_rfl) (fun K hK => ?_)
    have c86 := vb8.cell 6
    have f86 := vb8.frozen 6
    go_simp
    refine hK _ _ ?_
    clear hK K
    refine lexG_nil ?_
    have hLl2 : L.length + 1 = (L ++ [x]).length := by simp
    have hxl : xs.length = L.length * 9 := hl8.1 |> fun h => by simp only [List.length_append, List.length_cons, List.length_nil] at h; omega
    have hx9 : ∀ (j : Nat) (y : FR), (L ++ [x])[j]? = some y → ((xs ++ ([.int .u32 c, .int .u32 s, .int .u16 n, .int .i64 x.e, .int .i64 x.k, .int .i64 x.i, .float .f64 x.f, .string ⟨#[]⟩, .slice none 0 0] : List Value)).drop (j * 9)).take 9 = [.int .u32 c, .int .u32 s, .int .u16 n, .int .i64 y.e, .int .i64 y.k, .int .i64 y.i, .float .f64 y.f, .string ⟨#[]⟩, .slice none 0 0] ∧ FlatC y.k y.i y.f := by
      intro j y hy
      by_cases hj : j < L.length
      · rw [List.getElem?_append_left hj] at hy
        rw [List.drop_append_of_le_length (by omega), List.take_append_of_le_length (by rw [List.length_drop]; omega)]
        exact hx3 j y hy
      · rw [List.getElem?_append_right (by omega)] at hy
        have hj0 : j = L.length := by
          have := (List.getElem?_eq_some_iff.1 hy).1
          simp at this; omega
        subst hj0
        simp at hy
        subst hy
        rw [← hxl, List.drop_left]
        exact ⟨rfl, hfx⟩
    rw [hLl2] at hl8
    rw [hLl2]
    obtain ⟨L', hLL⟩ : ∃ L', L ++ [x] = L' := ⟨_, rfl⟩
    have hL'l : L'.length ≤ 101 := by rw [← hLL]; simp; omega
    rw [hLL] at hl8 hx9 ⊢
    replace hLL := Lib.hid hLL
    replace hLl2 := Lib.hid hLl2
    obtain ⟨xs', hxs'⟩ : ∃ xs', xs ++ ([.int .u32 c, .int .u32 s, .int .u16 n, .int .i64 x.e, .int .i64 x.k, .int .i64 x.i, .float .f64 x.f, .string ⟨#[]⟩, .slice none 0 0] : List Value) = xs' := ⟨_, rfl⟩
    have hl8' : Own w8 32 9 A8 L'.length c8 xs' := by rw [← hxs']; exact hl8
    rw [hxs'] at hx9
    have vb9 := vb8.set_ 6 (.slice A8 L'.length c8)
    have ho9 := ho8'.setCell (p := ⟨p, 6, none⟩) (ho8'.ne_blk vb8 (by decide)) (.slice A8 L'.length c8)
    have hl9 := hl8'.setCell (p := ⟨p, 6, none⟩) (hl8'.ne_blk vb8 (by decide)) (.slice A8 L'.length c8)
    have hU9 := hU8.setCell (p := ⟨p, 6, none⟩) (fun _ => .inl rfl) (.slice A8 L'.length c8)
    clear hl8 hl8' ho8 ho8' vb8 bx8 c86 f86 hg8 hat8 hsrcL vb6 bx6 hl6 ho6 vb5 bx5 hl5 ho5 hb5' hnep hneb hx3 hAl3 hxl hAlb hxs'
    generalize w8.setCell ⟨p, 6, none⟩ (.slice A8 L'.length c8) = w9 at *
    cases D with
    | some y =>
      have vb9' : Blk w9 p 63 #[.int .u32 c, .int .u32 s, .int .u16 n, .int .i64 nn, .int .i64 pol, .slice A3 who'.length c3, .slice A8 L'.length c8, .bool true, resD c s n (some y) 0, resD c s n (some y) 1, resD c s n (some y) 2, resD c s n (some y) 3, resD c s n (some y) 4, resD c s n (some y) 5, resD c s n (some y) 6, resD c s n (some y) 7, resD c s n (some y) 8] := vb9
      have c7 : w9.cell? ⟨p, 7, none⟩ = some (.bool true) := vb9'.cell 7
      clear vb9
      go_wp2_with fail
      go_ret
      rw [hwho.out, hLL.out, show nextD pol nn (some y) L' = some y from rfl]
      exact ⟨rfl, ⟨A3, A8, c3, c8, xs', ⟨vb9', ho9, hl9, hx9, hD3, hp3, hA3, hA8⟩⟩, hU9⟩
    | none =>
      have vb9' : Blk w9 p 63 #[.int .u32 c, .int .u32 s, .int .u16 n, .int .i64 nn, .int .i64 pol, .slice A3 who'.length c3, .slice A8 L'.length c8, .bool false, Value.int .u32 0, Value.int .u32 0, Value.int .u16 0, Value.int .i64 0, Value.int .i64 0, Value.int .i64 0, Value.float .f64 0, Value.string ⟨#[]⟩, Value.slice none 0 0] := vb9
      have c7 : w9.cell? ⟨p, 7, none⟩ = some (.bool false) := vb9'.cell 7
      have q3 : w9.cell? ⟨p, 3, none⟩ = some (.int .i64 nn) := vb9'.cell 3
      have q4 : w9.cell? ⟨p, 4, none⟩ = some (.int .i64 pol) := vb9'.cell 4
      have q6 : w9.cell? ⟨p, 6, none⟩ = some (.slice A8 L'.length c8) := vb9'.cell 6
      have hdec := decide_flat p w9.heap.size c s n nn pol L' A8 c8 xs' w9 q3 q4 q6 ⟨hl9.reads_, hx9⟩ (Nat.le_refl _) (by omega) h1 h7
      have hnD : nextD pol nn none L' = L'.find? (wins (needOf pol nn) L') := rfl
      obtain ⟨DD, hDD⟩ : ∃ DD, L'.find? (wins (needOf pol nn) L') = DD := ⟨_, rfl⟩
      rw [hDD] at hdec hnD
      have hnD2 := hnD
      clear hDD hnD
      replace hnD2 := Lib.hid hnD2
      clear vb9 q3 q4 q6
      go_wp2_with fail
      refine hdec.mono ?_
      clear hdec
      have hBs := hU9.size
      cases DD with
      | none =>
        rintro e w10 ⟨rfl, hb10⟩
        dsimp only
        have vb10 := vb9'.below hb10 vb9'.lt
        have ho10 := ho9.below hb10 (Nat.le_refl _)
        have hl10 := hl9.below hb10 (Nat.le_refl _)
        have hB10 := hU9.thenBelow hb10 hU9.size
        clear hb10 vb9' ho9 hl9 c7
        have g8 := vb10.cell 8
        have g9 := vb10.cell 9
        have g10 := vb10.cell 10
        have g11 := vb10.cell 11
        have g12 := vb10.cell 12
        have g13 := vb10.cell 13
        have g14 := vb10.cell 14
        have g15 := vb10.cell 15
        have g16 := vb10.cell 16
        have g7 := vb10.cell 7
        have fz := vb10.frozen
        go_wp2_with fail
        have vbf := vset vb10 (Value.int .u32 0) (Value.int .u32 0) (Value.int .u16 0) (Value.int .i64 0) (Value.int .i64 0) (Value.int .i64 0) (Value.float .f64 0) (Value.string ⟨#[]⟩) (Value.slice none 0 0) (.bool false)
        have hof := own_chain ho10 (Own.ne_blk ho10 vb10 (by decide)) (Value.int .u32 0) (Value.int .u32 0) (Value.int .u16 0) (Value.int .i64 0) (Value.int .i64 0) (Value.int .i64 0) (Value.float .f64 0) (Value.string ⟨#[]⟩) (Value.slice none 0 0) (.bool false)
        have hlf := own_chain hl10 (Own.ne_blk hl10 vb10 (by decide)) (Value.int .u32 0) (Value.int .u32 0) (Value.int .u16 0) (Value.int .i64 0) (Value.int .i64 0) (Value.int .i64 0) (Value.float .f64 0) (Value.string ⟨#[]⟩) (Value.slice none 0 0) (.bool false)
        have hBf := upd_chain hB10 (.inl rfl) (Value.int .u32 0) (Value.int .u32 0) (Value.int .u16 0) (Value.int .i64 0) (Value.int .i64 0) (Value.int .i64 0) (Value.float .f64 0) (Value.string ⟨#[]⟩) (Value.slice none 0 0) (.bool false)
        clear vb10 ho10 hl10 hB10 g7 g8 g9 g10 g11 g12 g13 g14 g15 g16 fz
        go_ret
        rw [hwho.out, hLL.out, hnD2.out]
        exact ⟨rfl, ⟨A3, A8, c3, c8, xs', ⟨vbf, hof, hlf, hx9, (fun x h => by cases h), hp3, hA3, hA8⟩⟩, hBf⟩
      | some y =>
        rintro e w10 ⟨⟨rfl, hfy⟩, hb10⟩
        dsimp only
        have vb10 := vb9'.below hb10 vb9'.lt
        have ho10 := ho9.below hb10 (Nat.le_refl _)
        have hl10 := hl9.below hb10 (Nat.le_refl _)
        have hB10 := hU9.thenBelow hb10 hU9.size
        clear hb10 vb9' ho9 hl9 c7
        have g8 := vb10.cell 8
        have g9 := vb10.cell 9
        have g10 := vb10.cell 10
        have g11 := vb10.cell 11
        have g12 := vb10.cell 12
        have g13 := vb10.cell 13
        have g14 := vb10.cell 14
        have g15 := vb10.cell 15
        have g16 := vb10.cell 16
        have g7 := vb10.cell 7
        have fz := vb10.frozen
        go_wp2_with fail
        have vbf := vset vb10 (Value.int .u32 c) (Value.int .u32 s) (Value.int .u16 n) (Value.int .i64 y.e) (Value.int .i64 y.k) (Value.int .i64 y.i) (Value.float .f64 y.f) (Value.string ⟨#[]⟩) (Value.slice none 0 0) (.bool true)
        have hof := own_chain ho10 (Own.ne_blk ho10 vb10 (by decide)) (Value.int .u32 c) (Value.int .u32 s) (Value.int .u16 n) (Value.int .i64 y.e) (Value.int .i64 y.k) (Value.int .i64 y.i) (Value.float .f64 y.f) (Value.string ⟨#[]⟩) (Value.slice none 0 0) (.bool true)
        have hlf := own_chain hl10 (Own.ne_blk hl10 vb10 (by decide)) (Value.int .u32 c) (Value.int .u32 s) (Value.int .u16 n) (Value.int .i64 y.e) (Value.int .i64 y.k) (Value.int .i64 y.i) (Value.float .f64 y.f) (Value.string ⟨#[]⟩) (Value.slice none 0 0) (.bool true)
        have hBf := upd_chain hB10 (.inl rfl) (Value.int .u32 c) (Value.int .u32 s) (Value.int .u16 n) (Value.int .i64 y.e) (Value.int .i64 y.k) (Value.int .i64 y.i) (Value.float .f64 y.f) (Value.string ⟨#[]⟩) (Value.slice none 0 0) (.bool true)
        clear vb10 ho10 hl10 hB10 g7 g8 g9 g10 g11 g12 g13 g14 g15 g16 fz
        go_ret
        rw [hwho.out, hLL.out, hnD2.out]
        exact ⟨rfl, ⟨A3, A8, c3, c8, xs', ⟨vbf, hof, hlf, hx9, (fun z h => by cases h; exact hfy), hp3, hA3, hA8⟩⟩, hBf⟩
end Go.Proofs.Ytiajbcfelhlapaa
