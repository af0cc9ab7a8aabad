/- An id's bytes, put; by the program and by the document. -/
import Derived.Test.YtlkokkbikkbaoaaOpB
set_option linter.unusedSimpArgs false
set_option linter.unusedVariables false
set_option linter.unusedSimpArgs false
set_option linter.unusedVariables false
namespace Go.Proofs.Ytlkokkbikkbaoaa
open Go.RowKit
set_option maxRecDepth 100000

/-- An id's bytes. -/
def idB (c s n : Nat) : List UInt8 := putU c 4 ++ putU s 4 ++ putU n 2
theorem idB_len (c s n : Nat) : (idB c s n).length = 10 := by simp [idB, putU_len]
theorem idB_cons (bs : List UInt8) (c s n : Nat) : bs ++ putU c 4 ++ putU s 4 ++ putU n 2 = bs ++ idB c s n := by simp [idB]

theorem wrap_w32 (n : Nat) (h : n < 4294967296) : IntKind.u64.wrap (n : Int) = (n : Int) := by
  simp [IntKind.wrap, IntKind.bits, IntKind.signed]
  omega

theorem lt64 {n : Nat} (h : n < 4294967296) : n < 18446744073709551616 := by omega
theorem lt64' {n : Nat} (h : n < 65536) : n < 18446744073709551616 := by omega

theorem put_id {A : Option Addr} {cc B : Nat} {bs : List UInt8} {c s n : Nat} {w : World} (hr : Reads w B 1 A bs.length (bys bs)) (hB : B ≤ w.heap.size) (hl : bs.length ≤ 1000000000) (hc : c < 4294967296) (hs : s < 4294967296) (hn : n < 65536) :
    Calls Try.prog 42 #[.slice A bs.length cc, .agg #[.int .u32 (c : Int), .int .u32 (s : Int), .int .u16 (n : Int)]] w (NewBytes w (bs ++ idB c s n)) := by
  have b1 := Blk.new w 35 #[.int .u32 (c : Int), .int .u32 (s : Int), .int .u16 (n : Int)]
  have hbl := (Below.refl w.heap.size w).alloc (Nat.le_refl _) (.cells #[.int .u32 (c : Int), .int .u32 (s : Int), .int .u16 (n : Int)] 35)
  obtain ⟨b, hb0⟩ : ∃ b, w.heap.size = b := ⟨_, rfl⟩
  have n4 : n8 4 = 4 := by decide
  obtain ⟨q1, hq1⟩ : ∃ q, bs ++ putU c 4 = q := ⟨_, rfl⟩
  obtain ⟨q2, hq2⟩ : ∃ q, q1 ++ putU s 4 = q := ⟨_, rfl⟩
  obtain ⟨q3, hq3⟩ : ∃ q, q2 ++ putU n 2 = q := ⟨_, rfl⟩
  have hl1 : q1.length = bs.length + 4 := by rw [← hq1, List.length_append, putU_len]
  have hl2 : q2.length = bs.length + 8 := by rw [← hq2, List.length_append, putU_len, hl1]
  have hq : bs ++ idB c s n = q3 := by rw [← idB_cons, hq1, hq2, hq3]
  rw [hq]
  clear hq
  replace hq1 := Lib.hid hq1
  replace hq2 := Lib.hid hq2
  replace hq3 := Lib.hid hq3
  replace hl1 := Lib.hid hl1
  replace hl2 := Lib.hid hl2
  have hwc := wrap_w32 c hc
  have hws_ := wrap_w32 s hs
  have hwn := wrap_w32 n (by omega)
  replace hc := Lib.hid hc
  replace hs := Lib.hid hs
  replace hn := Lib.hid hn
  have n2 : n8 2 = 2 := by decide
  have hws : (w.alloc (.cells #[.int .u32 (c : Int), .int .u32 (s : Int), .int .u16 (n : Int)] 35)).heap.size = w.heap.size + 1 := by simp
  go_enter Try.func42, Try.ntmps42
  go_wp2_with fail
  generalize w.alloc (.cells #[.int .u32 (c : Int), .int .u32 (s : Int), .int .u16 (n : Int)] 35) = w1 at *
  rw [hb0] at b1
  have hS : w1.drew.cell? ⟨b, 0, none⟩ = some (.int .u32 (c : Int)) ∧ w1.drew.cell? ⟨b, 1, none⟩ = some (.int .u32 (s : Int)) ∧ w1.drew.cell? ⟨b, 2, none⟩ = some (.int .u16 (n : Int)) := b1.id3
  replace hb0 := Lib.hid hb0
  refine wp_region_lex (fun W => W.cell? ⟨b, 0, none⟩ = some (.int .u32 (c : Int)) ∧ W.cell? ⟨b, 1, none⟩ = some (.int .u32 (s : Int)) ∧ W.cell? ⟨b, 2, none⟩ = some (.int .u16 (n : Int))) [2, 6, 10] [4, 8, 12] [0, 1, 2, 3, 5, 6, 7, 9, 10, 11, 4, 8, 12, 13] (by kernel_rfl) rfl (by kernel_rfl) (by kernel_rfl) (fun _ _ d _ _ h => by cases d <;> exact h) ?_
  repeat (first | (refine lexG_take _ ?_ rfl rfl rfl rfl (fun _ => ?_) ?_; rotate_left; (focus (go_simp; with_reducible rfl)); try simp only [Act.put, List.setIfInBounds_toArray, List.set_cons_zero, List.set_cons_succ]) | (refine lexG_held _ ?_ rfl rfl rfl rfl (by assumption) (fun _ hSw => ?_) ?_; rotate_left; (focus ((try dsimp only at hSw); go_simp; with_reducible rfl)); try simp only [Act.put, List.setIfInBounds_toArray, List.set_cons_zero, List.set_cons_succ]) | (refine lexG_skip _ rfl rfl (by assumption) ?_; try simp only [Act.put, List.setIfInBounds_toArray, List.set_cons_zero, List.set_cons_succ]))
  clear hwc hws_ hwn
  refine lexG_now _ rfl rfl rfl (fun K hK => ?_)
  go_wp2_with fail
  refine (wire_put (m := 4) ((hr.below (hbl.mono hB)).drew) (Nat.le_trans hB hbl.size) (by omega) (lt64 hc.out)).mono ?_
  rintro e w2 ⟨A2, c2, rfl, ho2, hb2, hf2⟩
  rw [n4, hq1.out] at ho2 ⊢
  dsimp only
  have hb2' : Below w1.heap.size w1 w2 := below_of_drew hb2
  have b2 := b1.below hb2' b1.lt
  have hB2 := below_then hb2' hbl
  refine hK _ _ _ (fun _ h => h) b2.id3 ?_
  clear hK K hS
  try simp only [Act.put, List.setIfInBounds_toArray, List.set_cons_zero, List.set_cons_succ]
  repeat (first | (refine lexG_take _ ?_ rfl rfl rfl rfl (fun _ => ?_) ?_; rotate_left; (focus (go_simp; with_reducible rfl)); try simp only [Act.put, List.setIfInBounds_toArray, List.set_cons_zero, List.set_cons_succ]) | (refine lexG_held _ ?_ rfl rfl rfl rfl (by assumption) (fun _ hSw => ?_) ?_; rotate_left; (focus ((try dsimp only at hSw); go_simp; with_reducible rfl)); try simp only [Act.put, List.setIfInBounds_toArray, List.set_cons_zero, List.set_cons_succ]) | (refine lexG_skip _ rfl rfl (by assumption) ?_; try simp only [Act.put, List.setIfInBounds_toArray, List.set_cons_zero, List.set_cons_succ]))
  refine lexG_now _ rfl rfl rfl (fun K hK => ?_)
  go_wp2_with fail
  refine (wire_put (m := 4) ho2.reads_ (Nat.le_refl _) (by rw [hl1.out]; omega) (lt64 hs.out)).mono ?_
  rintro e w3 ⟨A3, c3, rfl, ho3, hb3, hf3⟩
  rw [n4, hq2.out] at ho3 ⊢
  dsimp only
  have b3 := b2.below hb3 b2.lt
  have hB3 := below_then hb3 hB2
  refine hK _ _ _ (fun _ h => h) b3.id3 ?_
  clear hK K ho2 b2
  try simp only [Act.put, List.setIfInBounds_toArray, List.set_cons_zero, List.set_cons_succ]
  repeat (first | (refine lexG_take _ ?_ rfl rfl rfl rfl (fun _ => ?_) ?_; rotate_left; (focus (go_simp; with_reducible rfl)); try simp only [Act.put, List.setIfInBounds_toArray, List.set_cons_zero, List.set_cons_succ]) | (refine lexG_held _ ?_ rfl rfl rfl rfl (by assumption) (fun _ hSw => ?_) ?_; rotate_left; (focus ((try dsimp only at hSw); go_simp; with_reducible rfl)); try simp only [Act.put, List.setIfInBounds_toArray, List.set_cons_zero, List.set_cons_succ]) | (refine lexG_skip _ rfl rfl (by assumption) ?_; try simp only [Act.put, List.setIfInBounds_toArray, List.set_cons_zero, List.set_cons_succ]))
  refine lexG_now _ rfl rfl rfl (fun K hK => ?_)
  go_wp2_with fail
  refine (wire_put (m := 2) ho3.reads_ (Nat.le_refl _) (by rw [hl2.out]; omega) (lt64' hn.out)).mono ?_
  rintro e w4 ⟨A4, c4, rfl, ho4, hb4, hf4⟩
  rw [n2, hq3.out] at ho4 ⊢
  dsimp only
  have b4 := b3.below hb4 b3.lt
  have hB4 := below_then hb4 hB3
  refine hK _ _ _ (fun _ h => h) b4.id3 ?_
  clear hK K
  try simp only [Act.put, List.setIfInBounds_toArray, List.set_cons_zero, List.set_cons_succ]
  repeat (first | (refine lexG_take _ ?_ rfl rfl rfl rfl (fun _ => ?_) ?_; rotate_left; (focus (go_simp; with_reducible rfl)); try simp only [Act.put, List.setIfInBounds_toArray, List.set_cons_zero, List.set_cons_succ]) | (refine lexG_held _ ?_ rfl rfl rfl rfl (by assumption) (fun _ hSw => ?_) ?_; rotate_left; (focus ((try dsimp only at hSw); go_simp; with_reducible rfl)); try simp only [Act.put, List.setIfInBounds_toArray, List.set_cons_zero, List.set_cons_succ]) | (refine lexG_skip _ rfl rfl (by assumption) ?_; try simp only [Act.put, List.setIfInBounds_toArray, List.set_cons_zero, List.set_cons_succ]))
  refine lexG_nil ?_
  have hlo : w.heap.size ≤ w3.heap.size := hB3.size
  clear ho3 b3 b4
  go_wp2_with fail
  go_ret
  exact ⟨A4, c4, rfl, ho4, hB4, fun g hg => Nat.le_trans hlo (hf4 g hg)⟩

end Go.Proofs.Ytlkokkbikkbaoaa
