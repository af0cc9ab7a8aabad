/- call's reader: a value read. -/
import Derived.Test.YtlkokkbikkbaoaaRdN
import Derived.Deep.CutRange
set_option linter.unusedSimpArgs false
set_option linter.unusedVariables false
set_option linter.unusedSimpArgs false
set_option linter.unusedVariables false
namespace Go.Proofs.Ytlkokkbikkbaoaa
open Go.RowKit
set_option maxRecDepth 100000

set_option maxHeartbeats 3200000 in
theorem cvalue_ok {ad : Addr} {c B r at_ : Nat} {b : List UInt8} {w : World} (h : CAt w r (some ad) b.length c at_) (hr : Reads w B 1 (some ad) b.length (bys b)) (hB : B ≤ r) (hc : b.length ≤ c) (hl : b.length ≤ 1000000000) (hat : at_ ≤ b.length)
    (v : Val) (m : Nat) (ho : rdV (b.drop at_) = some (v, m)) :
    Calls Try.prog 61 #[.pointer (some ⟨r, 0, none⟩)] w (fun e w' => ∃ cs, e = .returned (.agg cs) ∧ VOwn w' (fun g => w.heap.size ≤ g) v cs ∧ CAt w' r (some ad) b.length c (at_ + m) ∧ Upd (fun x => x = r) w w') := by
  have hsf := fun a k x m w => run_store_float (P := Try.prog) a k x m w
  have hd1 : 1 ≤ (b.drop at_).length := by
    cases hx : b.drop at_ with
    | nil => rw [hx] at ho; cases ho
    | cons x t => simp
  have hm4 : m ≤ 4096 := by
    unfold rdV at ho
    cases hp : pv 8 (b.drop at_) with
    | none => rw [hp] at ho; cases ho
    | some y =>
      rw [hp] at ho
      dsimp only at ho
      split at ho
      · cases ho; assumption
      · cases ho
  obtain ⟨d, hd⟩ : ∃ d, b.drop at_ = d := ⟨_, rfl⟩
  have hdl : d.length = b.length - at_ := by rw [← hd, List.length_drop]
  rw [hd] at hd1 ho
  have hcut := hr.cut (k := at_) (cap := c) (by omega) hc
  rw [if_neg (by omega), Nat.mul_one, bys_drop, hd] at hcut
  have hcut : Reads w B 1 (some (ad.add at_)) d.length (bys d) := by rw [hdl]; exact hcut
  obtain ⟨mm, hmm⟩ : ∃ mm, b.length = mm := ⟨_, rfl⟩
  have hRd : CAt w r (some ad) mm c at_ := by rw [← hmm]; exact h
  have hac : at_ < c := by omega
  have ham : at_ ≤ mm := by omega
  have hmc : mm ≤ c := by omega
  have hrl : r < w.heap.size := hRd.lt
  rw [hmm] at hdl ⊢
  have hdc : d.length ≤ c - at_ := by omega
  have hdb : d.length ≤ 1000000000 := by omega
  have hak : ((at_ : Int) + (m : Int)) ≤ 1000010000 := by omega
  have hz := Blk.new w 64 #[.int .i64 0, .int .i64 0, .float .f64 0, .string ⟨#[]⟩, .slice none 0 0]
  have hw2 : (w.alloc (.cells #[.int .i64 0, .int .i64 0, .float .f64 0, .string ⟨#[]⟩, .slice none 0 0] 64)).heap.size = w.heap.size + 1 := by simp
  have hR2 : CAt (w.alloc (.cells #[.int .i64 0, .int .i64 0, .float .f64 0, .string ⟨#[]⟩, .slice none 0 0] 64)) r (some ad) mm c at_ := Blk.alloc hRd (.cells #[.int .i64 0, .int .i64 0, .float .f64 0, .string ⟨#[]⟩, .slice none 0 0] 64)
  have hb2 := (Below.refl w.heap.size w).alloc (Nat.le_refl _) (.cells #[.int .i64 0, .int .i64 0, .float .f64 0, .string ⟨#[]⟩, .slice none 0 0] 64)
  have hrv : ∀ w1, Below w.heap.size w w1 → Calls Try.prog 70 #[.slice (some (ad.add at_)) d.length (c - at_)] w1 (RdRes w1 (some (v, m))) := fun w1 hb1 => by
    rw [← ho]
    exact wire_read_v ((hcut.below (hb1.mono (Nat.le_of_lt (Nat.lt_of_le_of_lt hB hrl)))).more (Nat.le_trans (Nat.le_of_lt (Nat.lt_of_le_of_lt hB hrl)) hb1.size)) (fun e => by cases e) hdc hdb
  unfold RdRes at hrv
  dsimp only at hrv
  clear h hr hd hat hl hmm ho hcut
  replace hrv := Lib.hid hrv
  replace hdl := Lib.hid hdl
  replace hRd := Lib.hid hRd
  obtain ⟨z, hzz⟩ : ∃ z, w.heap.size = z := ⟨_, rfl⟩
  go_enter Try.func61, Try.ntmps61
  go_wp2_with fail
  generalize w.alloc (.cells #[.int .i64 0, .int .i64 0, .float .f64 0, .string ⟨#[]⟩, .slice none 0 0] 64) = w2 at *
  rw [hzz] at hz hw2
  have hzzh := Lib.hid hzz
  go_upto_region 1 with (fail)
  go_cut [3, 4, 5] from 6 to 19 (fun p3 v4 v5 wx => ∃ (g3 : Nat) (k i : Int) (f : Nat) (s : ByteArray) (A' : Option Addr) (n' c' : Nat), p3 = .pointer (some ⟨g3, 0, none⟩) ∧ v4 = .int .i64 (m : Int) ∧ v5 = .int .i64 0 ∧ z < g3 ∧ Blk wx g3 64 #[.int .i64 k, .int .i64 i, .float .f64 f, .string s, .slice A' n' c'] ∧ VOwn wx (fun g => z < g) v #[.int .i64 k, .int .i64 i, .float .f64 f, .string s, .slice A' n' c'] ∧ Blk wx z 64 #[.int .i64 0, .int .i64 0, .float .f64 0, .string ⟨#[]⟩, .slice none 0 0] ∧ CAt wx r (some ad) mm c at_ ∧ Below w2.heap.size w2 wx)
  case first =>
    have hS : w2.drew.cell? ⟨r, 0, none⟩ = some (.slice (some ad) mm c) ∧ w2.drew.cell? ⟨r, 1, none⟩ = some (.int .i64 (at_ : Int)) ∧ Below w2.heap.size w2 w2.drew := ⟨Blk.cell hR2 0, Blk.cell hR2 1, (Below.refl _ _).drew⟩
    refine wp_region_pair (fun W => W.cell? ⟨r, 0, none⟩ = some (.slice (some ad) mm c) ∧ W.cell? ⟨r, 1, none⟩ = some (.int .i64 (at_ : Int)) ∧ Below w2.heap.size w2 W) [3, 7] [9, 14, 15] [0, 1, 2, 3, 4, 5, 6, 7, 8] 9 14 [10, 11, 12, 13, 14, 15, 16, 17] [9, 10, 11, 12, 13, 15, 16, 17] (by kernel_rfl) rfl rfl (by kernel_rfl) (by kernel_rfl) (by kernel_rfl) rfl rfl (by kernel_rfl) (by kernel_rfl) (fun _ _ d _ _ h => by cases d <;> exact h) ?_
    repeat (first | (refine lexG_take _ ?_ rfl rfl rfl rfl (fun _ => ?_) ?_; rotate_left; (focus (go_simp; with_reducible rfl)); try simp only [Act.put, List.setIfInBounds_toArray, List.set_cons_zero, List.set_cons_succ]) | (refine lexG_held _ ?_ rfl rfl rfl rfl (by assumption) (fun _ hSw => ?_) ?_; rotate_left; (focus ((try dsimp only at hSw); go_simp; with_reducible rfl)); try simp only [Act.put, List.setIfInBounds_toArray, List.set_cons_zero, List.set_cons_succ]) | (refine lexG_skip _ rfl rfl (by assumption) ?_; try simp only [Act.put, List.setIfInBounds_toArray, List.set_cons_zero, List.set_cons_succ]))
    refine lexG_nil ?_
    refine ⟨?_, ?_⟩
    · refine lexG_now _ rfl rfl rfl (fun K hK => ?_)
      go_wp2_with fail
      rw [← hdl.out]
      refine (hrv.out _ (hb2.trans (hS.2.2.mono (by omega)))).mono ?_
      rintro e w5 ⟨cs, rfl, hv, hb5⟩
      obtain ⟨k, i, f, s, A', n', c', hform⟩ := hv.reads.form
      subst hform
      dsimp only
      have hb5' : Below w2.heap.size w2 w5 := below_then hb5 hS.2.2
      have hz5 := hz.below hb5' hz.lt
      have hR5 : CAt w5 r (some ad) mm c at_ := Blk.below hR2 hb5' (Blk.lt hR2)
      have hv5 : VOwn w5 (fun g => z < g ∧ g < w5.heap.size) v #[.int .i64 k, .int .i64 i, .float .f64 f, .string s, .slice A' n' c'] := hv.mono (fun g hgl hg => by have h9 : w2.heap.size ≤ g := hg; exact ⟨by omega, hgl⟩)
      refine hK _ _ _ (fun _ h => h) ⟨Blk.cell hR5 0, Blk.cell hR5 1, hb5'⟩ ?_
      clear hK K hS hb5 hv
      try simp only [Act.put, List.setIfInBounds_toArray, List.set_cons_zero, List.set_cons_succ]
      repeat (first | (refine lexG_take _ ?_ rfl rfl rfl rfl (fun _ => ?_) ?_; rotate_left; (focus (go_simp; with_reducible rfl)); try simp only [Act.put, List.setIfInBounds_toArray, List.set_cons_zero, List.set_cons_succ]) | (refine lexG_held _ ?_ rfl rfl rfl rfl (by assumption) (fun _ hSw => ?_) ?_; rotate_left; (focus ((try dsimp only at hSw); go_simp; with_reducible rfl)); try simp only [Act.put, List.setIfInBounds_toArray, List.set_cons_zero, List.set_cons_succ]) | (refine lexG_skip _ rfl rfl (by assumption) ?_; try simp only [Act.put, List.setIfInBounds_toArray, List.set_cons_zero, List.set_cons_succ]))
      refine lexG_now _ rfl rfl rfl (fun K hK => ?_)
      go_simp
      have hb6 := hb5'.alloc hb5'.size (.cells #[.int .i64 0, .int .i64 0, .float .f64 0, .string ⟨#[]⟩, .slice none 0 0] 64)
      have hR6 : CAt (w5.alloc (.cells #[.int .i64 0, .int .i64 0, .float .f64 0, .string ⟨#[]⟩, .slice none 0 0] 64)) r (some ad) mm c at_ := Blk.alloc hR5 (.cells #[.int .i64 0, .int .i64 0, .float .f64 0, .string ⟨#[]⟩, .slice none 0 0] 64)
      have hz6 := hz5.alloc (.cells #[.int .i64 0, .int .i64 0, .float .f64 0, .string ⟨#[]⟩, .slice none 0 0] 64)
      have h3 := Blk.new w5 64 #[.int .i64 0, .int .i64 0, .float .f64 0, .string ⟨#[]⟩, .slice none 0 0]
      have hv6 := hv5.upd ((Upd.refl (fun _ => False) w5).alloc (.cells #[.int .i64 0, .int .i64 0, .float .f64 0, .string ⟨#[]⟩, .slice none 0 0] 64)) (fun _ _ h => h)
      have hz5l := hz5.lt
      have hr5l := Blk.lt hR5
      refine hK _ _ _ (fun _ h => h) ⟨Blk.cell hR6 0, Blk.cell hR6 1, hb6⟩ ?_
      clear hK K
      try simp only [Act.put, List.setIfInBounds_toArray, List.set_cons_zero, List.set_cons_succ]
      repeat (first | (refine lexG_take _ ?_ rfl rfl rfl rfl (fun _ => ?_) ?_; rotate_left; (focus (go_simp; with_reducible rfl)); try simp only [Act.put, List.setIfInBounds_toArray, List.set_cons_zero, List.set_cons_succ]) | (refine lexG_held _ ?_ rfl rfl rfl rfl (by assumption) (fun _ hSw => ?_) ?_; rotate_left; (focus ((try dsimp only at hSw); go_simp; with_reducible rfl)); try simp only [Act.put, List.setIfInBounds_toArray, List.set_cons_zero, List.set_cons_succ]) | (refine lexG_skip _ rfl rfl (by assumption) ?_; try simp only [Act.put, List.setIfInBounds_toArray, List.set_cons_zero, List.set_cons_succ]))
      refine lexG_now _ rfl rfl rfl (fun K hK => ?_)
      refine wp_store_row 64 (Operand.tmp 3) (Operand.tmp 17) rfl w5.heap.size #[.int .i64 k, .int .i64 i, .float .f64 f, .string s, .slice A' n' c'] (by simp [go_sem]) (by simp [go_sem]) 64 _ h3 (by kernel_rfl) rfl (by simp [Value.oneCell']) ?_
      have hb7 := below_row hb6 (g := w5.heap.size) hb5'.size #[.int .i64 k, .int .i64 i, .float .f64 f, .string s, .slice A' n' c']
      have hR7 : CAt ((w5.alloc (.cells #[.int .i64 0, .int .i64 0, .float .f64 0, .string ⟨#[]⟩, .slice none 0 0] 64)).setRow w5.heap.size #[.int .i64 k, .int .i64 i, .float .f64 f, .string s, .slice A' n' c']) r (some ad) mm c at_ := Blk.farRow hR6 (by omega) #[.int .i64 k, .int .i64 i, .float .f64 f, .string s, .slice A' n' c']
      have hz7 := hz6.farRow (g := w5.heap.size) (by omega) #[.int .i64 k, .int .i64 i, .float .f64 f, .string s, .slice A' n' c']
      have h37 := h3.row #[.int .i64 k, .int .i64 i, .float .f64 f, .string s, .slice A' n' c']
      have hv7 := hv6.upd ((Upd.refl (fun x => x = w5.heap.size) (w5.alloc (.cells #[.int .i64 0, .int .i64 0, .float .f64 0, .string ⟨#[]⟩, .slice none 0 0] 64))).setRow (g := w5.heap.size) (fun _ => rfl) #[.int .i64 k, .int .i64 i, .float .f64 f, .string s, .slice A' n' c']) (fun g hg e => by omega)
      refine hK _ _ _ (fun _ h => h) ⟨Blk.cell hR7 0, Blk.cell hR7 1, hb7⟩ ?_
      clear hK K
      try simp only [Act.put, List.setIfInBounds_toArray, List.set_cons_zero, List.set_cons_succ]
      repeat (first | (refine lexG_take _ ?_ rfl rfl rfl rfl (fun _ => ?_) ?_; rotate_left; (focus (go_simp; with_reducible rfl)); try simp only [Act.put, List.setIfInBounds_toArray, List.set_cons_zero, List.set_cons_succ]) | (refine lexG_held _ ?_ rfl rfl rfl rfl (by assumption) (fun _ hSw => ?_) ?_; rotate_left; (focus ((try dsimp only at hSw); go_simp; with_reducible rfl)); try simp only [Act.put, List.setIfInBounds_toArray, List.set_cons_zero, List.set_cons_succ]) | (refine lexG_skip _ rfl rfl (by assumption) ?_; try simp only [Act.put, List.setIfInBounds_toArray, List.set_cons_zero, List.set_cons_succ]))
      refine lexG_nil ?_
      go_wp2_with fail
      go_meet
      exact ⟨w5.heap.size, k, i, f, s, A', n', c', rfl, rfl, rfl, hz5l, h37, hv7.mono (fun g _ hg => hg.1), hz7, hR7, hb7⟩
    · refine lexG_now _ rfl rfl rfl (fun K hK => ?_)
      go_simp
      have hb3 : Below w2.heap.size w2 (w2.alloc (.cells #[.int .i64 0, .int .i64 0, .float .f64 0, .string ⟨#[]⟩, .slice none 0 0] 64)).drew := below_drewN ((Below.refl w2.heap.size w2).alloc (Nat.le_refl _) (.cells #[.int .i64 0, .int .i64 0, .float .f64 0, .string ⟨#[]⟩, .slice none 0 0] 64)) 1
      have hR3 : CAt (w2.alloc (.cells #[.int .i64 0, .int .i64 0, .float .f64 0, .string ⟨#[]⟩, .slice none 0 0] 64)).drew r (some ad) mm c at_ := Blk.drew (Blk.alloc hR2 (.cells #[.int .i64 0, .int .i64 0, .float .f64 0, .string ⟨#[]⟩, .slice none 0 0] 64))
      have hz3 := (hz.alloc (.cells #[.int .i64 0, .int .i64 0, .float .f64 0, .string ⟨#[]⟩, .slice none 0 0] 64)).drew
      have h3 := (Blk.new w2 64 #[.int .i64 0, .int .i64 0, .float .f64 0, .string ⟨#[]⟩, .slice none 0 0]).drew
      have hs3 : (w2.alloc (.cells #[.int .i64 0, .int .i64 0, .float .f64 0, .string ⟨#[]⟩, .slice none 0 0] 64)).drew.heap.size = w2.heap.size + 1 := by simp
      refine hK _ _ _ (fun _ h => h) ⟨Blk.cell hR3 0, Blk.cell hR3 1, hb3⟩ ?_
      clear hK K hS
      generalize (w2.alloc (.cells #[.int .i64 0, .int .i64 0, .float .f64 0, .string ⟨#[]⟩, .slice none 0 0] 64)).drew = w3 at *
      try simp only [Act.put, List.setIfInBounds_toArray, List.set_cons_zero, List.set_cons_succ]
      repeat (first | (refine lexG_take _ ?_ rfl rfl rfl rfl (fun _ => ?_) ?_; rotate_left; (focus (go_simp; with_reducible rfl)); try simp only [Act.put, List.setIfInBounds_toArray, List.set_cons_zero, List.set_cons_succ]) | (refine lexG_held _ ?_ rfl rfl rfl rfl (by assumption) (fun _ hSw => ?_) ?_; rotate_left; (focus ((try dsimp only at hSw); go_simp; with_reducible rfl)); try simp only [Act.put, List.setIfInBounds_toArray, List.set_cons_zero, List.set_cons_succ]) | (refine lexG_skip _ rfl rfl (by assumption) ?_; try simp only [Act.put, List.setIfInBounds_toArray, List.set_cons_zero, List.set_cons_succ]))
      refine lexG_now _ rfl rfl rfl (fun K hK => ?_)
      go_wp2_with fail
      rw [← hdl.out]
      refine (hrv.out _ (hb2.trans (hb3.mono (by omega)))).mono ?_
      rintro e w5 ⟨cs, rfl, hv, hb5⟩
      obtain ⟨k, i, f, s, A', n', c', hform⟩ := hv.reads.form
      subst hform
      dsimp only
      have hb5' : Below w2.heap.size w2 w5 := below_then hb5 hb3
      have hz5 := hz3.below hb5 hz3.lt
      have hR5 : CAt w5 r (some ad) mm c at_ := Blk.below hR3 hb5 (Blk.lt hR3)
      have h35 := h3.below hb5 h3.lt
      have hv5 : VOwn w5 (fun g => w2.heap.size < g) v #[.int .i64 k, .int .i64 i, .float .f64 f, .string s, .slice A' n' c'] := hv.mono (fun g hgl hg => by have h9 : w3.heap.size ≤ g := hg; omega)
      refine hK _ _ _ (fun _ h => h) ⟨Blk.cell hR5 0, Blk.cell hR5 1, hb5'⟩ ?_
      clear hK K hb5 hv
      try simp only [Act.put, List.setIfInBounds_toArray, List.set_cons_zero, List.set_cons_succ]
      repeat (first | (refine lexG_take _ ?_ rfl rfl rfl rfl (fun _ => ?_) ?_; rotate_left; (focus (go_simp; with_reducible rfl)); try simp only [Act.put, List.setIfInBounds_toArray, List.set_cons_zero, List.set_cons_succ]) | (refine lexG_held _ ?_ rfl rfl rfl rfl (by assumption) (fun _ hSw => ?_) ?_; rotate_left; (focus ((try dsimp only at hSw); go_simp; with_reducible rfl)); try simp only [Act.put, List.setIfInBounds_toArray, List.set_cons_zero, List.set_cons_succ]) | (refine lexG_skip _ rfl rfl (by assumption) ?_; try simp only [Act.put, List.setIfInBounds_toArray, List.set_cons_zero, List.set_cons_succ]))
      refine lexG_now _ rfl rfl rfl (fun K hK => ?_)
      refine wp_store_row 64 (Operand.tmp 3) (Operand.tmp 17) rfl w2.heap.size #[.int .i64 k, .int .i64 i, .float .f64 f, .string s, .slice A' n' c'] (by simp [go_sem]) (by simp [go_sem]) 64 _ h35 (by kernel_rfl) rfl (by simp [Value.oneCell']) ?_
      have hzl := hz.lt
      have hr2l := Blk.lt hR2
      have hb7 := below_row hb5' (g := w2.heap.size) (Nat.le_refl _) #[.int .i64 k, .int .i64 i, .float .f64 f, .string s, .slice A' n' c']
      have hR7 : CAt (w5.setRow w2.heap.size #[.int .i64 k, .int .i64 i, .float .f64 f, .string s, .slice A' n' c']) r (some ad) mm c at_ := Blk.farRow hR5 (by omega) #[.int .i64 k, .int .i64 i, .float .f64 f, .string s, .slice A' n' c']
      have hz7 := hz5.farRow (g := w2.heap.size) (by omega) #[.int .i64 k, .int .i64 i, .float .f64 f, .string s, .slice A' n' c']
      have h37 := h35.row #[.int .i64 k, .int .i64 i, .float .f64 f, .string s, .slice A' n' c']
      have hv7 := hv5.upd ((Upd.refl (fun x => x = w2.heap.size) w5).setRow (g := w2.heap.size) (fun _ => rfl) #[.int .i64 k, .int .i64 i, .float .f64 f, .string s, .slice A' n' c']) (fun g hg e => by omega)
      refine hK _ _ _ (fun _ h => h) ⟨Blk.cell hR7 0, Blk.cell hR7 1, hb7⟩ ?_
      clear hK K
      try simp only [Act.put, List.setIfInBounds_toArray, List.set_cons_zero, List.set_cons_succ]
      repeat (first | (refine lexG_take _ ?_ rfl rfl rfl rfl (fun _ => ?_) ?_; rotate_left; (focus (go_simp; with_reducible rfl)); try simp only [Act.put, List.setIfInBounds_toArray, List.set_cons_zero, List.set_cons_succ]) | (refine lexG_held _ ?_ rfl rfl rfl rfl (by assumption) (fun _ hSw => ?_) ?_; rotate_left; (focus ((try dsimp only at hSw); go_simp; with_reducible rfl)); try simp only [Act.put, List.setIfInBounds_toArray, List.set_cons_zero, List.set_cons_succ]) | (refine lexG_skip _ rfl rfl (by assumption) ?_; try simp only [Act.put, List.setIfInBounds_toArray, List.set_cons_zero, List.set_cons_succ]))
      refine lexG_nil ?_
      go_wp2_with fail
      go_meet
      exact ⟨w2.heap.size, k, i, f, s, A', n', c', by rw [hw2], rfl, rfl, hzl, h37, hv7.mono (fun g _ hg => by omega), hz7, hR7, hb7⟩
  case rest =>
    obtain ⟨g3, k, i, f, s, A', n', c', rfl, rfl, rfl, hzg, h3, hv, hzc, hRc, hbc⟩ := hcut
    go_wp2_with fail
    refine (cmust_ok _).mono ?_
    rintro e w8 ⟨rfl, rfl⟩
    dsimp only
    have e0 := Blk.cell hRc 0
    have e1 := Blk.cell hRc 1
    have hf1 := Blk.frozen hRc 1
    have hr3 := hRc
    unfold CAt at hr3
    have hne3 := h3.ne_ hr3 (by decide)
    have hnez := hzc.ne_ hr3 (by decide)
    have hset := Blk.set_ hr3 1 (.int .i64 ((at_ : Int) + (m : Int)))
    have h3s := h3.far (p := ⟨r, 1, none⟩) (show g3 ≠ r from hne3) (.int .i64 ((at_ : Int) + (m : Int)))
    have hzs := hzc.far (p := ⟨r, 1, none⟩) (show z ≠ r from hnez) (.int .i64 ((at_ : Int) + (m : Int)))
    have hvs := hv.upd ((Upd.refl (fun x => x = r) wc).setCell (p := ⟨r, 1, none⟩) (fun _ => rfl) (.int .i64 ((at_ : Int) + (m : Int)))) (fun g hg e => by omega)
    have hus := ((Upd.refl (fun x => x = r) w).thenBelow (hb2.trans (hbc.mono (by omega))) (Nat.le_refl _)).setCell (p := ⟨r, 1, none⟩) (fun _ => rfl) (.int .i64 ((at_ : Int) + (m : Int)))
    have y0 := h3s.cell 0
    have y1 := h3s.cell 1
    have y2 := h3s.cell 2
    have y3 := h3s.cell 3
    have y4 := h3s.cell 4
    have hzr := hzs.row #[.int .i64 k, .int .i64 i, .float .f64 f, .string s, .slice A' n' c']
    have hsr := hset.farRow (g := z) (show r ≠ z from fun e => hnez e.symm) #[.int .i64 k, .int .i64 i, .float .f64 f, .string s, .slice A' n' c']
    have hvr := hvs.upd ((Upd.refl (fun x => x = z) (wc.setCell ⟨r, 1, none⟩ (.int .i64 ((at_ : Int) + (m : Int))))).setRow (g := z) (fun _ => rfl) #[.int .i64 k, .int .i64 i, .float .f64 f, .string s, .slice A' n' c']) (fun g hg e => by omega)
    have hur := hus.setRow (g := z) (fun h => by omega) #[.int .i64 k, .int .i64 i, .float .f64 f, .string s, .slice A' n' c']
    clear h3 hv hzc hRc hr3 hset h3s hvs hus hbc
    go_wp2_with (refine store_row_gen rfl 64 (Operand.tmp 2) _ rfl z #[.int .i64 k, .int .i64 i, .float .f64 f, .string s, .slice A' n' c'] (by simp [go_sem]) (by simp [go_sem]) 64 _ hzs (by kernel_rfl) rfl (by simp [Value.oneCell']) (fun w9 hw9 => ?_); rw [← hw9] at hzr hsr hvr hur; clear hw9)
    refine bodyPost_ret (v := .agg #[.int .i64 k, .int .i64 i, .float .f64 f, .string s, .slice A' n' c']) ?hr rfl ?_
    case hr => exact results_cell_row rfl _ _ z 64 _ (0, 0) _ rfl hzr Try.underlying64 rfl (by kernel_rfl)
    refine ⟨_, rfl, hvr.mono (fun g _ hg => by omega), ?_, hur⟩
    have e : ((at_ + m : Nat) : Int) = (at_ : Int) + (m : Int) := by omega
    unfold CAt
    rw [e]
    exact hsr
end Go.Proofs.Ytlkokkbikkbaoaa
