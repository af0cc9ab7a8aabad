/- call's reader: numbers, names, values read, and the panic that ends a reading. -/
import Derived.Test.YtlkokkbikkbaoaaRdV
set_option linter.unusedSimpArgs false
set_option linter.unusedVariables false
set_option linter.unusedSimpArgs false
set_option linter.unusedVariables false
namespace Go.Proofs.Ytlkokkbikkbaoaa
open Go.RowKit
set_option maxRecDepth 100000

/-- What ends a reading. -/
def shortC : List PanicEntry := [{ v := .iface 123 (.agg #[]), recovered := false }]

theorem cmust_ok (w : World) : Calls Try.prog 60 #[.bool true] w fun e w' => e = .returned (.tuple #[]) ∧ w = w' := by
  go_enter Try.func60, Try.ntmps60
  go_wp2
  go_end0
  exact ⟨rfl, rfl⟩
theorem cmust_no (w : World) : Calls Try.prog 60 #[.bool false] w fun e w' => e = .panicked shortC ∧ w = w' := by
  go_enter Try.func60, Try.ntmps60
  go_wp2
  exact ⟨rfl, rfl, rfl⟩

/-- The reader r: bytes at ad, how far, how deep still. -/
def CAt (w : World) (r : Nat) (A : Option Addr) (n c at_ : Nat) : Prop := Blk w r 111 #[.slice A n c, .int .i64 (at_ : Int)]

def CNumRes (w : World) (r : Nat) (ad : Addr) (n c at_ : Nat) (v : Nat) (e : Ending) (w' : World) : Prop :=
  e = .returned (.int .u64 (v : Int)) ∧ CAt w' r (some ad) n c at_ ∧ Upd (fun x => x = r) w w'

set_option maxHeartbeats 800000 in
theorem cnumber_ok {ad : Addr} {c B r k at_ : Nat} {b : List UInt8} {w : World} (h : CAt w r (some ad) b.length c at_) (hr : Reads w B 1 (some ad) b.length (bys b)) (hB : B ≤ r) (hc : b.length ≤ c) (hl : b.length ≤ 1000000000)
    (hk : k ≤ 8) (hk1 : 1 ≤ k) (hat : at_ + k ≤ b.length) (v : Nat) (hv : readU ((b.drop at_).take k) = v) :
    Calls Try.prog 59 #[.pointer (some ⟨r, 0, none⟩), .int .i64 (k : Int)] w (CNumRes w r ad b.length c (at_ + k) v) := by
  obtain ⟨d, hd⟩ : ∃ d, b.drop at_ = d := ⟨_, rfl⟩
  have hdl : d.length = b.length - at_ := by rw [← hd, List.length_drop]
  have hcut := hr.cut (k := at_) (cap := c) (by omega) hc
  rw [if_neg (by omega), Nat.mul_one, bys_drop, hd] at hcut
  have hcut : Reads w B 1 (some (ad.add at_)) d.length (bys d) := by rw [hdl]; exact hcut
  rw [hd] at hv
  obtain ⟨m, hm⟩ : ∃ m, b.length = m := ⟨_, rfl⟩
  have hRd : CAt w r (some ad) m c at_ := by rw [← hm]; exact h
  have hS : w.drew.cell? ⟨r, 0, none⟩ = some (.slice (some ad) m c) ∧ w.drew.cell? ⟨r, 1, none⟩ = some (.int .i64 (at_ : Int)) ∧ Below w.heap.size w w.drew := ⟨hRd.cell 0, hRd.cell 1, (Below.refl _ _).drew⟩
  have hac : at_ < c := by omega
  have ham : at_ ≤ m := by omega
  have hmc : m ≤ c := by omega
  have hrl : r < w.heap.size := hRd.lt
  rw [hm] at hdl ⊢
  have hdk : k ≤ d.length := by omega
  have hdc : d.length ≤ c - at_ := by omega
  have hdb : d.length ≤ 140737488351232 := by omega
  have hak : ((at_ : Int) + (k : Int)) ≤ 1000000000 := by omega
  have hv64 : v < 18446744073709551616 := by
    rw [← hv]
    refine Nat.lt_of_lt_of_le (readU_lt _) ?_
    rw [List.length_take, Nat.min_eq_left hdk]
    exact Nat.pow_le_pow_right (show 0 < 256 by decide) hk
  clear h hr hd hat hl hm
  replace hdl := Lib.hid hdl
  replace hv := Lib.hid hv
  replace hRd := Lib.hid hRd
  go_enter Try.func59, Try.ntmps59
  go_wp2_with fail
  refine wp_region_lex (fun W => W.cell? ⟨r, 0, none⟩ = some (.slice (some ad) m c) ∧ W.cell? ⟨r, 1, none⟩ = some (.int .i64 (at_ : Int)) ∧ Below w.heap.size w W) [3, 7] [10] [0, 1, 2, 3, 4, 5, 6, 7, 8, 9, 10, 11, 12, 13, 14, 15] (by kernel_rfl) rfl (by kernel_rfl) (by kernel_rfl) (fun _ _ d _ _ h => by cases d <;> exact h) ?_
  repeat (first | (refine lexG_take _ ?_ rfl rfl rfl rfl (fun _ => ?_) ?_; rotate_left; (focus (go_simp; with_reducible rfl)); try simp only [Act.put, List.setIfInBounds_toArray, List.set_cons_zero, List.set_cons_succ]) | (refine lexG_held _ ?_ rfl rfl rfl rfl (by assumption) (fun _ hSw => ?_) ?_; rotate_left; (focus ((try dsimp only at hSw); go_simp; with_reducible rfl)); try simp only [Act.put, List.setIfInBounds_toArray, List.set_cons_zero, List.set_cons_succ]) | (refine lexG_skip _ rfl rfl (by assumption) ?_; try simp only [Act.put, List.setIfInBounds_toArray, List.set_cons_zero, List.set_cons_succ]))
  refine lexG_now _ rfl rfl rfl (fun K hK => ?_)
  go_wp2_with fail
  rw [← hdl.out]
  refine (wire_read (((hcut.more (Nat.le_of_lt (Nat.lt_of_le_of_lt hB hrl))).drew)) hk hdk hdc hdb).mono ?_
  rintro e w1 ⟨rfl, hb1⟩
  rw [hv.out]
  dsimp only
  have hS1 : w1.cell? ⟨r, 0, none⟩ = some (.slice (some ad) m c) ∧ w1.cell? ⟨r, 1, none⟩ = some (.int .i64 (at_ : Int)) ∧ Below w.heap.size w w1 := ⟨(hb1.cell (by show r < _; simpa using hrl)).trans hS.1, (hb1.cell (by show r < _; simpa using hrl)).trans hS.2.1, below_then hb1 hS.2.2⟩
  refine hK _ _ _ (fun _ h => h) hS1 ?_
  clear hK K hS hb1
  try simp only [Act.put, List.setIfInBounds_toArray, List.set_cons_zero, List.set_cons_succ]
  repeat (first | (refine lexG_take _ ?_ rfl rfl rfl rfl (fun _ => ?_) ?_; rotate_left; (focus (go_simp; with_reducible rfl)); try simp only [Act.put, List.setIfInBounds_toArray, List.set_cons_zero, List.set_cons_succ]) | (refine lexG_held _ ?_ rfl rfl rfl rfl (by assumption) (fun _ hSw => ?_) ?_; rotate_left; (focus ((try dsimp only at hSw); go_simp; with_reducible rfl)); try simp only [Act.put, List.setIfInBounds_toArray, List.set_cons_zero, List.set_cons_succ]) | (refine lexG_skip _ rfl rfl (by assumption) ?_; try simp only [Act.put, List.setIfInBounds_toArray, List.set_cons_zero, List.set_cons_succ]))
  refine lexG_nil ?_
  have hRd1 : CAt w1 r (some ad) m c at_ := Blk.below hRd.out hS1.2.2 hrl
  have hf := Blk.frozen hRd1 1
  obtain ⟨e0, e1, e2⟩ := id hS1
  go_wp2_with fail
  refine (cmust_ok w1).mono ?_
  rintro e w2 ⟨rfl, rfl⟩
  dsimp only
  go_wp2_with fail
  go_ret
  have hset := Blk.set_ hRd1 1 (.int .i64 ((at_ : Int) + (k : Int)))
  refine ⟨rfl, ?_, ?_⟩
  · have e : ((at_ + k : Nat) : Int) = (at_ : Int) + (k : Int) := by omega
    unfold CAt
    rw [e]
    exact hset
  · exact ((Upd.refl (fun x => x = r) w).thenBelow hS1.2.2 (Nat.le_refl _)).setCell (p := ⟨r, 1, none⟩) (fun _ => rfl) _

set_option maxHeartbeats 800000 in
theorem cnumber_no {A : Option Addr} {n c r k at_ : Nat} {w : World} (h : CAt w r A n c at_) (hA : A = none → c = 0) (hc : n ≤ c) (hl : n ≤ 1000000000)
    (hk : k ≤ 8) (han : at_ ≤ n) (hat : n < at_ + k) :
    Calls Try.prog 59 #[.pointer (some ⟨r, 0, none⟩), .int .i64 (k : Int)] w (fun e w' => e = .panicked shortC ∧ Below w.heap.size w w') := by
  have hS : w.drew.cell? ⟨r, 0, none⟩ = some (.slice A n c) ∧ w.drew.cell? ⟨r, 1, none⟩ = some (.int .i64 (at_ : Int)) ∧ Below w.heap.size w w.drew := ⟨h.cell 0, h.cell 1, (Below.refl _ _).drew⟩
  have hac : at_ ≤ c := by omega
  have hm : n - at_ < k := by omega
  replace h := Lib.hid h
  cases A with
  | none =>
    have hc0 := hA rfl
    subst hc0
    have hn0 : n = 0 := by omega
    subst hn0
    have ha0 : at_ = 0 := by omega
    subst ha0
    go_enter Try.func59, Try.ntmps59
    go_wp2_with fail
    refine wp_region_lex (fun W => W.cell? ⟨r, 0, none⟩ = some (.slice none 0 0) ∧ W.cell? ⟨r, 1, none⟩ = some (.int .i64 ((0 : Nat) : Int)) ∧ Below w.heap.size w W) [3, 7] [10] [0, 1, 2, 3, 4, 5, 6, 7, 8, 9, 10, 11, 12, 13, 14, 15] (by kernel_rfl) rfl (by kernel_rfl) (by kernel_rfl) (fun _ _ d _ _ h => by cases d <;> exact h) ?_
    repeat (first | (refine lexG_take _ ?_ rfl rfl rfl rfl (fun _ => ?_) ?_; rotate_left; (focus (go_simp; with_reducible rfl)); try simp only [Act.put, List.setIfInBounds_toArray, List.set_cons_zero, List.set_cons_succ]) | (refine lexG_held _ ?_ rfl rfl rfl rfl (by assumption) (fun _ hSw => ?_) ?_; rotate_left; (focus ((try dsimp only at hSw); go_simp; with_reducible rfl)); try simp only [Act.put, List.setIfInBounds_toArray, List.set_cons_zero, List.set_cons_succ]) | (refine lexG_skip _ rfl rfl (by assumption) ?_; try simp only [Act.put, List.setIfInBounds_toArray, List.set_cons_zero, List.set_cons_succ]))
    refine lexG_now _ rfl rfl rfl (fun K hK => ?_)
    go_wp2_with fail
    all_goals
      refine (wire_read_no (m := 0) hk hm).mono ?_
      rintro e w1 ⟨rfl, rfl⟩
      dsimp only
      refine hK _ _ _ (fun _ h => h) hS ?_
      clear hK K
      try simp only [Act.put, List.setIfInBounds_toArray, List.set_cons_zero, List.set_cons_succ]
      repeat (first | (refine lexG_take _ ?_ rfl rfl rfl rfl (fun _ => ?_) ?_; rotate_left; (focus (go_simp; with_reducible rfl)); try simp only [Act.put, List.setIfInBounds_toArray, List.set_cons_zero, List.set_cons_succ]) | (refine lexG_held _ ?_ rfl rfl rfl rfl (by assumption) (fun _ hSw => ?_) ?_; rotate_left; (focus ((try dsimp only at hSw); go_simp; with_reducible rfl)); try simp only [Act.put, List.setIfInBounds_toArray, List.set_cons_zero, List.set_cons_succ]) | (refine lexG_skip _ rfl rfl (by assumption) ?_; try simp only [Act.put, List.setIfInBounds_toArray, List.set_cons_zero, List.set_cons_succ]))
      refine lexG_nil ?_
      go_wp2_with fail
      refine (cmust_no _).mono ?_
      rintro e w2 ⟨rfl, rfl⟩
      dsimp only
      go_wp2_with fail
      exact ⟨rfl, rfl, hS.2.2⟩
  | some ad =>
    go_enter Try.func59, Try.ntmps59
    go_wp2_with fail
    refine wp_region_lex (fun W => W.cell? ⟨r, 0, none⟩ = some (.slice (some ad) n c) ∧ W.cell? ⟨r, 1, none⟩ = some (.int .i64 (at_ : Int)) ∧ Below w.heap.size w W) [3, 7] [10] [0, 1, 2, 3, 4, 5, 6, 7, 8, 9, 10, 11, 12, 13, 14, 15] (by kernel_rfl) rfl (by kernel_rfl) (by kernel_rfl) (fun _ _ d _ _ h => by cases d <;> exact h) ?_
    repeat (first | (refine lexG_take _ ?_ rfl rfl rfl rfl (fun _ => ?_) ?_; rotate_left; (focus (go_simp; with_reducible rfl)); try simp only [Act.put, List.setIfInBounds_toArray, List.set_cons_zero, List.set_cons_succ]) | (refine lexG_held _ ?_ rfl rfl rfl rfl (by assumption) (fun _ hSw => ?_) ?_; rotate_left; (focus ((try dsimp only at hSw); go_simp; with_reducible rfl)); try simp only [Act.put, List.setIfInBounds_toArray, List.set_cons_zero, List.set_cons_succ]) | (refine lexG_skip _ rfl rfl (by assumption) ?_; try simp only [Act.put, List.setIfInBounds_toArray, List.set_cons_zero, List.set_cons_succ]))
    refine lexG_now _ rfl rfl rfl (fun K hK => ?_)
    go_wp2_with fail
    all_goals
      refine (wire_read_no hk hm).mono ?_
      rintro e w1 ⟨rfl, rfl⟩
      dsimp only
      refine hK _ _ _ (fun _ h => h) hS ?_
      clear hK K
      try simp only [Act.put, List.setIfInBounds_toArray, List.set_cons_zero, List.set_cons_succ]
      repeat (first | (refine lexG_take _ ?_ rfl rfl rfl rfl (fun _ => ?_) ?_; rotate_left; (focus (go_simp; with_reducible rfl)); try simp only [Act.put, List.setIfInBounds_toArray, List.set_cons_zero, List.set_cons_succ]) | (refine lexG_held _ ?_ rfl rfl rfl rfl (by assumption) (fun _ hSw => ?_) ?_; rotate_left; (focus ((try dsimp only at hSw); go_simp; with_reducible rfl)); try simp only [Act.put, List.setIfInBounds_toArray, List.set_cons_zero, List.set_cons_succ]) | (refine lexG_skip _ rfl rfl (by assumption) ?_; try simp only [Act.put, List.setIfInBounds_toArray, List.set_cons_zero, List.set_cons_succ]))
      refine lexG_nil ?_
      go_wp2_with fail
      refine (cmust_no _).mono ?_
      rintro e w2 ⟨rfl, rfl⟩
      dsimp only
      go_wp2_with fail
      exact ⟨rfl, rfl, hS.2.2⟩
end Go.Proofs.Ytlkokkbikkbaoaa
