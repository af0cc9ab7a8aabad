/- call's reader: names and values read. -/
import Derived.Test.YtlkokkbikkbaoaaRdC
import Derived.Test.YtlkokkbikkbaoaaPair
set_option linter.unusedSimpArgs false
set_option linter.unusedVariables false
set_option linter.unusedSimpArgs false
set_option linter.unusedVariables false
namespace Go.Proofs.Ytlkokkbikkbaoaa
open Go.RowKit
set_option maxRecDepth 100000

set_option maxHeartbeats 800000 in
theorem name_ok {ad : Addr} {c B r at_ : Nat} {b : List UInt8} {w : World} (h : CAt w r (some ad) b.length c at_) (hr : Reads w B 1 (some ad) b.length (bys b)) (hB : B ≤ r) (hc : b.length ≤ c) (hl : b.length ≤ 1000000000) (hat : at_ ≤ b.length)
    (tx : List UInt8) (tn : Nat) (ht : readT (b.drop at_) 32 = (tx, tn, 0)) :
    Calls Try.prog 58 #[.pointer (some ⟨r, 0, none⟩)] w (fun e w' => e = .returned (.string (bstr tx)) ∧ CAt w' r (some ad) b.length c (at_ + tn) ∧ Upd (fun x => x = r) w w') := by
  have htn : 2 ≤ (b.drop at_).length ∧ tn ≤ 1000 := by
    refine ⟨?_, ?_⟩
    · unfold readT at ht
      split at ht
      · omega
      · cases ht
    · have h1 : (readT (b.drop at_) 32).2.1 = tn := by rw [ht]
      rw [← h1]
      unfold readT
      split
      · rename_i h2
        show 2 + _ ≤ _
        omega
      · show 0 ≤ _
        omega
  obtain ⟨d, hd⟩ : ∃ d, b.drop at_ = d := ⟨_, rfl⟩
  have hdl : d.length = b.length - at_ := by rw [← hd, List.length_drop]
  rw [hd] at htn ht
  have hcut := hr.cut (k := at_) (cap := c) (by omega) hc
  rw [if_neg (by omega), Nat.mul_one, bys_drop, hd] at hcut
  have hcut : Reads w B 1 (some (ad.add at_)) d.length (bys d) := by rw [hdl]; exact hcut
  obtain ⟨m, hm⟩ : ∃ m, b.length = m := ⟨_, rfl⟩
  have hRd : CAt w r (some ad) m c at_ := by rw [← hm]; exact h
  have hS : w.drew.cell? ⟨r, 0, none⟩ = some (.slice (some ad) m c) ∧ w.drew.cell? ⟨r, 1, none⟩ = some (.int .i64 (at_ : Int)) ∧ Below w.heap.size w w.drew := ⟨hRd.cell 0, hRd.cell 1, (Below.refl _ _).drew⟩
  have hac : at_ < c := by omega
  have ham : at_ ≤ m := by omega
  have hmc : m ≤ c := by omega
  have hrl : r < w.heap.size := hRd.lt
  rw [hm] at hdl ⊢
  have hdc : d.length ≤ c - at_ := by omega
  have hdb : d.length ≤ 1000000000 := by omega
  have hak : ((at_ : Int) + (tn : Int)) ≤ 1000001000 := by omega
  have htx := fun (w1 : World) (h1 : Reads w1 w1.heap.size 1 (some (ad.add at_)) d.length (bys d)) => read_text (m := 32) h1 hdc hdb ht
  obtain ⟨st, hst⟩ : ∃ st, bstr tx = st := ⟨_, rfl⟩
  unfold TextRes at htx
  dsimp only at htx
  rw [hst] at htx ⊢
  clear h hr hd hat hl hm ht htn
  replace htx := Lib.hid htx
  replace hdl := Lib.hid hdl
  replace hRd := Lib.hid hRd
  go_enter Try.func58, Try.ntmps58
  go_wp2_with fail
  refine wp_region_lex (fun W => W.cell? ⟨r, 0, none⟩ = some (.slice (some ad) m c) ∧ W.cell? ⟨r, 1, none⟩ = some (.int .i64 (at_ : Int)) ∧ Below w.heap.size w W) [3, 7] [9] [0, 1, 2, 3, 4, 5, 6, 7, 8, 9, 10, 11, 12, 13, 14, 15, 16] (by kernel_rfl) rfl (by kernel_rfl) (by kernel_rfl) (fun _ _ d _ _ h => by cases d <;> exact h) ?_
  repeat (first | (refine lexG_take _ ?_ rfl rfl rfl rfl (fun _ => ?_) ?_; rotate_left; (focus (go_simp; with_reducible rfl)); try simp only [Act.put, List.setIfInBounds_toArray, List.set_cons_zero, List.set_cons_succ]) | (refine lexG_held _ ?_ rfl rfl rfl rfl (by assumption) (fun _ hSw => ?_) ?_; rotate_left; (focus ((try dsimp only at hSw); go_simp; with_reducible rfl)); try simp only [Act.put, List.setIfInBounds_toArray, List.set_cons_zero, List.set_cons_succ]) | (refine lexG_skip _ rfl rfl (by assumption) ?_; try simp only [Act.put, List.setIfInBounds_toArray, List.set_cons_zero, List.set_cons_succ]))
  refine lexG_now _ rfl rfl rfl (fun K hK => ?_)
  go_wp2_with fail
  rw [← hdl.out]
  refine (htx.out _ ((hcut.more (Nat.le_of_lt (Nat.lt_of_le_of_lt hB hrl))).drew)).mono ?_
  rintro e w1 ⟨rfl, hb1⟩
  dsimp only
  have hS1 : w1.cell? ⟨r, 0, none⟩ = some (.slice (some ad) m c) ∧ w1.cell? ⟨r, 1, none⟩ = some (.int .i64 (at_ : Int)) ∧ Below w.heap.size w w1 := ⟨(hb1.cell (by show r < _; simpa using hrl)).trans hS.1, (hb1.cell (by show r < _; simpa using hrl)).trans hS.2.1, below_then hb1 hS.2.2⟩
  refine hK _ _ _ (fun _ h => h) hS1 ?_
  clear hK K hS hb1
  try simp only [Act.put, List.setIfInBounds_toArray, List.set_cons_zero, List.set_cons_succ]
  repeat (first | (refine lexG_take _ ?_ rfl rfl rfl rfl (fun _ => ?_) ?_; rotate_left; (focus (go_simp; with_reducible rfl)); try simp only [Act.put, List.setIfInBounds_toArray, List.set_cons_zero, List.set_cons_succ]) | (refine lexG_held _ ?_ rfl rfl rfl rfl (by assumption) (fun _ hSw => ?_) ?_; rotate_left; (focus ((try dsimp only at hSw); go_simp; with_reducible rfl)); try simp only [Act.put, List.setIfInBounds_toArray, List.set_cons_zero, List.set_cons_succ]) | (refine lexG_skip _ rfl rfl (by assumption) ?_; try simp only [Act.put, List.setIfInBounds_toArray, List.set_cons_zero, List.set_cons_succ]))
  refine lexG_nil ?_
  have hRd1 : CAt w1 r (some ad) m c at_ := Blk.below hRd.out hS1.2.2 hrl
  have hf := Blk.frozen hRd1 1
  obtain ⟨e0, e1, e2⟩ := id hS1
  go_wp2_with fail
  refine (cmust_ok w1).mono ?_
  rintro e w2 ⟨rfl, rfl⟩
  dsimp only
  go_wp2_with fail
  go_ret
  have hset := Blk.set_ hRd1 1 (.int .i64 ((at_ : Int) + (tn : Int)))
  refine ⟨rfl, ?_, ?_⟩
  · have e : ((at_ + tn : Nat) : Int) = (at_ : Int) + (tn : Int) := by omega
    unfold CAt
    rw [e]
    exact hset
  · exact ((Upd.refl (fun x => x = r) w).thenBelow hS1.2.2 (Nat.le_refl _)).setCell (p := ⟨r, 1, none⟩) (fun _ => rfl) _

set_option maxHeartbeats 800000 in
theorem name_no {A : Option Addr} {c B r at_ : Nat} {b : List UInt8} {w : World} (h : CAt w r A b.length c at_) (hr : Reads w B 1 A b.length (bys b)) (hA : A = none → c = 0) (hB : B ≤ r) (hc : b.length ≤ c) (hl : b.length ≤ 1000000000) (hat : at_ ≤ b.length)
    (ht : (readT (b.drop at_) 32).2.2 ≠ 0) :
    Calls Try.prog 58 #[.pointer (some ⟨r, 0, none⟩)] w (fun e w' => e = .panicked shortC ∧ Below w.heap.size w w') := by
  have ht' : readT (b.drop at_) 32 = ([], 0, 20) := by
    unfold readT at ht ⊢
    split
    · rename_i h1; rw [if_pos h1] at ht; exact absurd rfl ht
    · rfl
  obtain ⟨d, hd⟩ : ∃ d, b.drop at_ = d := ⟨_, rfl⟩
  have hdl : d.length = b.length - at_ := by rw [← hd, List.length_drop]
  rw [hd] at ht'
  have hrl : r < w.heap.size := Blk.lt h
  have hac : at_ ≤ c := by omega
  have hdc : d.length ≤ c - at_ := by omega
  have hdb : d.length ≤ 1000000000 := by omega
  have htx := fun (w1 : World) (A1 : Option Addr) (h1 : Reads w1 w1.heap.size 1 A1 d.length (bys d)) => read_text (m := 32) h1 hdc hdb ht'
  have htx0 := fun (w1 : World) (A1 : Option Addr) (h0 : d.length ≤ 0) (h1 : Reads w1 w1.heap.size 1 A1 d.length (bys d)) => read_text (m := 32) (c := 0) h1 h0 hdb ht'
  unfold TextRes at htx htx0
  dsimp only at htx htx0
  have hs0 : bstr [] = ⟨#[]⟩ := rfl
  rw [hs0] at htx htx0
  replace htx0 := Lib.hid htx0
  have hrd := fun (w1 : World) (hb : Below w.heap.size w w1) => (hr.below (hb.mono (Nat.le_of_lt (Nat.lt_of_le_of_lt hB hrl)))).more (Nat.le_trans (Nat.le_of_lt (Nat.lt_of_le_of_lt hB hrl)) hb.size)
  have hnil : ∀ (w1 : World) (A1 : Option Addr), d.length = 0 → Reads w1 w1.heap.size 1 A1 d.length (bys d) := fun w1 A1 h0 => by
    have : d = [] := List.eq_nil_of_length_eq_zero h0
    subst this
    exact ⟨by simp [bys], fun h => absurd h (by simp)⟩
  have hS : w.drew.cell? ⟨r, 0, none⟩ = some (.slice A b.length c) ∧ w.drew.cell? ⟨r, 1, none⟩ = some (.int .i64 (at_ : Int)) ∧ Below w.heap.size w w.drew := ⟨h.cell 0, h.cell 1, (Below.refl _ _).drew⟩
  have hcutx : ∀ ad, A = some ad → at_ < c → ∀ (w1 : World), Below w.heap.size w w1 → Reads w1 w1.heap.size 1 (some (ad.add at_)) d.length (bys d) := fun ad hA1 hlt w1 hb1 => by
    have h0 := hrd w1 hb1
    rw [hA1] at h0
    have hcut := h0.cut (k := at_) (cap := c) (by omega) hc
    rw [if_neg (by omega), Nat.mul_one, bys_drop, hd] at hcut
    rw [hdl]
    exact hcut
  obtain ⟨m, hm⟩ : ∃ m, b.length = m := ⟨_, rfl⟩
  rw [hm] at hS hdl hat hc
  clear h hr hl hm ht ht' hd hrd hs0
  replace htx := Lib.hid htx
  replace hnil := Lib.hid hnil
  replace hcutx := Lib.hid hcutx
  replace hdl := Lib.hid hdl
  cases A with
  | none =>
    have hc0 := hA rfl
    subst hc0
    have hn0 : m = 0 := by omega
    subst hn0
    have ha0 : at_ = 0 := by omega
    subst ha0
    have hd0 : d.length = 0 := by have := hdl.out; omega
    go_enter Try.func58, Try.ntmps58
    go_wp2_with fail
    refine wp_region_lex (fun W => W.cell? ⟨r, 0, none⟩ = some (.slice none 0 0) ∧ W.cell? ⟨r, 1, none⟩ = some (.int .i64 ((0 : Nat) : Int)) ∧ Below w.heap.size w W) [3, 7] [9] [0, 1, 2, 3, 4, 5, 6, 7, 8, 9, 10, 11, 12, 13, 14, 15, 16] (by kernel_rfl) rfl (by kernel_rfl) (by kernel_rfl) (fun _ _ d _ _ h => by cases d <;> exact h) ?_
    repeat (first | (refine lexG_take _ ?_ rfl rfl rfl rfl (fun _ => ?_) ?_; rotate_left; (focus (go_simp; with_reducible rfl)); try simp only [Act.put, List.setIfInBounds_toArray, List.set_cons_zero, List.set_cons_succ]) | (refine lexG_held _ ?_ rfl rfl rfl rfl (by assumption) (fun _ hSw => ?_) ?_; rotate_left; (focus ((try dsimp only at hSw); go_simp; with_reducible rfl)); try simp only [Act.put, List.setIfInBounds_toArray, List.set_cons_zero, List.set_cons_succ]) | (refine lexG_skip _ rfl rfl (by assumption) ?_; try simp only [Act.put, List.setIfInBounds_toArray, List.set_cons_zero, List.set_cons_succ]))
    refine lexG_now _ rfl rfl rfl (fun K hK => ?_)
    have htt := htx.out w.drew none (hnil.out _ _ hd0)
    rw [hd0] at htt
    go_wp2_with fail
    all_goals
      refine htt.mono ?_
      rintro e w1 ⟨rfl, hb1⟩
      dsimp only
      have hS1 : w1.cell? ⟨r, 0, none⟩ = some (.slice none 0 0) ∧ w1.cell? ⟨r, 1, none⟩ = some (.int .i64 ((0 : Nat) : Int)) ∧ Below w.heap.size w w1 := ⟨(hb1.cell (by show r < _; simpa using hrl)).trans hS.1, (hb1.cell (by show r < _; simpa using hrl)).trans hS.2.1, below_then hb1 hS.2.2⟩
      refine hK _ _ _ (fun _ h => h) hS1 ?_
      clear hK K hS hb1
      try simp only [Act.put, List.setIfInBounds_toArray, List.set_cons_zero, List.set_cons_succ]
      repeat (first | (refine lexG_take _ ?_ rfl rfl rfl rfl (fun _ => ?_) ?_; rotate_left; (focus (go_simp; with_reducible rfl)); try simp only [Act.put, List.setIfInBounds_toArray, List.set_cons_zero, List.set_cons_succ]) | (refine lexG_held _ ?_ rfl rfl rfl rfl (by assumption) (fun _ hSw => ?_) ?_; rotate_left; (focus ((try dsimp only at hSw); go_simp; with_reducible rfl)); try simp only [Act.put, List.setIfInBounds_toArray, List.set_cons_zero, List.set_cons_succ]) | (refine lexG_skip _ rfl rfl (by assumption) ?_; try simp only [Act.put, List.setIfInBounds_toArray, List.set_cons_zero, List.set_cons_succ]))
      refine lexG_nil ?_
      go_wp2_with fail
      refine (cmust_no _).mono ?_
      rintro e w2 ⟨rfl, rfl⟩
      dsimp only
      go_wp2_with fail
      exact ⟨rfl, rfl, hS1.2.2⟩
  | some ad =>
    go_enter Try.func58, Try.ntmps58
    go_wp2_with fail
    refine wp_region_lex (fun W => W.cell? ⟨r, 0, none⟩ = some (.slice (some ad) m c) ∧ W.cell? ⟨r, 1, none⟩ = some (.int .i64 (at_ : Int)) ∧ Below w.heap.size w W) [3, 7] [9] [0, 1, 2, 3, 4, 5, 6, 7, 8, 9, 10, 11, 12, 13, 14, 15, 16] (by kernel_rfl) rfl (by kernel_rfl) (by kernel_rfl) (fun _ _ d _ _ h => by cases d <;> exact h) ?_
    repeat (first | (refine lexG_take _ ?_ rfl rfl rfl rfl (fun _ => ?_) ?_; rotate_left; (focus (go_simp; with_reducible rfl)); try simp only [Act.put, List.setIfInBounds_toArray, List.set_cons_zero, List.set_cons_succ]) | (refine lexG_held _ ?_ rfl rfl rfl rfl (by assumption) (fun _ hSw => ?_) ?_; rotate_left; (focus ((try dsimp only at hSw); go_simp; with_reducible rfl)); try simp only [Act.put, List.setIfInBounds_toArray, List.set_cons_zero, List.set_cons_succ]) | (refine lexG_skip _ rfl rfl (by assumption) ?_; try simp only [Act.put, List.setIfInBounds_toArray, List.set_cons_zero, List.set_cons_succ]))
    refine lexG_now _ rfl rfl rfl (fun K hK => ?_)
    have hrd0 : c = at_ → Calls Try.prog 69 #[.slice (some ad) d.length 0, .int .i64 32] w.drew (fun e w' => e = .returned (.tuple #[.string ⟨#[]⟩, .int .i64 ((0 : Nat) : Int), .int .i64 ((20 : Nat) : Int)]) ∧ Below w.drew.heap.size w.drew w') := fun h2 => htx0.out w.drew _ (by have := hdl.out; omega) (hnil.out _ _ (by have := hdl.out; omega))
    have hrdx : ¬ c = at_ → Calls Try.prog 69 #[.slice (some (ad.add at_)) d.length (c - at_), .int .i64 32] w.drew (fun e w' => e = .returned (.tuple #[.string ⟨#[]⟩, .int .i64 ((0 : Nat) : Int), .int .i64 ((20 : Nat) : Int)]) ∧ Below w.drew.heap.size w.drew w') := fun h2 => htx.out w.drew _ (hcutx.out ad rfl (by omega) _ hS.2.2)
    replace hrd0 := Lib.hid hrd0
    replace hrdx := Lib.hid hrdx
    go_wp2_with fail
    · skip
      rw [← hdl.out]
      refine (hrd0.out (by assumption)).mono ?_
      rintro e w1 ⟨rfl, hb1⟩
      dsimp only
      have hS1 : w1.cell? ⟨r, 0, none⟩ = some (.slice (some ad) m c) ∧ w1.cell? ⟨r, 1, none⟩ = some (.int .i64 (at_ : Int)) ∧ Below w.heap.size w w1 := ⟨(hb1.cell (by show r < _; simpa using hrl)).trans hS.1, (hb1.cell (by show r < _; simpa using hrl)).trans hS.2.1, below_then hb1 hS.2.2⟩
      refine hK _ _ _ (fun _ h => h) hS1 ?_
      clear hK K hS hb1
      try simp only [Act.put, List.setIfInBounds_toArray, List.set_cons_zero, List.set_cons_succ]
      repeat (first | (refine lexG_take _ ?_ rfl rfl rfl rfl (fun _ => ?_) ?_; rotate_left; (focus (go_simp; with_reducible rfl)); try simp only [Act.put, List.setIfInBounds_toArray, List.set_cons_zero, List.set_cons_succ]) | (refine lexG_held _ ?_ rfl rfl rfl rfl (by assumption) (fun _ hSw => ?_) ?_; rotate_left; (focus ((try dsimp only at hSw); go_simp; with_reducible rfl)); try simp only [Act.put, List.setIfInBounds_toArray, List.set_cons_zero, List.set_cons_succ]) | (refine lexG_skip _ rfl rfl (by assumption) ?_; try simp only [Act.put, List.setIfInBounds_toArray, List.set_cons_zero, List.set_cons_succ]))
      refine lexG_nil ?_
      go_wp2_with fail
      refine (cmust_no _).mono ?_
      rintro e w2 ⟨rfl, rfl⟩
      dsimp only
      go_wp2_with fail
      exact ⟨rfl, rfl, hS1.2.2⟩
    · skip
      rw [← hdl.out]
      refine (hrdx.out (by assumption)).mono ?_
      rintro e w1 ⟨rfl, hb1⟩
      dsimp only
      have hS1 : w1.cell? ⟨r, 0, none⟩ = some (.slice (some ad) m c) ∧ w1.cell? ⟨r, 1, none⟩ = some (.int .i64 (at_ : Int)) ∧ Below w.heap.size w w1 := ⟨(hb1.cell (by show r < _; simpa using hrl)).trans hS.1, (hb1.cell (by show r < _; simpa using hrl)).trans hS.2.1, below_then hb1 hS.2.2⟩
      refine hK _ _ _ (fun _ h => h) hS1 ?_
      clear hK K hS hb1
      try simp only [Act.put, List.setIfInBounds_toArray, List.set_cons_zero, List.set_cons_succ]
      repeat (first | (refine lexG_take _ ?_ rfl rfl rfl rfl (fun _ => ?_) ?_; rotate_left; (focus (go_simp; with_reducible rfl)); try simp only [Act.put, List.setIfInBounds_toArray, List.set_cons_zero, List.set_cons_succ]) | (refine lexG_held _ ?_ rfl rfl rfl rfl (by assumption) (fun _ hSw => ?_) ?_; rotate_left; (focus ((try dsimp only at hSw); go_simp; with_reducible rfl)); try simp only [Act.put, List.setIfInBounds_toArray, List.set_cons_zero, List.set_cons_succ]) | (refine lexG_skip _ rfl rfl (by assumption) ?_; try simp only [Act.put, List.setIfInBounds_toArray, List.set_cons_zero, List.set_cons_succ]))
      refine lexG_nil ?_
      go_wp2_with fail
      refine (cmust_no _).mono ?_
      rintro e w2 ⟨rfl, rfl⟩
      dsimp only
      go_wp2_with fail
      exact ⟨rfl, rfl, hS1.2.2⟩
end Go.Proofs.Ytlkokkbikkbaoaa
