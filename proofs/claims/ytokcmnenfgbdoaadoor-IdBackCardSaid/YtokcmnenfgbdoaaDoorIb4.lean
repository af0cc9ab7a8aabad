/- IdBack: the document's numerals and texts. -/
import Derived.Test.YtokcmnenfgbdoaaDoorIb3
set_option linter.unusedSimpArgs false
set_option linter.unusedVariables false
namespace Go.Proofs.YtokcmnenfgbdoaaDoor
open Go.RowKit Go.Sort Go.Lib
set_option maxRecDepth 100000

theorem decDigits_step {u : Nat} (h : ¬ u < 10) : Lib.decDigits u = Lib.decDigits (u / 10) ++ [UInt8.ofNat (48 + u % 10)] := by rw [Lib.decDigits, dif_neg h]
theorem ten_piece : ∀ u : Nat, u < 10 → (⟨#[48, 49, 50, 51, 52, 53, 54, 55, 56, 57]⟩ : ByteArray).extract u (u + 1) = bstr [UInt8.ofNat (48 + u)] := by decide +kernel
theorem dec_small (u : Nat) (h : u < 10) (w : World) : Calls Tryd.prog 15 #[.int .u64 (u : Int)] w (fun e w' => e = .returned (.string (bstr (Lib.decDigits u))) ∧ w' = w) := by
  have d1 : decide ((u : Int) < 10) = true := decide_eq_true (by omega)
  have hw : IntKind.u64.wrap ((u : Int) + 1) = (u : Int) + 1 := by rw [IntKind.wrap_u64]; omega
  have hp := ten_piece u h
  have hb : (0 : Int) ≤ (u : Int) := by omega
  have hb2 : (u : Int) ≤ (u : Int) + 1 := by omega
  have hb3 : (u : Int) + 1 ≤ 10 := by omega
  have hn : ((u : Int) + 1).toNat = u + 1 := by omega
  go_enter Tryd.func15, Tryd.ntmps15
  go_wp2_with fail
  go_ret
  exact ⟨by rw [Lib.decDigits_one h]; simp, rfl⟩
theorem dec_any (u : Nat) : u < 18446744073709551616 → ∀ w : World, Calls Tryd.prog 15 #[.int .u64 (u : Int)] w (fun e w' => e = .returned (.string (bstr (Lib.decDigits u))) ∧ w' = w) := by
  induction u using Nat.strongRecOn with
  | ind u ih =>
    intro hu w
    by_cases h : u < 10
    · exact dec_small u h w
    · have i1 := ih (u / 10) (by omega) (by omega)
      have i2 := dec_small (u % 10) (by omega)
      obtain ⟨a, ha⟩ : ∃ a, u / 10 = a := ⟨_, rfl⟩
      obtain ⟨b, hb⟩ : ∃ b, u % 10 = b := ⟨_, rfl⟩
      have hst := decDigits_step h
      rw [ha, hb] at hst
      rw [ha] at i1
      rw [hb] at i2
      have d1 : decide ((u : Int) < 10) = false := decide_eq_false (by omega)
      have q1 : Int.tdiv (u : Int) 10 = (a : Int) := by rw [Int.tdiv_eq_ediv_of_nonneg (by omega)]; omega
      have q2 : (u : Int) / 10 = (a : Int) := by omega
      have r1 : Int.tmod (u : Int) 10 = (b : Int) := by rw [Int.tmod_eq_emod_of_nonneg (by omega)]; omega
      have r2 : (u : Int) % 10 = (b : Int) := by omega
      have wa : IntKind.u64.wrap (a : Int) = (a : Int) := by rw [IntKind.wrap_u64]; omega
      have wb : IntKind.u64.wrap (b : Int) = (b : Int) := by rw [IntKind.wrap_u64]; omega
      have hlen : (Lib.decDigits a).length + (Lib.decDigits b).length ≤ 9223372036854775807 := by
        have h1 := dec_size (u := a) (by omega) rfl
        have h2 := dec_size (u := b) (by omega) rfl
        have e1 : (⟨(Lib.decDigits a).toArray⟩ : ByteArray).size = (Lib.decDigits a).length := List.size_toArray
        have e2 : (⟨(Lib.decDigits b).toArray⟩ : ByteArray).size = (Lib.decDigits b).length := List.size_toArray
        omega
      have hadd := fun W => run_bstr_add (P := Tryd.prog) W (Lib.decDigits a) (Lib.decDigits b) hlen
      have hfin : Lib.decDigits u = Lib.decDigits a ++ Lib.decDigits b := by rw [hst, Lib.decDigits_one (by omega : b < 10)]
      replace i1 := Lib.hid (i1 w)
      replace i2 := Lib.hid (i2 w)
      rw [hfin]
      clear hst hfin ih hlen
      go_enter Tryd.func15, Tryd.ntmps15
      go_wp2_with fail
      refine i1.out.mono ?_
      rintro e w1 ⟨rfl, rfl⟩
      dsimp only
      go_wp2_with fail
      refine i2.out.mono ?_
      rintro e w2 ⟨rfl, rfl⟩
      dsimp only
      go_wp2_with fail
      go_ret
      exact ⟨rfl, rfl⟩
set_option maxHeartbeats 3200000 in
theorem idtext_one (c s n : Nat) (hc : c < 4294967296) (hs : s < 4294967296) (hn : 1 ≤ n) (hn' : n < 65536) {C S N : ByteArray} (eC : bstr (Lib.decDigits c) = C) (eS : bstr (Lib.decDigits s) = S) (eN : bstr (Lib.decDigits n) = N) (zC : C.size ≤ 20) (zS : S.size ≤ 20) (zN : N.size ≤ 20) {X : ByteArray} (eX : C ++ ⟨#[45]⟩ ++ S ++ ⟨#[46]⟩ ++ N = X) (w : World) :
    Calls Tryd.prog 7 #[.agg #[.int .u32 c, .int .u32 s, .int .u16 n]] w (fun e w' => e = .returned (.string X) ∧ Below w.heap.size w w') := by
  have l1 : (⟨#[45]⟩ : ByteArray).size = 1 := rfl
  have l2 : (⟨#[46]⟩ : ByteArray).size = 1 := rfl
  have z1 : (C ++ (⟨#[45]⟩ : ByteArray)).size ≤ 21 := by rw [ByteArray.size_append]; omega
  have z2 : (C ++ (⟨#[45]⟩ : ByteArray) ++ S).size ≤ 41 := by rw [ByteArray.size_append]; omega
  have z3 : (C ++ (⟨#[45]⟩ : ByteArray) ++ S ++ (⟨#[46]⟩ : ByteArray)).size ≤ 42 := by rw [ByteArray.size_append]; omega
  have k1 : ∀ W, (Op.stringOp .add C ⟨#[45]⟩).run Tryd.prog W = .ok (.string (C ++ ⟨#[45]⟩)) W := fun W => run_string_add W _ _ (by omega) (by omega)
  have k2 : ∀ W, (Op.stringOp .add (C ++ ⟨#[45]⟩) S).run Tryd.prog W = .ok (.string (C ++ ⟨#[45]⟩ ++ S)) W := fun W => run_string_add W _ _ (by omega) (by omega)
  have k3 : ∀ W, (Op.stringOp .add (C ++ ⟨#[45]⟩ ++ S) ⟨#[46]⟩).run Tryd.prog W = .ok (.string (C ++ ⟨#[45]⟩ ++ S ++ ⟨#[46]⟩)) W := fun W => run_string_add W _ _ (by omega) (by omega)
  have k4 : ∀ W, (Op.stringOp .add (C ++ ⟨#[45]⟩ ++ S ++ ⟨#[46]⟩) N).run Tryd.prog W = .ok (.string X) W := fun W => by rw [← eX]; exact run_string_add W _ _ (by omega) (by omega)
  clear z1 z2 z3 eX l1 l2
  generalize C ++ (⟨#[45]⟩ : ByteArray) = X1 at *
  generalize X1 ++ S = X2 at *
  generalize X2 ++ (⟨#[46]⟩ : ByteArray) = X3 at *
  have wc : IntKind.u64.wrap (c : Int) = c := by rw [IntKind.wrap_u64]; omega
  have ws : IntKind.u64.wrap (s : Int) = s := by rw [IntKind.wrap_u64]; omega
  have wn : IntKind.u64.wrap (n : Int) = n := by rw [IntKind.wrap_u64]; omega
  go_enter Tryd.func7, Tryd.ntmps7
  go_wp2_with fail
  have hb := (Below.refl w.heap.size w).alloc (Nat.le_refl _) (.cells #[.int .u32 c, .int .u32 s, .int .u16 n] 25)
  have hy := Blk.new w 25 #[.int .u32 c, .int .u32 s, .int .u16 n]
  have hz := hy.lt
  have hS : ((w.alloc (.cells #[.int .u32 c, .int .u32 s, .int .u16 n] 25)).drew.cell? ⟨w.heap.size, 0, none⟩ = some (.int .u32 c) ∧ (w.alloc (.cells #[.int .u32 c, .int .u32 s, .int .u16 n] 25)).drew.cell? ⟨w.heap.size, 1, none⟩ = some (.int .u32 s) ∧ (w.alloc (.cells #[.int .u32 c, .int .u32 s, .int .u16 n] 25)).drew.cell? ⟨w.heap.size, 2, none⟩ = some (.int .u16 n)) ∧ Below w.heap.size w (w.alloc (.cells #[.int .u32 c, .int .u32 s, .int .u16 n] 25)).drew ∧ w.heap.size < (w.alloc (.cells #[.int .u32 c, .int .u32 s, .int .u16 n] 25)).drew.heap.size := ⟨⟨hy.cell 0, hy.cell 1, hy.cell 2⟩, hb.drew, hz⟩
  clear hb hy hz
  generalize w.alloc (.cells #[.int .u32 c, .int .u32 s, .int .u16 n] 25) = w2 at *
  refine wp_region_lex (fun W => (W.cell? ⟨w.heap.size, 0, none⟩ = some (.int .u32 c) ∧ W.cell? ⟨w.heap.size, 1, none⟩ = some (.int .u32 s) ∧ W.cell? ⟨w.heap.size, 2, none⟩ = some (.int .u16 n)) ∧ Below w.heap.size w W ∧ w.heap.size < W.heap.size) [1, 6] [3, 8] [0, 1, 2, 5, 6, 7, 3, 4, 8, 9, 10] (by kernel_rfl) rfl (by kernel_rfl) (by kernel_rfl) (fun _ _ d _ _ h => by cases d <;> exact h) ?_
  repeat (first | (refine lexG_take _ ?_ rfl rfl rfl rfl (fun _ => ?_) ?_; rotate_left; (focus (go_simp; with_reducible rfl)); try simp only [Act.put, List.setIfInBounds_toArray, List.set_cons_zero, List.set_cons_succ]) | (refine lexG_held _ ?_ rfl rfl rfl rfl (by assumption) (fun _ hSw => ?_) ?_; rotate_left; (focus ((try dsimp only at hSw); go_simp; with_reducible rfl)); try simp only [Act.put, List.setIfInBounds_toArray, List.set_cons_zero, List.set_cons_succ]) | (refine lexG_skip _ rfl rfl (by assumption) ?_; try simp only [Act.put, List.setIfInBounds_toArray, List.set_cons_zero, List.set_cons_succ]))
  refine lexG_now _ rfl rfl rfl (fun K hK => ?_)
  go_wp2_with fail
  refine (dec_any _ (by omega) _).mono ?_
  rw [eC]
  rintro e w3 ⟨rfl, h3⟩
  subst h3
  have hb3 := Below.refl (World.drew w2).heap.size (World.drew w2)
  dsimp only
  have hS3 := one_below hS hb3
  refine hK _ _ _ (fun _ h => h) hS3 ?_
  clear hK K hS hb3
  try simp only [Act.put, List.setIfInBounds_toArray, List.set_cons_zero, List.set_cons_succ]
  repeat (first | (refine lexG_take _ ?_ rfl rfl rfl rfl (fun _ => ?_) ?_; rotate_left; (focus (go_simp; with_reducible rfl)); try simp only [Act.put, List.setIfInBounds_toArray, List.set_cons_zero, List.set_cons_succ]) | (refine lexG_held _ ?_ rfl rfl rfl rfl (by assumption) (fun _ hSw => ?_) ?_; rotate_left; (focus ((try dsimp only at hSw); go_simp; with_reducible rfl)); try simp only [Act.put, List.setIfInBounds_toArray, List.set_cons_zero, List.set_cons_succ]) | (refine lexG_skip _ rfl rfl (by assumption) ?_; try simp only [Act.put, List.setIfInBounds_toArray, List.set_cons_zero, List.set_cons_succ]))
  refine lexG_now _ rfl rfl rfl (fun K hK => ?_)
  go_wp2_with fail
  refine (dec_any _ (by omega) _).mono ?_
  rw [eS]
  rintro e w4 ⟨rfl, h4⟩
  subst h4
  have hb4 := Below.refl (World.drew w2).heap.size (World.drew w2)
  dsimp only
  have hS4 := one_below hS3 hb4
  refine hK _ _ _ (fun _ h => h) hS4 ?_
  clear hK K hS3 hb4
  try simp only [Act.put, List.setIfInBounds_toArray, List.set_cons_zero, List.set_cons_succ]
  repeat (first | (refine lexG_take _ ?_ rfl rfl rfl rfl (fun _ => ?_) ?_; rotate_left; (focus (go_simp; with_reducible rfl)); try simp only [Act.put, List.setIfInBounds_toArray, List.set_cons_zero, List.set_cons_succ]) | (refine lexG_held _ ?_ rfl rfl rfl rfl (by assumption) (fun _ hSw => ?_) ?_; rotate_left; (focus ((try dsimp only at hSw); go_simp; with_reducible rfl)); try simp only [Act.put, List.setIfInBounds_toArray, List.set_cons_zero, List.set_cons_succ]) | (refine lexG_skip _ rfl rfl (by assumption) ?_; try simp only [Act.put, List.setIfInBounds_toArray, List.set_cons_zero, List.set_cons_succ]))
  refine lexG_nil ?_
  obtain ⟨⟨g0, g1, g2⟩, hb4, hz4⟩ := hS4
  have hni : decide ((n : Int) ≠ 0) = true := decide_eq_true (by omega)
  have hni2 : ((n : Int) != 0) = true := by rw [bne_iff_ne]; omega
  go_wp2_with fail
  refine (dec_any _ (by omega) _).mono ?_
  rw [eN]
  rintro e w5 ⟨rfl, rfl⟩
  dsimp only
  go_wp2_with fail
  go_ret
  exact ⟨rfl, hb4⟩
set_option maxHeartbeats 3200000 in
theorem idtext_zero (c s : Nat) (hc : c < 4294967296) (hs : s < 4294967296) {C S : ByteArray} (eC : bstr (Lib.decDigits c) = C) (eS : bstr (Lib.decDigits s) = S) (zC : C.size ≤ 20) (zS : S.size ≤ 20) {X : ByteArray} (eX : C ++ ⟨#[45]⟩ ++ S = X) (w : World) :
    Calls Tryd.prog 7 #[.agg #[.int .u32 c, .int .u32 s, .int .u16 0]] w (fun e w' => e = .returned (.string X) ∧ Below w.heap.size w w') := by
  have l1 : (⟨#[45]⟩ : ByteArray).size = 1 := rfl
  have z1 : (C ++ (⟨#[45]⟩ : ByteArray)).size ≤ 21 := by rw [ByteArray.size_append]; omega
  have z2 : (C ++ (⟨#[45]⟩ : ByteArray) ++ S).size ≤ 41 := by rw [ByteArray.size_append]; omega
  have k1 : ∀ W, (Op.stringOp .add C ⟨#[45]⟩).run Tryd.prog W = .ok (.string (C ++ ⟨#[45]⟩)) W := fun W => run_string_add W _ _ (by omega) (by omega)
  have k2 : ∀ W, (Op.stringOp .add (C ++ ⟨#[45]⟩) S).run Tryd.prog W = .ok (.string X) W := fun W => by rw [← eX]; exact run_string_add W _ _ (by omega) (by omega)
  clear z1 z2 eX l1
  generalize C ++ (⟨#[45]⟩ : ByteArray) = X1 at *
  have wc : IntKind.u64.wrap (c : Int) = c := by rw [IntKind.wrap_u64]; omega
  have ws : IntKind.u64.wrap (s : Int) = s := by rw [IntKind.wrap_u64]; omega
  go_enter Tryd.func7, Tryd.ntmps7
  go_wp2_with fail
  have hb := (Below.refl w.heap.size w).alloc (Nat.le_refl _) (.cells #[.int .u32 c, .int .u32 s, .int .u16 0] 25)
  have hy := Blk.new w 25 #[.int .u32 c, .int .u32 s, .int .u16 0]
  have hz := hy.lt
  have hS : ((w.alloc (.cells #[.int .u32 c, .int .u32 s, .int .u16 0] 25)).drew.cell? ⟨w.heap.size, 0, none⟩ = some (.int .u32 c) ∧ (w.alloc (.cells #[.int .u32 c, .int .u32 s, .int .u16 0] 25)).drew.cell? ⟨w.heap.size, 1, none⟩ = some (.int .u32 s) ∧ (w.alloc (.cells #[.int .u32 c, .int .u32 s, .int .u16 0] 25)).drew.cell? ⟨w.heap.size, 2, none⟩ = some (.int .u16 0)) ∧ Below w.heap.size w (w.alloc (.cells #[.int .u32 c, .int .u32 s, .int .u16 0] 25)).drew ∧ w.heap.size < (w.alloc (.cells #[.int .u32 c, .int .u32 s, .int .u16 0] 25)).drew.heap.size := ⟨⟨hy.cell 0, hy.cell 1, hy.cell 2⟩, hb.drew, hz⟩
  clear hb hy hz
  generalize w.alloc (.cells #[.int .u32 c, .int .u32 s, .int .u16 0] 25) = w2 at *
  refine wp_region_lex (fun W => (W.cell? ⟨w.heap.size, 0, none⟩ = some (.int .u32 c) ∧ W.cell? ⟨w.heap.size, 1, none⟩ = some (.int .u32 s) ∧ W.cell? ⟨w.heap.size, 2, none⟩ = some (.int .u16 0)) ∧ Below w.heap.size w W ∧ w.heap.size < W.heap.size) [1, 6] [3, 8] [0, 1, 2, 5, 6, 7, 3, 4, 8, 9, 10] (by kernel_rfl) rfl (by kernel_rfl) (by kernel_rfl) (fun _ _ d _ _ h => by cases d <;> exact h) ?_
  repeat (first | (refine lexG_take _ ?_ rfl rfl rfl rfl (fun _ => ?_) ?_; rotate_left; (focus (go_simp; with_reducible rfl)); try simp only [Act.put, List.setIfInBounds_toArray, List.set_cons_zero, List.set_cons_succ]) | (refine lexG_held _ ?_ rfl rfl rfl rfl (by assumption) (fun _ hSw => ?_) ?_; rotate_left; (focus ((try dsimp only at hSw); go_simp; with_reducible rfl)); try simp only [Act.put, List.setIfInBounds_toArray, List.set_cons_zero, List.set_cons_succ]) | (refine lexG_skip _ rfl rfl (by assumption) ?_; try simp only [Act.put, List.setIfInBounds_toArray, List.set_cons_zero, List.set_cons_succ]))
  refine lexG_now _ rfl rfl rfl (fun K hK => ?_)
  go_wp2_with fail
  refine (dec_any _ (by omega) _).mono ?_
  rw [eC]
  rintro e w3 ⟨rfl, h3⟩
  subst h3
  have hb3 := Below.refl (World.drew w2).heap.size (World.drew w2)
  dsimp only
  have hS3 := one_below hS hb3
  refine hK _ _ _ (fun _ h => h) hS3 ?_
  clear hK K hS hb3
  try simp only [Act.put, List.setIfInBounds_toArray, List.set_cons_zero, List.set_cons_succ]
  repeat (first | (refine lexG_take _ ?_ rfl rfl rfl rfl (fun _ => ?_) ?_; rotate_left; (focus (go_simp; with_reducible rfl)); try simp only [Act.put, List.setIfInBounds_toArray, List.set_cons_zero, List.set_cons_succ]) | (refine lexG_held _ ?_ rfl rfl rfl rfl (by assumption) (fun _ hSw => ?_) ?_; rotate_left; (focus ((try dsimp only at hSw); go_simp; with_reducible rfl)); try simp only [Act.put, List.setIfInBounds_toArray, List.set_cons_zero, List.set_cons_succ]) | (refine lexG_skip _ rfl rfl (by assumption) ?_; try simp only [Act.put, List.setIfInBounds_toArray, List.set_cons_zero, List.set_cons_succ]))
  refine lexG_now _ rfl rfl rfl (fun K hK => ?_)
  go_wp2_with fail
  refine (dec_any _ (by omega) _).mono ?_
  rw [eS]
  rintro e w4 ⟨rfl, h4⟩
  subst h4
  have hb4 := Below.refl (World.drew w2).heap.size (World.drew w2)
  dsimp only
  have hS4 := one_below hS3 hb4
  refine hK _ _ _ (fun _ h => h) hS4 ?_
  clear hK K hS3 hb4
  try simp only [Act.put, List.setIfInBounds_toArray, List.set_cons_zero, List.set_cons_succ]
  repeat (first | (refine lexG_take _ ?_ rfl rfl rfl rfl (fun _ => ?_) ?_; rotate_left; (focus (go_simp; with_reducible rfl)); try simp only [Act.put, List.setIfInBounds_toArray, List.set_cons_zero, List.set_cons_succ]) | (refine lexG_held _ ?_ rfl rfl rfl rfl (by assumption) (fun _ hSw => ?_) ?_; rotate_left; (focus ((try dsimp only at hSw); go_simp; with_reducible rfl)); try simp only [Act.put, List.setIfInBounds_toArray, List.set_cons_zero, List.set_cons_succ]) | (refine lexG_skip _ rfl rfl (by assumption) ?_; try simp only [Act.put, List.setIfInBounds_toArray, List.set_cons_zero, List.set_cons_succ]))
  refine lexG_nil ?_
  obtain ⟨⟨g0, g1, g2⟩, hb4, hz4⟩ := hS4
  go_wp2_with fail
  go_ret
  exact ⟨rfl, hb4⟩
theorem idtext_any (c s n : Nat) (hc : c < 4294967296) (hs : s < 4294967296) (hn : n < 65536) (w : World) : Calls Tryd.prog 7 #[.agg #[.int .u32 c, .int .u32 s, .int .u16 n]] w (fun e w' => e = .returned (.string (bstr (textL c s n))) ∧ Below w.heap.size w w') := by
  by_cases h0 : n = 0
  · subst h0
    refine idtext_zero c s hc hs rfl rfl (dec_size (by omega) rfl) (dec_size (by omega) rfl) (X := bstr (textL c s 0)) ?_ w
    show bstr _ ++ bstr _ ++ bstr _ = bstr _
    rw [bstr_append, bstr_append]
    simp [textL]
  · refine idtext_one c s n hc hs (by omega) hn rfl rfl rfl (dec_size (by omega) rfl) (dec_size (by omega) rfl) (dec_size (by omega) rfl) (X := bstr (textL c s n)) ?_ w
    show bstr _ ++ bstr _ ++ bstr _ ++ bstr _ ++ bstr _ = bstr _
    rw [bstr_append, bstr_append, bstr_append, bstr_append]
    simp [textL, h0]
end Go.Proofs.YtokcmnenfgbdoaaDoor
