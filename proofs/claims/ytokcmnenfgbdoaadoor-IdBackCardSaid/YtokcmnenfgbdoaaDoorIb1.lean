/- IdBack: the laid variables; the digits of any number. -/
import Derived.Test.YtokcmnenfgbdoaaDoorIdKnown
import Derived.Lib.ItoaMem
import Derived.Shelf.Strconv.Itoa3
set_option linter.unusedSimpArgs false
set_option linter.unusedVariables false
namespace Go.Proofs.YtokcmnenfgbdoaaDoor
open Go.RowKit Go.Sort Go.Lib
set_option maxRecDepth 100000

/-- The package variables that the statement lists, as this proof uses them. -/
structure LaidW (w : World) : Prop where
  tab : Lib.TabIs Tryd.prog w "internal/strconv.uint64pow10" .u64 Lib.pow10Tab
  syn : ∃ tp p, w.var? Tryd.prog "strconv.ErrSyntax" = some #[.iface tp p]
  rng : ∃ tp p, w.var? Tryd.prog "strconv.ErrRange" = some #[.iface tp p]
theorem g_tab : Tryd.prog.globalNamed "internal/strconv.uint64pow10" = some 1 := by kernel_rfl
theorem g_syn : Tryd.prog.globalNamed "strconv.ErrSyntax" = some 2 := by kernel_rfl
theorem g_rng : Tryd.prog.globalNamed "strconv.ErrRange" = some 3 := by kernel_rfl
theorem var_next {P : Program} {n : String} {g : Nat} {cs : Array Value} {w w' : World} (hg : P.globalNamed n = some g) (h : w.var? P n = some cs) (hb : Below w.heap.size w w') : w'.var? P n = some cs := by
  unfold World.var? at h ⊢
  rw [hg] at h ⊢
  simp only [Option.bind_some] at h ⊢
  have hlt : g < w.heap.size := by
    rcases Nat.lt_or_ge g w.heap.size with h' | h'
    · exact h'
    · rw [Array.getElem?_eq_none h'] at h; cases h
  rw [hb.block g hlt]
  exact h
theorem LaidW.next {w w' : World} (h : LaidW w) (hb : Below w.heap.size w w') : LaidW w' := by
  obtain ⟨h1, ⟨a, b, h2⟩, c, d, h3⟩ := h
  exact ⟨var_next g_tab h1 hb, ⟨a, b, var_next g_syn h2 hb⟩, c, d, var_next g_rng h3 hb⟩
theorem holds_zero0 (w : World) (T : TypeId) (nd : Nat) (hs : nd ≤ 24) : Holds (fun (b : UInt8) => Value.int .u8 (b.toNat : Int)) (w.alloc (.cells zeros24 T)) w.heap.size 0 (Array.replicate nd (0 : UInt8)) := fun j hj => by
  rw [Array.size_replicate] at hj
  rw [World.cell?_alloc_new, show 0 + j = j by omega, zeros24_at j (by omega)]
  simp [hj]
theorem fin_pos0 (w : World) (o : Obj) (dk : Array UInt8) (k : Nat) : Below w.heap.size w ((putRow (fun (b : UInt8) => Value.int .u8 (b.toNat : Int)) (w.alloc o) w.heap.size 0 dk).drewN k) := by
  obtain ⟨os, e⟩ : ∃ os, (putRow (fun (b : UInt8) => Value.int .u8 (b.toNat : Int)) (w.alloc o) w.heap.size 0 dk).drewN k = grow (w.drewN k) os := by
    rw [alloc_eq_grow]
    obtain ⟨os', _, e⟩ := putRow_grow_new (fun (b : UInt8) => Value.int .u8 (b.toNat : Int)) w #[o] w.heap.size 0 dk (Nat.le_refl _)
    exact ⟨os', by rw [e]; rfl⟩
  rw [e]
  exact ⟨rfl, rfl, rfl, by simp [grow, World.drewN], fun j hj => by simp [grow, World.drewN, Array.getElem?_append, hj]⟩
set_option maxHeartbeats 3200000 in
theorem digits_any (u : Nat) (hu64 : u < 18446744073709551616) (w : World) (hL : LaidW w) : Calls Tryd.prog 25 #[.int .u64 (u : Int), .int .i64 10] w fun e w' => e = .returned (.string ⟨(Lib.decDigits u).toArray⟩) ∧ Below w.heap.size w w' := by
  by_cases hs : u < 100
  · go_enter Tryd.func25, Tryd.ntmps25
    have hw : IntKind.i64.wrap (u : Int) = (u : Int) := by
      rw [IntKind.wrap_i64]
      omega
    have hd : decide ((u : Int) < 100) = true := decide_eq_true (by omega)
    go_wp2_with fail
    refine (Tryd.internal_strconv_small u hs _).mono ?_
    rintro e w' ⟨rfl, rfl⟩
    dsimp only
    go_wp2_with fail
    go_ret
    exact ⟨rfl, Below.refl _ _⟩
  · have hu1 : 1 ≤ u := by omega
    have hd : decide ((u : Int) < 100) = false := decide_eq_false (by omega)
    have hnd20 : Lib.nDigits u ≤ 20 := by have := Lib.numDigits_eq u hu1 hu64; split at this <;> omega
    have hal : Tryd.prog.arrayLen 58 = 24 := by kernel_rfl
    have hsl : ∀ W, (Instr.sliceAt 58 (.pointer (some ⟨w.heap.size, 0, none⟩)) none (some (.int .i64 (Lib.nDigits u : Int))) none).run Tryd.prog W = .ok (.slice (some ⟨w.heap.size, 0, none⟩) (Lib.nDigits u) 24) W := fun W => by
      rw [run_sliceAt_array_h W 58 ⟨w.heap.size, 0, none⟩ (by kernel_rfl) .i64 (Lib.nDigits u : Int) (by omega) (by rw [hal]; omega)]
      go_simp
      try omega
    have hH0 := holds_zero0 w 58 (Lib.nDigits u) (by omega)
    have hnd := fun W (h : LaidW W) => Tryd.internal_strconv_numDigits u hu1 hu64 W h.tab
    have hfmt := Tryd.internal_strconv_formatBase10 w.heap.size 0 24 u (Array.replicate (Lib.nDigits u) 0) (w.alloc (.cells Lib.zeros24 58)) hH0 (by rw [Array.size_replicate]; exact Lib.lt_pow_nDigits u) hu64 (by rw [Array.size_replicate]; omega)
    rw [Array.size_replicate] at hfmt
    have hL1 := hL.next ((Below.refl w.heap.size w).alloc (Nat.le_refl _) (.cells Lib.zeros24 58))
    have hndd := hnd _ hL1
    replace hndd := Lib.hid hndd
    replace hfmt := Lib.hid hfmt
    have HH0 := Lib.hid hH0
    clear hH0 hal hnd hL1
    go_enter Tryd.func25, Tryd.ntmps25
    go_wp2_with fail
    refine hndd.out.mono ?_
    rintro e w' ⟨rfl, rfl⟩
    dsimp only
    go_wp2_with fail
    refine hfmt.out.mono ?_
    rintro e w' ⟨rfl, k, v', dk, rfl, hF⟩
    dsimp only
    have hcv : (convert 30 9 (.slice (some ⟨w.heap.size, 0, none⟩) (Lib.nDigits u) 24)).run Tryd.prog ((putRow (fun (b : UInt8) => Value.int .u8 (b.toNat : Int)) (w.alloc (.cells Lib.zeros24 58)) w.heap.size 0 dk).drewN k) = .ok (.string ⟨(Lib.decDigits u).toArray⟩) ((putRow (fun (b : UInt8) => Value.int .u8 (b.toNat : Int)) (w.alloc (.cells Lib.zeros24 58)) w.heap.size 0 dk).drewN k) := by
      have h := run_convert_bytes_back (P := Tryd.prog) ((putRow (fun (b : UInt8) => Value.int .u8 (b.toNat : Int)) (w.alloc (.cells Lib.zeros24 58)) w.heap.size 0 dk).drewN k) 30 9 5 ⟨w.heap.size, 0, none⟩ 24 (Lib.decDigits u) Tryd.underlying30 Tryd.underlying5 Tryd.underlying9 (fun j hj => by
        rw [Lib.row_is_numeral hF j hj, Lib.add_plain, World.cell?_drewN]
        exact cell?_putRow (fun (b : UInt8) => Value.int .u8 (b.toNat : Int)) _ w.heap.size 0 _ dk HH0.out (by rw [hF.size, Array.size_replicate]) j (by rw [hF.size]; rw [Lib.decDigits_length] at hj; exact hj))
      rw [Lib.decDigits_length] at h
      exact h
    have hb := fin_pos0 w (.cells Lib.zeros24 58) dk k
    go_wp2_with fail
    go_ret
    exact ⟨rfl, hb⟩
theorem digits_w (i : Nat) (h : i < 18446744073709551616) (w : World) (hL : LaidW w) : Calls Tryd.prog 12 #[.int .u64 i] w fun e w' => e = .returned (.string ⟨(Lib.decDigits i).toArray⟩) ∧ Below w.heap.size w w' := by
  have hin := digits_any i h w hL
  replace hin := Lib.hid hin
  clear hL
  go_enter Tryd.func12, Tryd.ntmps12
  go_wp2_with fail
  refine Calls.mono (R := fun e w' => e = .returned (.string ⟨(Lib.decDigits i).toArray⟩) ∧ Below w.heap.size w w') (h := ?_) (hr := ?_)
  · go_enter Tryd.func20, Tryd.ntmps20
    go_wp2_with fail
    refine hin.out.mono ?_
    rintro e w' ⟨rfl, hb⟩
    dsimp only
    go_wp2_with fail
    go_ret
    exact ⟨rfl, hb⟩
  · rintro e w' ⟨rfl, hb⟩
    dsimp only
    go_wp2_with fail
    go_ret
    exact ⟨rfl, hb⟩
theorem dec_size {u : Nat} (hu64 : u < 18446744073709551616) {D : ByteArray} (e : ⟨(Lib.decDigits u).toArray⟩ = D) : D.size ≤ 20 := by
  subst e
  show (Lib.decDigits u).toArray.size ≤ 20
  rw [List.size_toArray, Lib.decDigits_length]
  by_cases h : u = 0
  · subst h; decide +kernel
  · have := Lib.numDigits_eq u (by omega) hu64; split at this <;> omega
set_option maxHeartbeats 3200000 in
theorem text_one (c s n : Nat) (hc : c < 4294967296) (hs : s < 4294967296) (hn : 1 ≤ n) (hn' : n < 65536) {C S N : ByteArray} (eC : ⟨(Lib.decDigits c).toArray⟩ = C) (eS : ⟨(Lib.decDigits s).toArray⟩ = S) (eN : ⟨(Lib.decDigits n).toArray⟩ = N) (zC : C.size ≤ 20) (zS : S.size ≤ 20) (zN : N.size ≤ 20) {X : ByteArray} (eX : C ++ ⟨#[45]⟩ ++ S ++ (⟨#[46]⟩ ++ N) = X) (w : World) (hL : LaidW w) :
    Calls Tryd.prog 5 #[.agg #[.int .u32 c, .int .u32 s, .int .u16 n]] w (fun e w' => e = .returned (.string X) ∧ Below w.heap.size w w') := by
  have l1 : (⟨#[45]⟩ : ByteArray).size = 1 := rfl
  have l2 : (⟨#[46]⟩ : ByteArray).size = 1 := rfl
  have z1 : (C ++ (⟨#[45]⟩ : ByteArray)).size ≤ 21 := by rw [ByteArray.size_append]; omega
  have z2 : (C ++ (⟨#[45]⟩ : ByteArray) ++ S).size ≤ 41 := by rw [ByteArray.size_append]; omega
  have z3 : ((⟨#[46]⟩ : ByteArray) ++ N).size ≤ 21 := by rw [ByteArray.size_append]; omega
  have k1 : ∀ W, (Op.stringOp .add C ⟨#[45]⟩).run Tryd.prog W = .ok (.string (C ++ ⟨#[45]⟩)) W := fun W => run_string_add W _ _ (by omega) (by omega)
  have k2 : ∀ W, (Op.stringOp .add (C ++ ⟨#[45]⟩) S).run Tryd.prog W = .ok (.string (C ++ ⟨#[45]⟩ ++ S)) W := fun W => run_string_add W _ _ (by omega) (by omega)
  have k3 : ∀ W, (Op.stringOp .add ⟨#[46]⟩ N).run Tryd.prog W = .ok (.string (⟨#[46]⟩ ++ N)) W := fun W => run_string_add W _ _ (by omega) (by omega)
  have k4 : ∀ W, (Op.stringOp .add (C ++ ⟨#[45]⟩ ++ S) (⟨#[46]⟩ ++ N)).run Tryd.prog W = .ok (.string X) W := fun W => by rw [← eX]; exact run_string_add W _ _ (by omega) (by omega)
  clear z1 z2 z3 eX l1 l2
  generalize C ++ (⟨#[45]⟩ : ByteArray) = X1 at *
  generalize X1 ++ S = X2 at *
  generalize (⟨#[46]⟩ : ByteArray) ++ N = X3 at *
  have wc : IntKind.u64.wrap (c : Int) = c := by rw [IntKind.wrap_u64]; omega
  have ws : IntKind.u64.wrap (s : Int) = s := by rw [IntKind.wrap_u64]; omega
  have wn : IntKind.u64.wrap (n : Int) = n := by rw [IntKind.wrap_u64]; omega
  go_enter Tryd.func5, Tryd.ntmps5
  go_wp2_with fail
  have hb := (Below.refl w.heap.size w).alloc (Nat.le_refl _) (.cells #[.int .u32 c, .int .u32 s, .int .u16 n] 25)
  have hy := Blk.new w 25 #[.int .u32 c, .int .u32 s, .int .u16 n]
  have hz := hy.lt
  have hS : ((w.alloc (.cells #[.int .u32 c, .int .u32 s, .int .u16 n] 25)).drew.cell? ⟨w.heap.size, 0, none⟩ = some (.int .u32 c) ∧ (w.alloc (.cells #[.int .u32 c, .int .u32 s, .int .u16 n] 25)).drew.cell? ⟨w.heap.size, 1, none⟩ = some (.int .u32 s) ∧ (w.alloc (.cells #[.int .u32 c, .int .u32 s, .int .u16 n] 25)).drew.cell? ⟨w.heap.size, 2, none⟩ = some (.int .u16 n)) ∧ Below w.heap.size w (w.alloc (.cells #[.int .u32 c, .int .u32 s, .int .u16 n] 25)).drew ∧ w.heap.size < (w.alloc (.cells #[.int .u32 c, .int .u32 s, .int .u16 n] 25)).drew.heap.size := ⟨⟨hy.cell 0, hy.cell 1, hy.cell 2⟩, hb.drew, hz⟩
  clear hb hy hz
  generalize w.alloc (.cells #[.int .u32 c, .int .u32 s, .int .u16 n] 25) = w2 at *
  refine wp_region_lex (fun W => (W.cell? ⟨w.heap.size, 0, none⟩ = some (.int .u32 c) ∧ W.cell? ⟨w.heap.size, 1, none⟩ = some (.int .u32 s) ∧ W.cell? ⟨w.heap.size, 2, none⟩ = some (.int .u16 n)) ∧ Below w.heap.size w W ∧ w.heap.size < W.heap.size) [1, 6] [3, 8] [0, 1, 2, 5, 6, 7, 3, 4, 8, 9, 10] (by kernel_rfl) rfl (by kernel_rfl) (by kernel_rfl) (fun _ _ d _ _ h => by cases d <;> exact h) ?_
  repeat (first | (refine lexG_take _ ?_ rfl rfl rfl rfl (fun _ => ?_) ?_; rotate_left; (focus (go_simp; with_reducible rfl)); try simp only [Act.put, List.setIfInBounds_toArray, List.set_cons_zero, List.set_cons_succ]) | (refine lexG_held _ ?_ rfl rfl rfl rfl (by assumption) (fun _ hSw => ?_) ?_; rotate_left; (focus ((try dsimp only at hSw); go_simp; with_reducible rfl)); try simp only [Act.put, List.setIfInBounds_toArray, List.set_cons_zero, List.set_cons_succ]) | (refine lexG_skip _ rfl rfl (by assumption) ?_; try simp only [Act.put, List.setIfInBounds_toArray, List.set_cons_zero, List.set_cons_succ]))
  refine lexG_now _ rfl rfl rfl (fun K hK => ?_)
  go_wp2_with fail
  refine (digits_w _ (by omega) _ (hL.next hS.2.1)).mono ?_
  rw [eC]
  rintro e w3 ⟨rfl, hb3⟩
  dsimp only
  have hS3 := one_below hS hb3
  refine hK _ _ _ (fun _ h => h) hS3 ?_
  clear hK K hS hb3
  try simp only [Act.put, List.setIfInBounds_toArray, List.set_cons_zero, List.set_cons_succ]
  repeat (first | (refine lexG_take _ ?_ rfl rfl rfl rfl (fun _ => ?_) ?_; rotate_left; (focus (go_simp; with_reducible rfl)); try simp only [Act.put, List.setIfInBounds_toArray, List.set_cons_zero, List.set_cons_succ]) | (refine lexG_held _ ?_ rfl rfl rfl rfl (by assumption) (fun _ hSw => ?_) ?_; rotate_left; (focus ((try dsimp only at hSw); go_simp; with_reducible rfl)); try simp only [Act.put, List.setIfInBounds_toArray, List.set_cons_zero, List.set_cons_succ]) | (refine lexG_skip _ rfl rfl (by assumption) ?_; try simp only [Act.put, List.setIfInBounds_toArray, List.set_cons_zero, List.set_cons_succ]))
  refine lexG_now _ rfl rfl rfl (fun K hK => ?_)
  go_wp2_with fail
  refine (digits_w _ (by omega) _ (hL.next hS3.2.1)).mono ?_
  rw [eS]
  rintro e w4 ⟨rfl, hb4⟩
  dsimp only
  have hS4 := one_below hS3 hb4
  refine hK _ _ _ (fun _ h => h) hS4 ?_
  clear hK K hS3 hb4
  try simp only [Act.put, List.setIfInBounds_toArray, List.set_cons_zero, List.set_cons_succ]
  repeat (first | (refine lexG_take _ ?_ rfl rfl rfl rfl (fun _ => ?_) ?_; rotate_left; (focus (go_simp; with_reducible rfl)); try simp only [Act.put, List.setIfInBounds_toArray, List.set_cons_zero, List.set_cons_succ]) | (refine lexG_held _ ?_ rfl rfl rfl rfl (by assumption) (fun _ hSw => ?_) ?_; rotate_left; (focus ((try dsimp only at hSw); go_simp; with_reducible rfl)); try simp only [Act.put, List.setIfInBounds_toArray, List.set_cons_zero, List.set_cons_succ]) | (refine lexG_skip _ rfl rfl (by assumption) ?_; try simp only [Act.put, List.setIfInBounds_toArray, List.set_cons_zero, List.set_cons_succ]))
  refine lexG_nil ?_
  obtain ⟨⟨g0, g1, g2⟩, hb4, hz4⟩ := hS4
  have hni : ((n : Int) == 0) = false := beq_eq_false_iff_ne.2 (by omega)
  go_wp2_with fail
  refine (digits_w _ (by omega) _ (hL.next hb4)).mono ?_
  rw [eN]
  rintro e w5 ⟨rfl, hb5⟩
  dsimp only
  go_wp2_with fail
  go_ret
  exact ⟨rfl, hb4.trans (hb5.mono (by omega))⟩
set_option maxHeartbeats 3200000 in
theorem text_zero (c s : Nat) (hc : c < 4294967296) (hs : s < 4294967296) {C S : ByteArray} (eC : ⟨(Lib.decDigits c).toArray⟩ = C) (eS : ⟨(Lib.decDigits s).toArray⟩ = S) (zC : C.size ≤ 20) (zS : S.size ≤ 20) {X : ByteArray} (eX : C ++ ⟨#[45]⟩ ++ S = X) (w : World) (hL : LaidW w) :
    Calls Tryd.prog 5 #[.agg #[.int .u32 c, .int .u32 s, .int .u16 0]] w (fun e w' => e = .returned (.string X) ∧ Below w.heap.size w w') := by
  have l1 : (⟨#[45]⟩ : ByteArray).size = 1 := rfl
  have z1 : (C ++ (⟨#[45]⟩ : ByteArray)).size ≤ 21 := by rw [ByteArray.size_append]; omega
  have z2 : (C ++ (⟨#[45]⟩ : ByteArray) ++ S).size ≤ 41 := by rw [ByteArray.size_append]; omega
  have k1 : ∀ W, (Op.stringOp .add C ⟨#[45]⟩).run Tryd.prog W = .ok (.string (C ++ ⟨#[45]⟩)) W := fun W => run_string_add W _ _ (by omega) (by omega)
  have k2 : ∀ W, (Op.stringOp .add (C ++ ⟨#[45]⟩) S).run Tryd.prog W = .ok (.string X) W := fun W => by rw [← eX]; exact run_string_add W _ _ (by omega) (by omega)
  clear z1 z2 eX l1
  generalize C ++ (⟨#[45]⟩ : ByteArray) = X1 at *
  have wc : IntKind.u64.wrap (c : Int) = c := by rw [IntKind.wrap_u64]; omega
  have ws : IntKind.u64.wrap (s : Int) = s := by rw [IntKind.wrap_u64]; omega
  go_enter Tryd.func5, Tryd.ntmps5
  go_wp2_with fail
  have hb := (Below.refl w.heap.size w).alloc (Nat.le_refl _) (.cells #[.int .u32 c, .int .u32 s, .int .u16 0] 25)
  have hy := Blk.new w 25 #[.int .u32 c, .int .u32 s, .int .u16 0]
  have hz := hy.lt
  have hS : ((w.alloc (.cells #[.int .u32 c, .int .u32 s, .int .u16 0] 25)).drew.cell? ⟨w.heap.size, 0, none⟩ = some (.int .u32 c) ∧ (w.alloc (.cells #[.int .u32 c, .int .u32 s, .int .u16 0] 25)).drew.cell? ⟨w.heap.size, 1, none⟩ = some (.int .u32 s) ∧ (w.alloc (.cells #[.int .u32 c, .int .u32 s, .int .u16 0] 25)).drew.cell? ⟨w.heap.size, 2, none⟩ = some (.int .u16 0)) ∧ Below w.heap.size w (w.alloc (.cells #[.int .u32 c, .int .u32 s, .int .u16 0] 25)).drew ∧ w.heap.size < (w.alloc (.cells #[.int .u32 c, .int .u32 s, .int .u16 0] 25)).drew.heap.size := ⟨⟨hy.cell 0, hy.cell 1, hy.cell 2⟩, hb.drew, hz⟩
  clear hb hy hz
  generalize w.alloc (.cells #[.int .u32 c, .int .u32 s, .int .u16 0] 25) = w2 at *
  refine wp_region_lex (fun W => (W.cell? ⟨w.heap.size, 0, none⟩ = some (.int .u32 c) ∧ W.cell? ⟨w.heap.size, 1, none⟩ = some (.int .u32 s) ∧ W.cell? ⟨w.heap.size, 2, none⟩ = some (.int .u16 0)) ∧ Below w.heap.size w W ∧ w.heap.size < W.heap.size) [1, 6] [3, 8] [0, 1, 2, 5, 6, 7, 3, 4, 8, 9, 10] (by kernel_rfl) rfl (by kernel_rfl) (by kernel_rfl) (fun _ _ d _ _ h => by cases d <;> exact h) ?_
  repeat (first | (refine lexG_take _ ?_ rfl rfl rfl rfl (fun _ => ?_) ?_; rotate_left; (focus (go_simp; with_reducible rfl)); try simp only [Act.put, List.setIfInBounds_toArray, List.set_cons_zero, List.set_cons_succ]) | (refine lexG_held _ ?_ rfl rfl rfl rfl (by assumption) (fun _ hSw => ?_) ?_; rotate_left; (focus ((try dsimp only at hSw); go_simp; with_reducible rfl)); try simp only [Act.put, List.setIfInBounds_toArray, List.set_cons_zero, List.set_cons_succ]) | (refine lexG_skip _ rfl rfl (by assumption) ?_; try simp only [Act.put, List.setIfInBounds_toArray, List.set_cons_zero, List.set_cons_succ]))
  refine lexG_now _ rfl rfl rfl (fun K hK => ?_)
  go_wp2_with fail
  refine (digits_w _ (by omega) _ (hL.next hS.2.1)).mono ?_
  rw [eC]
  rintro e w3 ⟨rfl, hb3⟩
  dsimp only
  have hS3 := one_below hS hb3
  refine hK _ _ _ (fun _ h => h) hS3 ?_
  clear hK K hS hb3
  try simp only [Act.put, List.setIfInBounds_toArray, List.set_cons_zero, List.set_cons_succ]
  repeat (first | (refine lexG_take _ ?_ rfl rfl rfl rfl (fun _ => ?_) ?_; rotate_left; (focus (go_simp; with_reducible rfl)); try simp only [Act.put, List.setIfInBounds_toArray, List.set_cons_zero, List.set_cons_succ]) | (refine lexG_held _ ?_ rfl rfl rfl rfl (by assumption) (fun _ hSw => ?_) ?_; rotate_left; (focus ((try dsimp only at hSw); go_simp; with_reducible rfl)); try simp only [Act.put, List.setIfInBounds_toArray, List.set_cons_zero, List.set_cons_succ]) | (refine lexG_skip _ rfl rfl (by assumption) ?_; try simp only [Act.put, List.setIfInBounds_toArray, List.set_cons_zero, List.set_cons_succ]))
  refine lexG_now _ rfl rfl rfl (fun K hK => ?_)
  go_wp2_with fail
  refine (digits_w _ (by omega) _ (hL.next hS3.2.1)).mono ?_
  rw [eS]
  rintro e w4 ⟨rfl, hb4⟩
  dsimp only
  have hS4 := one_below hS3 hb4
  refine hK _ _ _ (fun _ h => h) hS4 ?_
  clear hK K hS3 hb4
  try simp only [Act.put, List.setIfInBounds_toArray, List.set_cons_zero, List.set_cons_succ]
  repeat (first | (refine lexG_take _ ?_ rfl rfl rfl rfl (fun _ => ?_) ?_; rotate_left; (focus (go_simp; with_reducible rfl)); try simp only [Act.put, List.setIfInBounds_toArray, List.set_cons_zero, List.set_cons_succ]) | (refine lexG_held _ ?_ rfl rfl rfl rfl (by assumption) (fun _ hSw => ?_) ?_; rotate_left; (focus ((try dsimp only at hSw); go_simp; with_reducible rfl)); try simp only [Act.put, List.setIfInBounds_toArray, List.set_cons_zero, List.set_cons_succ]) | (refine lexG_skip _ rfl rfl (by assumption) ?_; try simp only [Act.put, List.setIfInBounds_toArray, List.set_cons_zero, List.set_cons_succ]))
  refine lexG_nil ?_
  obtain ⟨⟨g0, g1, g2⟩, hb4, hz4⟩ := hS4
  go_wp2_with fail
  go_ret
  exact ⟨rfl, hb4⟩
def textL (c s n : Nat) : List UInt8 := Lib.decDigits c ++ 45 :: Lib.decDigits s ++ (if n = 0 then [] else 46 :: Lib.decDigits n)
theorem text_any (c s n : Nat) (hc : c < 4294967296) (hs : s < 4294967296) (hn : n < 65536) (w : World) (hL : LaidW w) : Calls Tryd.prog 5 #[.agg #[.int .u32 c, .int .u32 s, .int .u16 n]] w (fun e w' => e = .returned (.string (bstr (textL c s n))) ∧ Below w.heap.size w w') := by
  by_cases h0 : n = 0
  · subst h0
    refine text_zero c s hc hs rfl rfl (dec_size (by omega) rfl) (dec_size (by omega) rfl) (X := bstr (textL c s 0)) ?_ w hL
    show bstr _ ++ bstr _ ++ bstr _ = bstr _
    rw [bstr_append, bstr_append]
    simp [textL]
  · refine text_one c s n hc hs (by omega) hn rfl rfl rfl (dec_size (by omega) rfl) (dec_size (by omega) rfl) (dec_size (by omega) rfl) (X := bstr (textL c s n)) ?_ w hL
    show bstr _ ++ bstr _ ++ bstr _ ++ (bstr _ ++ bstr _) = bstr _
    rw [bstr_append, bstr_append, bstr_append, bstr_append]
    simp [textL, h0]
end Go.Proofs.YtokcmnenfgbdoaaDoor
