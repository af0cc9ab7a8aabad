/- journal.payload. -/
import Derived.Test.YtlkokkbikkbaoaaJPl
import Derived.Test.YtlkokkbikkbaoaaB5
set_option linter.unusedSimpArgs false
set_option linter.unusedVariables false
set_option linter.unusedSimpArgs false
set_option linter.unusedVariables false
namespace Go.Proofs.Ytlkokkbikkbaoaa
open Go.RowKit
set_option maxRecDepth 100000

theorem Blk.rec9 {w : World} {g : Nat} {t : TypeId} {a b c d e f h i j : Value} (x : Blk w g t #[a, b, c, d, e, f, h, i, j]) : w.cell? ⟨g, 0, none⟩ = some a ∧ w.cell? ⟨g, 1, none⟩ = some b ∧ w.cell? ⟨g, 2, none⟩ = some c ∧ w.cell? ⟨g, 3, none⟩ = some d ∧ w.cell? ⟨g, 4, none⟩ = some e ∧ w.cell? ⟨g, 5, none⟩ = some f ∧ w.cell? ⟨g, 6, none⟩ = some h ∧ w.cell? ⟨g, 7, none⟩ = some i ∧ w.cell? ⟨g, 8, none⟩ = some j := ⟨x.cell 0, x.cell 1, x.cell 2, x.cell 3, x.cell 4, x.cell 5, x.cell 6, x.cell 7, x.cell 8⟩
theorem wire_put8 {A : Option Addr} {c B : Nat} {bs r : List UInt8} {v : Nat} {w : World} (hr : Reads w B 1 A bs.length (bys bs)) (hB : B ≤ w.heap.size) (hl : bs.length ≤ 100000000000) (hv : v < 18446744073709551616) (he : bs ++ putU v 8 = r) :
    Calls Try.prog 25 #[.slice A bs.length c, .int .u64 (v : Int), .int .i64 8] w (NewBytes w r) := by
  subst he
  exact wire_put (m := 8) hr hB hl hv
theorem wrap_u64_nat (j : Nat) (h : j < 18446744073709551616) : IntKind.u64.wrap (j : Int) = (j : Int) := by
  simp [IntKind.wrap, IntKind.bits, IntKind.signed]
  omega
theorem wrap_kind (k : Int) (h1 : 1 ≤ k) (h4 : k ≤ 4) : IntKind.u8.wrap k = ((UInt8.ofNat k.toNat).toNat : Int) := by
  have h : k = 1 ∨ k = 2 ∨ k = 3 ∨ k = 4 := by omega
  rcases h with rfl | rfl | rfl | rfl <;> rfl

/-- Bytes of a new row and no error, or an error. -/
def PayRes (w : World) (x : Nat) (r : List UInt8) (e : Ending) (w' : World) : Prop := (x = 0 → PutOk w r e w') ∧ (x ≠ 0 → PutNo w x e w')

set_option maxHeartbeats 6400000 in
theorem pay_walk {k n : Int} {v c1 s1 n1 : Nat} {g m : List UInt8} {gg mm : ByteArray} {l : List Val} {A : Option Addr} {K cc B : Nat} {w : World} (ho : OpReads w B ⟨c1, s1, n1, g, m, l⟩ #[.int .u32 (c1 : Int), .int .u32 (s1 : Int), .int .u16 (n1 : Int), .string gg, .string mm, .slice A K cc]) (hB : B ≤ w.heap.size) (hv : v < 18446744073709551616) (hg : g.length ≤ 1000) (hm : m.length ≤ 1000) :
    Calls Try.prog 11 #[.agg #[.int .i64 k, .int .u64 (v : Int), .int .i64 n, .int .u32 (c1 : Int), .int .u32 (s1 : Int), .int .u16 (n1 : Int), .string gg, .string mm, .slice A K cc]] w (PayRes w (errP ⟨k, v, n, ⟨c1, s1, n1, g, m, l⟩⟩) (bytesP ⟨k, v, n, ⟨c1, s1, n1, g, m, l⟩⟩)) := by
  have hR1 := Blk.new w 40 #[.int .i64 k, .int .u64 (v : Int), .int .i64 n, .int .u32 (c1 : Int), .int .u32 (s1 : Int), .int .u16 (n1 : Int), .string gg, .string mm, .slice A K cc]
  have hb1 := (Below.refl w.heap.size w).alloc (Nat.le_refl _) (.cells #[.int .i64 k, .int .u64 (v : Int), .int .i64 n, .int .u32 (c1 : Int), .int .u32 (s1 : Int), .int .u16 (n1 : Int), .string gg, .string mm, .slice A K cc] 40)
  obtain ⟨x, hx⟩ : ∃ x, IntKind.u8.wrap k = x := ⟨_, rfl⟩
  have hb2 := hb1.alloc hb1.size (.cells #[.int .u8 x] 5)
  have hR2 := hR1.alloc (.cells #[.int .u8 x] 5)
  have hL := Reads.lit (size := 1) (w.alloc (.cells #[.int .i64 k, .int .u64 (v : Int), .int .i64 n, .int .u32 (c1 : Int), .int .u32 (s1 : Int), .int .u16 (n1 : Int), .string gg, .string mm, .slice A K cc] 40)) #[.int .u8 x] 5 (0, 0) 1 [.int .u8 x] rfl rfl
  have hc := hR1.rec9
  have hc2 := hR2.rec9
  have hs1 : (w.alloc (.cells #[.int .i64 k, .int .u64 (v : Int), .int .i64 n, .int .u32 (c1 : Int), .int .u32 (s1 : Int), .int .u16 (n1 : Int), .string gg, .string mm, .slice A K cc] 40)).heap.size = w.heap.size + 1 := by simp
  by_cases hbad : k < 1 ∨ 4 < k ∨ n < 0 ∨ 2147483647 < n ∨ (k = 1 ∧ 1 < n)
  · have he : errP ⟨k, v, n, ⟨c1, s1, n1, g, m, l⟩⟩ = 22 := by unfold errP; rw [if_pos hbad]
    rw [he]
    generalize bytesP ⟨k, v, n, ⟨c1, s1, n1, g, m, l⟩⟩ = bb
    have fin22 : ∀ W, Below w.heap.size w W → PayRes w 22 bb (.returned (.tuple #[.slice none 0 0, .int .i64 22])) W := fun W hW => ⟨fun h => absurd h (by decide), fun _ => ⟨rfl, hW⟩⟩
    clear he
    replace fin22 := Lib.hid fin22
    clear hL ho
    go_enter Try.func11, Try.ntmps11
    by_cases h1 : k < 1
    · have d1 : decide (k < 1) = true := decide_eq_true h1
      go_wp2_with fail
      go_ret2
      exact fin22.out _ (by assumption)
    have d1 : decide (k < 1) = false := decide_eq_false h1
    by_cases h2 : 4 < k
    · have d2 : decide (4 < k) = true := decide_eq_true h2
      go_wp2_with fail
      go_ret2
      exact fin22.out _ (by assumption)
    have d2 : decide (4 < k) = false := decide_eq_false h2
    by_cases h3 : n < 0
    · have d3 : decide (n < 0) = true := decide_eq_true h3
      go_wp2_with fail
      go_ret2
      exact fin22.out _ (by assumption)
    have d3 : decide (n < 0) = false := decide_eq_false h3
    by_cases h4 : 2147483647 < n
    · have d4 : decide (2147483647 < n) = true := decide_eq_true h4
      go_wp2_with fail
      go_ret2
      exact fin22.out _ (by assumption)
    have d4 : decide (2147483647 < n) = false := decide_eq_false h4
    have d5 : (k == 1) = true := by rw [beq_iff_eq]; omega
    have d6 : decide (1 < n) = true := decide_eq_true (by omega)
    go_wp2_with fail
    go_ret2
    exact fin22.out _ (by assumption)
  have hbs : ∀ W, Below w.heap.size w W → OpReads W B ⟨c1, s1, n1, g, m, l⟩ #[.int .u32 (c1 : Int), .int .u32 (s1 : Int), .int .u16 (n1 : Int), .string gg, .string mm, .slice A K cc] := fun W hW => ho.below (hW.mono hB)
  have d1 : decide (k < 1) = false := decide_eq_false (by omega)
  have d2 : decide (4 < k) = false := decide_eq_false (by omega)
  obtain ⟨j, rfl⟩ : ∃ j : Nat, n = (j : Int) := ⟨n.toNat, by omega⟩
  have d3 : decide ((j : Int) < 0) = false := decide_eq_false (by omega)
  have d4 : decide (2147483647 < (j : Int)) = false := decide_eq_false (by omega)
  have hj2 : j ≤ 2147483647 := by omega
  have hwn : IntKind.u64.wrap (j : Int) = (j : Int) := wrap_u64_nat j (by omega)
  have hkx : x = ((UInt8.ofNat k.toNat).toNat : Int) := by rw [← hx]; exact wrap_kind k (by omega) (by omega)
  have hLb : ∀ W, Below ((w.alloc (.cells #[.int .i64 k, .int .u64 (v : Int), .int .i64 (j : Int), .int .u32 (c1 : Int), .int .u32 (s1 : Int), .int .u16 (n1 : Int), .string gg, .string mm, .slice A K cc] 40)).alloc (.cells #[.int .u8 x] 5)).heap.size ((w.alloc (.cells #[.int .i64 k, .int .u64 (v : Int), .int .i64 (j : Int), .int .u32 (c1 : Int), .int .u32 (s1 : Int), .int .u16 (n1 : Int), .string gg, .string mm, .slice A K cc] 40)).alloc (.cells #[.int .u8 x] 5)) W → Reads W W.heap.size 1 (some ⟨w.heap.size + 1, 0, none⟩) [UInt8.ofNat k.toNat].length (bys [UInt8.ofNat k.toNat]) := fun W hW => by
    have h := ((hL.more (show _ ≤ ((w.alloc (.cells #[.int .i64 k, .int .u64 (v : Int), .int .i64 (j : Int), .int .u32 (c1 : Int), .int .u32 (s1 : Int), .int .u16 (n1 : Int), .string gg, .string mm, .slice A K cc] 40)).alloc (.cells #[.int .u8 x] 5)).heap.size by simp)).below hW).more hW.size
    rw [hs1] at h
    rw [hkx] at h
    exact h
  rw [hs1] at hL
  by_cases hk1 : k = 1
  · subst hk1
    have he : errP ⟨1, v, (j : Int), ⟨c1, s1, n1, g, m, l⟩⟩ = 0 := by unfold errP; rw [if_neg hbad]; rfl
    have d5 : ((1 : Int) == 1) = true := rfl
    have d6 : decide (1 < (j : Int)) = false := decide_eq_false (by omega)
    obtain ⟨r, hr⟩ : ∃ r, bytesP ⟨1, v, (j : Int), ⟨c1, s1, n1, g, m, l⟩⟩ = r := ⟨_, rfl⟩
    obtain ⟨q, hq⟩ : ∃ q, [UInt8.ofNat (1 : Int).toNat] ++ putU v 8 = q := ⟨_, rfl⟩
    have hqr : q ++ putU j 4 = r := by rw [← hr, ← hq]; rfl
    rw [he, hr]
    replace hLb := Lib.hid hLb
    replace hbs := Lib.hid hbs
    replace hq := Lib.hid hq
    replace hqr := Lib.hid hqr
    replace hr := Lib.hid hr
    clear hL hc ho hkx hR1 hb1 hbad
    go_enter Try.func11, Try.ntmps11
    go_wp2_with fail
    generalize (w.alloc (.cells #[.int .i64 1, .int .u64 (v : Int), .int .i64 (j : Int), .int .u32 (c1 : Int), .int .u32 (s1 : Int), .int .u16 (n1 : Int), .string gg, .string mm, .slice A K cc] 40)).alloc (.cells #[.int .u8 x] 5) = w3 at *
    clear hc2
    have hS0 : Below w3.heap.size w3 w3.drew := (Below.refl _ _).drew
    refine wp_region_lex (fun W => Below w3.heap.size w3 W) [2, 5] [3, 7] [0, 1, 2, 4, 5, 6, 3, 7, 8, 9] (by kernel_rfl) rfl (by kernel_rfl) (by kernel_rfl) (fun _ _ d _ _ h => by cases d <;> exact h) ?_
    repeat (first | (refine lexG_take _ ?_ rfl rfl rfl rfl (fun _ => ?_) ?_; rotate_left; (focus (go_simp; with_reducible rfl)); try simp only [Act.put, List.setIfInBounds_toArray, List.set_cons_zero, List.set_cons_succ]) | (refine lexG_held _ ?_ rfl rfl rfl rfl (by assumption) (fun _ hSw => ?_) ?_; rotate_left; (focus (have h1 := (hR2.below hSw hR2.lt).rec9; clear hSw; go_simp; with_reducible rfl)); try simp only [Act.put, List.setIfInBounds_toArray, List.set_cons_zero, List.set_cons_succ]) | (refine lexG_skip _ rfl rfl (by assumption) ?_; try simp only [Act.put, List.setIfInBounds_toArray, List.set_cons_zero, List.set_cons_succ]))
    refine lexG_now _ rfl rfl rfl (fun K0 hK => ?_)
    go_wp2_with fail
    have hp := wire_put8 (c := 1) (hLb.out w3.drew hS0) (Nat.le_refl _) (by simp) hv hq.out
    rw [show [UInt8.ofNat (1 : Int).toNat].length = 1 from rfl] at hp
    refine hp.mono ?_
    clear hp
    rintro e w4 ⟨A4, c4, rfl, ho4, hb4, hg4⟩
    dsimp only
    have hS4 := below_then hb4 hS0
    refine hK _ _ _ (fun _ h => h) hS4 ?_
    clear hK K0
    try simp only [Act.put, List.setIfInBounds_toArray, List.set_cons_zero, List.set_cons_succ]
    repeat (first | (refine lexG_take _ ?_ rfl rfl rfl rfl (fun _ => ?_) ?_; rotate_left; (focus (go_simp; with_reducible rfl)); try simp only [Act.put, List.setIfInBounds_toArray, List.set_cons_zero, List.set_cons_succ]) | (refine lexG_held _ ?_ rfl rfl rfl rfl (by assumption) (fun _ hSw => ?_) ?_; rotate_left; (focus (have h1 := (hR2.below hSw hR2.lt).rec9; clear hSw; go_simp; with_reducible rfl)); try simp only [Act.put, List.setIfInBounds_toArray, List.set_cons_zero, List.set_cons_succ]) | (refine lexG_skip _ rfl rfl (by assumption) ?_; try simp only [Act.put, List.setIfInBounds_toArray, List.set_cons_zero, List.set_cons_succ]))
    refine lexG_now _ rfl rfl rfl (fun K0 hK => ?_)
    have hp := wire_put4 (c := c4) (v := j) ho4.reads_ (Nat.le_refl _) (by have := congrArg List.length hq.out; simp [putU_len] at this; omega) (by omega) hqr.out
    go_wp2_with fail
    refine hp.mono ?_
    clear hp
    rintro e w5 ⟨A5, c5, rfl, ho5, hb5, hg5⟩
    dsimp only
    have hS5 := below_then hb5 hS4
    refine hK _ _ _ (fun _ h => h) hS5 ?_
    clear hK K0
    try simp only [Act.put, List.setIfInBounds_toArray, List.set_cons_zero, List.set_cons_succ]
    repeat (first | (refine lexG_take _ ?_ rfl rfl rfl rfl (fun _ => ?_) ?_; rotate_left; (focus (go_simp; with_reducible rfl)); try simp only [Act.put, List.setIfInBounds_toArray, List.set_cons_zero, List.set_cons_succ]) | (refine lexG_held _ ?_ rfl rfl rfl rfl (by assumption) (fun _ hSw => ?_) ?_; rotate_left; (focus (have h1 := (hR2.below hSw hR2.lt).rec9; clear hSw; go_simp; with_reducible rfl)); try simp only [Act.put, List.setIfInBounds_toArray, List.set_cons_zero, List.set_cons_succ]) | (refine lexG_skip _ rfl rfl (by assumption) ?_; try simp only [Act.put, List.setIfInBounds_toArray, List.set_cons_zero, List.set_cons_succ]))
    refine lexG_nil ?_
    have hB5 := below_then hS5 hb2
    have hw3 := hb2.size
    have hg5' : ∀ g, bOf A5 = some g → w.heap.size ≤ g := fun g hg => by have := hg5 g hg; have := hS4.size; omega
    clear hR2 hb2
    go_wp2_with fail
    go_ret2
    exact ⟨fun _ => ⟨A5, c5, rfl, ho5, hB5, hg5'⟩, fun h => absurd rfl h⟩
  by_cases hk2 : k = 2
  · subst hk2
    have he : errP ⟨2, v, (j : Int), ⟨c1, s1, n1, g, m, l⟩⟩ = errO ⟨c1, s1, n1, g, m, l⟩ := by unfold errP; rw [if_neg hbad]; rfl
    have d5 : ((2 : Int) == 1) = false := rfl
    have d7 : ((2 : Int) == 2) = true := rfl
    obtain ⟨q, hq⟩ : ∃ q, [UInt8.ofNat (2 : Int).toNat] ++ putU v 8 = q := ⟨_, rfl⟩
    have hr : bytesP ⟨2, v, (j : Int), ⟨c1, s1, n1, g, m, l⟩⟩ = q ++ bytesO ⟨c1, s1, n1, g, m, l⟩ := by rw [← hq]; rfl
    have hqr := True.intro
    obtain ⟨r2, hr2⟩ : ∃ r2, q ++ bytesO ⟨c1, s1, n1, g, m, l⟩ = r2 := ⟨_, rfl⟩
    rw [he, hr, hr2]
    replace hr2 := Lib.hid hr2
    obtain ⟨E, hE⟩ : ∃ E, errO ⟨c1, s1, n1, g, m, l⟩ = E := ⟨_, rfl⟩
    have hcp := fun (W : World) (A4 : Option Addr) (c4 : Nat) (hW : Below w.heap.size w W) (hA : Reads W W.heap.size 1 A4 q.length (bys q)) => call_put (ca := c4) (hbs W hW) (Nat.le_trans hB hW.size) hA (by have := congrArg List.length hq; simp [putU_len] at this; omega) hg hm
    rw [hE]
    replace hcp := Lib.hid hcp
    replace hE := Lib.hid hE
    replace hLb := Lib.hid hLb
    replace hbs := Lib.hid hbs
    replace hq := Lib.hid hq
    replace hqr := Lib.hid hqr
    replace hr := Lib.hid hr
    clear hL hc ho hkx hR1 hb1 hbad
    go_enter Try.func11, Try.ntmps11
    go_wp2_with fail
    generalize (w.alloc (.cells #[.int .i64 2, .int .u64 (v : Int), .int .i64 (j : Int), .int .u32 (c1 : Int), .int .u32 (s1 : Int), .int .u16 (n1 : Int), .string gg, .string mm, .slice A K cc] 40)).alloc (.cells #[.int .u8 x] 5) = w3 at *
    clear hc2
    have hS0 : Below w3.heap.size w3 w3.drew := (Below.refl _ _).drew
    refine wp_region_lex (fun W => Below w3.heap.size w3 W) [2, 5] [3, 6] [0, 1, 2, 4, 5, 3, 6, 7, 8, 9, 10] (by kernel_rfl) rfl (by kernel_rfl) (by kernel_rfl) (fun _ _ d _ _ h => by cases d <;> exact h) ?_
    repeat (first | (refine lexG_take _ ?_ rfl rfl rfl rfl (fun _ => ?_) ?_; rotate_left; (focus (go_simp; with_reducible rfl)); try simp only [Act.put, List.setIfInBounds_toArray, List.set_cons_zero, List.set_cons_succ]) | (refine lexG_held _ ?_ rfl rfl rfl rfl (by assumption) (fun _ hSw => ?_) ?_; rotate_left; (focus (have h1 := (hR2.below hSw hR2.lt).rec9; clear hSw; go_simp; with_reducible rfl)); try simp only [Act.put, List.setIfInBounds_toArray, List.set_cons_zero, List.set_cons_succ]) | (refine lexG_skip _ rfl rfl (by assumption) ?_; try simp only [Act.put, List.setIfInBounds_toArray, List.set_cons_zero, List.set_cons_succ]))
    refine lexG_now _ rfl rfl rfl (fun K0 hK => ?_)
    go_wp2_with fail
    have hp := wire_put8 (c := 1) (hLb.out w3.drew hS0) (Nat.le_refl _) (by simp) hv hq.out
    rw [show [UInt8.ofNat (2 : Int).toNat].length = 1 from rfl] at hp
    refine hp.mono ?_
    clear hp
    rintro e w4 ⟨A4, c4, rfl, ho4, hb4, hg4⟩
    dsimp only
    have hS4 := below_then hb4 hS0
    refine hK _ _ _ (fun _ h => h) hS4 ?_
    clear hK K0
    try simp only [Act.put, List.setIfInBounds_toArray, List.set_cons_zero, List.set_cons_succ]
    repeat (first | (refine lexG_take _ ?_ rfl rfl rfl rfl (fun _ => ?_) ?_; rotate_left; (focus (go_simp; with_reducible rfl)); try simp only [Act.put, List.setIfInBounds_toArray, List.set_cons_zero, List.set_cons_succ]) | (refine lexG_held _ ?_ rfl rfl rfl rfl (by assumption) (fun _ hSw => ?_) ?_; rotate_left; (focus (have h1 := (hR2.below hSw hR2.lt).rec9; clear hSw; go_simp; with_reducible rfl)); try simp only [Act.put, List.setIfInBounds_toArray, List.set_cons_zero, List.set_cons_succ]) | (refine lexG_skip _ rfl rfl (by assumption) ?_; try simp only [Act.put, List.setIfInBounds_toArray, List.set_cons_zero, List.set_cons_succ]))
    refine lexG_now _ rfl rfl rfl (fun K0 hK => ?_)
    have hp := hcp.out w4 A4 c4 (below_then hS4 hb2) ho4.reads_
    have hw3 := hb2.size
    have hs4 := hS4.size
    go_wp2_with fail
    refine hp.mono ?_
    clear hp
    intro e w5 h5
    unfold OpPut at h5
    rw [hE.out, hr2.out] at h5
    by_cases hE0 : E = 0
    · obtain ⟨A5, c5, rfl, ho5, hb5, hg5⟩ := h5.1 hE0
      subst hE0
      dsimp only
      have hS5 := below_then hb5 hS4
      refine hK _ _ _ (fun _ h => h) hS5 ?_
      clear hK K0
      try simp only [Act.put, List.setIfInBounds_toArray, List.set_cons_zero, List.set_cons_succ]
      repeat (first | (refine lexG_take _ ?_ rfl rfl rfl rfl (fun _ => ?_) ?_; rotate_left; (focus (go_simp; with_reducible rfl)); try simp only [Act.put, List.setIfInBounds_toArray, List.set_cons_zero, List.set_cons_succ]) | (refine lexG_held _ ?_ rfl rfl rfl rfl (by assumption) (fun _ hSw => ?_) ?_; rotate_left; (focus (have h1 := (hR2.below hSw hR2.lt).rec9; clear hSw; go_simp; with_reducible rfl)); try simp only [Act.put, List.setIfInBounds_toArray, List.set_cons_zero, List.set_cons_succ]) | (refine lexG_skip _ rfl rfl (by assumption) ?_; try simp only [Act.put, List.setIfInBounds_toArray, List.set_cons_zero, List.set_cons_succ]))
      refine lexG_nil ?_
      have hB5 := below_then hS5 hb2
      have hg5' : ∀ g, bOf A5 = some g → w.heap.size ≤ g := fun g hg => by have := hg5 g hg; omega
      clear hR2 hb2 h5
      go_wp2_with fail
      go_ret2
      exact ⟨fun _ => ⟨A5, c5, rfl, ho5, hB5, hg5'⟩, fun h => absurd rfl h⟩
    · obtain ⟨rfl, hb5⟩ := h5.2 hE0
      dsimp only
      have hS5 := below_then hb5 hS4
      refine hK _ _ _ (fun _ h => h) hS5 ?_
      clear hK K0
      try simp only [Act.put, List.setIfInBounds_toArray, List.set_cons_zero, List.set_cons_succ]
      repeat (first | (refine lexG_take _ ?_ rfl rfl rfl rfl (fun _ => ?_) ?_; rotate_left; (focus (go_simp; with_reducible rfl)); try simp only [Act.put, List.setIfInBounds_toArray, List.set_cons_zero, List.set_cons_succ]) | (refine lexG_held _ ?_ rfl rfl rfl rfl (by assumption) (fun _ hSw => ?_) ?_; rotate_left; (focus (have h1 := (hR2.below hSw hR2.lt).rec9; clear hSw; go_simp; with_reducible rfl)); try simp only [Act.put, List.setIfInBounds_toArray, List.set_cons_zero, List.set_cons_succ]) | (refine lexG_skip _ rfl rfl (by assumption) ?_; try simp only [Act.put, List.setIfInBounds_toArray, List.set_cons_zero, List.set_cons_succ]))
      refine lexG_nil ?_
      have hB5 := below_then hS5 hb2
      clear hR2 hb2 h5
      go_wp2_with fail
      go_ret2
      exact ⟨fun h => absurd h hE0, fun _ => ⟨rfl, hB5⟩⟩
  · have hk1' : ¬ k = 1 := hk1
    have he : errP ⟨k, v, (j : Int), ⟨c1, s1, n1, g, m, l⟩⟩ = 0 := by unfold errP; rw [if_neg hbad, if_neg hk2]
    have d5 : (k == 1) = false := by rw [beq_eq_false_iff_ne]; exact hk1
    have d7 : (k == 2) = false := by rw [beq_eq_false_iff_ne]; exact hk2
    obtain ⟨r, hr⟩ : ∃ r, bytesP ⟨k, v, (j : Int), ⟨c1, s1, n1, g, m, l⟩⟩ = r := ⟨_, rfl⟩
    have hq : [UInt8.ofNat k.toNat] ++ putU j 4 = r := by rw [← hr]; unfold bytesP; rw [if_neg hk1, if_neg hk2]; rfl
    have hqr := True.intro
    rw [he, hr]
    replace hLb := Lib.hid hLb
    replace hbs := Lib.hid hbs
    replace hq := Lib.hid hq
    replace hqr := Lib.hid hqr
    replace hr := Lib.hid hr
    clear hL hc ho hkx hR1 hb1 hbad
    go_enter Try.func11, Try.ntmps11
    go_wp2_with fail
    generalize (w.alloc (.cells #[.int .i64 k, .int .u64 (v : Int), .int .i64 (j : Int), .int .u32 (c1 : Int), .int .u32 (s1 : Int), .int .u16 (n1 : Int), .string gg, .string mm, .slice A K cc] 40)).alloc (.cells #[.int .u8 x] 5) = w3 at *
    clear hc2
    have hp := wire_put4 (c := 1) (v := j) (hLb.out w3 (Below.refl _ _)) (Nat.le_refl _) (by simp) (by omega) hq.out
    rw [show [UInt8.ofNat k.toNat].length = 1 from rfl] at hp
    refine hp.mono ?_
    clear hp
    rintro e w5 ⟨A5, c5, rfl, ho5, hb5, hg5⟩
    dsimp only
    have hB5 := below_then hb5 hb2
    have hw3 := hb2.size
    have hg5' : ∀ g, bOf A5 = some g → w.heap.size ≤ g := fun g hg => by have := hg5 g hg; omega
    clear hR2 hb2
    go_wp2_with fail
    go_ret2
    exact ⟨fun _ => ⟨A5, c5, rfl, ho5, hB5, hg5'⟩, fun h => absurd rfl h⟩
end Go.Proofs.Ytlkokkbikkbaoaa
