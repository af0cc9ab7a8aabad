/- A reply put: what its bytes are, when it is refused; by the program and by the document. -/
import Derived.Test.YtblakaddanoilaaOpRd
namespace Go.Proofs.Ytblakaddanoilaa
open Go.RowKit
set_option maxRecDepth 100000

def errR (er : Int) (v : Val) : Nat := if er < 0 ∨ 65535 < er then 22 else checkV v
def bytesR (c s n : Nat) (er : Int) (v : Val) : List UInt8 := idB c s n ++ putU er.toNat 2 ++ encV v
def RepPut (w : World) (bs : List UInt8) (c s n : Nat) (er : Int) (v : Val) (e : Ending) (w' : World) : Prop := (errR er v = 0 → PutOk w (bs ++ bytesR c s n er v) e w') ∧ (errR er v ≠ 0 → PutNo w (errR er v) e w')

set_option maxHeartbeats 3200000 in
theorem call_put_reply {w : World} {B : Nat} {c s n : Nat} {er k i : Int} {f : Nat} {t : ByteArray} {A' : Option Addr} {n' c' : Nat} {v : Val} {A0 : Option Addr} {ca : Nat} {bs : List UInt8} (hv : VReads w B v #[.int .i64 k, .int .i64 i, .float .f64 f, .string t, .slice A' n' c']) (hok : OkV v) (hB : B ≤ w.heap.size) (hA : Reads w w.heap.size 1 A0 bs.length (bys bs)) (hl : bs.length ≤ 100000) (hc : c < 4294967296) (hs : s < 4294967296) (hn : n < 65536) :
    Calls Try.prog 18 #[.slice A0 bs.length ca, .agg #[.int .u32 (c : Int), .int .u32 (s : Int), .int .u16 (n : Int), .int .i64 er, .int .i64 k, .int .i64 i, .float .f64 f, .string t, .slice A' n' c']] w (RepPut w bs c s n er v) := by
  have b1 := Blk.new w 45 #[.int .u32 (c : Int), .int .u32 (s : Int), .int .u16 (n : Int), .int .i64 er, .int .i64 k, .int .i64 i, .float .f64 f, .string t, .slice A' n' c']
  have hbl := (Below.refl w.heap.size w).alloc (Nat.le_refl _) (.cells #[.int .u32 (c : Int), .int .u32 (s : Int), .int .u16 (n : Int), .int .i64 er, .int .i64 k, .int .i64 i, .float .f64 f, .string t, .slice A' n' c'] 45)
  obtain ⟨b, hb0⟩ : ∃ b, w.heap.size = b := ⟨_, rfl⟩
  have B1 := b1
  rw [hb0] at B1
  by_cases he0 : er < 0 ∨ 65535 < er
  · have herr : errR er v = 22 := by unfold errR; rw [if_pos he0]
    have b13 := b1.cell 3
    have hfin : RepPut w bs c s n er v (.returned (.tuple #[.slice none 0 0, .int .i64 22])) (w.alloc (.cells #[.int .u32 (c : Int), .int .u32 (s : Int), .int .u16 (n : Int), .int .i64 er, .int .i64 k, .int .i64 i, .float .f64 f, .string t, .slice A' n' c'] 45)) := ⟨fun e => absurd (herr.symm.trans e) (by decide), fun _ => ⟨by rw [herr]; rfl, hbl⟩⟩
    replace hfin := Lib.hid hfin
    clear hv hok hA hl hc hs hn b1 herr
    by_cases h0 : er < 0
    · have d1 : decide (er < 0) = true := decide_eq_true h0
      go_enter Try.func18, Try.ntmps18
      go_wp2_with fail
      go_ret2
      exact hfin.out
    · have d1 : decide (er < 0) = false := decide_eq_false h0
      have d2 : decide (65535 < er) = true := decide_eq_true (by omega)
      go_enter Try.func18, Try.ntmps18
      go_wp2_with fail
      go_ret2
      exact hfin.out
  · have d1 : decide (er < 0) = false := decide_eq_false (by omega)
    have d2 : decide (65535 < er) = false := decide_eq_false (by omega)
    obtain ⟨en, hen⟩ : ∃ en : Nat, er = (en : Int) := ⟨er.toNat, by omega⟩
    have hen64 : en < 18446744073709551616 := by omega
    have hwe : IntKind.u64.wrap er = er := by rw [hen]; exact wrap_w32 en (by omega)
    have herr : errR er v = checkV v := by unfold errR; rw [if_neg he0]
    have hpi := fun w2 (hb2 : Below w.heap.size w w2) => put_id (cc := ca) (bs := bs) (hA.below hb2) hb2.size (by omega) hc hs hn
    obtain ⟨q0, hq0⟩ : ∃ q, bs ++ idB c s n = q := ⟨_, rfl⟩
    have hl0 : q0.length = bs.length + 10 := by rw [← hq0, List.length_append, idB_len]
    rw [hq0] at hpi
    obtain ⟨q1, hq1⟩ : ∃ q, q0 ++ putU en 2 = q := ⟨_, rfl⟩
    have hl1 : q1.length = bs.length + 12 := by rw [← hq1, List.length_append, putU_len, hl0]
    obtain ⟨q2, hq2⟩ : ∃ q, q1 ++ encV v = q := ⟨_, rfl⟩
    have n2 : n8 2 = 2 := by decide
    have hby : bs ++ bytesR c s n er v = q2 := by
      rw [← hq2, ← hq1, ← hq0]; unfold bytesR; rw [hen, Int.toNat_natCast]; simp only [List.append_assoc]
    unfold RepPut
    rw [herr, hby]
    obtain ⟨ck, hckk⟩ : ∃ ck, checkV v = ck := ⟨_, rfl⟩
    rw [hckk]
    clear hby herr hq0 he0
    replace hpi := Lib.hid hpi
    replace hl0 := Lib.hid hl0
    replace hl1 := Lib.hid hl1
    replace hq1 := Lib.hid hq1
    replace hq2 := Lib.hid hq2
    replace hc := Lib.hid hc
    replace hs := Lib.hid hs
    replace hn := Lib.hid hn
    replace hen64 := Lib.hid hen64
    have b13 := b1.cell 3
    rw [hen] at d1 d2 hwe B1 b1 b13 hbl ⊢
    clear hA hen
    go_enter Try.func18, Try.ntmps18
    go_wp2_with fail
    clear d1 d2 b13
    generalize w.alloc (.cells #[.int .u32 (c : Int), .int .u32 (s : Int), .int .u16 (n : Int), .int .i64 (en : Int), .int .i64 k, .int .i64 i, .float .f64 f, .string t, .slice A' n' c'] 45) = w1 at *
    have hS : w1.drew.cell? ⟨b, 0, none⟩ = some (.int .u32 (c : Int)) ∧ w1.drew.cell? ⟨b, 1, none⟩ = some (.int .u32 (s : Int)) ∧ w1.drew.cell? ⟨b, 2, none⟩ = some (.int .u16 (n : Int)) ∧ w1.drew.cell? ⟨b, 3, none⟩ = some (.int .i64 (en : Int)) ∧ w1.drew.cell? ⟨b, 4, none⟩ = some (.int .i64 k) ∧ w1.drew.cell? ⟨b, 5, none⟩ = some (.int .i64 i) ∧ w1.drew.cell? ⟨b, 6, none⟩ = some (.float .f64 f) ∧ w1.drew.cell? ⟨b, 7, none⟩ = some (.string t) ∧ w1.drew.cell? ⟨b, 8, none⟩ = some (.slice A' n' c') := ⟨B1.cell 0, B1.cell 1, B1.cell 2, B1.cell 3, B1.cell 4, B1.cell 5, B1.cell 6, B1.cell 7, B1.cell 8⟩
    refine wp_region_lex (fun W => W.cell? ⟨b, 0, none⟩ = some (.int .u32 (c : Int)) ∧ W.cell? ⟨b, 1, none⟩ = some (.int .u32 (s : Int)) ∧ W.cell? ⟨b, 2, none⟩ = some (.int .u16 (n : Int)) ∧ W.cell? ⟨b, 3, none⟩ = some (.int .i64 (en : Int)) ∧ W.cell? ⟨b, 4, none⟩ = some (.int .i64 k) ∧ W.cell? ⟨b, 5, none⟩ = some (.int .i64 i) ∧ W.cell? ⟨b, 6, none⟩ = some (.float .f64 f) ∧ W.cell? ⟨b, 7, none⟩ = some (.string t) ∧ W.cell? ⟨b, 8, none⟩ = some (.slice A' n' c')) [2, 5, 9] [3, 7, 10] [0, 1, 2, 4, 5, 6, 8, 9, 3, 7, 10, 11, 12, 13, 14, 15] (by kernel_rfl) rfl (by kernel_rfl) (by kernel_rfl) (fun _ _ d _ _ h => by cases d <;> exact h) ?_
    repeat (first | (refine lexG_take _ ?_ rfl rfl rfl rfl (fun _ => ?_) ?_; rotate_left; (focus (go_simp; with_reducible rfl)); try simp only [Act.put, List.setIfInBounds_toArray, List.set_cons_zero, List.set_cons_succ]) | (refine lexG_held _ ?_ rfl rfl rfl rfl (by assumption) (fun _ hSw => ?_) ?_; rotate_left; (focus ((try dsimp only at hSw); go_simp; with_reducible rfl)); try simp only [Act.put, List.setIfInBounds_toArray, List.set_cons_zero, List.set_cons_succ]) | (refine lexG_skip _ rfl rfl (by assumption) ?_; try simp only [Act.put, List.setIfInBounds_toArray, List.set_cons_zero, List.set_cons_succ]))
    clear hwe
    refine lexG_now _ rfl rfl rfl (fun K hK => ?_)
    go_wp2_with fail
    refine (hpi.out _ hbl.drew).mono ?_
    rintro e w2 ⟨A2, c2, rfl, ho2, hb2, hf2⟩
    dsimp only
    have hb2' : Below w1.heap.size w1 w2 := below_of_drew hb2
    have b2 := B1.below hb2' B1.lt
    have hB2 := below_then hb2' hbl
    have hw1l : b < w1.heap.size := B1.lt
    have hf2' : ∀ g, bOf A2 = some g → b < g := fun g hg => by have h9 : w1.heap.size ≤ g := hf2 g hg; omega
    refine hK _ _ _ (fun _ h => h) ⟨b2.cell 0, b2.cell 1, b2.cell 2, b2.cell 3, b2.cell 4, b2.cell 5, b2.cell 6, b2.cell 7, b2.cell 8⟩ ?_
    clear hK K hS hb2 hpi b1
    try simp only [Act.put, List.setIfInBounds_toArray, List.set_cons_zero, List.set_cons_succ]
    repeat (first | (refine lexG_take _ ?_ rfl rfl rfl rfl (fun _ => ?_) ?_; rotate_left; (focus (go_simp; with_reducible rfl)); try simp only [Act.put, List.setIfInBounds_toArray, List.set_cons_zero, List.set_cons_succ]) | (refine lexG_held _ ?_ rfl rfl rfl rfl (by assumption) (fun _ hSw => ?_) ?_; rotate_left; (focus ((try dsimp only at hSw); go_simp; with_reducible rfl)); try simp only [Act.put, List.setIfInBounds_toArray, List.set_cons_zero, List.set_cons_succ]) | (refine lexG_skip _ rfl rfl (by assumption) ?_; try simp only [Act.put, List.setIfInBounds_toArray, List.set_cons_zero, List.set_cons_succ]))
    refine lexG_now _ rfl rfl rfl (fun K hK => ?_)
    go_wp2_with fail
    · have he64 := hen64.out
      refine (wire_put (m := 2) ho2.reads_ (Nat.le_refl _) (by rw [hl0.out]; omega) (by omega)).mono ?_
      rintro e w3 ⟨A3, c3, rfl, ho3, hb3, hf3⟩
      rw [n2, hq1.out] at ho3 ⊢
      dsimp only
      have b3 := b2.below hb3 b2.lt
      have hB3 := below_then hb3 hB2
      refine hK _ _ _ (fun _ h => h) ⟨b3.cell 0, b3.cell 1, b3.cell 2, b3.cell 3, b3.cell 4, b3.cell 5, b3.cell 6, b3.cell 7, b3.cell 8⟩ ?_
      clear hK K ho2 b2
      try simp only [Act.put, List.setIfInBounds_toArray, List.set_cons_zero, List.set_cons_succ]
      repeat (first | (refine lexG_take _ ?_ rfl rfl rfl rfl (fun _ => ?_) ?_; rotate_left; (focus (go_simp; with_reducible rfl)); try simp only [Act.put, List.setIfInBounds_toArray, List.set_cons_zero, List.set_cons_succ]) | (refine lexG_held _ ?_ rfl rfl rfl rfl (by assumption) (fun _ hSw => ?_) ?_; rotate_left; (focus ((try dsimp only at hSw); go_simp; with_reducible rfl)); try simp only [Act.put, List.setIfInBounds_toArray, List.set_cons_zero, List.set_cons_succ]) | (refine lexG_skip _ rfl rfl (by assumption) ?_; try simp only [Act.put, List.setIfInBounds_toArray, List.set_cons_zero, List.set_cons_succ]))
      refine lexG_now _ rfl rfl rfl (fun K hK => ?_)
      by_cases hck : checkV v = 0
      · have hpo := wire_put_ok (c := c3) hv hok hck (hB3.mono hB) (Nat.le_trans hB hB3.size) ho3.reads_ (Nat.le_refl _) (by rw [hl1.out]; omega)
        rw [hq2.out] at hpo
        have hck0 : ck = 0 := by rw [← hckk]; exact hck
        subst hck0
        replace hpo := Lib.hid hpo
        replace hck := Lib.hid hck
        replace hckk := Lib.hid hckk
        go_wp2_with fail
        refine hpo.out.mono ?_
        rintro e w4 ⟨A4, c4, rfl, ho4, hb4, hf4⟩
        dsimp only
        have b4 := b3.below hb4 b3.lt
        have hB4 := below_then hb4 hB3
        have hf4' : ∀ g, bOf A4 = some g → w.heap.size ≤ g := fun g hg => Nat.le_trans hB3.size (hf4 g hg)
        refine hK _ _ _ (fun _ h => h) ⟨b4.cell 0, b4.cell 1, b4.cell 2, b4.cell 3, b4.cell 4, b4.cell 5, b4.cell 6, b4.cell 7, b4.cell 8⟩ ?_
        clear hK K hpo
        try simp only [Act.put, List.setIfInBounds_toArray, List.set_cons_zero, List.set_cons_succ]
        repeat (first | (refine lexG_take _ ?_ rfl rfl rfl rfl (fun _ => ?_) ?_; rotate_left; (focus (go_simp; with_reducible rfl)); try simp only [Act.put, List.setIfInBounds_toArray, List.set_cons_zero, List.set_cons_succ]) | (refine lexG_held _ ?_ rfl rfl rfl rfl (by assumption) (fun _ hSw => ?_) ?_; rotate_left; (focus ((try dsimp only at hSw); go_simp; with_reducible rfl)); try simp only [Act.put, List.setIfInBounds_toArray, List.set_cons_zero, List.set_cons_succ]) | (refine lexG_skip _ rfl rfl (by assumption) ?_; try simp only [Act.put, List.setIfInBounds_toArray, List.set_cons_zero, List.set_cons_succ]))
        refine lexG_nil ?_
        go_wp2_with fail
        go_ret2
        first | exact ⟨A4, c4, rfl, ho4, hB4, hf4'⟩ | exact ⟨fun _ => ⟨A4, c4, rfl, ho4, hB4, hf4'⟩, fun h => absurd rfl h⟩
      · have hpo := wire_put_no (A := A3) (m := q1.length) (c := c3) hv hck (hB3.mono hB) (Nat.le_trans hB hB3.size)
        rw [hckk] at hpo hck
        have hne : ((ck : Int) != 0) = true := bne_iff_ne.2 (by omega)
        replace hpo := Lib.hid hpo
        replace hck := Lib.hid hck
        replace hckk := Lib.hid hckk
        go_wp2_with fail
        refine hpo.out.mono ?_
        rintro e w4 ⟨rfl, hb4⟩
        dsimp only
        have b4 := b3.below hb4 b3.lt
        have hB4 := below_then hb4 hB3
        refine hK _ _ _ (fun _ h => h) ⟨b4.cell 0, b4.cell 1, b4.cell 2, b4.cell 3, b4.cell 4, b4.cell 5, b4.cell 6, b4.cell 7, b4.cell 8⟩ ?_
        clear hK K hpo
        try simp only [Act.put, List.setIfInBounds_toArray, List.set_cons_zero, List.set_cons_succ]
        repeat (first | (refine lexG_take _ ?_ rfl rfl rfl rfl (fun _ => ?_) ?_; rotate_left; (focus (go_simp; with_reducible rfl)); try simp only [Act.put, List.setIfInBounds_toArray, List.set_cons_zero, List.set_cons_succ]) | (refine lexG_held _ ?_ rfl rfl rfl rfl (by assumption) (fun _ hSw => ?_) ?_; rotate_left; (focus ((try dsimp only at hSw); go_simp; with_reducible rfl)); try simp only [Act.put, List.setIfInBounds_toArray, List.set_cons_zero, List.set_cons_succ]) | (refine lexG_skip _ rfl rfl (by assumption) ?_; try simp only [Act.put, List.setIfInBounds_toArray, List.set_cons_zero, List.set_cons_succ]))
        refine lexG_nil ?_
        go_wp2_with fail
        go_ret2
        exact ⟨fun e => absurd e hck.out, fun _ => ⟨rfl, hB4⟩⟩

set_option maxHeartbeats 3200000 in
theorem ref_put_reply {w : World} {B : Nat} {c s n : Nat} {er k i : Int} {f : Nat} {t : ByteArray} {A' : Option Addr} {n' c' : Nat} {v : Val} {A0 : Option Addr} {bs : List UInt8} (hv : VReads w B v #[.int .i64 k, .int .i64 i, .float .f64 f, .string t, .slice A' n' c']) (hok : OkV v) (hB : B ≤ w.heap.size) (hA : Reads w w.heap.size 1 A0 bs.length (bys bs)) (hl : bs.length ≤ 100000) (hc : c < 4294967296) (hs : s < 4294967296) (hn : n < 65536) :
    Calls Try.prog 19 #[.slice A0 bs.length bs.length, .agg #[.int .u32 (c : Int), .int .u32 (s : Int), .int .u16 (n : Int), .int .i64 er, .int .i64 k, .int .i64 i, .float .f64 f, .string t, .slice A' n' c']] w (RepPut w bs c s n er v) := by
  have b1 := Blk.new w 45 #[.int .u32 (c : Int), .int .u32 (s : Int), .int .u16 (n : Int), .int .i64 er, .int .i64 k, .int .i64 i, .float .f64 f, .string t, .slice A' n' c']
  have hbl := (Below.refl w.heap.size w).alloc (Nat.le_refl _) (.cells #[.int .u32 (c : Int), .int .u32 (s : Int), .int .u16 (n : Int), .int .i64 er, .int .i64 k, .int .i64 i, .float .f64 f, .string t, .slice A' n' c'] 45)
  obtain ⟨b, hb0⟩ : ∃ b, w.heap.size = b := ⟨_, rfl⟩
  have B1 := b1
  rw [hb0] at B1
  by_cases he0 : er < 0 ∨ 65535 < er
  · have herr : errR er v = 22 := by unfold errR; rw [if_pos he0]
    have b13 := b1.cell 3
    have hfin : RepPut w bs c s n er v (.returned (.tuple #[.slice none 0 0, .int .i64 22])) (w.alloc (.cells #[.int .u32 (c : Int), .int .u32 (s : Int), .int .u16 (n : Int), .int .i64 er, .int .i64 k, .int .i64 i, .float .f64 f, .string t, .slice A' n' c'] 45)) := ⟨fun e => absurd (herr.symm.trans e) (by decide), fun _ => ⟨by rw [herr]; rfl, hbl⟩⟩
    replace hfin := Lib.hid hfin
    clear hv hok hA hl hc hs hn b1 herr
    by_cases h0 : er < 0
    · have d1 : decide (er < 0) = true := decide_eq_true h0
      go_enter Try.func19, Try.ntmps19
      go_wp2_with fail
      go_ret2
      exact hfin.out
    · have d1 : decide (er < 0) = false := decide_eq_false h0
      have d2 : decide (65535 < er) = true := decide_eq_true (by omega)
      go_enter Try.func19, Try.ntmps19
      go_wp2_with fail
      go_ret2
      exact hfin.out
  · have d1 : decide (er < 0) = false := decide_eq_false (by omega)
    have d2 : decide (65535 < er) = false := decide_eq_false (by omega)
    obtain ⟨en, hen⟩ : ∃ en : Nat, er = (en : Int) := ⟨er.toNat, by omega⟩
    have hen64 : en < 18446744073709551616 := by omega
    have hwe : IntKind.u64.wrap er = er := by rw [hen]; exact wrap_w32 en (by omega)
    have herr : errR er v = checkV v := by unfold errR; rw [if_neg he0]
    have hpi := fun w2 (hb2 : Below w.heap.size w w2) => ref_put_id (bs := bs) (hA.below hb2) hb2.size (by omega) hc hs hn
    obtain ⟨q0, hq0⟩ : ∃ q, bs ++ idB c s n = q := ⟨_, rfl⟩
    have hl0 : q0.length = bs.length + 10 := by rw [← hq0, List.length_append, idB_len]
    rw [hq0] at hpi
    obtain ⟨q1, hq1⟩ : ∃ q, q0 ++ putU en 2 = q := ⟨_, rfl⟩
    have hl1 : q1.length = bs.length + 12 := by rw [← hq1, List.length_append, putU_len, hl0]
    obtain ⟨q2, hq2⟩ : ∃ q, q1 ++ encV v = q := ⟨_, rfl⟩
    have n2 : n8 2 = 2 := by decide
    have hby : bs ++ bytesR c s n er v = q2 := by
      rw [← hq2, ← hq1, ← hq0]; unfold bytesR; rw [hen, Int.toNat_natCast]; simp only [List.append_assoc]
    unfold RepPut
    rw [herr, hby]
    obtain ⟨ck, hckk⟩ : ∃ ck, checkV v = ck := ⟨_, rfl⟩
    rw [hckk]
    clear hby herr hq0 he0
    replace hpi := Lib.hid hpi
    replace hl0 := Lib.hid hl0
    replace hl1 := Lib.hid hl1
    replace hq1 := Lib.hid hq1
    replace hq2 := Lib.hid hq2
    replace hc := Lib.hid hc
    replace hs := Lib.hid hs
    replace hn := Lib.hid hn
    replace hen64 := Lib.hid hen64
    have b13 := b1.cell 3
    rw [hen] at d1 d2 hwe B1 b1 b13 hbl ⊢
    clear hA hen
    go_enter Try.func19, Try.ntmps19
    go_wp2_with fail
    clear d1 d2 b13
    generalize w.alloc (.cells #[.int .u32 (c : Int), .int .u32 (s : Int), .int .u16 (n : Int), .int .i64 (en : Int), .int .i64 k, .int .i64 i, .float .f64 f, .string t, .slice A' n' c'] 45) = w1 at *
    have hS : w1.drew.cell? ⟨b, 0, none⟩ = some (.int .u32 (c : Int)) ∧ w1.drew.cell? ⟨b, 1, none⟩ = some (.int .u32 (s : Int)) ∧ w1.drew.cell? ⟨b, 2, none⟩ = some (.int .u16 (n : Int)) ∧ w1.drew.cell? ⟨b, 3, none⟩ = some (.int .i64 (en : Int)) ∧ w1.drew.cell? ⟨b, 4, none⟩ = some (.int .i64 k) ∧ w1.drew.cell? ⟨b, 5, none⟩ = some (.int .i64 i) ∧ w1.drew.cell? ⟨b, 6, none⟩ = some (.float .f64 f) ∧ w1.drew.cell? ⟨b, 7, none⟩ = some (.string t) ∧ w1.drew.cell? ⟨b, 8, none⟩ = some (.slice A' n' c') := ⟨B1.cell 0, B1.cell 1, B1.cell 2, B1.cell 3, B1.cell 4, B1.cell 5, B1.cell 6, B1.cell 7, B1.cell 8⟩
    refine wp_region_lex (fun W => W.cell? ⟨b, 0, none⟩ = some (.int .u32 (c : Int)) ∧ W.cell? ⟨b, 1, none⟩ = some (.int .u32 (s : Int)) ∧ W.cell? ⟨b, 2, none⟩ = some (.int .u16 (n : Int)) ∧ W.cell? ⟨b, 3, none⟩ = some (.int .i64 (en : Int)) ∧ W.cell? ⟨b, 4, none⟩ = some (.int .i64 k) ∧ W.cell? ⟨b, 5, none⟩ = some (.int .i64 i) ∧ W.cell? ⟨b, 6, none⟩ = some (.float .f64 f) ∧ W.cell? ⟨b, 7, none⟩ = some (.string t) ∧ W.cell? ⟨b, 8, none⟩ = some (.slice A' n' c')) [2, 5, 9] [3, 7, 10] [0, 1, 2, 4, 5, 6, 8, 9, 3, 7, 10, 11, 12, 13, 14] (by kernel_rfl) rfl (by kernel_rfl) (by kernel_rfl) (fun _ _ d _ _ h => by cases d <;> exact h) ?_
    repeat (first | (refine lexG_take _ ?_ rfl rfl rfl rfl (fun _ => ?_) ?_; rotate_left; (focus (go_simp; with_reducible rfl)); try simp only [Act.put, List.setIfInBounds_toArray, List.set_cons_zero, List.set_cons_succ]) | (refine lexG_held _ ?_ rfl rfl rfl rfl (by assumption) (fun _ hSw => ?_) ?_; rotate_left; (focus ((try dsimp only at hSw); go_simp; with_reducible rfl)); try simp only [Act.put, List.setIfInBounds_toArray, List.set_cons_zero, List.set_cons_succ]) | (refine lexG_skip _ rfl rfl (by assumption) ?_; try simp only [Act.put, List.setIfInBounds_toArray, List.set_cons_zero, List.set_cons_succ]))
    clear hwe
    refine lexG_now _ rfl rfl rfl (fun K hK => ?_)
    go_wp2_with fail
    refine (hpi.out _ hbl.drew).mono ?_
    rintro e w2 ⟨A2, c2, rfl, ho2, hb2, hf2⟩
    dsimp only
    have hb2' : Below w1.heap.size w1 w2 := below_of_drew hb2
    have b2 := B1.below hb2' B1.lt
    have hB2 := below_then hb2' hbl
    have hw1l : b < w1.heap.size := B1.lt
    have hf2' : ∀ g, bOf A2 = some g → b < g := fun g hg => by have h9 : w1.heap.size ≤ g := hf2 g hg; omega
    refine hK _ _ _ (fun _ h => h) ⟨b2.cell 0, b2.cell 1, b2.cell 2, b2.cell 3, b2.cell 4, b2.cell 5, b2.cell 6, b2.cell 7, b2.cell 8⟩ ?_
    clear hK K hS hb2 hpi b1
    try simp only [Act.put, List.setIfInBounds_toArray, List.set_cons_zero, List.set_cons_succ]
    repeat (first | (refine lexG_take _ ?_ rfl rfl rfl rfl (fun _ => ?_) ?_; rotate_left; (focus (go_simp; with_reducible rfl)); try simp only [Act.put, List.setIfInBounds_toArray, List.set_cons_zero, List.set_cons_succ]) | (refine lexG_held _ ?_ rfl rfl rfl rfl (by assumption) (fun _ hSw => ?_) ?_; rotate_left; (focus ((try dsimp only at hSw); go_simp; with_reducible rfl)); try simp only [Act.put, List.setIfInBounds_toArray, List.set_cons_zero, List.set_cons_succ]) | (refine lexG_skip _ rfl rfl (by assumption) ?_; try simp only [Act.put, List.setIfInBounds_toArray, List.set_cons_zero, List.set_cons_succ]))
    refine lexG_now _ rfl rfl rfl (fun K hK => ?_)
    go_wp2_with fail
    · have he64 := hen64.out
      refine (ref_put (m := 2) ho2 (by rw [hl0.out]; omega) (by omega)).mono ?_
      rintro e w3 ⟨A3, c3, rfl, ho3, hu3, hf3⟩
      rw [n2, hq1.out] at ho3 ⊢
      dsimp only
      have hbs := b2.lt
      have b3 := b2.upd hu3 (fun e => by have := hf2' b e.symm; omega)
      have hB3 := hB2.trans (hu3.below (B := w.heap.size) hB2.size (fun k hk e => by have := hf2' k e.symm; omega))
      have hf3' : ∀ g, bOf A3 = some g → b < g := fun g hg => by rcases hf3 with h | h; (rw [h] at hg; exact hf2' g hg); (have := h g hg; omega)
      refine hK _ _ _ (fun _ h => h) ⟨b3.cell 0, b3.cell 1, b3.cell 2, b3.cell 3, b3.cell 4, b3.cell 5, b3.cell 6, b3.cell 7, b3.cell 8⟩ ?_
      clear hK K ho2 b2
      try simp only [Act.put, List.setIfInBounds_toArray, List.set_cons_zero, List.set_cons_succ]
      repeat (first | (refine lexG_take _ ?_ rfl rfl rfl rfl (fun _ => ?_) ?_; rotate_left; (focus (go_simp; with_reducible rfl)); try simp only [Act.put, List.setIfInBounds_toArray, List.set_cons_zero, List.set_cons_succ]) | (refine lexG_held _ ?_ rfl rfl rfl rfl (by assumption) (fun _ hSw => ?_) ?_; rotate_left; (focus ((try dsimp only at hSw); go_simp; with_reducible rfl)); try simp only [Act.put, List.setIfInBounds_toArray, List.set_cons_zero, List.set_cons_succ]) | (refine lexG_skip _ rfl rfl (by assumption) ?_; try simp only [Act.put, List.setIfInBounds_toArray, List.set_cons_zero, List.set_cons_succ]))
      refine lexG_now _ rfl rfl rfl (fun K hK => ?_)
      by_cases hck : checkV v = 0
      · have hpo := ref_put_ok (c := c3) hv hok hck (hB3.mono hB) (Nat.le_trans hB hB3.size) (Grows.own ho3) (fun g hg => by have := hf3' g hg; omega) (by rw [hl1.out]; omega)
        rw [hq2.out] at hpo
        have hck0 : ck = 0 := by rw [← hckk]; exact hck
        subst hck0
        replace hpo := Lib.hid hpo
        replace hck := Lib.hid hck
        replace hckk := Lib.hid hckk
        go_wp2_with fail
        refine hpo.out.mono ?_
        rintro e w4 ⟨A4, c4, rfl, ho4, hu4, hf4⟩
        dsimp only
        have b4 := b3.upd hu4 (fun e => by have := hf3' b e.symm; omega)
        have hB4 := hB3.trans (hu4.below (B := w.heap.size) hB3.size (fun k hk e => by have := hf3' k e.symm; omega))
        have hf4' : ∀ g, bOf A4 = some g → w.heap.size ≤ g := fun g hg => by rcases hf4 with h | h; (rw [h] at hg; have := hf3' g hg; omega); (have := h g hg; have := hB3.size; omega)
        refine hK _ _ _ (fun _ h => h) ⟨b4.cell 0, b4.cell 1, b4.cell 2, b4.cell 3, b4.cell 4, b4.cell 5, b4.cell 6, b4.cell 7, b4.cell 8⟩ ?_
        clear hK K hpo
        try simp only [Act.put, List.setIfInBounds_toArray, List.set_cons_zero, List.set_cons_succ]
        repeat (first | (refine lexG_take _ ?_ rfl rfl rfl rfl (fun _ => ?_) ?_; rotate_left; (focus (go_simp; with_reducible rfl)); try simp only [Act.put, List.setIfInBounds_toArray, List.set_cons_zero, List.set_cons_succ]) | (refine lexG_held _ ?_ rfl rfl rfl rfl (by assumption) (fun _ hSw => ?_) ?_; rotate_left; (focus ((try dsimp only at hSw); go_simp; with_reducible rfl)); try simp only [Act.put, List.setIfInBounds_toArray, List.set_cons_zero, List.set_cons_succ]) | (refine lexG_skip _ rfl rfl (by assumption) ?_; try simp only [Act.put, List.setIfInBounds_toArray, List.set_cons_zero, List.set_cons_succ]))
        refine lexG_nil ?_
        go_wp2_with fail
        go_ret2
        first | exact ⟨A4, c4, rfl, ho4, hB4, hf4'⟩ | exact ⟨fun _ => ⟨A4, c4, rfl, ho4, hB4, hf4'⟩, fun h => absurd rfl h⟩
      · have hpo := ref_put_no (A := A3) (m := q1.length) (c := c3) hv hck (hB3.mono hB) (Nat.le_trans hB hB3.size)
        rw [hckk] at hpo hck
        have hne : ((ck : Int) != 0) = true := bne_iff_ne.2 (by omega)
        replace hpo := Lib.hid hpo
        replace hck := Lib.hid hck
        replace hckk := Lib.hid hckk
        go_wp2_with fail
        refine hpo.out.mono ?_
        rintro e w4 ⟨rfl, hb4⟩
        dsimp only
        have b4 := b3.below hb4 b3.lt
        have hB4 := below_then hb4 hB3
        refine hK _ _ _ (fun _ h => h) ⟨b4.cell 0, b4.cell 1, b4.cell 2, b4.cell 3, b4.cell 4, b4.cell 5, b4.cell 6, b4.cell 7, b4.cell 8⟩ ?_
        clear hK K hpo
        try simp only [Act.put, List.setIfInBounds_toArray, List.set_cons_zero, List.set_cons_succ]
        repeat (first | (refine lexG_take _ ?_ rfl rfl rfl rfl (fun _ => ?_) ?_; rotate_left; (focus (go_simp; with_reducible rfl)); try simp only [Act.put, List.setIfInBounds_toArray, List.set_cons_zero, List.set_cons_succ]) | (refine lexG_held _ ?_ rfl rfl rfl rfl (by assumption) (fun _ hSw => ?_) ?_; rotate_left; (focus ((try dsimp only at hSw); go_simp; with_reducible rfl)); try simp only [Act.put, List.setIfInBounds_toArray, List.set_cons_zero, List.set_cons_succ]) | (refine lexG_skip _ rfl rfl (by assumption) ?_; try simp only [Act.put, List.setIfInBounds_toArray, List.set_cons_zero, List.set_cons_succ]))
        refine lexG_nil ?_
        go_wp2_with fail
        go_ret2
        exact ⟨fun e => absurd e hck.out, fun _ => ⟨rfl, hB4⟩⟩
end Go.Proofs.Ytblakaddanoilaa
