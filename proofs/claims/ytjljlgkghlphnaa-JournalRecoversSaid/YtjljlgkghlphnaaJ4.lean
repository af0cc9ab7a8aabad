/- A call put, as the document does it, onto an owned row. -/
import Derived.Test.YtjljlgkghlphnaaB3
import Derived.Test.YtjljlgkghlphnaaJ1
set_option linter.unusedSimpArgs false
set_option linter.unusedVariables false
namespace Go.Proofs.Ytjljlgkghlphnaa
open Go.RowKit
set_option maxRecDepth 100000

/-- Bytes behind an owned row's: in place, or in a new one. -/
def OwnBytes (w : World) (A : Option Addr) (r : List UInt8) (e : Ending) (w' : World) : Prop :=
  ∃ A' c', e = .returned (.slice A' r.length c') ∧ Own w' 5 1 A' r.length c' (bys r) ∧ Upd (fun k => some k = bOf A) w w' ∧ (∀ g, bOf A' = some g → bOf A' = bOf A ∨ w.heap.size ≤ g)
def PutOkB (B0 : Nat) (r : List UInt8) (w : World) (e : Ending) (w' : World) : Prop := ∃ A' c', e = .returned (.tuple #[.slice A' r.length c', .int .i64 0]) ∧ Own w' 5 1 A' r.length c' (bys r) ∧ Below B0 w w' ∧ ∀ g, bOf A' = some g → B0 ≤ g
def PutNoB (B0 x : Nat) (w : World) (e : Ending) (w' : World) : Prop := e = .returned (.tuple #[.slice none 0 0, .int .i64 (x : Int)]) ∧ Below B0 w w'
def OpPutB (B0 : Nat) (w : World) (bs : List UInt8) (o : OpD) (e : Ending) (w' : World) : Prop := (errO o = 0 → PutOkB B0 (bs ++ bytesO o) w e w') ∧ (errO o ≠ 0 → PutNoB B0 (errO o) w e w')

theorem ref_put_id_own {A : Option Addr} {c0 : Nat} {bs : List UInt8} {c s n : Nat} {w : World} (hr : Own w 5 1 A bs.length c0 (bys bs)) (hl : bs.length ≤ 1000000000) (hc : c < 4294967296) (hs : s < 4294967296) (hn : n < 65536) :
    Calls Try.prog 54 #[.slice A bs.length c0, .agg #[.int .u32 (c : Int), .int .u32 (s : Int), .int .u16 (n : Int)]] w (OwnBytes w A (bs ++ idB c s n)) := by
  have b1 := Blk.new w 27 #[.int .u32 (c : Int), .int .u32 (s : Int), .int .u16 (n : Int)]
  have hbl := (Below.refl w.heap.size w).alloc (Nat.le_refl _) (.cells #[.int .u32 (c : Int), .int .u32 (s : Int), .int .u16 (n : Int)] 27)
  obtain ⟨b, hb0⟩ : ∃ b, w.heap.size = b := ⟨_, rfl⟩
  have n4 : n8 4 = 4 := by decide
  obtain ⟨q1, hq1⟩ : ∃ q, bs ++ putU c 4 = q := ⟨_, rfl⟩
  obtain ⟨q2, hq2⟩ : ∃ q, q1 ++ putU s 4 = q := ⟨_, rfl⟩
  obtain ⟨q3, hq3⟩ : ∃ q, q2 ++ putU n 2 = q := ⟨_, rfl⟩
  have hl1 : q1.length = bs.length + 4 := by rw [← hq1, List.length_append, putU_len]
  have hl2 : q2.length = bs.length + 8 := by rw [← hq2, List.length_append, putU_len, hl1]
  have hq : bs ++ idB c s n = q3 := by rw [← idB_cons, hq1, hq2, hq3]
  rw [hq]
  clear hq
  replace hq1 := Lib.hid hq1
  replace hq2 := Lib.hid hq2
  replace hq3 := Lib.hid hq3
  replace hl1 := Lib.hid hl1
  replace hl2 := Lib.hid hl2
  have hwc := wrap_w32 c hc
  have hws_ := wrap_w32 s hs
  have hwn := wrap_w32 n (by omega)
  replace hc := Lib.hid hc
  replace hs := Lib.hid hs
  replace hn := Lib.hid hn
  have n2 : n8 2 = 2 := by decide
  have hws : (w.alloc (.cells #[.int .u32 (c : Int), .int .u32 (s : Int), .int .u16 (n : Int)] 27)).heap.size = w.heap.size + 1 := by simp
  have hal : ∀ g, bOf A = some g → g < w.heap.size := fun g hg => hr.lt hg
  have huA := (Upd.refl (fun k => some k = bOf A) w).alloc (.cells #[.int .u32 (c : Int), .int .u32 (s : Int), .int .u16 (n : Int)] 27)
  have hr1 := hr.below hbl (Nat.le_refl _)
  go_enter Try.func54, Try.ntmps54
  go_wp2_with fail
  generalize w.alloc (.cells #[.int .u32 (c : Int), .int .u32 (s : Int), .int .u16 (n : Int)] 27) = w1 at *
  rw [hb0] at b1
  have hS : w1.drew.cell? ⟨b, 0, none⟩ = some (.int .u32 (c : Int)) ∧ w1.drew.cell? ⟨b, 1, none⟩ = some (.int .u32 (s : Int)) ∧ w1.drew.cell? ⟨b, 2, none⟩ = some (.int .u16 (n : Int)) := b1.id3
  replace hb0 := Lib.hid hb0
  refine wp_region_lex (fun W => W.cell? ⟨b, 0, none⟩ = some (.int .u32 (c : Int)) ∧ W.cell? ⟨b, 1, none⟩ = some (.int .u32 (s : Int)) ∧ W.cell? ⟨b, 2, none⟩ = some (.int .u16 (n : Int))) [2, 6, 10] [4, 8, 12] [0, 1, 2, 3, 5, 6, 7, 9, 10, 11, 4, 8, 12, 13] (by kernel_rfl) rfl (by kernel_rfl) (by kernel_rfl) (fun _ _ d _ _ h => by cases d <;> exact h) ?_
  repeat (first | (refine lexG_take _ ?_ rfl rfl rfl rfl (fun _ => ?_) ?_; rotate_left; (focus (go_simp; with_reducible rfl)); try simp only [Act.put, List.setIfInBounds_toArray, List.set_cons_zero, List.set_cons_succ]) | (refine lexG_held _ ?_ rfl rfl rfl rfl (by assumption) (fun _ hSw => ?_) ?_; rotate_left; (focus ((try dsimp only at hSw); go_simp; with_reducible rfl)); try simp only [Act.put, List.setIfInBounds_toArray, List.set_cons_zero, List.set_cons_succ]) | (refine lexG_skip _ rfl rfl (by assumption) ?_; try simp only [Act.put, List.setIfInBounds_toArray, List.set_cons_zero, List.set_cons_succ]))
  clear hwc hws_ hwn
  refine lexG_now _ rfl rfl rfl (fun K hK => ?_)
  go_wp2_with fail
  refine (ref_put (m := 4) hr1.drew (by omega) (lt64 hc.out)).mono ?_
  rintro e w2 ⟨A2, c2, rfl, ho2, hu2d, hf2⟩
  rw [n4, hq1.out] at ho2 ⊢
  dsimp only
  have hu2 : Upd (fun k => some k = bOf A) w1 w2 := ⟨hu2d.os, hu2d.tape, hu2d.output, hu2d.size, hu2d.block⟩
  have hbb := hb0.out
  have hf2' : ∀ g, bOf A2 = some g → g ≠ b ∧ (bOf A2 = bOf A ∨ w.heap.size ≤ g) := fun g hg => by
    rcases hf2 with h | h
    · have h9 := hg
      rw [h] at h9
      have h2 := hal g h9
      exact ⟨by omega, .inl h⟩
    · have h1 : w1.heap.size ≤ g := h g hg
      have h2 := b1.lt
      exact ⟨by omega, .inr (by omega)⟩
  have b2 := b1.upd hu2 (fun e => by have h1 := hal b e.symm; omega)
  have hB2 := huA.trans hu2 (fun _ _ h => h)
  refine hK _ _ _ (fun _ h => h) b2.id3 ?_
  clear hK K hS hf2 hu2d
  try simp only [Act.put, List.setIfInBounds_toArray, List.set_cons_zero, List.set_cons_succ]
  repeat (first | (refine lexG_take _ ?_ rfl rfl rfl rfl (fun _ => ?_) ?_; rotate_left; (focus (go_simp; with_reducible rfl)); try simp only [Act.put, List.setIfInBounds_toArray, List.set_cons_zero, List.set_cons_succ]) | (refine lexG_held _ ?_ rfl rfl rfl rfl (by assumption) (fun _ hSw => ?_) ?_; rotate_left; (focus ((try dsimp only at hSw); go_simp; with_reducible rfl)); try simp only [Act.put, List.setIfInBounds_toArray, List.set_cons_zero, List.set_cons_succ]) | (refine lexG_skip _ rfl rfl (by assumption) ?_; try simp only [Act.put, List.setIfInBounds_toArray, List.set_cons_zero, List.set_cons_succ]))
  refine lexG_now _ rfl rfl rfl (fun K hK => ?_)
  go_wp2_with fail
  refine (ref_put (m := 4) ho2 (by rw [hl1.out]; omega) (lt64 hs.out)).mono ?_
  rintro e w3 ⟨A3, c3, rfl, ho3, hu3, hf3⟩
  rw [n4, hq2.out] at ho3 ⊢
  dsimp only
  have b3 := b2.upd hu3 (fun e => (hf2' b e.symm).1 rfl)
  have hB3 := hB2.trans hu3 (fun i hi e => by
    rcases (hf2' i e.symm).2 with h | h
    · exact e.trans h
    · omega)
  have hf3' : ∀ g, bOf A3 = some g → g ≠ b ∧ (bOf A3 = bOf A ∨ w.heap.size ≤ g) := fun g hg => by
    rcases hf3 with h | h
    · have h9 := hg
      rw [h] at h9
      have h8 := hf2' g h9
      exact ⟨h8.1, h8.2.elim (fun e => .inl (h.trans e)) .inr⟩
    · have h1 := h g hg
      have h2 := b2.lt
      exact ⟨by omega, .inr (by have := hB2.size; omega)⟩
  refine hK _ _ _ (fun _ h => h) b3.id3 ?_
  clear hK K ho2 b2 hu3 hf3
  try simp only [Act.put, List.setIfInBounds_toArray, List.set_cons_zero, List.set_cons_succ]
  repeat (first | (refine lexG_take _ ?_ rfl rfl rfl rfl (fun _ => ?_) ?_; rotate_left; (focus (go_simp; with_reducible rfl)); try simp only [Act.put, List.setIfInBounds_toArray, List.set_cons_zero, List.set_cons_succ]) | (refine lexG_held _ ?_ rfl rfl rfl rfl (by assumption) (fun _ hSw => ?_) ?_; rotate_left; (focus ((try dsimp only at hSw); go_simp; with_reducible rfl)); try simp only [Act.put, List.setIfInBounds_toArray, List.set_cons_zero, List.set_cons_succ]) | (refine lexG_skip _ rfl rfl (by assumption) ?_; try simp only [Act.put, List.setIfInBounds_toArray, List.set_cons_zero, List.set_cons_succ]))
  refine lexG_now _ rfl rfl rfl (fun K hK => ?_)
  go_wp2_with fail
  refine (ref_put (m := 2) ho3 (by rw [hl2.out]; omega) (lt64' hn.out)).mono ?_
  rintro e w4 ⟨A4, c4, rfl, ho4, hu4, hf4⟩
  rw [n2, hq3.out] at ho4 ⊢
  dsimp only
  have b4 := b3.upd hu4 (fun e => (hf3' b e.symm).1 rfl)
  have hB4 := hB3.trans hu4 (fun i hi e => by
    rcases (hf3' i e.symm).2 with h | h
    · exact e.trans h
    · omega)
  have hf4' : ∀ g, bOf A4 = some g → bOf A4 = bOf A ∨ w.heap.size ≤ g := fun g hg => by
    rcases hf4 with h | h
    · have h9 := hg
      rw [h] at h9
      exact (hf3' g h9).2.elim (fun e => .inl (h.trans e)) .inr
    · exact .inr (Nat.le_trans hB3.size (h g hg))
  refine hK _ _ _ (fun _ h => h) b4.id3 ?_
  clear hK K
  try simp only [Act.put, List.setIfInBounds_toArray, List.set_cons_zero, List.set_cons_succ]
  repeat (first | (refine lexG_take _ ?_ rfl rfl rfl rfl (fun _ => ?_) ?_; rotate_left; (focus (go_simp; with_reducible rfl)); try simp only [Act.put, List.setIfInBounds_toArray, List.set_cons_zero, List.set_cons_succ]) | (refine lexG_held _ ?_ rfl rfl rfl rfl (by assumption) (fun _ hSw => ?_) ?_; rotate_left; (focus ((try dsimp only at hSw); go_simp; with_reducible rfl)); try simp only [Act.put, List.setIfInBounds_toArray, List.set_cons_zero, List.set_cons_succ]) | (refine lexG_skip _ rfl rfl (by assumption) ?_; try simp only [Act.put, List.setIfInBounds_toArray, List.set_cons_zero, List.set_cons_succ]))
  refine lexG_nil ?_
  clear ho3 b3 b4
  go_wp2_with fail
  go_ret
  exact ⟨A4, c4, rfl, ho4, hB4, hf4'⟩

structure PRel4 (B0 : Nat) (w wr : World) (b c s n : Nat) (gg mm : ByteArray) (A : Option Addr) (cc : Nat) (l : List Val) (q4 : List UInt8) (er : Nat) (j : Nat) (A1 : Option Addr) (c1 : Nat) (q : List UInt8) : Prop where
  jl : j ≤ l.length
  own : Own wr 5 1 A1 q.length c1 (bys q)
  fresh : ∀ g, bOf A1 = some g → B0 ≤ g ∧ g ≠ b
  hq : Hid (q = q4 ++ encL (l.take j))
  hlen : Hid (q.length ≤ q4.length + j * 4096)
  he : Hid (errL (l.drop j) = er)
  hb : Below B0 w wr
  box : Blk wr b 30 #[.int .u32 (c : Int), .int .u32 (s : Int), .int .u16 (n : Int), .string gg, .string mm, .slice A l.length cc]

set_option maxHeartbeats 6400000 in
theorem ref_put_op_own {w : World} {B B0 c0 : Nat} {o : OpD} {cs : Array Value} {A0 : Option Addr} {bs : List UInt8} (h : OpReads w B o cs) (hB0 : B ≤ B0) (hBw : B0 ≤ w.heap.size) (hA : Own w 5 1 A0 bs.length c0 (bys bs)) (hf0 : ∀ g, bOf A0 = some g → B0 ≤ g) (hl : bs.length ≤ 100000) (hg100 : o.g.length ≤ 1000) (hm100 : o.m.length ≤ 1000) :
    Calls Try.prog 30 #[.slice A0 bs.length c0, .agg cs] w (OpPutB B0 w bs o) := by
  have hB : B ≤ w.heap.size := Nat.le_trans hB0 hBw
  have hal : ∀ g, bOf A0 = some g → g < w.heap.size := fun g hg => hA.lt hg
  obtain ⟨A, cc, xs, css, rfl, hr, hx, hxs, hll, hok, hc, hs, hn⟩ := h
  obtain ⟨c, s, n, g, m, l⟩ := o
  dsimp only at *
  obtain ⟨i0, hi, hz0, hz1, hz2⟩ := info_parts info_u8
  have hsf := fun a k x m w => run_store_float (P := Try.prog) a k x m w
  obtain ⟨gg, hgg⟩ : ∃ gg, bstr g = gg := ⟨_, rfl⟩
  obtain ⟨mm, hmm⟩ : ∃ mm, bstr m = mm := ⟨_, rfl⟩
  rw [hgg, hmm]
  have b1 := Blk.new w 30 #[.int .u32 (c : Int), .int .u32 (s : Int), .int .u16 (n : Int), .string gg, .string mm, .slice A l.length cc]
  have hbl := (Below.refl w.heap.size w).alloc (Nat.le_refl _) (.cells #[.int .u32 (c : Int), .int .u32 (s : Int), .int .u16 (n : Int), .string gg, .string mm, .slice A l.length cc] 30)
  have hblB := hbl.mono hBw
  obtain ⟨b, hb0⟩ : ∃ b, w.heap.size = b := ⟨_, rfl⟩
  by_cases h16 : 16 < l.length
  · have herr : errO ⟨c, s, n, g, m, l⟩ = 22 := by unfold errO; rw [if_pos h16]
    have hd : decide ((16 : Int) < (l.length : Int)) = true := decide_eq_true (by omega)
    have b15 := b1.cell 5
    clear hr hx hxs hll hok hc hs hn hA hg100 hm100 hl b1
    go_enter Try.func30, Try.ntmps30
    go_wp2_with fail
    go_ret2
    exact ⟨fun e => absurd (herr.symm.trans e) (by decide), fun _ => ⟨by rw [herr]; rfl, hblB⟩⟩
  have hd : decide ((16 : Int) < (l.length : Int)) = false := decide_eq_false (by omega)
  have hpi := fun w2 (hb2 : Below w.heap.size w w2) => ref_put_id_own (bs := bs) (hA.below hb2 (Nat.le_refl _)) (by omega) hc hs hn
  obtain ⟨q0, hq0⟩ : ∃ q, bs ++ idB c s n = q := ⟨_, rfl⟩
  have hl0 : q0.length = bs.length + 10 := by rw [← hq0, List.length_append, idB_len]
  rw [hq0] at hpi
  obtain ⟨q1, hq1⟩ : ∃ q, q0 ++ putU g.length 2 ++ g = q := ⟨_, rfl⟩
  obtain ⟨q2, hq2⟩ : ∃ q, q1 ++ putU m.length 2 ++ m = q := ⟨_, rfl⟩
  obtain ⟨q3, hq3⟩ : ∃ q, q2 ++ [UInt8.ofNat l.length] = q := ⟨_, rfl⟩
  have hl1 : q1.length = q0.length + 2 + g.length := by rw [← hq1, List.length_append, List.length_append, putU_len]
  have hl2 : q2.length = q1.length + 2 + m.length := by rw [← hq2, List.length_append, List.length_append, putU_len]
  have hl3 : q3.length = q2.length + 1 := by rw [← hq3, List.length_append]; rfl
  have hb3 : bys q3 = bys q2 ++ bys [UInt8.ofNat l.length] := by rw [← hq3, bys_append]
  have hhead : bs ++ headO ⟨c, s, n, g, m, l⟩ = q3 := by rw [← hq3, ← hq2, ← hq1, ← hq0]; unfold headO; simp only [List.append_assoc]
  have hgno : 32 < g.length → ∀ (A : Option Addr) (c3 : Nat) (w3 : World), Calls Try.prog 55 #[.slice A q0.length c3, .string gg, .int .i64 32] w3 (fun e w' => e = .returned (.tuple #[.slice none 0 0, .int .i64 22]) ∧ w3 = w') := fun h32 A c3 w3 => by
    rw [← hgg]; exact ref_put_text_no (m := 32) (.inl (by omega)) (by omega)
  have hmno : 32 < m.length → ∀ (A : Option Addr) (c3 : Nat) (w3 : World), Calls Try.prog 55 #[.slice A q1.length c3, .string mm, .int .i64 32] w3 (fun e w' => e = .returned (.tuple #[.slice none 0 0, .int .i64 22]) ∧ w3 = w') := fun h32 A c3 w3 => by
    rw [← hmm]; exact ref_put_text_no (m := 32) (.inl (by omega)) (by omega)
  have hgok : ¬ 32 < g.length → ∀ (A : Option Addr) (c3 : Nat) (w3 : World), Own w3 5 1 A q0.length c3 (bys q0) → Calls Try.prog 55 #[.slice A q0.length c3, .string gg, .int .i64 32] w3 (TextRow w3 (bOf A) q1) := fun h32 A c3 w3 hR => by
    rw [← hgg]; exact ref_put_text_own (m := 32) hR (by omega) (by omega) (by omega) hq1
  have hmok : ¬ 32 < m.length → ∀ (A : Option Addr) (c3 : Nat) (w3 : World), q1.length ≤ 1000000 → Own w3 5 1 A q1.length c3 (bys q1) → Calls Try.prog 55 #[.slice A q1.length c3, .string mm, .int .i64 32] w3 (TextRow w3 (bOf A) q2) := fun h32 A c3 w3 hl1 hR => by
    rw [← hmm]; exact ref_put_text_own (m := 32) hR (by omega) (by omega) (by omega) hq2
  have hwb : IntKind.u8.wrap (l.length : Int) = (l.length : Int) := by simp [IntKind.wrap, IntKind.bits, IntKind.signed]; omega
  have hbyte : (#[Value.int .u8 (l.length : Int)] : Array Value).toList = bys [UInt8.ofNat l.length] := by
    have : l.length % 256 = l.length := by omega
    simp [bys, byv, this]
  have herr : errO ⟨c, s, n, g, m, l⟩ = if 32 < g.length then 22 else if 32 < m.length then 22 else errL l := by unfold errO; rw [if_neg h16]
  have hby : bs ++ bytesO ⟨c, s, n, g, m, l⟩ = q3 ++ encL l := by unfold bytesO; rw [← List.append_assoc, hhead]
  unfold OpPutB
  rw [herr, hby]
  obtain ⟨er, her⟩ : ∃ er, (if 32 < g.length then 22 else if 32 < m.length then 22 else errL l) = er := ⟨_, rfl⟩
  rw [her]
  clear herr hby hhead hq0 hgg hmm hq3
  replace her := Lib.hid her
  replace hq1 := Lib.hid hq1
  replace hq2 := Lib.hid hq2
  replace hl0 := Lib.hid hl0
  replace hl1 := Lib.hid hl1
  replace hl2 := Lib.hid hl2
  replace hl3 := Lib.hid hl3
  replace hb3 := Lib.hid hb3
  replace hbyte := Lib.hid hbyte
  replace hgno := Lib.hid hgno
  replace hmno := Lib.hid hmno
  replace hgok := Lib.hid hgok
  replace hmok := Lib.hid hmok
  replace hpi := Lib.hid hpi
  replace hc := Lib.hid hc
  replace hs := Lib.hid hs
  replace hn := Lib.hid hn
  have hrx := Lib.hid hr
  have hxx := Lib.hid hx
  have hxxs := Lib.hid hxs
  have hokx := Lib.hid hok
  have hbl' := hbl
  have B1 := b1
  rw [hb0] at B1
  have b10 := b1.cell 0
  have b11 := b1.cell 1
  have b12 := b1.cell 2
  have b13 := b1.cell 3
  have b14 := b1.cell 4
  have b15 := b1.cell 5
  clear hr hx hxs hok hA
  go_enter Try.func30, Try.ntmps30
  go_wp2_with fail
  refine (hpi.out _ hbl).mono ?_
  rintro e w2 ⟨A2, c2, rfl, ho2, hu2, hf2⟩
  dsimp only
  have B2 := B1.upd hu2 (fun e => by have := hal b e.symm; omega)
  have hB2 := hblB.trans (hu2.below (B := B0) (Nat.le_trans hBw hblB.size) (fun k hk e => by have := hf0 k e.symm; omega))
  have d3 := B2.cell 3
  have hf2' : ∀ g, bOf A2 = some g → B0 ≤ g ∧ g ≠ b := fun g hg => by
    rcases hf2 g hg with h | h
    · rw [h] at hg
      have h1 := hf0 g hg
      have h2 := hal g hg
      exact ⟨h1, by omega⟩
    · rw [World.size_alloc] at h
      exact ⟨by omega, by omega⟩
  clear b10 b11 b12 b13 b14 b15 hbl hbl' hu2 B1 hf2
  go_wp2_with fail
  by_cases hg32 : 32 < g.length
  · have he22 : er = 22 := by rw [← her.out, if_pos hg32]
    subst he22
    refine (hgno.out hg32 _ _ _).mono ?_
    rintro e w4 ⟨rfl, rfl⟩
    dsimp only
    go_wp2_with fail
    go_ret2
    exact ⟨fun e => absurd e (by decide), fun _ => ⟨rfl, hB2⟩⟩
  refine (hgok.out hg32 _ _ _ ho2).mono ?_
  rintro e w4 ⟨A4, c4, rfl, ho4, hu4, hf4⟩
  dsimp only
  have B4 := B2.upd hu4 (fun e => by have := hf2' b e.symm; omega)
  have hB4 := hB2.trans (hu4.below (B := B0) (Nat.le_trans hBw hB2.size) (fun k hk e => by have := hf2' k e.symm; omega))
  have hbl4 := B2.lt
  have hs2 := hB2.size
  have hf4' : ∀ g, bOf A4 = some g → B0 ≤ g ∧ g ≠ b := fun g hg => by rcases hf4 with h | h; (rw [h] at hg; exact hf2' g hg); (have := h g hg; omega)
  have d4 := B4.cell 4
  clear ho2 d3 hf4 hu4 B2 hB2 hf2' hbl4
  go_wp2_with fail
  by_cases hm32 : 32 < m.length
  · have he22 : er = 22 := by rw [← her.out, if_neg hg32, if_pos hm32]
    subst he22
    refine (hmno.out hm32 _ _ _).mono ?_
    rintro e w5 ⟨rfl, rfl⟩
    dsimp only
    go_wp2_with fail
    go_ret2
    exact ⟨fun e => absurd e (by decide), fun _ => ⟨rfl, hB4⟩⟩
  have her' : errL l = er := by rw [← her.out, if_neg hg32, if_neg hm32]
  replace her' := Lib.hid her'
  clear her
  refine (hmok.out hm32 _ _ _ (by rw [hl1.out, hl0.out]; omega) ho4).mono ?_
  rintro e w5 ⟨A5, c5, rfl, ho5, hu5, hf5⟩
  dsimp only
  have B5 := B4.upd hu5 (fun e => by have := hf4' b e.symm; omega)
  have hB5 := hB4.trans (hu5.below (B := B0) (Nat.le_trans hBw hB4.size) (fun k hk e => by have := hf4' k e.symm; omega))
  have hbl5 := B4.lt
  have hs4 := hB4.size
  have hf5' : ∀ g, bOf A5 = some g → B0 ≤ g ∧ g ≠ b := fun g hg => by rcases hf5 with h | h; (rw [h] at hg; exact hf4' g hg); (have := h g hg; omega)
  have d5 := B5.cell 5
  clear ho4 hB4 hf4' hf5 hu5 B4 d4 hbl5
  go_wp2_with (at_builtin; go_must (refine wpList_append_mine rfl _ _ 22 22 rfl 5 i0 (.int .u8 0) 1 1 Try.underlying22 hi hz0 hz1 hz2 rfl rfl (ho5.alloc _) rfl (Src.ofReads Try.underlying22 _ (Reads.lit _ _ _ _ 1 _ hbyte.out rfl) (bys_one _)) ?b1 ?b2 ?grow))
  case b1 =>
    have e1 := hl2.out
    have e2 := hl1.out
    have e3 := hl0.out
    unfold maxLen
    omega
  case b2 =>
    have e1 := hl2.out
    have e2 := hl1.out
    have e3 := hl0.out
    omega
  case grow =>
    intro A6 c6 w6 ho6 hg6 hat6
    have hb5s : w5.heap.size ≤ (w5.alloc (.cells #[.int .u8 (l.length : Int)] 5)).heap.size := by simp
    have B6 := (B5.alloc (.cells #[.int .u8 (l.length : Int)] 5)).grown hg6 (fun e => by have := hf5' b e.symm; omega)
    have hbw : w.heap.size ≤ b := by omega
    have hB6 := (hB5.alloc (Nat.le_trans hBw hB5.size) (.cells #[.int .u8 (l.length : Int)] 5)).grown hg6 (Nat.le_trans hBw (Nat.le_trans hB5.size hb5s)) (fun k hk => by have := hf5' k hk; omega)
    have hs5 := hB5.size
    have hf6 : ∀ g, bOf A6 = some g → B0 ≤ g ∧ g ≠ b := fun g hg => by
      rcases hat6 with h | h
      · rw [h] at hg; exact hf5' g hg
      · rw [h] at hg; cases hg; have := B5.lt; exact ⟨by omega, by omega⟩
    rw [← hb3.out, ← hl3.out] at ho6
    rw [← hl3.out]
    have d5' := B6.cell 5
    have hql : q3.length ≤ 200000 := by have e0 := hl3.out; have e1 := hl2.out; have e2 := hl1.out; have e3 := hl0.out; omega
    replace hql := Lib.hid hql
    clear B5 hB5 ho5 hf5' hg6 hat6 hb5s d5
    go_wp2_with fail
    clear d5' hgno hmno hgok hmok hpi
    go_loopw [0, 6, 7] (fun out ev ii wr => ∃ (j : Nat) (A1 : Option Addr) (c1 : Nat) (q : List UInt8), out = .slice A1 q.length c1 ∧ ii = .int .i64 (j : Int) ∧ PRel4 B0 w wr b c s n gg mm A cc l q3 er j A1 c1 q) (fun _ _ ii _ => l.length - (intOf ii).toNat)
    case atStart => exact ⟨0, A6, c6, q3, rfl, rfl, Nat.zero_le _, ho6, hf6, Lib.hid (by simp [encL]), Lib.hid (by simp), Lib.hid (by rw [List.drop_zero]; exact her'.out), hB6, B6⟩
    case round =>
      rename_i hrel
      obtain ⟨j, A1, c1, q, rfl, rfl, R⟩ := hrel
      have y5 := R.box.cell 5
      by_cases hlt : j < l.length
      · obtain ⟨ad, k', i', f', s', A', n', c', rfl, hform, hgk, g0, g1, g2, g3, g4⟩ := kid hrx.out hxx.out hxxs.out (R.hb.mono hB0) hlt
        have hstep := errL_step hlt
        have hen := encL_snoc hlt
        have hb7 := R.hb
        have ho7 := R.own
        have hbx := R.box
        have hjl := R.hlen.out
        have hql' := hql.out
        have hj16 : j < 16 := by omega
        have hfr := R.fresh
        have hbwr := R.box.lt
        by_cases hck : checkV l[j] = 0
        · have hpo := ref_put_ok (c := c1) (hxx.out j l[j] hgk) (hokx.out l[j] (List.getElem_mem hlt)) hck (hb7.mono hB0) (Nat.le_trans hB hb7.size) (Grows.own ho7) (fun g hg => by have := hfr g hg; omega) (by omega)
          have hsm := encV_small hck
          obtain ⟨q', hq'⟩ : ∃ q', q ++ encV l[j] = q' := ⟨_, rfl⟩
          have hql2 : q'.length ≤ q3.length + (j + 1) * 4096 := by rw [← hq', List.length_append]; omega
          have hq2' : q' = q3 ++ encL (l.take (j + 1)) := by rw [← hq', R.hq.out, hen, List.append_assoc]
          have he2 : errL (l.drop (j + 1)) = er := by rw [← R.he.out, hstep, if_neg (by rw [hck]; simp)]
          rw [hform, hq'] at hpo
          replace hpo := Lib.hid hpo
          replace hql2 := Lib.hid hql2
          replace hq2' := Lib.hid hq2'
          replace he2 := Lib.hid he2
          clear hform hgk hstep hen R hjl hck hq' ho7 hsm hql'
          go_wp2_with fail
          refine hpo.out.mono ?_
          rintro e w8 ⟨A8, c8, rfl, ho8, hu8, hf8⟩
          dsimp only
          have hB8 := hb7.trans (hu8.below (B := B0) (Nat.le_trans hBw hb7.size) (fun k hk e => by have := hfr k e.symm; omega))
          have B8 := hbx.upd hu8 (fun e => by have := hfr b e.symm; omega)
          have hs7 := hb7.size
          have hf8' : ∀ g, bOf A8 = some g → B0 ≤ g ∧ g ≠ b := fun g hg => by rcases hf8 with h | h; (rw [h] at hg; exact hfr g hg); (have := h g hg; omega)
          clear hb7 hu8 hf8 hpo g0 g1 g2 g3 g4 y5 hbx
          go_wp2_with fail
          go_roundw
          case rel => exact ⟨j + 1, A8, c8, q', rfl, by simp, by omega, ho8, hf8', hq2', hql2, he2, hB8, B8⟩
          case measure => simp [intOf]; omega
        · have hpo := ref_put_no (A := A1) (m := q.length) (c := c1) (hxx.out j l[j] hgk) hck (hb7.mono hB0) (Nat.le_trans hB hb7.size)
          have hern : checkV l[j] = er := by rw [← R.he.out, hstep, if_pos hck]
          rw [hform, hern] at hpo
          rw [hern] at hck
          have hne : ((er : Int) != 0) = true := bne_iff_ne.2 (by omega)
          replace hpo := Lib.hid hpo
          replace hck := Lib.hid hck
          clear hform hgk hstep hen R hjl hern ho7 hql'
          go_wp2_with fail
          refine hpo.out.mono ?_
          rintro e w8 ⟨rfl, hb8⟩
          dsimp only
          have hB8 := hb7.trans (hb8.mono (Nat.le_trans hBw hb7.size))
          go_wp2_with fail
          go_ret2
          exact ⟨fun e => absurd e hck.out, fun _ => ⟨rfl, hB8⟩⟩
      · have hj' : j = l.length := by have := R.jl; omega
        subst hj'
        have he0 : er = 0 := by rw [← R.he.out, List.drop_length]; rfl
        have hq0 : q3 ++ encL l = q := by rw [R.hq.out, List.take_length]
        have ho := R.own
        have hfr := R.fresh
        have hbf := R.hb
        subst he0
        replace hq0 := Lib.hid hq0
        clear R
        go_wp2_with fail
        go_ret2
        rw [hq0.out]
        exact ⟨A1, c1, rfl, ho, hbf, fun g hg => (hfr g hg).1⟩
end Go.Proofs.Ytjljlgkghlphnaa
namespace Go.Proofs.Ytjljlgkghlphnaa
open Go.RowKit
set_option maxRecDepth 100000

theorem ref_wrap_big {A C : Option Addr} {c d n m : Nat} {w : World} (hl : 65536 < m) (hm : m ≤ 140737488351232) :
    Calls Try.prog 31 #[.slice A n c, .slice C m d] w fun e w' => e = .returned (.tuple #[.slice none 0 0, .int .i64 22]) ∧ w = w' := by
  go_enter Try.func31, Try.ntmps31
  go_wp2
  go_ret2
  exact ⟨rfl, rfl⟩

set_option maxHeartbeats 6400000 in
theorem rput_walk {k n : Int} {v c1 s1 n1 : Nat} {g m bs : List UInt8} {gg mm : ByteArray} {l : List Val} {A A0 : Option Addr} {K cc B : Nat} {w : World} (ho : OpReads w B ⟨c1, s1, n1, g, m, l⟩ #[.int .u32 (c1 : Int), .int .u32 (s1 : Int), .int .u16 (n1 : Int), .string gg, .string mm, .slice A K cc]) (hB : B ≤ w.heap.size) (hv : v < 18446744073709551616) (hg : g.length ≤ 1000) (hm : m.length ≤ 1000)
    (hA : Reads w w.heap.size 1 A0 bs.length (bys bs)) (hl : bs.length ≤ 100000000) :
    Calls Try.prog 11 #[.slice A0 bs.length bs.length, .agg #[.int .i64 k, .int .u64 (v : Int), .int .i64 n, .int .u32 (c1 : Int), .int .u32 (s1 : Int), .int .u16 (n1 : Int), .string gg, .string mm, .slice A K cc]] w (PayRes w (errJ ⟨k, v, n, ⟨c1, s1, n1, g, m, l⟩⟩) (bs ++ framed (bytesP ⟨k, v, n, ⟨c1, s1, n1, g, m, l⟩⟩))) := by
  have hR1 := Blk.new w 41 #[.int .i64 k, .int .u64 (v : Int), .int .i64 n, .int .u32 (c1 : Int), .int .u32 (s1 : Int), .int .u16 (n1 : Int), .string gg, .string mm, .slice A K cc]
  have hb1 := (Below.refl w.heap.size w).alloc (Nat.le_refl _) (.cells #[.int .i64 k, .int .u64 (v : Int), .int .i64 n, .int .u32 (c1 : Int), .int .u32 (s1 : Int), .int .u16 (n1 : Int), .string gg, .string mm, .slice A K cc] 41)
  obtain ⟨x, hx⟩ : ∃ x, IntKind.u8.wrap k = x := ⟨_, rfl⟩
  have hb2 := hb1.alloc hb1.size (.cells #[.int .u8 x] 5)
  have hR2 := hR1.alloc (.cells #[.int .u8 x] 5)
  have hL := Own.new (w.alloc (.cells #[.int .i64 k, .int .u64 (v : Int), .int .i64 n, .int .u32 (c1 : Int), .int .u32 (s1 : Int), .int .u16 (n1 : Int), .string gg, .string mm, .slice A K cc] 41)) 5 1 1 #[.int .u8 x] rfl (by decide)
  have hs1 : (w.alloc (.cells #[.int .i64 k, .int .u64 (v : Int), .int .i64 n, .int .u32 (c1 : Int), .int .u32 (s1 : Int), .int .u16 (n1 : Int), .string gg, .string mm, .slice A K cc] 41)).heap.size = w.heap.size + 1 := by simp
  rw [hs1] at hL
  have hc := hR1.rec9
  have hc2 := hR2.rec9
  have hle := bytesP_le (r := ⟨k, v, n, ⟨c1, s1, n1, g, m, l⟩⟩)
  obtain ⟨N, hN⟩ : ∃ N, bs.length = N := ⟨_, rfl⟩
  by_cases hbad : k < 1 ∨ 4 < k ∨ n < 0 ∨ 2147483647 < n ∨ (k = 1 ∧ 1 < n)
  · have he : errP ⟨k, v, n, ⟨c1, s1, n1, g, m, l⟩⟩ = 22 := by unfold errP; rw [if_pos hbad]
    have he2 : errJ ⟨k, v, n, ⟨c1, s1, n1, g, m, l⟩⟩ = 22 := by unfold errJ; rw [he, if_pos (by decide)]
    rw [he2, hN]
    generalize bs ++ framed (bytesP ⟨k, v, n, ⟨c1, s1, n1, g, m, l⟩⟩) = bb
    have fin22 : ∀ W, Below w.heap.size w W → PayRes w 22 bb (.returned (.tuple #[.slice none 0 0, .int .i64 22])) W := fun W hW => ⟨fun h => absurd h (by decide), fun _ => ⟨rfl, hW⟩⟩
    clear he he2 hle hN hA
    replace fin22 := Lib.hid fin22
    clear hL ho
    go_enter Try.func11, Try.ntmps11
    by_cases h1 : k < 1
    · have d1 : decide (k < 1) = true := decide_eq_true h1
      go_wp2_with fail
      go_ret2
      exact fin22.out _ (by assumption)
    have d1 : decide (k < 1) = false := decide_eq_false h1
    by_cases h2 : 4 < k
    · have d2 : decide (4 < k) = true := decide_eq_true h2
      go_wp2_with fail
      go_ret2
      exact fin22.out _ (by assumption)
    have d2 : decide (4 < k) = false := decide_eq_false h2
    by_cases h3 : n < 0
    · have d3 : decide (n < 0) = true := decide_eq_true h3
      go_wp2_with fail
      go_ret2
      exact fin22.out _ (by assumption)
    have d3 : decide (n < 0) = false := decide_eq_false h3
    by_cases h4 : 2147483647 < n
    · have d4 : decide (2147483647 < n) = true := decide_eq_true h4
      go_wp2_with fail
      go_ret2
      exact fin22.out _ (by assumption)
    have d4 : decide (2147483647 < n) = false := decide_eq_false h4
    have d5 : (k == 1) = true := by rw [beq_iff_eq]; omega
    have d6 : decide (1 < n) = true := decide_eq_true (by omega)
    go_wp2_with fail
    go_ret2
    exact fin22.out _ (by assumption)
  have hbs : ∀ W, Below w.heap.size w W → OpReads W B ⟨c1, s1, n1, g, m, l⟩ #[.int .u32 (c1 : Int), .int .u32 (s1 : Int), .int .u16 (n1 : Int), .string gg, .string mm, .slice A K cc] := fun W hW => ho.below (hW.mono hB)
  have d1 : decide (k < 1) = false := decide_eq_false (by omega)
  have d2 : decide (4 < k) = false := decide_eq_false (by omega)
  obtain ⟨j, rfl⟩ : ∃ j : Nat, n = (j : Int) := ⟨n.toNat, by omega⟩
  have d3 : decide ((j : Int) < 0) = false := decide_eq_false (by omega)
  have d4 : decide (2147483647 < (j : Int)) = false := decide_eq_false (by omega)
  have hj2 : j ≤ 2147483647 := by omega
  have hwn : IntKind.u64.wrap (j : Int) = (j : Int) := wrap_u64_nat j (by omega)
  have hkx : x = ((UInt8.ofNat k.toNat).toNat : Int) := by rw [← hx]; exact wrap_kind k (by omega) (by omega)
  have hL2 : Own ((w.alloc (.cells #[.int .i64 k, .int .u64 (v : Int), .int .i64 (j : Int), .int .u32 (c1 : Int), .int .u32 (s1 : Int), .int .u16 (n1 : Int), .string gg, .string mm, .slice A K cc] 41)).alloc (.cells #[.int .u8 x] 5)) 5 1 (some ⟨w.heap.size + 1, 0, none⟩) [UInt8.ofNat k.toNat].length 1 (bys [UInt8.ofNat k.toNat]) := by
    have h := hL
    rw [hkx] at h ⊢
    exact h
  have hA1 : Reads w w.heap.size 1 A0 bs.length (bys bs) := hA
  unfold errJ
  obtain ⟨r, hr⟩ : ∃ r, bytesP ⟨k, v, (j : Int), ⟨c1, s1, n1, g, m, l⟩⟩ = r := ⟨_, rfl⟩
  obtain ⟨rr, hrr⟩ : ∃ rr, bs ++ framed r = rr := ⟨_, rfl⟩
  obtain ⟨E0, hE0⟩ : ∃ E0, errP ⟨k, v, (j : Int), ⟨c1, s1, n1, g, m, l⟩⟩ = E0 := ⟨_, rfl⟩
  obtain ⟨E, hE⟩ : ∃ E, (if E0 ≠ 0 then E0 else if 65536 < r.length then 22 else 0) = E := ⟨_, rfl⟩
  rw [hr, hE0] at hle
  rw [hr, hE0, hE, hrr, hN]
  replace hE := Lib.hid hE
  replace hrr := Lib.hid hrr
  replace hN := Lib.hid hN
  replace hA1 := Lib.hid hA1
  replace hl := Lib.hid hl
  replace hbs := Lib.hid hbs
  replace hL2 := Lib.hid hL2
  replace hle := Lib.hid hle
  clear hL hA ho hkx hR1 hb1
  by_cases hk1 : k = 1
  · subst hk1
    have he : E0 = 0 := by rw [← hE0]; unfold errP; rw [if_neg hbad]; rfl
    subst he
    have hle := hle.out rfl
    have d6 : decide (1 < (j : Int)) = false := decide_eq_false (by omega)
    obtain ⟨q, hq⟩ : ∃ q, [UInt8.ofNat (1 : Int).toNat] ++ putU v 8 = q := ⟨_, rfl⟩
    have hqr : q ++ putU j 4 = r := by rw [← hr, ← hq]; rfl
    have hql : q.length = 9 := by rw [← hq]; simp [putU_len]
    replace hq := Lib.hid hq
    replace hqr := Lib.hid hqr
    have hql' : q.length ≤ 9 := by omega
    clear hql
    clear hr hE0
    clear hc hbad
    go_enter Try.func11, Try.ntmps11
    go_wp2_with fail
    generalize (w.alloc (.cells #[.int .i64 1, .int .u64 (v : Int), .int .i64 (j : Int), .int .u32 (c1 : Int), .int .u32 (s1 : Int), .int .u16 (n1 : Int), .string gg, .string mm, .slice A K cc] 41)).alloc (.cells #[.int .u8 x] 5) = w3 at *
    clear hc2
    have hS0 : Blk w3.drew w.heap.size 41 #[.int .i64 1, .int .u64 (v : Int), .int .i64 (j : Int), .int .u32 (c1 : Int), .int .u32 (s1 : Int), .int .u16 (n1 : Int), .string gg, .string mm, .slice A K cc] := hR2
    refine wp_region_lex (fun W => Blk W w.heap.size 41 #[.int .i64 1, .int .u64 (v : Int), .int .i64 (j : Int), .int .u32 (c1 : Int), .int .u32 (s1 : Int), .int .u16 (n1 : Int), .string gg, .string mm, .slice A K cc]) [2, 5] [3, 7] [0, 1, 2, 4, 5, 6, 3, 7, 8] (by kernel_rfl) rfl (by kernel_rfl) (by kernel_rfl) (fun _ _ d _ _ h => by cases d <;> exact h) ?_
    repeat (first | (refine lexG_take _ ?_ rfl rfl rfl rfl (fun _ => ?_) ?_; rotate_left; (focus (go_simp; with_reducible rfl)); try simp only [Act.put, List.setIfInBounds_toArray, List.set_cons_zero, List.set_cons_succ]) | (refine lexG_held _ ?_ rfl rfl rfl rfl (by assumption) (fun _ hSw => ?_) ?_; rotate_left; (focus (have h1 := Blk.rec9 hSw; clear hSw; go_simp; with_reducible rfl)); try simp only [Act.put, List.setIfInBounds_toArray, List.set_cons_zero, List.set_cons_succ]) | (refine lexG_skip _ rfl rfl (by assumption) ?_; try simp only [Act.put, List.setIfInBounds_toArray, List.set_cons_zero, List.set_cons_succ]))
    refine lexG_now _ rfl rfl rfl (fun K0 hK => ?_)
    go_wp2_with fail
    have hp := ref_put8 hL2.out.drew (by simp) hv hq.out
    rw [show [UInt8.ofNat (1 : Int).toNat].length = 1 from rfl] at hp
    refine hp.mono ?_
    clear hp
    rintro e w4 ⟨A4, c4, rfl, ho4, hu4, hf4⟩
    dsimp only
    have hw3 := hR2.lt
    have hb4 : Below w.heap.size w w4 := hb2.drew.trans (hu4.below (B := w.heap.size) hb2.size (fun k hk e => by have h9 : k = w.heap.size + 1 := (by simpa [bOf] using e); omega))
    have hS4 := hS0.upd hu4 (fun e => by simp [bOf] at e)
    have hf4' : ∀ g, bOf A4 = some g → w.heap.size < g := fun g hg => by
      rcases hf4 with h | h
      · rw [h] at hg
        have h9 : w.heap.size + 1 = g := by simpa [bOf] using hg
        omega
      · have h1 : w3.heap.size ≤ g := h g hg
        omega
    refine hK _ _ _ (fun _ h => h) hS4 ?_
    clear hK K0
    try simp only [Act.put, List.setIfInBounds_toArray, List.set_cons_zero, List.set_cons_succ]
    repeat (first | (refine lexG_take _ ?_ rfl rfl rfl rfl (fun _ => ?_) ?_; rotate_left; (focus (go_simp; with_reducible rfl)); try simp only [Act.put, List.setIfInBounds_toArray, List.set_cons_zero, List.set_cons_succ]) | (refine lexG_held _ ?_ rfl rfl rfl rfl (by assumption) (fun _ hSw => ?_) ?_; rotate_left; (focus (have h1 := Blk.rec9 hSw; clear hSw; go_simp; with_reducible rfl)); try simp only [Act.put, List.setIfInBounds_toArray, List.set_cons_zero, List.set_cons_succ]) | (refine lexG_skip _ rfl rfl (by assumption) ?_; try simp only [Act.put, List.setIfInBounds_toArray, List.set_cons_zero, List.set_cons_succ]))
    refine lexG_now _ rfl rfl rfl (fun K0 hK => ?_)
    have hp := ref_put4 (v := j) ho4 (by omega) (by omega) hqr.out
    go_wp2_with fail
    refine hp.mono ?_
    clear hp
    rintro e w5 ⟨A5, c5, rfl, ho2, hu5, hf5⟩
    dsimp only
    have hb2 : Below w.heap.size w w5 := hb4.trans (hu5.below (B := w.heap.size) hb4.size (fun k hk e => by have := hf4' k e.symm; omega))
    have hS5 := hS4.upd hu5 (fun e => by have := hf4' _ e.symm; omega)
    refine hK _ _ _ (fun _ h => h) hS5 ?_
    clear hK K0 hS4 hu5 hf5 hf4' hf4 hu4 ho4 hS0 hb4 hS5 hR2
    try simp only [Act.put, List.setIfInBounds_toArray, List.set_cons_zero, List.set_cons_succ]
    repeat (first | (refine lexG_take _ ?_ rfl rfl rfl rfl (fun _ => ?_) ?_; rotate_left; (focus (go_simp; with_reducible rfl)); try simp only [Act.put, List.setIfInBounds_toArray, List.set_cons_zero, List.set_cons_succ]) | (refine lexG_held _ ?_ rfl rfl rfl rfl (by assumption) (fun _ hSw => ?_) ?_; rotate_left; (focus (have h1 := Blk.rec9 hSw; clear hSw; go_simp; with_reducible rfl)); try simp only [Act.put, List.setIfInBounds_toArray, List.set_cons_zero, List.set_cons_succ]) | (refine lexG_skip _ rfl rfl (by assumption) ?_; try simp only [Act.put, List.setIfInBounds_toArray, List.set_cons_zero, List.set_cons_succ]))
    refine lexG_nil ?_
    by_cases hbig : 65536 < r.length
    · have hE2 : E = 22 := by rw [← hE.out, if_neg (by simp), if_pos hbig]
      subst hE2
      obtain ⟨M, hM⟩ : ∃ M, r.length = M := ⟨_, rfl⟩
      have hwr := fun W => ref_wrap_big (A := A0) (C := A5) (c := N) (d := c5) (n := N) (m := M) (w := W) (by omega) (by omega)
      rw [hM]
      clear ho2 hM
      go_wp2_with fail
      refine (hwr _).mono ?_
      clear hwr
      rintro e w8 ⟨rfl, rfl⟩
      dsimp only
      go_wp2_with fail
      go_ret2
      exact ⟨fun h => absurd h (by decide), fun _ => ⟨rfl, hb2⟩⟩
    · have hE2 : E = 0 := by rw [← hE.out, if_neg (by simp), if_neg hbig]
      subst hE2
      have hwr := wrap_ref (c := N) (d := c5) (row := none) (bs := bs) (.inr ⟨by rw [hN.out]; omega, rfl, w.heap.size, hb2.size, hA1.out.below hb2⟩) ho2.reads_ (Nat.le_refl _) (fun g hg => by cases hg) (by have := hl.out; omega) (by omega) hrr.out
      rw [hN.out] at hwr
      obtain ⟨M, hM⟩ : ∃ M, r.length = M := ⟨_, rfl⟩
      rw [hM] at hwr ⊢
      replace hwr := Lib.hid hwr
      have hs2 := hb2.size
      clear ho2 hM
      go_wp2_with fail
      refine hwr.out.mono ?_
      clear hwr
      rintro e w8 ⟨A8, c8, rfl, ho8, hu8, hg8⟩
      dsimp only
      have hb8 : Below w5.heap.size w5 w8 := hu8.below (Nat.le_refl _) (fun k hk e => by cases e)
      have hfin := below_then hb8 hb2
      have hg8' : ∀ g, bOf A8 = some g → w.heap.size ≤ g := fun g hg => by
        rcases hg8 g hg with h | h
        · rw [h] at hg; cases hg
        · exact Nat.le_trans hs2 h
      go_wp2_with fail
      go_ret2
      exact ⟨fun _ => ⟨A8, c8, rfl, ho8, hfin, hg8'⟩, fun h => absurd rfl h⟩
  by_cases hk2 : k = 2
  · subst hk2
    have he : E0 = errO ⟨c1, s1, n1, g, m, l⟩ := by rw [← hE0]; unfold errP; rw [if_neg hbad]; rfl
    obtain ⟨q, hq⟩ : ∃ q, [UInt8.ofNat (2 : Int).toNat] ++ putU v 8 = q := ⟨_, rfl⟩
    have hqr : q ++ bytesO ⟨c1, s1, n1, g, m, l⟩ = r := by rw [← hr, ← hq]; rfl
    have hql : q.length ≤ 9 := by rw [← hq]; simp [putU_len]
    have hcp := fun (W : World) (A4 : Option Addr) (c4 : Nat) (hW : Below w.heap.size w W) (hA : Own W 5 1 A4 q.length c4 (bys q)) (hf : ∀ g, bOf A4 = some g → w.heap.size + 1 ≤ g) (hWs : w.heap.size + 1 ≤ W.heap.size) => ref_put_op_own (hbs.out W hW) (show B ≤ w.heap.size + 1 by omega) hWs hA hf (by omega) hg hm
    unfold OpPutB at hcp
    rw [← he, hqr] at hcp
    replace hcp := Lib.hid hcp
    replace hq := Lib.hid hq
    clear hr hE0 he hqr
    clear hc hbad
    go_enter Try.func11, Try.ntmps11
    go_wp2_with fail
    generalize (w.alloc (.cells #[.int .i64 2, .int .u64 (v : Int), .int .i64 (j : Int), .int .u32 (c1 : Int), .int .u32 (s1 : Int), .int .u16 (n1 : Int), .string gg, .string mm, .slice A K cc] 41)).alloc (.cells #[.int .u8 x] 5) = w3 at *
    clear hc2
    have hS0 : Blk w3.drew w.heap.size 41 #[.int .i64 2, .int .u64 (v : Int), .int .i64 (j : Int), .int .u32 (c1 : Int), .int .u32 (s1 : Int), .int .u16 (n1 : Int), .string gg, .string mm, .slice A K cc] := hR2
    refine wp_region_lex (fun W => Blk W w.heap.size 41 #[.int .i64 2, .int .u64 (v : Int), .int .i64 (j : Int), .int .u32 (c1 : Int), .int .u32 (s1 : Int), .int .u16 (n1 : Int), .string gg, .string mm, .slice A K cc]) [2, 5] [3, 6] [0, 1, 2, 4, 5, 3, 6, 7, 8, 9, 10, 11] (by kernel_rfl) rfl (by kernel_rfl) (by kernel_rfl) (fun _ _ d _ _ h => by cases d <;> exact h) ?_
    repeat (first | (refine lexG_take _ ?_ rfl rfl rfl rfl (fun _ => ?_) ?_; rotate_left; (focus (go_simp; with_reducible rfl)); try simp only [Act.put, List.setIfInBounds_toArray, List.set_cons_zero, List.set_cons_succ]) | (refine lexG_held _ ?_ rfl rfl rfl rfl (by assumption) (fun _ hSw => ?_) ?_; rotate_left; (focus (have h1 := Blk.rec9 hSw; clear hSw; go_simp; with_reducible rfl)); try simp only [Act.put, List.setIfInBounds_toArray, List.set_cons_zero, List.set_cons_succ]) | (refine lexG_skip _ rfl rfl (by assumption) ?_; try simp only [Act.put, List.setIfInBounds_toArray, List.set_cons_zero, List.set_cons_succ]))
    refine lexG_now _ rfl rfl rfl (fun K0 hK => ?_)
    go_wp2_with fail
    have hp := ref_put8 hL2.out.drew (by simp) hv hq.out
    rw [show [UInt8.ofNat (2 : Int).toNat].length = 1 from rfl] at hp
    refine hp.mono ?_
    clear hp
    rintro e w4 ⟨A4, c4, rfl, ho4, hu4, hf4⟩
    dsimp only
    have hw3 := hR2.lt
    have hb4 : Below w.heap.size w w4 := hb2.drew.trans (hu4.below (B := w.heap.size) hb2.size (fun k hk e => by have h9 : k = w.heap.size + 1 := (by simpa [bOf] using e); omega))
    have hS4 := hS0.upd hu4 (fun e => by simp [bOf] at e)
    have hf4' : ∀ g, bOf A4 = some g → w.heap.size < g := fun g hg => by
      rcases hf4 with h | h
      · rw [h] at hg
        have h9 : w.heap.size + 1 = g := by simpa [bOf] using hg
        omega
      · have h1 : w3.heap.size ≤ g := h g hg
        omega
    refine hK _ _ _ (fun _ h => h) hS4 ?_
    clear hK K0
    try simp only [Act.put, List.setIfInBounds_toArray, List.set_cons_zero, List.set_cons_succ]
    repeat (first | (refine lexG_take _ ?_ rfl rfl rfl rfl (fun _ => ?_) ?_; rotate_left; (focus (go_simp; with_reducible rfl)); try simp only [Act.put, List.setIfInBounds_toArray, List.set_cons_zero, List.set_cons_succ]) | (refine lexG_held _ ?_ rfl rfl rfl rfl (by assumption) (fun _ hSw => ?_) ?_; rotate_left; (focus (have h1 := Blk.rec9 hSw; clear hSw; go_simp; with_reducible rfl)); try simp only [Act.put, List.setIfInBounds_toArray, List.set_cons_zero, List.set_cons_succ]) | (refine lexG_skip _ rfl rfl (by assumption) ?_; try simp only [Act.put, List.setIfInBounds_toArray, List.set_cons_zero, List.set_cons_succ]))
    refine lexG_now _ rfl rfl rfl (fun K0 hK => ?_)
    have hp := hcp.out w4 A4 c4 hb4 ho4 (fun g hg => hf4' g hg) hS4.lt
    go_wp2_with fail
    refine hp.mono ?_
    clear hp hcp
    intro e w5 h5
    by_cases hE00 : E0 = 0
    · obtain ⟨A5, c5, rfl, ho2, hb5, hg5⟩ := h5.1 hE00
      subst hE00
      dsimp only
      have hle := hle.out rfl
      have hb2 : Below w.heap.size w w5 := hb4.trans (hb5.mono (Nat.le_succ _))
      have hS5 := hS4.below hb5 (Nat.lt_succ_self _)
      refine hK _ _ _ (fun _ h => h) hS5 ?_
      clear hK K0 h5 hb5 hS5 hS4 hf4' hf4 hu4 ho4 hS0 hb4 hR2 hg5
      try simp only [Act.put, List.setIfInBounds_toArray, List.set_cons_zero, List.set_cons_succ]
      repeat (first | (refine lexG_take _ ?_ rfl rfl rfl rfl (fun _ => ?_) ?_; rotate_left; (focus (go_simp; with_reducible rfl)); try simp only [Act.put, List.setIfInBounds_toArray, List.set_cons_zero, List.set_cons_succ]) | (refine lexG_held _ ?_ rfl rfl rfl rfl (by assumption) (fun _ hSw => ?_) ?_; rotate_left; (focus ((try dsimp only at hSw); go_simp; with_reducible rfl)); try simp only [Act.put, List.setIfInBounds_toArray, List.set_cons_zero, List.set_cons_succ]) | (refine lexG_skip _ rfl rfl (by assumption) ?_; try simp only [Act.put, List.setIfInBounds_toArray, List.set_cons_zero, List.set_cons_succ]))
      refine lexG_nil ?_
      by_cases hbig : 65536 < r.length
      · have hE2 : E = 22 := by rw [← hE.out, if_neg (by simp), if_pos hbig]
        subst hE2
        obtain ⟨M, hM⟩ : ∃ M, r.length = M := ⟨_, rfl⟩
        have hwr := fun W => ref_wrap_big (A := A0) (C := A5) (c := N) (d := c5) (n := N) (m := M) (w := W) (by omega) (by omega)
        rw [hM]
        clear ho2 hM
        go_wp2_with fail
        refine (hwr _).mono ?_
        clear hwr
        rintro e w8 ⟨rfl, rfl⟩
        dsimp only
        go_wp2_with fail
        go_ret2
        exact ⟨fun h => absurd h (by decide), fun _ => ⟨rfl, hb2⟩⟩
      · have hE2 : E = 0 := by rw [← hE.out, if_neg (by simp), if_neg hbig]
        subst hE2
        have hwr := wrap_ref (c := N) (d := c5) (row := none) (bs := bs) (.inr ⟨by rw [hN.out]; omega, rfl, w.heap.size, hb2.size, hA1.out.below hb2⟩) ho2.reads_ (Nat.le_refl _) (fun g hg => by cases hg) (by have := hl.out; omega) (by omega) hrr.out
        rw [hN.out] at hwr
        obtain ⟨M, hM⟩ : ∃ M, r.length = M := ⟨_, rfl⟩
        rw [hM] at hwr ⊢
        replace hwr := Lib.hid hwr
        have hs2 := hb2.size
        clear ho2 hM
        go_wp2_with fail
        refine hwr.out.mono ?_
        clear hwr
        rintro e w8 ⟨A8, c8, rfl, ho8, hu8, hg8⟩
        dsimp only
        have hb8 : Below w5.heap.size w5 w8 := hu8.below (Nat.le_refl _) (fun k hk e => by cases e)
        have hfin := below_then hb8 hb2
        have hg8' : ∀ g, bOf A8 = some g → w.heap.size ≤ g := fun g hg => by
          rcases hg8 g hg with h | h
          · rw [h] at hg; cases hg
          · exact Nat.le_trans hs2 h
        go_wp2_with fail
        go_ret2
        exact ⟨fun _ => ⟨A8, c8, rfl, ho8, hfin, hg8'⟩, fun h => absurd rfl h⟩
    · obtain ⟨rfl, hb5⟩ := h5.2 hE00
      dsimp only
      have hb2 : Below w.heap.size w w5 := hb4.trans (hb5.mono (Nat.le_succ _))
      have hS5 := hS4.below hb5 (Nat.lt_succ_self _)
      have hE2 : E = E0 := by rw [← hE.out, if_pos hE00]
      subst hE2
      have hne : ((E : Int) != 0) = true := bne_iff_ne.2 (by omega)
      replace hE00 := Lib.hid hE00
      refine hK _ _ _ (fun _ h => h) hS5 ?_
      clear hK K0 h5 hb5 hS5 hS4 hf4' hf4 hu4 ho4 hS0 hb4 hR2 hle hE
      try simp only [Act.put, List.setIfInBounds_toArray, List.set_cons_zero, List.set_cons_succ]
      repeat (first | (refine lexG_take _ ?_ rfl rfl rfl rfl (fun _ => ?_) ?_; rotate_left; (focus (go_simp; with_reducible rfl)); try simp only [Act.put, List.setIfInBounds_toArray, List.set_cons_zero, List.set_cons_succ]) | (refine lexG_held _ ?_ rfl rfl rfl rfl (by assumption) (fun _ hSw => ?_) ?_; rotate_left; (focus ((try dsimp only at hSw); go_simp; with_reducible rfl)); try simp only [Act.put, List.setIfInBounds_toArray, List.set_cons_zero, List.set_cons_succ]) | (refine lexG_skip _ rfl rfl (by assumption) ?_; try simp only [Act.put, List.setIfInBounds_toArray, List.set_cons_zero, List.set_cons_succ]))
      refine lexG_nil ?_
      go_wp2_with fail
      go_ret2
      exact ⟨fun h => absurd h hE00.out, fun _ => ⟨rfl, hb2⟩⟩
  · have he : E0 = 0 := by rw [← hE0]; unfold errP; rw [if_neg hbad, if_neg hk2]
    subst he
    have hle := hle.out rfl
    have d5 : (k == 1) = false := by rw [beq_eq_false_iff_ne]; exact hk1
    have d7 : (k == 2) = false := by rw [beq_eq_false_iff_ne]; exact hk2
    have hq : [UInt8.ofNat k.toNat] ++ putU j 4 = r := by rw [← hr]; unfold bytesP; rw [if_neg hk1, if_neg hk2]; rfl
    replace hq := Lib.hid hq
    clear hr hE0
    clear hc hbad
    go_enter Try.func11, Try.ntmps11
    go_wp2_with fail
    generalize (w.alloc (.cells #[.int .i64 k, .int .u64 (v : Int), .int .i64 (j : Int), .int .u32 (c1 : Int), .int .u32 (s1 : Int), .int .u16 (n1 : Int), .string gg, .string mm, .slice A K cc] 41)).alloc (.cells #[.int .u8 x] 5) = w3 at *
    clear hc2
    have hp := ref_put4 (v := j) hL2.out (by simp) (by omega) hq.out
    rw [show [UInt8.ofNat k.toNat].length = 1 from rfl] at hp
    refine hp.mono ?_
    clear hp
    rintro e w5 ⟨A5, c5, rfl, ho2, hu5, hf5⟩
    dsimp only
    have hb2 : Below w.heap.size w w5 := hb2.trans (hu5.below (B := w.heap.size) hb2.size (fun k hk e => by have h9 : k = w.heap.size + 1 := (by simpa [bOf] using e); omega))
    clear hu5 hf5 hR2
    by_cases hbig : 65536 < r.length
    · have hE2 : E = 22 := by rw [← hE.out, if_neg (by simp), if_pos hbig]
      subst hE2
      obtain ⟨M, hM⟩ : ∃ M, r.length = M := ⟨_, rfl⟩
      have hwr := fun W => ref_wrap_big (A := A0) (C := A5) (c := N) (d := c5) (n := N) (m := M) (w := W) (by omega) (by omega)
      rw [hM]
      clear ho2 hM
      go_wp2_with fail
      refine (hwr _).mono ?_
      clear hwr
      rintro e w8 ⟨rfl, rfl⟩
      dsimp only
      go_wp2_with fail
      go_ret2
      exact ⟨fun h => absurd h (by decide), fun _ => ⟨rfl, hb2⟩⟩
    · have hE2 : E = 0 := by rw [← hE.out, if_neg (by simp), if_neg hbig]
      subst hE2
      have hwr := wrap_ref (c := N) (d := c5) (row := none) (bs := bs) (.inr ⟨by rw [hN.out]; omega, rfl, w.heap.size, hb2.size, hA1.out.below hb2⟩) ho2.reads_ (Nat.le_refl _) (fun g hg => by cases hg) (by have := hl.out; omega) (by omega) hrr.out
      rw [hN.out] at hwr
      obtain ⟨M, hM⟩ : ∃ M, r.length = M := ⟨_, rfl⟩
      rw [hM] at hwr ⊢
      replace hwr := Lib.hid hwr
      have hs2 := hb2.size
      clear ho2 hM
      go_wp2_with fail
      refine hwr.out.mono ?_
      clear hwr
      rintro e w8 ⟨A8, c8, rfl, ho8, hu8, hg8⟩
      dsimp only
      have hb8 : Below w5.heap.size w5 w8 := hu8.below (Nat.le_refl _) (fun k hk e => by cases e)
      have hfin := below_then hb8 hb2
      have hg8' : ∀ g, bOf A8 = some g → w.heap.size ≤ g := fun g hg => by
        rcases hg8 g hg with h | h
        · rw [h] at hg; cases hg
        · exact Nat.le_trans hs2 h
      go_wp2_with fail
      go_ret2
      exact ⟨fun _ => ⟨A8, c8, rfl, ho8, hfin, hg8'⟩, fun h => absurd rfl h⟩
end Go.Proofs.Ytjljlgkghlphnaa
namespace Go.Proofs.Ytjljlgkghlphnaa
open Go.RowKit
set_option maxRecDepth 100000

theorem rdRec1_12 {t : List UInt8} (h : t.length = 12) : rdRec1 1 t = if readU (t.drop 8) ≤ 1 then some (⟨1, readU (t.take 8), (readU (t.drop 8) : Int), opz⟩ : RecD) else none := by
  have hl : (t.drop 8).length = 4 := by rw [List.length_drop, h]
  have hx : rdNum (t.drop 8) = if readU (t.drop 8) ≤ 2147483647 then some (readU (t.drop 8)) else none := by
    unfold rdNum
    by_cases hm : readU (t.drop 8) ≤ 2147483647
    · rw [if_pos ⟨hl, hm⟩, if_pos hm]
    · rw [if_neg (fun hh => hm hh.2), if_neg hm]
  unfold rdRec1
  rw [if_pos rfl, if_neg (show ¬ t.length < 8 by omega), hx]
  by_cases hle : readU (t.drop 8) ≤ 1
  · rw [if_pos (show readU (t.drop 8) ≤ 2147483647 by omega)]
  · rw [if_neg hle]
    by_cases hm : readU (t.drop 8) ≤ 2147483647
    · rw [if_pos hm]
      dsimp only
      rw [if_neg hle]
    · rw [if_neg hm]

set_option maxHeartbeats 12800000 in
theorem rread_walk {A : Option Addr} {c : Nat} {b : List UInt8} {w : World} (h : Reads w w.heap.size 1 A b.length (bys b)) (hc : b.length ≤ c) (hl : b.length ≤ 1000000000) (Q : Option RecD) (hQ : rdRec b = Q) :
    Calls Try.prog 15 #[.slice A b.length c] w (RecRd w Q) := by
  have hz := Blk.new w 41 #[.int .i64 0, .int .u64 0, .int .i64 0, .int .u32 0, .int .u32 0, .int .u16 0, .string ⟨#[]⟩, .string ⟨#[]⟩, .slice none 0 0]
  have hb2 := (Below.refl w.heap.size w).alloc (Nat.le_refl _) (.cells #[.int .i64 0, .int .u64 0, .int .i64 0, .int .u32 0, .int .u32 0, .int .u16 0, .string ⟨#[]⟩, .string ⟨#[]⟩, .slice none 0 0] 41)
  cases b with
  | nil =>
    have hQn : Q = none := hQ.symm
    subst hQn
    clear h hc hl hQ
    go_enter Try.func15, Try.ntmps15
    have hzr := hz.row #[.int .i64 0, .int .u64 0, .int .i64 0, .int .u32 0, .int .u32 0, .int .u16 0, .string ⟨#[]⟩, .string ⟨#[]⟩, .slice none 0 0]
    have hbr := below_row hb2 (g := w.heap.size) (Nat.le_refl _) #[.int .i64 0, .int .u64 0, .int .i64 0, .int .u32 0, .int .u32 0, .int .u16 0, .string ⟨#[]⟩, .string ⟨#[]⟩, .slice none 0 0]
    go_wp2_with (refine store_row_gen rfl 41 (Operand.tmp 2) _ rfl w.heap.size #[.int .i64 0, .int .u64 0, .int .i64 0, .int .u32 0, .int .u32 0, .int .u16 0, .string ⟨#[]⟩, .string ⟨#[]⟩, .slice none 0 0] (by simp [go_sem]) (by simp [go_sem]) 41 _ hz (by kernel_rfl) rfl (by simp [Value.oneCell']) (fun w9 hw9 => ?_); rw [← hw9] at hzr hbr; clear hw9)
    refine bodyPost_ret (v := .tuple #[.agg #[.int .i64 0, .int .u64 0, .int .i64 0, .int .u32 0, .int .u32 0, .int .u16 0, .string ⟨#[]⟩, .string ⟨#[]⟩, .slice none 0 0], .int .i64 20]) (by exact results_ct rfl _ _ w.heap.size 41 _ (0, 0) _ _ rfl rfl hzr Try.underlying41 rfl (by kernel_rfl)) rfl ?_
    exact ⟨rfl, hbr⟩
  | cons kk t =>
    obtain ⟨ad, rfl, -, -⟩ := h.2 (by simp)
    obtain ⟨k, hk⟩ : ∃ k, kk.toNat = k := ⟨_, rfl⟩
    have hk8 : k < 256 := by rw [← hk]; exact kk.toNat_lt
    have hcell : w.cell? ad = some (.int .u8 (k : Int)) := by
      have hcc := (cut1 h hc).2
      rw [hk] at hcc
      exact hcc
    have hcell2 := (hb2.cell (World.block_lt_of_cell? w _ hcell)).trans hcell
    have hwk := w64_le (e := k) (by omega)
    have hQ1 : rdRec1 k t = Q := by rw [← hk]; exact hQ
    have hcut : Reads w w.heap.size 1 (if c = 1 then some ad else some (ad.add 1)) t.length (bys t) := h.cut (k := 1) (cap := c) (by simp) hc
    have hlt : (kk :: t).length = t.length + 1 := rfl
    rw [hlt] at hc hl ⊢
    obtain ⟨N, hN⟩ : ∃ N, t.length = N := ⟨_, rfl⟩
    rw [hN] at hc hl ⊢
    have hN1 : (1 : Int) ≤ ((N + 1 : Nat) : Int) := by omega
    have hN0 : (((N + 1 : Nat) : Int) == 0) = false := by rw [beq_eq_false_iff_ne]; omega
    replace hN := Lib.hid hN
    replace hQ1 := Lib.hid hQ1
    replace hcut := Lib.hid hcut
    clear h hQ hk
    have hy := Blk.new (w.alloc (.cells #[.int .i64 0, .int .u64 0, .int .i64 0, .int .u32 0, .int .u32 0, .int .u16 0, .string ⟨#[]⟩, .string ⟨#[]⟩, .slice none 0 0] 41)) 41 #[.int .i64 (k : Int), .int .u64 0, .int .i64 0, .int .u32 0, .int .u32 0, .int .u16 0, .string ⟨#[]⟩, .string ⟨#[]⟩, .slice none 0 0]
    have hz3 := hz.alloc (.cells #[.int .i64 (k : Int), .int .u64 0, .int .i64 0, .int .u32 0, .int .u32 0, .int .u16 0, .string ⟨#[]⟩, .string ⟨#[]⟩, .slice none 0 0] 41)
    have hb3 := hb2.alloc hb2.size (.cells #[.int .i64 (k : Int), .int .u64 0, .int .i64 0, .int .u32 0, .int .u32 0, .int .u16 0, .string ⟨#[]⟩, .string ⟨#[]⟩, .slice none 0 0] 41)
    rw [World.size_alloc] at hy
    go_enter Try.func15, Try.ntmps15
    go_upto_region 4 with (fail)
    generalize hw3 : (w.alloc (.cells #[.int .i64 0, .int .u64 0, .int .i64 0, .int .u32 0, .int .u32 0, .int .u16 0, .string ⟨#[]⟩, .string ⟨#[]⟩, .slice none 0 0] 41)).alloc (.cells #[.int .i64 (k : Int), .int .u64 0, .int .i64 0, .int .u32 0, .int .u32 0, .int .u16 0, .string ⟨#[]⟩, .string ⟨#[]⟩, .slice none 0 0] 41) = w3 at *
    obtain ⟨z, hzz⟩ : ∃ z, w.heap.size = z := ⟨_, rfl⟩
    have hzw : w.heap.size ≤ z := by omega
    rw [hzz] at hz3 hy ⊢
    obtain ⟨y, hyy⟩ : ∃ y, z + 1 = y := ⟨_, rfl⟩
    have hzy : z < y := by omega
    rw [hyy] at hy ⊢
    have hcut3 := hcut.out
    have hyw : w.heap.size ≤ y := by omega
    have hys : y < w3.heap.size := hy.lt
    clear hw3 hz hb2 hcell hcell2 hcut
    replace hzz := Lib.hid hzz
    replace hyy := Lib.hid hyy
    go_cut [0] from 22 to 23 (fun x0 wx => wx = w3 ∧ ∃ (A1 : Option Addr) (c1 : Nat), x0 = .slice A1 N c1 ∧ Reads w w.heap.size 1 A1 t.length (bys t) ∧ N ≤ c1 ∧ (A1 = none → c1 = 0))
    case first =>
      by_cases hc1 : c = 1
      · rw [if_pos hc1] at hcut3
        have hN0' : N = 0 := by omega
        go_wp2_with fail
        go_meet
        exact ⟨rfl, some ad, 0, by rw [hN0'], hcut3, by omega, by simp⟩
      · rw [if_neg hc1] at hcut3
        go_wp2_with fail
        go_meet
        exact ⟨rfl, some (ad.add 1), c - 1, rfl, hcut3, by omega, by simp⟩
    case rest =>
      obtain ⟨rfl, A1, c1, rfl, ht, hc1, hA1⟩ := hcut
      clear hcut3
      have hyc := hy.rec9
      have hb3s := hb3.size
      by_cases hk1 : k = 1
      · subst hk1
        by_cases hN12 : N = 12
        · have hr1 := ref_read (c := c1) (k := 8) (bs := t) (w := wc) ((ht.below hb3).more hb3.size) (by omega) (by rw [hN.out]; omega) (by rw [hN.out]; omega)
          rw [hN.out] at hr1
          have hr2 : ∀ W, Below w.heap.size w W → Calls Try.prog 32 #[.slice (if c1 = 8 then A1 else A1.map (·.add 8)) 4 (c1 - 8), .int .i64 4] W (fun e w' => e = .returned (.tuple #[.int .u64 (readU (t.drop 8) : Nat), .bool true]) ∧ Below W.heap.size W w') := fun W hW => by
            have hcut := ((ht.below hW).more hW.size).cut (k := 8) (cap := c1) (by rw [hN.out]; omega) (by rw [hN.out]; exact hc1)
            rw [Nat.mul_one, bys_drop, ← List.length_drop] at hcut
            have h9 := ref_read (c := c1 - 8) (k := 4) hcut (by omega) (by rw [List.length_drop, hN.out]; omega) (by rw [List.length_drop, hN.out]; omega)
            rw [List.length_drop, hN.out, List.take_of_length_le (by rw [List.length_drop, hN.out]; omega), hN12] at h9
            exact h9
          have hv8 := readU_8 t
          have hn4 : readU (t.drop 8) < 4294967296 := by
            have := readU_4 (t.drop 8)
            rw [List.take_of_length_le (by rw [List.length_drop, hN.out]; omega)] at this
            exact this
          have hQ2 : (if readU (t.drop 8) ≤ 1 then some (⟨1, readU (t.take 8), (readU (t.drop 8) : Int), opz⟩ : RecD) else none) = Q := by
            rw [← hQ1.out]
            exact (rdRec1_12 (by rw [hN.out]; exact hN12)).symm
          obtain ⟨v, hv⟩ : ∃ v, readU (t.take 8) = v := ⟨_, rfl⟩
          obtain ⟨n, hn⟩ : ∃ n, readU (t.drop 8) = n := ⟨_, rfl⟩
          rw [hv] at hr1 hv8 hQ2
          rw [hn] at hr2 hn4 hQ2
          have hwn := w64_le' n hn4
          obtain ⟨ad1, rfl⟩ : ∃ ad1, A1 = some ad1 := by
            cases A1 with
            | none => have := hA1 rfl; omega
            | some a => exact ⟨a, rfl⟩
          have hc8 : ¬ c1 = 8 := by omega
          subst hN12
          replace hr1 := Lib.hid hr1
          replace hr2 := Lib.hid hr2
          replace hQ2 := Lib.hid hQ2
          clear ht hQ1 hv hn
          go_wp2_with fail
          refine hr1.out.mono ?_
          rintro e w4 ⟨rfl, hb4⟩
          dsimp only
          have hz4 := (hz3.below hb4 hz3.lt).far (p := ⟨y, 1, none⟩) (show z ≠ y by omega) (.int .u64 (v : Int))
          have hy4' := hy.below hb4 hy.lt
          have hy4 : Blk (w4.setCell ⟨y, 1, none⟩ (.int .u64 (v : Int))) y 41 #[.int .i64 1, .int .u64 (v : Int), .int .i64 0, .int .u32 0, .int .u32 0, .int .u16 0, .string ⟨#[]⟩, .string ⟨#[]⟩, .slice none 0 0] := hy4'.set_ 1 (.int .u64 (v : Int))
          have hb5 := (below_then hb4 hb3).setCell (p := ⟨y, 1, none⟩) hyw (.int .u64 (v : Int))
          have hcc := hy4'.rec9
          have hcf := hy4'.frozen 1
          have hcn2 := hr2.out _ hb5
          rw [if_neg hc8, Option.map_some] at hcn2
          clear hyc hb4 hz3 hy hb3 hr1 hr2
          go_wp2_with fail
          generalize w4.setCell ⟨y, 1, none⟩ (.int .u64 (v : Int)) = w5 at *
          refine hcn2.mono ?_
          clear hcn2 hcc hcf
          rintro e w6 ⟨rfl, hb6⟩
          dsimp only
          have hz6 := (hz4.below hb6 hz4.lt).far (p := ⟨y, 2, none⟩) (show z ≠ y by omega) (.int .i64 (n : Int))
          have hy6 := hy4.below hb6 hy4.lt
          have hb7 := (below_then hb6 hb5).setCell (p := ⟨y, 2, none⟩) hyw (.int .i64 (n : Int))
          have hcc := hy6.rec9
          have hcf := hy6.frozen 2
          have hy7 : Blk (w6.setCell ⟨y, 2, none⟩ (.int .i64 (n : Int))) y 41 #[.int .i64 1, .int .u64 (v : Int), .int .i64 (n : Int), .int .u32 0, .int .u32 0, .int .u16 0, .string ⟨#[]⟩, .string ⟨#[]⟩, .slice none 0 0] := hy6.set_ 2 (.int .i64 (n : Int))
          have hcc7 := hy7.rec9
          clear hb6 hz4 hy4 hb5 hy6
          by_cases hn1 : n ≤ 1
          · have dn : decide ((n : Int) ≤ 1) = true := decide_eq_true (by omega)
            have hQn : Q = some ⟨1, v, (n : Int), opz⟩ := by rw [← hQ2.out, if_pos hn1]
            subst hQn
            clear hQ2
            have hzr := hz6.row #[.int .i64 1, .int .u64 (v : Int), .int .i64 (n : Int), .int .u32 0, .int .u32 0, .int .u16 0, .string ⟨#[]⟩, .string ⟨#[]⟩, .slice none 0 0]
            have hbr := below_row hb7 (g := z) hzw #[.int .i64 1, .int .u64 (v : Int), .int .i64 (n : Int), .int .u32 0, .int .u32 0, .int .u16 0, .string ⟨#[]⟩, .string ⟨#[]⟩, .slice none 0 0]
            go_wp2_with (refine store_row_gen rfl 41 (Operand.tmp 2) _ rfl z #[.int .i64 1, .int .u64 (v : Int), .int .i64 (n : Int), .int .u32 0, .int .u32 0, .int .u16 0, .string ⟨#[]⟩, .string ⟨#[]⟩, .slice none 0 0] (by simp [go_sem]) (by simp [go_sem]) 41 _ hz6 (by kernel_rfl) rfl (by simp [Value.oneCell']) (fun w9 hw9 => ?_); rw [← hw9] at hzr hbr; clear hw9)
            refine bodyPost_ret (v := .tuple #[.agg #[.int .i64 1, .int .u64 (v : Int), .int .i64 (n : Int), .int .u32 0, .int .u32 0, .int .u16 0, .string ⟨#[]⟩, .string ⟨#[]⟩, .slice none 0 0], .int .i64 0]) (by exact results_ct rfl _ _ z 41 _ (0, 0) _ _ rfl rfl hzr Try.underlying41 rfl (by kernel_rfl)) rfl ?_
            exact ⟨none, 0, [], _, rfl, VRow.nil _ _, recok_opz hv8, hbr⟩
          · have dn : decide ((n : Int) ≤ 1) = false := decide_eq_false (by omega)
            have hQn : Q = none := by rw [← hQ2.out, if_neg hn1]
            subst hQn
            clear hQ2
            have hzr := hz6.row #[.int .i64 0, .int .u64 0, .int .i64 0, .int .u32 0, .int .u32 0, .int .u16 0, .string ⟨#[]⟩, .string ⟨#[]⟩, .slice none 0 0]
            have hbr := below_row hb7 (g := z) hzw #[.int .i64 0, .int .u64 0, .int .i64 0, .int .u32 0, .int .u32 0, .int .u16 0, .string ⟨#[]⟩, .string ⟨#[]⟩, .slice none 0 0]
            go_wp2_with (refine store_row_gen rfl 41 (Operand.tmp 2) _ rfl z #[.int .i64 0, .int .u64 0, .int .i64 0, .int .u32 0, .int .u32 0, .int .u16 0, .string ⟨#[]⟩, .string ⟨#[]⟩, .slice none 0 0] (by simp [go_sem]) (by simp [go_sem]) 41 _ hz6 (by kernel_rfl) rfl (by simp [Value.oneCell']) (fun w9 hw9 => ?_); rw [← hw9] at hzr hbr; clear hw9)
            refine bodyPost_ret (v := .tuple #[.agg #[.int .i64 0, .int .u64 0, .int .i64 0, .int .u32 0, .int .u32 0, .int .u16 0, .string ⟨#[]⟩, .string ⟨#[]⟩, .slice none 0 0], .int .i64 20]) (by exact results_ct rfl _ _ z 41 _ (0, 0) _ _ rfl rfl hzr Try.underlying41 rfl (by kernel_rfl)) rfl ?_
            exact ⟨rfl, hbr⟩
        · have dN : ((N : Int) == 12) = false := by rw [beq_eq_false_iff_ne]; omega
          have hQn : Q = none := by
            rw [← hQ1.out]
            unfold rdRec1 rdNum
            rw [if_pos rfl]
            split
            · rfl
            · rw [if_neg (fun hh => hN12 (by have := hh.1; rw [List.length_drop, hN.out] at this; omega))]
          subst hQn
          clear ht hQ1
          have hzr := hz3.row #[.int .i64 0, .int .u64 0, .int .i64 0, .int .u32 0, .int .u32 0, .int .u16 0, .string ⟨#[]⟩, .string ⟨#[]⟩, .slice none 0 0]
          have hbr := below_row hb3 (g := z) hzw #[.int .i64 0, .int .u64 0, .int .i64 0, .int .u32 0, .int .u32 0, .int .u16 0, .string ⟨#[]⟩, .string ⟨#[]⟩, .slice none 0 0]
          go_wp2_with (refine store_row_gen rfl 41 (Operand.tmp 2) _ rfl z #[.int .i64 0, .int .u64 0, .int .i64 0, .int .u32 0, .int .u32 0, .int .u16 0, .string ⟨#[]⟩, .string ⟨#[]⟩, .slice none 0 0] (by simp [go_sem]) (by simp [go_sem]) 41 _ hz3 (by kernel_rfl) rfl (by simp [Value.oneCell']) (fun w9 hw9 => ?_); rw [← hw9] at hzr hbr; clear hw9)
          refine bodyPost_ret (v := .tuple #[.agg #[.int .i64 0, .int .u64 0, .int .i64 0, .int .u32 0, .int .u32 0, .int .u16 0, .string ⟨#[]⟩, .string ⟨#[]⟩, .slice none 0 0], .int .i64 20]) (by exact results_ct rfl _ _ z 41 _ (0, 0) _ _ rfl rfl hzr Try.underlying41 rfl (by kernel_rfl)) rfl ?_
          exact ⟨rfl, hbr⟩
      by_cases hk2 : k = 2
      · subst hk2
        by_cases hN8 : 8 < N
        · have hr1 := ref_read (c := c1) (k := 8) (bs := t) (w := wc) ((ht.below hb3).more hb3.size) (by omega) (by rw [hN.out]; omega) (by rw [hN.out]; omega)
          rw [hN.out] at hr1
          have hc8 : ¬ c1 = 8 := by omega
          have hcop : ∀ W, Below w.heap.size w W → Calls Try.prog 35 #[.slice (if c1 = 8 then A1 else A1.map (·.add 8)) (N - 8) (c1 - 8)] W (OpRd W (rdOp (t.drop 8))) := fun W hW => by
            have hcut := ((ht.below hW).more hW.size).cut (k := 8) (cap := c1) (by rw [hN.out]; omega) (by rw [hN.out]; exact hc1)
            rw [Nat.mul_one, bys_drop, ← List.length_drop] at hcut
            have h9 := ref_read_op (c := c1 - 8) hcut (by rw [List.length_drop, hN.out]; omega) (by rw [List.length_drop, hN.out]; omega) _ rfl
            rw [List.length_drop, hN.out] at h9
            exact h9
          have hv8 := readU_8 t
          obtain ⟨v, hv⟩ : ∃ v, readU (t.take 8) = v := ⟨_, rfl⟩
          rw [hv] at hr1 hv8
          have hro := fun o q => rdOp_ok (b := t.drop 8) (o := o) (q := q)
          obtain ⟨ro, ho⟩ : ∃ ro, rdOp (t.drop 8) = ro := ⟨_, rfl⟩
          rw [ho] at hcop hro
          obtain ⟨ad1, rfl⟩ : ∃ ad1, A1 = some ad1 := by
            cases A1 with
            | none => have := hA1 rfl; omega
            | some a => exact ⟨a, rfl⟩
          rw [if_neg hc8, Option.map_some] at hcop
          have hQ2 : ro.bind (fun x => if x.2 = N - 8 then some (⟨2, v, 0, x.1⟩ : RecD) else none) = Q := by
            rw [← hQ1.out]
            unfold rdRec1
            rw [if_neg (by decide), if_pos rfl, if_neg (by rw [hN.out]; omega), ho, hv, hN.out]
            cases ro <;> rfl
          have h8i : (8 : Int) ≤ (N : Int) := by omega
          have d8 : decide ((8 : Int) < (N : Int)) = true := decide_eq_true (by omega)
          have hw8 : IntKind.i64.wrap ((N : Int) - 8) = (N : Int) - 8 := w64_sub8 (by omega) (by omega)
          replace hQ2 := Lib.hid hQ2
          replace hcop := Lib.hid hcop
          replace hro := Lib.hid hro
          replace hr1 := Lib.hid hr1
          clear ho hQ1 hv ht
          go_wp2_with fail
          refine hr1.out.mono ?_
          clear hr1
          rintro e w4 ⟨rfl, hb4⟩
          dsimp only
          have hz4 := (hz3.below hb4 hz3.lt).far (p := ⟨y, 1, none⟩) (show z ≠ y by omega) (.int .u64 (v : Int))
          have hy4' := hy.below hb4 hy.lt
          have hy4 : Blk (w4.setCell ⟨y, 1, none⟩ (.int .u64 (v : Int))) y 41 #[.int .i64 2, .int .u64 (v : Int), .int .i64 0, .int .u32 0, .int .u32 0, .int .u16 0, .string ⟨#[]⟩, .string ⟨#[]⟩, .slice none 0 0] := hy4'.set_ 1 (.int .u64 (v : Int))
          have hb5 := (below_then hb4 hb3).setCell (p := ⟨y, 1, none⟩) hyw (.int .u64 (v : Int))
          have hcc := hy4'.rec9
          have hcf := hy4'.frozen 1
          have hcn2 := hcop.out _ hb5
          clear hyc hb4 hz3 hy hb3 hcop
          go_wp2_with fail
          generalize w4.setCell ⟨y, 1, none⟩ (.int .u64 (v : Int)) = w5 at *
          refine hcn2.mono ?_
          clear hcn2 hcc hcf
          cases ro with
          | none =>
            rintro e w6 ⟨rfl, hb6⟩
            dsimp only
            have hy6 := (hy4.below hb6 hy4.lt).alloc (.cells #[.int .u32 0, .int .u32 0, .int .u16 0, .string ⟨#[]⟩, .string ⟨#[]⟩, .slice none 0 0] 30)
            have hopc := (Blk.new w6 30 #[.int .u32 0, .int .u32 0, .int .u16 0, .string ⟨#[]⟩, .string ⟨#[]⟩, .slice none 0 0]).op6
            have hcc := hy6.rec9
            have hf3 := hy6.frozen 3
            have hf4 := hy6.frozen 4
            have hf5 := hy6.frozen 5
            have hf6 := hy6.frozen 6
            have hf7 := hy6.frozen 7
            have hf8 := hy6.frozen 8
            have hz7 := (((((((hz4.below hb6 hz4.lt).alloc (.cells #[.int .u32 0, .int .u32 0, .int .u16 0, .string ⟨#[]⟩, .string ⟨#[]⟩, .slice none 0 0] 30)).far (p := ⟨y, 3, none⟩) (show z ≠ y by omega) (.int .u32 0)).far (p := ⟨y, 4, none⟩) (show z ≠ y by omega) (.int .u32 0)).far (p := ⟨y, 5, none⟩) (show z ≠ y by omega) (.int .u16 0)).far (p := ⟨y, 6, none⟩) (show z ≠ y by omega) (.string ⟨#[]⟩)).far (p := ⟨y, 7, none⟩) (show z ≠ y by omega) (.string ⟨#[]⟩)).far (p := ⟨y, 8, none⟩) (show z ≠ y by omega) (.slice none 0 0)
            have hb7 := ((((((((below_then hb6 hb5).alloc (below_then hb6 hb5).size (.cells #[.int .u32 0, .int .u32 0, .int .u16 0, .string ⟨#[]⟩, .string ⟨#[]⟩, .slice none 0 0] 30))).setCell (p := ⟨y, 3, none⟩) hyw (.int .u32 0)).setCell (p := ⟨y, 4, none⟩) hyw (.int .u32 0)).setCell (p := ⟨y, 5, none⟩) hyw (.int .u16 0)).setCell (p := ⟨y, 6, none⟩) hyw (.string ⟨#[]⟩)).setCell (p := ⟨y, 7, none⟩) hyw (.string ⟨#[]⟩)).setCell (p := ⟨y, 8, none⟩) hyw (.slice none 0 0)
            have hy7 : Blk (((((((w6.alloc (.cells #[.int .u32 0, .int .u32 0, .int .u16 0, .string ⟨#[]⟩, .string ⟨#[]⟩, .slice none 0 0] 30)).setCell ⟨y, 3, none⟩ (.int .u32 0)).setCell ⟨y, 4, none⟩ (.int .u32 0)).setCell ⟨y, 5, none⟩ (.int .u16 0)).setCell ⟨y, 6, none⟩ (.string ⟨#[]⟩)).setCell ⟨y, 7, none⟩ (.string ⟨#[]⟩)).setCell ⟨y, 8, none⟩ (.slice none 0 0)) y 41 #[.int .i64 2, .int .u64 (v : Int), .int .i64 0, .int .u32 0, .int .u32 0, .int .u16 0, .string ⟨#[]⟩, .string ⟨#[]⟩, .slice none 0 0] := ((((((hy6).set_ 3 (.int .u32 0)).set_ 4 (.int .u32 0)).set_ 5 (.int .u16 0)).set_ 6 (.string ⟨#[]⟩)).set_ 7 (.string ⟨#[]⟩)).set_ 8 (.slice none 0 0)
            have hcc7 := hy7.rec9
            clear hz4 hy4 hb5 hb6 hy6
            have hQn : Q = none := hQ2.out.symm
            subst hQn
            clear hQ2
            go_upto_region 22 with (fail)
            generalize ((((((w6.alloc (.cells #[.int .u32 0, .int .u32 0, .int .u16 0, .string ⟨#[]⟩, .string ⟨#[]⟩, .slice none 0 0] 30)).setCell ⟨y, 3, none⟩ (.int .u32 0)).setCell ⟨y, 4, none⟩ (.int .u32 0)).setCell ⟨y, 5, none⟩ (.int .u16 0)).setCell ⟨y, 6, none⟩ (.string ⟨#[]⟩)).setCell ⟨y, 7, none⟩ (.string ⟨#[]⟩)).setCell ⟨y, 8, none⟩ (.slice none 0 0) = w7 at *
            clear hcc hopc hf3 hf4 hf5 hf6 hf7 hf8
            have hzr := hz7.row #[.int .i64 0, .int .u64 0, .int .i64 0, .int .u32 0, .int .u32 0, .int .u16 0, .string ⟨#[]⟩, .string ⟨#[]⟩, .slice none 0 0]
            have hbr := below_row hb7 (g := z) hzw #[.int .i64 0, .int .u64 0, .int .i64 0, .int .u32 0, .int .u32 0, .int .u16 0, .string ⟨#[]⟩, .string ⟨#[]⟩, .slice none 0 0]
            go_wp2_with (refine store_row_gen rfl 41 (Operand.tmp 2) _ rfl z #[.int .i64 0, .int .u64 0, .int .i64 0, .int .u32 0, .int .u32 0, .int .u16 0, .string ⟨#[]⟩, .string ⟨#[]⟩, .slice none 0 0] (by simp [go_sem]) (by simp [go_sem]) 41 _ hz7 (by kernel_rfl) rfl (by simp [Value.oneCell']) (fun w9 hw9 => ?_); rw [← hw9] at hzr hbr; clear hw9)
            refine bodyPost_ret (v := .tuple #[.agg #[.int .i64 0, .int .u64 0, .int .i64 0, .int .u32 0, .int .u32 0, .int .u16 0, .string ⟨#[]⟩, .string ⟨#[]⟩, .slice none 0 0], .int .i64 20]) (by exact results_ct rfl _ _ z 41 _ (0, 0) _ _ rfl rfl hzr Try.underlying41 rfl (by kernel_rfl)) rfl ?_
            exact ⟨rfl, hbr⟩
          | some oq =>
            obtain ⟨o, q⟩ := oq
            rintro e w6 ⟨A6, c6, xs6, css6, rfl, R6, hb6⟩
            dsimp only
            obtain ⟨hl16, hokv, ho1, ho2, ho3⟩ := hro.out o q rfl
            obtain ⟨oc, os_, on, og', om', ol⟩ := o
            dsimp only at *
            obtain ⟨og, hog⟩ : ∃ og, bstr og' = og := ⟨_, rfl⟩
            obtain ⟨om, hom⟩ : ∃ om, bstr om' = om := ⟨_, rfl⟩
            obtain ⟨oL, hoL⟩ : ∃ oL, ol.length = oL := ⟨_, rfl⟩
            rw [hog, hom, hoL]
            have hs56 := hb6.size
            have hs5w := hb5.size
            have hy5l := hy4.lt
            have hz5l := hz4.lt
            have hy6 := (hy4.below hb6 hy4.lt).alloc (.cells #[.int .u32 (oc : Int), .int .u32 (os_ : Int), .int .u16 (on : Int), .string og, .string om, .slice A6 oL c6] 30)
            have hopc := (Blk.new w6 30 #[.int .u32 (oc : Int), .int .u32 (os_ : Int), .int .u16 (on : Int), .string og, .string om, .slice A6 oL c6]).op6
            have hcc := hy6.rec9
            have hf3 := hy6.frozen 3
            have hf4 := hy6.frozen 4
            have hf5 := hy6.frozen 5
            have hf6 := hy6.frozen 6
            have hf7 := hy6.frozen 7
            have hf8 := hy6.frozen 8
            have hz7 := (((((((hz4.below hb6 hz4.lt).alloc (.cells #[.int .u32 (oc : Int), .int .u32 (os_ : Int), .int .u16 (on : Int), .string og, .string om, .slice A6 oL c6] 30)).far (p := ⟨y, 3, none⟩) (show z ≠ y by omega) (.int .u32 (oc : Int))).far (p := ⟨y, 4, none⟩) (show z ≠ y by omega) (.int .u32 (os_ : Int))).far (p := ⟨y, 5, none⟩) (show z ≠ y by omega) (.int .u16 (on : Int))).far (p := ⟨y, 6, none⟩) (show z ≠ y by omega) (.string og)).far (p := ⟨y, 7, none⟩) (show z ≠ y by omega) (.string om)).far (p := ⟨y, 8, none⟩) (show z ≠ y by omega) (.slice A6 oL c6)
            have hb7 := ((((((((below_then hb6 hb5).alloc (below_then hb6 hb5).size (.cells #[.int .u32 (oc : Int), .int .u32 (os_ : Int), .int .u16 (on : Int), .string og, .string om, .slice A6 oL c6] 30))).setCell (p := ⟨y, 3, none⟩) hyw (.int .u32 (oc : Int))).setCell (p := ⟨y, 4, none⟩) hyw (.int .u32 (os_ : Int))).setCell (p := ⟨y, 5, none⟩) hyw (.int .u16 (on : Int))).setCell (p := ⟨y, 6, none⟩) hyw (.string og)).setCell (p := ⟨y, 7, none⟩) hyw (.string om)).setCell (p := ⟨y, 8, none⟩) hyw (.slice A6 oL c6)
            have hy7 : Blk (((((((w6.alloc (.cells #[.int .u32 (oc : Int), .int .u32 (os_ : Int), .int .u16 (on : Int), .string og, .string om, .slice A6 oL c6] 30)).setCell ⟨y, 3, none⟩ (.int .u32 (oc : Int))).setCell ⟨y, 4, none⟩ (.int .u32 (os_ : Int))).setCell ⟨y, 5, none⟩ (.int .u16 (on : Int))).setCell ⟨y, 6, none⟩ (.string og)).setCell ⟨y, 7, none⟩ (.string om)).setCell ⟨y, 8, none⟩ (.slice A6 oL c6)) y 41 #[.int .i64 2, .int .u64 (v : Int), .int .i64 0, .int .u32 (oc : Int), .int .u32 (os_ : Int), .int .u16 (on : Int), .string og, .string om, .slice A6 oL c6] := ((((((hy6).set_ 3 (.int .u32 (oc : Int))).set_ 4 (.int .u32 (os_ : Int))).set_ 5 (.int .u16 (on : Int))).set_ 6 (.string og)).set_ 7 (.string om)).set_ 8 (.slice A6 oL c6)
            have hcc7 := hy7.rec9
            have R7 := R6.upd (((((((((Upd.refl (fun x => x = y) w6).alloc (.cells #[.int .u32 (oc : Int), .int .u32 (os_ : Int), .int .u16 (on : Int), .string og, .string om, .slice A6 oL c6] 30))).setCell (p := ⟨y, 3, none⟩) (fun _ => rfl) (.int .u32 (oc : Int))).setCell (p := ⟨y, 4, none⟩) (fun _ => rfl) (.int .u32 (os_ : Int))).setCell (p := ⟨y, 5, none⟩) (fun _ => rfl) (.int .u16 (on : Int))).setCell (p := ⟨y, 6, none⟩) (fun _ => rfl) (.string og)).setCell (p := ⟨y, 7, none⟩) (fun _ => rfl) (.string om)).setCell (p := ⟨y, 8, none⟩) (fun _ => rfl) (.slice A6 oL c6)) (fun g hg e => by omega)
            clear hz4 hy4 hb5 hb6 hy6
            replace hog := Lib.hid hog
            replace hom := Lib.hid hom
            replace hoL := Lib.hid hoL
            replace R7 := Lib.hid R7
            clear R6
            by_cases hqn : q = N - 8
            · have dq : ((q : Int) == (N : Int) - 8) = true := by rw [beq_iff_eq]; omega
              have hQn : Q = some ⟨2, v, 0, ⟨oc, os_, on, og', om', ol⟩⟩ := by rw [← hQ2.out]; show (if q = N - 8 then _ else none) = _; rw [if_pos hqn]
              subst hQn
              replace hqn := Lib.hid hqn
              clear hQ2 hro
              go_upto_region 22 with (fail)
              generalize ((((((w6.alloc (.cells #[.int .u32 (oc : Int), .int .u32 (os_ : Int), .int .u16 (on : Int), .string og, .string om, .slice A6 oL c6] 30)).setCell ⟨y, 3, none⟩ (.int .u32 (oc : Int))).setCell ⟨y, 4, none⟩ (.int .u32 (os_ : Int))).setCell ⟨y, 5, none⟩ (.int .u16 (on : Int))).setCell ⟨y, 6, none⟩ (.string og)).setCell ⟨y, 7, none⟩ (.string om)).setCell ⟨y, 8, none⟩ (.slice A6 oL c6) = w7 at *
              clear hcc hopc hf3 hf4 hf5 hf6 hf7 hf8
              have hRr := R7.out.upd ((Upd.refl (fun x => x = z) w7).setRow (g := z) (fun _ => rfl) #[.int .i64 2, .int .u64 (v : Int), .int .i64 0, .int .u32 (oc : Int), .int .u32 (os_ : Int), .int .u16 (on : Int), .string og, .string om, .slice A6 oL c6]) (fun g hg e => by omega)
              have hzr := hz7.row #[.int .i64 2, .int .u64 (v : Int), .int .i64 0, .int .u32 (oc : Int), .int .u32 (os_ : Int), .int .u16 (on : Int), .string og, .string om, .slice A6 oL c6]
              have hbr := below_row hb7 (g := z) hzw #[.int .i64 2, .int .u64 (v : Int), .int .i64 0, .int .u32 (oc : Int), .int .u32 (os_ : Int), .int .u16 (on : Int), .string og, .string om, .slice A6 oL c6]
              go_wp2_with (refine store_row_gen rfl 41 (Operand.tmp 2) _ rfl z #[.int .i64 2, .int .u64 (v : Int), .int .i64 0, .int .u32 (oc : Int), .int .u32 (os_ : Int), .int .u16 (on : Int), .string og, .string om, .slice A6 oL c6] (by simp [go_sem]) (by simp [go_sem]) 41 _ hz7 (by kernel_rfl) rfl (by simp [Value.oneCell']) (fun w9 hw9 => ?_); rw [← hw9] at hzr hbr hRr; clear hw9)
              refine bodyPost_ret (v := .tuple #[.agg #[.int .i64 2, .int .u64 (v : Int), .int .i64 0, .int .u32 (oc : Int), .int .u32 (os_ : Int), .int .u16 (on : Int), .string og, .string om, .slice A6 oL c6], .int .i64 0]) (by exact results_ct rfl _ _ z 41 _ (0, 0) _ _ rfl rfl hzr Try.underlying41 rfl (by kernel_rfl)) rfl ?_
              refine ⟨A6, c6, _, _, ?_, hRr.down hs5w, ⟨hokv, hl16, ho1, ho2, ho3, hv8⟩, hbr⟩
              dsimp only
              rw [hog.out, hom.out, hoL.out]
            · have dq : ((q : Int) == (N : Int) - 8) = false := by rw [beq_eq_false_iff_ne]; omega
              have hQn : Q = none := by rw [← hQ2.out]; show (if q = N - 8 then _ else none) = _; rw [if_neg hqn]
              subst hQn
              replace hqn := Lib.hid hqn
              clear hQ2 hro
              go_upto_region 22 with (fail)
              generalize ((((((w6.alloc (.cells #[.int .u32 (oc : Int), .int .u32 (os_ : Int), .int .u16 (on : Int), .string og, .string om, .slice A6 oL c6] 30)).setCell ⟨y, 3, none⟩ (.int .u32 (oc : Int))).setCell ⟨y, 4, none⟩ (.int .u32 (os_ : Int))).setCell ⟨y, 5, none⟩ (.int .u16 (on : Int))).setCell ⟨y, 6, none⟩ (.string og)).setCell ⟨y, 7, none⟩ (.string om)).setCell ⟨y, 8, none⟩ (.slice A6 oL c6) = w7 at *
              clear hcc hopc hf3 hf4 hf5 hf6 hf7 hf8
              have hzr := hz7.row #[.int .i64 0, .int .u64 0, .int .i64 0, .int .u32 0, .int .u32 0, .int .u16 0, .string ⟨#[]⟩, .string ⟨#[]⟩, .slice none 0 0]
              have hbr := below_row hb7 (g := z) hzw #[.int .i64 0, .int .u64 0, .int .i64 0, .int .u32 0, .int .u32 0, .int .u16 0, .string ⟨#[]⟩, .string ⟨#[]⟩, .slice none 0 0]
              go_wp2_with (refine store_row_gen rfl 41 (Operand.tmp 2) _ rfl z #[.int .i64 0, .int .u64 0, .int .i64 0, .int .u32 0, .int .u32 0, .int .u16 0, .string ⟨#[]⟩, .string ⟨#[]⟩, .slice none 0 0] (by simp [go_sem]) (by simp [go_sem]) 41 _ hz7 (by kernel_rfl) rfl (by simp [Value.oneCell']) (fun w9 hw9 => ?_); rw [← hw9] at hzr hbr; clear hw9)
              refine bodyPost_ret (v := .tuple #[.agg #[.int .i64 0, .int .u64 0, .int .i64 0, .int .u32 0, .int .u32 0, .int .u16 0, .string ⟨#[]⟩, .string ⟨#[]⟩, .slice none 0 0], .int .i64 20]) (by exact results_ct rfl _ _ z 41 _ (0, 0) _ _ rfl rfl hzr Try.underlying41 rfl (by kernel_rfl)) rfl ?_
              exact ⟨rfl, hbr⟩
        · have d8 : decide ((8 : Int) < (N : Int)) = false := decide_eq_false (by omega)
          have hQn : Q = none := by
            rw [← hQ1.out]
            unfold rdRec1
            rw [if_neg (by decide), if_pos rfl]
            split
            · rfl
            · have : rdOp (t.drop 8) = none := by
                unfold rdOp
                rw [if_pos (by rw [List.length_drop, hN.out]; omega)]
              rw [this]
          subst hQn
          clear ht hQ1
          have hzr := hz3.row #[.int .i64 0, .int .u64 0, .int .i64 0, .int .u32 0, .int .u32 0, .int .u16 0, .string ⟨#[]⟩, .string ⟨#[]⟩, .slice none 0 0]
          have hbr := below_row hb3 (g := z) hzw #[.int .i64 0, .int .u64 0, .int .i64 0, .int .u32 0, .int .u32 0, .int .u16 0, .string ⟨#[]⟩, .string ⟨#[]⟩, .slice none 0 0]
          go_wp2_with (refine store_row_gen rfl 41 (Operand.tmp 2) _ rfl z #[.int .i64 0, .int .u64 0, .int .i64 0, .int .u32 0, .int .u32 0, .int .u16 0, .string ⟨#[]⟩, .string ⟨#[]⟩, .slice none 0 0] (by simp [go_sem]) (by simp [go_sem]) 41 _ hz3 (by kernel_rfl) rfl (by simp [Value.oneCell']) (fun w9 hw9 => ?_); rw [← hw9] at hzr hbr; clear hw9)
          refine bodyPost_ret (v := .tuple #[.agg #[.int .i64 0, .int .u64 0, .int .i64 0, .int .u32 0, .int .u32 0, .int .u16 0, .string ⟨#[]⟩, .string ⟨#[]⟩, .slice none 0 0], .int .i64 20]) (by exact results_ct rfl _ _ z 41 _ (0, 0) _ _ rfl rfl hzr Try.underlying41 rfl (by kernel_rfl)) rfl ?_
          exact ⟨rfl, hbr⟩
      by_cases hk34 : k = 3 ∨ k = 4
      · have d1 : ((k : Int) == 1) = false := by rw [beq_eq_false_iff_ne]; omega
        have d2 : ((k : Int) == 2) = false := by rw [beq_eq_false_iff_ne]; omega
        have h34 : ((k : Int) == 3) = true ∨ (((k : Int) == 3) = false ∧ ((k : Int) == 4) = true) := by
          rcases hk34 with h | h
          · left; rw [beq_iff_eq]; omega
          · right; exact ⟨by rw [beq_eq_false_iff_ne]; omega, by rw [beq_iff_eq]; omega⟩
        have hQ2 : (rdNum t).map (fun n => (⟨(k : Int), 0, (n : Int), opz⟩ : RecD)) = Q := by
          rw [← hQ1.out]
          unfold rdRec1
          rw [if_neg hk1, if_neg hk2, if_pos hk34]
          cases rdNum t <;> rfl
        by_cases hN4 : N = 4
        · have hru := ref_read (c := c1) (k := 4) (bs := t) (w := wc) ((ht.below hb3).more hb3.size) (by omega) (by rw [hN.out]; omega) (by rw [hN.out]; omega)
          have htt : t.take 4 = t := List.take_of_length_le (by rw [hN.out]; omega)
          rw [htt, hN.out] at hru
          have hv4 : readU t < 4294967296 := by have := readU_4 t; rw [htt] at this; exact this
          unfold rdNum at hQ2
          rw [hN.out] at hQ2
          obtain ⟨v, hv⟩ : ∃ v, readU t = v := ⟨_, rfl⟩
          rw [hv] at hru hv4 hQ2
          have hwv := w64_le' v hv4
          subst hN4
          replace hru := Lib.hid hru
          replace hQ2 := Lib.hid hQ2
          clear ht htt hv hQ1
          rcases h34 with d3 | ⟨d3, d4⟩
          all_goals
            go_wp2_with fail
            refine hru.out.mono ?_
            rintro e w4 ⟨rfl, hb4⟩
            dsimp only
            have hz4 := hz3.below hb4 hz3.lt
            have hy4 := hy.below hb4 hy.lt
            have hb5 := below_then hb4 hb3
            have hz5 := hz4.far (p := ⟨y, 2, none⟩) (show z ≠ y by omega) (.int .i64 (v : Int))
            have hy5 : Blk (w4.setCell ⟨y, 2, none⟩ (.int .i64 (v : Int))) y 41 #[.int .i64 (k : Int), .int .u64 0, .int .i64 (v : Int), .int .u32 0, .int .u32 0, .int .u16 0, .string ⟨#[]⟩, .string ⟨#[]⟩, .slice none 0 0] := hy4.set_ 2 (.int .i64 (v : Int))
            have hb6 := hb5.setCell (p := ⟨y, 2, none⟩) hyw (.int .i64 (v : Int))
            have hyc4 := hy4.rec9
            have hyf4 := hy4.frozen 2
            have hyc5 := hy5.rec9
            clear hyc hb4 hz4 hb5 hy4 hz3 hy hb3 hru
            by_cases hm : v ≤ 2147483647
            · have dm : decide ((v : Int) ≤ 2147483647) = true := decide_eq_true (by omega)
              have hQn : Q = some ⟨(k : Int), 0, (v : Int), opz⟩ := by rw [← hQ2.out, if_pos (by first | exact ⟨rfl, hm⟩ | exact ⟨trivial, hm⟩)]; rfl
              subst hQn
              clear hQ2
              have hzr := hz5.row #[.int .i64 (k : Int), .int .u64 0, .int .i64 (v : Int), .int .u32 0, .int .u32 0, .int .u16 0, .string ⟨#[]⟩, .string ⟨#[]⟩, .slice none 0 0]
              have hbr := below_row hb6 (g := z) hzw #[.int .i64 (k : Int), .int .u64 0, .int .i64 (v : Int), .int .u32 0, .int .u32 0, .int .u16 0, .string ⟨#[]⟩, .string ⟨#[]⟩, .slice none 0 0]
              go_wp2_with (refine store_row_gen rfl 41 (Operand.tmp 2) _ rfl z #[.int .i64 (k : Int), .int .u64 0, .int .i64 (v : Int), .int .u32 0, .int .u32 0, .int .u16 0, .string ⟨#[]⟩, .string ⟨#[]⟩, .slice none 0 0] (by simp [go_sem]) (by simp [go_sem]) 41 _ hz5 (by kernel_rfl) rfl (by simp [Value.oneCell']) (fun w9 hw9 => ?_); rw [← hw9] at hzr hbr; clear hw9)
              refine bodyPost_ret (v := .tuple #[.agg #[.int .i64 (k : Int), .int .u64 0, .int .i64 (v : Int), .int .u32 0, .int .u32 0, .int .u16 0, .string ⟨#[]⟩, .string ⟨#[]⟩, .slice none 0 0], .int .i64 0]) (by exact results_ct rfl _ _ z 41 _ (0, 0) _ _ rfl rfl hzr Try.underlying41 rfl (by kernel_rfl)) rfl ?_
              exact ⟨none, 0, [], _, rfl, VRow.nil _ _, recok_opz (show (0 : Nat) < 18446744073709551616 by decide), hbr⟩
            · have dm : decide ((v : Int) ≤ 2147483647) = false := decide_eq_false (by omega)
              have hQn : Q = none := by rw [← hQ2.out, if_neg (fun hh => hm hh.2)]; rfl
              subst hQn
              clear hQ2
              have hzr := hz5.row #[.int .i64 0, .int .u64 0, .int .i64 0, .int .u32 0, .int .u32 0, .int .u16 0, .string ⟨#[]⟩, .string ⟨#[]⟩, .slice none 0 0]
              have hbr := below_row hb6 (g := z) hzw #[.int .i64 0, .int .u64 0, .int .i64 0, .int .u32 0, .int .u32 0, .int .u16 0, .string ⟨#[]⟩, .string ⟨#[]⟩, .slice none 0 0]
              go_wp2_with (refine store_row_gen rfl 41 (Operand.tmp 2) _ rfl z #[.int .i64 0, .int .u64 0, .int .i64 0, .int .u32 0, .int .u32 0, .int .u16 0, .string ⟨#[]⟩, .string ⟨#[]⟩, .slice none 0 0] (by simp [go_sem]) (by simp [go_sem]) 41 _ hz5 (by kernel_rfl) rfl (by simp [Value.oneCell']) (fun w9 hw9 => ?_); rw [← hw9] at hzr hbr; clear hw9)
              refine bodyPost_ret (v := .tuple #[.agg #[.int .i64 0, .int .u64 0, .int .i64 0, .int .u32 0, .int .u32 0, .int .u16 0, .string ⟨#[]⟩, .string ⟨#[]⟩, .slice none 0 0], .int .i64 20]) (by exact results_ct rfl _ _ z 41 _ (0, 0) _ _ rfl rfl hzr Try.underlying41 rfl (by kernel_rfl)) rfl ?_
              exact ⟨rfl, hbr⟩
        · have dN : ((N : Int) == 4) = false := by rw [beq_eq_false_iff_ne]; omega
          have hQn : Q = none := by rw [← hQ2]; unfold rdNum; rw [if_neg (fun hh => hN4 (by rw [← hN.out]; exact hh.1))]; rfl
          subst hQn
          clear ht hQ1 hQ2
          rcases h34 with d3 | ⟨d3, d4⟩
          all_goals
            have hzr := hz3.row #[.int .i64 0, .int .u64 0, .int .i64 0, .int .u32 0, .int .u32 0, .int .u16 0, .string ⟨#[]⟩, .string ⟨#[]⟩, .slice none 0 0]
            have hbr := below_row hb3 (g := z) hzw #[.int .i64 0, .int .u64 0, .int .i64 0, .int .u32 0, .int .u32 0, .int .u16 0, .string ⟨#[]⟩, .string ⟨#[]⟩, .slice none 0 0]
            go_wp2_with (refine store_row_gen rfl 41 (Operand.tmp 2) _ rfl z #[.int .i64 0, .int .u64 0, .int .i64 0, .int .u32 0, .int .u32 0, .int .u16 0, .string ⟨#[]⟩, .string ⟨#[]⟩, .slice none 0 0] (by simp [go_sem]) (by simp [go_sem]) 41 _ hz3 (by kernel_rfl) rfl (by simp [Value.oneCell']) (fun w9 hw9 => ?_); rw [← hw9] at hzr hbr; clear hw9)
            refine bodyPost_ret (v := .tuple #[.agg #[.int .i64 0, .int .u64 0, .int .i64 0, .int .u32 0, .int .u32 0, .int .u16 0, .string ⟨#[]⟩, .string ⟨#[]⟩, .slice none 0 0], .int .i64 20]) (by exact results_ct rfl _ _ z 41 _ (0, 0) _ _ rfl rfl hzr Try.underlying41 rfl (by kernel_rfl)) rfl ?_
            exact ⟨rfl, hbr⟩
      · have d1 : ((k : Int) == 1) = false := by rw [beq_eq_false_iff_ne]; omega
        have d2 : ((k : Int) == 2) = false := by rw [beq_eq_false_iff_ne]; omega
        have d3 : ((k : Int) == 3) = false := by rw [beq_eq_false_iff_ne]; omega
        have d4 : ((k : Int) == 4) = false := by rw [beq_eq_false_iff_ne]; omega
        have hQn : Q = none := by rw [← hQ1.out]; unfold rdRec1; rw [if_neg hk1, if_neg hk2, if_neg hk34]
        subst hQn
        have hzr := hz3.row #[.int .i64 0, .int .u64 0, .int .i64 0, .int .u32 0, .int .u32 0, .int .u16 0, .string ⟨#[]⟩, .string ⟨#[]⟩, .slice none 0 0]
        have hbr := below_row hb3 (g := z) hzw #[.int .i64 0, .int .u64 0, .int .i64 0, .int .u32 0, .int .u32 0, .int .u16 0, .string ⟨#[]⟩, .string ⟨#[]⟩, .slice none 0 0]
        go_wp2_with (refine store_row_gen rfl 41 (Operand.tmp 2) _ rfl z #[.int .i64 0, .int .u64 0, .int .i64 0, .int .u32 0, .int .u32 0, .int .u16 0, .string ⟨#[]⟩, .string ⟨#[]⟩, .slice none 0 0] (by simp [go_sem]) (by simp [go_sem]) 41 _ hz3 (by kernel_rfl) rfl (by simp [Value.oneCell']) (fun w9 hw9 => ?_); rw [← hw9] at hzr hbr; clear hw9)
        refine bodyPost_ret (v := .tuple #[.agg #[.int .i64 0, .int .u64 0, .int .i64 0, .int .u32 0, .int .u32 0, .int .u16 0, .string ⟨#[]⟩, .string ⟨#[]⟩, .slice none 0 0], .int .i64 20]) (by exact results_ct rfl _ _ z 41 _ (0, 0) _ _ rfl rfl hzr Try.underlying41 rfl (by kernel_rfl)) rfl ?_
        exact ⟨rfl, hbr⟩
end Go.Proofs.Ytjljlgkghlphnaa
