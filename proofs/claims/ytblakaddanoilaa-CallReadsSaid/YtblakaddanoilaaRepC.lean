/- call.ReadReply's closure: a reply's parts, one by one. -/
import Derived.Test.YtblakaddanoilaaRepP
namespace Go.Proofs.Ytblakaddanoilaa
open Go.RowKit
set_option maxRecDepth 100000

/-- What the reading of a reply comes to: its id, error, value, and how far. -/
def rdRep (b : List UInt8) : Option ((Nat × Nat × Nat × Nat) × Val × Nat) :=
  if b.length < 10 then none
  else if b.length < 12 then none
  else match rdV (b.drop 12) with
    | none => none
    | some (v, m) => some ((readU (b.take 4), readU ((b.drop 4).take 4), readU ((b.drop 8).take 2), readU ((b.drop 10).take 2)), v, 12 + m)

def RClRes (w : World) (r rb : Nat) (A : Option Addr) (bl c : Nat) (R : Option ((Nat × Nat × Nat × Nat) × Val × Nat)) (e : Ending) (w' : World) : Prop :=
  match R with
  | some ((c1, s1, n1, e1), v, q) => e = .returned (.tuple #[]) ∧ CAt w' r A bl c q ∧ (∃ k i f s A' n' c', Blk w' rb 45 #[.int .u32 (c1 : Int), .int .u32 (s1 : Int), .int .u16 (n1 : Int), .int .i64 (e1 : Int), .int .i64 k, .int .i64 i, .float .f64 f, .string s, .slice A' n' c'] ∧ VOwn w' (fun g => w.heap.size ≤ g) v #[.int .i64 k, .int .i64 i, .float .f64 f, .string s, .slice A' n' c']) ∧ Upd (fun x => x = r ∨ x = rb) w w'
  | none => e = .panicked shortC ∧ Upd (fun x => x = r ∨ x = rb) w w'

set_option maxHeartbeats 6400000 in
theorem rep_cl {A : Option Addr} {c B r pb rb : Nat} {b : List UInt8} {w : World} (h : CAt w r A b.length c 0) (hr : Reads w B 1 A b.length (bys b)) (hA : A = none → c = 0) (hB : B ≤ r) (hBo : B ≤ rb) (hc : b.length ≤ c) (hl : b.length ≤ 1000000000)
    (hpb : Blk w pb 69 #[.pointer (some ⟨r, 0, none⟩)]) (hob : Blk w rb 45 #[.int .u32 0, .int .u32 0, .int .u16 0, .int .i64 0, .int .i64 0, .int .i64 0, .float .f64 0, .string ⟨#[]⟩, .slice none 0 0]) (R : Option ((Nat × Nat × Nat × Nat) × Val × Nat)) (hR : rdRep b = R) :
    Calls Try.prog 43 #[.pointer (some ⟨pb, 0, none⟩), .pointer (some ⟨rb, 0, none⟩)] w (RClRes w r rb A b.length c R) := by
  have hsf := fun a k x m w => run_store_float (P := Try.prog) a k x m w
  have hpr : pb ≠ r := hpb.ne_ h (by decide)
  have hor : rb ≠ r := hob.ne_ h (by decide)
  have hpo : pb ≠ rb := hpb.ne_ hob (by decide)
  have p0 := hpb.cell 0
  by_cases h10 : b.length < 10
  · have hRn : R = none := by rw [← hR]; unfold rdRep; rw [if_pos h10]
    subst hRn
    have hno := cid_no h hr hA hB hc hl h10
    obtain ⟨bl, hbl⟩ : ∃ bl, b.length = bl := ⟨_, rfl⟩
    rw [hbl]
    replace hno := Lib.hid hno
    clear h hr hA hc hl hob hR h10 hbl
    go_enter Try.func43, Try.ntmps43
    go_wp2_with fail
    refine hno.out.mono ?_
    rintro e w2 ⟨rfl, hu⟩
    dsimp only
    have hu' : Upd (fun x => x = r ∨ x = rb) w w2 := hu.mono (fun _ _ h => .inl h)
    go_wp2_with fail
    exact ⟨rfl, rfl, hu'⟩
  obtain ⟨ad, rfl⟩ : ∃ ad, A = some ad := by
    cases A with
    | none => have := hA rfl; omega
    | some ad => exact ⟨ad, rfl⟩
  have hRR := hR
  unfold rdRep at hRR
  rw [if_neg h10] at hRR
  obtain ⟨c1, hc1⟩ : ∃ c1, readU (b.take 4) = c1 := ⟨_, rfl⟩
  obtain ⟨s1, hs1⟩ : ∃ s1, readU ((b.drop 4).take 4) = s1 := ⟨_, rfl⟩
  obtain ⟨n1, hn1⟩ : ∃ n1, readU ((b.drop 8).take 2) = n1 := ⟨_, rfl⟩
  obtain ⟨e1, he1⟩ : ∃ e1, readU ((b.drop 10).take 2) = e1 := ⟨_, rfl⟩
  have hid := cid_ok h hr hB hc hl (by omega) c1 s1 n1 hc1 hs1 hn1
  have hrx := fun (w1 : World) (hu : Upd (fun x => x = r ∨ x = rb) w w1) => hr.upd hu (fun k hk e => by omega) (by have := hob.lt; omega)
  rw [hc1, hs1, hn1, he1] at hRR
  have he16 : e1 < 65536 := by rw [← he1]; exact readU_2 _
  have hwe : wrap64 (e1 : Int) = (e1 : Int) := by unfold wrap64; omega
  have hnuo : 12 ≤ b.length → ∀ w1, CAt w1 r (some ad) b.length c 10 → Upd (fun x => x = r ∨ x = rb) w w1 → Calls Try.prog 36 #[.pointer (some ⟨r, 0, none⟩), .int .i64 ((2 : Nat) : Int)] w1 (CNumRes w1 r ad b.length c 12 e1) := fun h0 w1 h1 hu => cnumber_ok h1 (hrx w1 hu) hB hc hl (by omega) (by omega) (by omega) e1 he1
  have hnun : b.length < 12 → ∀ w1, CAt w1 r (some ad) b.length c 10 → Calls Try.prog 36 #[.pointer (some ⟨r, 0, none⟩), .int .i64 ((2 : Nat) : Int)] w1 (fun e w' => e = .panicked shortC ∧ Below w1.heap.size w1 w') := fun h0 w1 h1 => cnumber_no h1 (fun e => by cases e) hc hl (by omega) (by omega) h0
  have hvo := fun (h12 : 12 ≤ b.length) (v : Val) (q : Nat) (hrd : rdV (b.drop 12) = some (v, q)) w1 (h1 : CAt w1 r (some ad) b.length c 12) (hu : Upd (fun x => x = r ∨ x = rb) w w1) => cvalue_ok h1 (hrx w1 hu) hB hc hl h12 v q hrd
  have hvn := fun (h12 : 12 ≤ b.length) (hrd : rdV (b.drop 12) = none) w1 (h1 : CAt w1 r (some ad) b.length c 12) (hu : Upd (fun x => x = r ∨ x = rb) w w1) => cvalue_no h1 (hrx w1 hu) (fun e => by cases e) hB hc hl h12 hrd
  obtain ⟨bl, hbl⟩ : ∃ bl, b.length = bl := ⟨_, rfl⟩
  rw [hbl] at hid hnuo hnun hvo hvn hRR h10 ⊢
  have hol := hob.lt
  have hrl := Blk.lt h
  clear h hr hc hl hR hc1 hs1 hn1 he1 hrx hA he16
  replace hid := Lib.hid hid
  replace hnuo := Lib.hid hnuo
  replace hnun := Lib.hid hnun
  replace hvo := Lib.hid hvo
  replace hvn := Lib.hid hvn
  replace hRR := Lib.hid hRR
  replace h10 := Lib.hid h10
  replace hbl := Lib.hid hbl
  go_enter Try.func43, Try.ntmps43
  go_wp2_with fail
  refine hid.out.mono ?_
  rintro e w2 ⟨rfl, hR2, hu2⟩
  dsimp only
  have hu2' : Upd (fun x => x = r ∨ x = rb) w w2 := hu2.mono (fun _ _ h => .inl h)
  have hp2 := hpb.upd hu2 (fun e => hpr e)
  have ho2 := hob.upd hu2 (fun e => hor e)
  have z0 := ho2.cell 0
  have z1 := ho2.cell 1
  have z2 := ho2.cell 2
  have f0 := ho2.frozen 0
  have f1 := ho2.frozen 1
  have f2 := ho2.frozen 2
  have hR3 : CAt (((w2.setCell ⟨rb, 0, none⟩ (.int .u32 (c1 : Int))).setCell ⟨rb, 1, none⟩ (.int .u32 (s1 : Int))).setCell ⟨rb, 2, none⟩ (.int .u16 (n1 : Int))) r (some ad) bl c 10 := ((((show Blk w2 r _ _ from hR2).far (p := ⟨rb, 0, none⟩) (show r ≠ rb from fun e => hor e.symm) (.int .u32 (c1 : Int))).far (p := ⟨rb, 1, none⟩) (show r ≠ rb from fun e => hor e.symm) (.int .u32 (s1 : Int))).far (p := ⟨rb, 2, none⟩) (show r ≠ rb from fun e => hor e.symm) (.int .u16 (n1 : Int)))
  have hp3 := (((hp2.far (p := ⟨rb, 0, none⟩) (show pb ≠ rb from hpo) (.int .u32 (c1 : Int))).far (p := ⟨rb, 1, none⟩) (show pb ≠ rb from hpo) (.int .u32 (s1 : Int))).far (p := ⟨rb, 2, none⟩) (show pb ≠ rb from hpo) (.int .u16 (n1 : Int)))
  have ho3 : Blk (((w2.setCell ⟨rb, 0, none⟩ (.int .u32 (c1 : Int))).setCell ⟨rb, 1, none⟩ (.int .u32 (s1 : Int))).setCell ⟨rb, 2, none⟩ (.int .u16 (n1 : Int))) rb 45 #[.int .u32 (c1 : Int), .int .u32 (s1 : Int), .int .u16 (n1 : Int), .int .i64 0, .int .i64 0, .int .i64 0, .float .f64 0, .string ⟨#[]⟩, .slice none 0 0] := (((ho2.set_ 0 (.int .u32 (c1 : Int))).set_ 1 (.int .u32 (s1 : Int))).set_ 2 (.int .u16 (n1 : Int)))
  have hu3 : Upd (fun x => x = r ∨ x = rb) w (((w2.setCell ⟨rb, 0, none⟩ (.int .u32 (c1 : Int))).setCell ⟨rb, 1, none⟩ (.int .u32 (s1 : Int))).setCell ⟨rb, 2, none⟩ (.int .u16 (n1 : Int))) := (((hu2'.setCell (p := ⟨rb, 0, none⟩) (fun _ => .inr rfl) (.int .u32 (c1 : Int))).setCell (p := ⟨rb, 1, none⟩) (fun _ => .inr rfl) (.int .u32 (s1 : Int))).setCell (p := ⟨rb, 2, none⟩) (fun _ => .inr rfl) (.int .u16 (n1 : Int)))
  have p3 := hp3.cell 0
  clear hR2 hp2 ho2 hu2 hu2' p0
  go_wp2_with fail
  generalize (((w2.setCell ⟨rb, 0, none⟩ (.int .u32 (c1 : Int))).setCell ⟨rb, 1, none⟩ (.int .u32 (s1 : Int))).setCell ⟨rb, 2, none⟩ (.int .u16 (n1 : Int))) = w3 at *
  clear z0 z1 z2 f0 f1 f2 p3 hid
  by_cases hnu : bl < 12
  · have hRn : R = none := by rw [← hRR.out, if_pos hnu]
    subst hRn
    refine (hnun.out hnu w3 hR3).mono ?_
    rintro e w8 ⟨rfl, hb8⟩
    dsimp only
    have hu8 := hu3.trans (Upd.of_below_size (S := fun x => x = r ∨ x = rb) hb8) (fun _ _ h => h)
    go_wp2_with fail
    exact ⟨rfl, rfl, hu8⟩
  have hRR4 := hRR.out
  rw [if_neg hnu] at hRR4
  have h12 : 12 ≤ bl := by omega
  refine (hnuo.out h12 w3 hR3 hu3).mono ?_
  rintro e w4 ⟨rfl, hR4, hu4⟩
  dsimp only
  have hp4 := hp3.upd hu4 (fun e => hpr e)
  have ho4 := ho3.upd hu4 (fun e => hor e)
  have hu4' := hu3.trans hu4 (fun _ _ h => .inl h)
  have z3 := ho4.cell 3
  have f3 := ho4.frozen 3
  have hR5 : CAt (w4.setCell ⟨rb, 3, none⟩ (.int .i64 (e1 : Int))) r (some ad) bl c 12 := ((show Blk w4 r _ _ from hR4).far (p := ⟨rb, 3, none⟩) (show r ≠ rb from fun e => hor e.symm) (.int .i64 (e1 : Int)))
  have hp5 := (hp4.far (p := ⟨rb, 3, none⟩) (show pb ≠ rb from hpo) (.int .i64 (e1 : Int)))
  have ho5 : Blk (w4.setCell ⟨rb, 3, none⟩ (.int .i64 (e1 : Int))) rb 45 #[.int .u32 (c1 : Int), .int .u32 (s1 : Int), .int .u16 (n1 : Int), .int .i64 (e1 : Int), .int .i64 0, .int .i64 0, .float .f64 0, .string ⟨#[]⟩, .slice none 0 0] := (ho4.set_ 3 (.int .i64 (e1 : Int)))
  have hu5 : Upd (fun x => x = r ∨ x = rb) w (w4.setCell ⟨rb, 3, none⟩ (.int .i64 (e1 : Int))) := (hu4'.setCell (p := ⟨rb, 3, none⟩) (fun _ => .inr rfl) (.int .i64 (e1 : Int)))
  have p5 := hp5.cell 0
  clear hR4 hp4 ho4 hu4 hu4' hR3 hp3 ho3 hu3 hnuo hnun hRR
  go_wp2_with fail
  generalize (w4.setCell ⟨rb, 3, none⟩ (.int .i64 (e1 : Int))) = w5 at *
  clear z3 f3 p5 hwe
  cases hrd : rdV (b.drop 12) with
  | none =>
    rw [hrd] at hRR4
    have hRn : R = none := hRR4.symm
    subst hRn
    refine (hvn.out h12 hrd w5 hR5 hu5).mono ?_
    rintro e w8 ⟨rfl, hb8⟩
    dsimp only
    have hu8 := hu5.trans (Upd.of_below_size (S := fun x => x = r ∨ x = rb) hb8) (fun _ _ h => h)
    go_wp2_with fail
    exact ⟨rfl, rfl, hu8⟩
  | some x =>
    obtain ⟨v, q⟩ := x
    rw [hrd] at hRR4
    have hRs : R = some ((c1, s1, n1, e1), v, 12 + q) := hRR4.symm
    subst hRs
    refine (hvo.out h12 v q hrd w5 hR5 hu5).mono ?_
    rintro e w6 ⟨cs, rfl, hv6, hR6, hu6⟩
    obtain ⟨k, i, f, s, A', n', c', hform⟩ := hv6.reads.form
    subst hform
    dsimp only
    have ho6 := ho5.upd hu6 (fun e => hor e)
    have hu6' := hu5.trans hu6 (fun _ _ h => .inl h)
    have y4 := ho6.cell 4
    have y5 := ho6.cell 5
    have y6 := ho6.cell 6
    have y7 := ho6.cell 7
    have y8 := ho6.cell 8
    have f4 := ho6.frozen 4
    have f5 := ho6.frozen 5
    have f6 := ho6.frozen 6
    have f7 := ho6.frozen 7
    have f8 := ho6.frozen 8
    have hw5 := hu5.size
    have hw56 := hu6.size
    have hR7 : CAt (((((w6.setCell ⟨rb, 4, none⟩ (.int .i64 k)).setCell ⟨rb, 5, none⟩ (.int .i64 i)).setCell ⟨rb, 6, none⟩ (.float .f64 f)).setCell ⟨rb, 7, none⟩ (.string s)).setCell ⟨rb, 8, none⟩ (.slice A' n' c')) r (some ad) bl c (12 + q) := ((((((show Blk w6 r _ _ from hR6).far (p := ⟨rb, 4, none⟩) (show r ≠ rb from fun e => hor e.symm) (.int .i64 k)).far (p := ⟨rb, 5, none⟩) (show r ≠ rb from fun e => hor e.symm) (.int .i64 i)).far (p := ⟨rb, 6, none⟩) (show r ≠ rb from fun e => hor e.symm) (.float .f64 f)).far (p := ⟨rb, 7, none⟩) (show r ≠ rb from fun e => hor e.symm) (.string s)).far (p := ⟨rb, 8, none⟩) (show r ≠ rb from fun e => hor e.symm) (.slice A' n' c'))
    have ho7 : Blk (((((w6.setCell ⟨rb, 4, none⟩ (.int .i64 k)).setCell ⟨rb, 5, none⟩ (.int .i64 i)).setCell ⟨rb, 6, none⟩ (.float .f64 f)).setCell ⟨rb, 7, none⟩ (.string s)).setCell ⟨rb, 8, none⟩ (.slice A' n' c')) rb 45 #[.int .u32 (c1 : Int), .int .u32 (s1 : Int), .int .u16 (n1 : Int), .int .i64 (e1 : Int), .int .i64 k, .int .i64 i, .float .f64 f, .string s, .slice A' n' c'] := (((((ho6.set_ 4 (.int .i64 k)).set_ 5 (.int .i64 i)).set_ 6 (.float .f64 f)).set_ 7 (.string s)).set_ 8 (.slice A' n' c'))
    have hu7 : Upd (fun x => x = r ∨ x = rb) w (((((w6.setCell ⟨rb, 4, none⟩ (.int .i64 k)).setCell ⟨rb, 5, none⟩ (.int .i64 i)).setCell ⟨rb, 6, none⟩ (.float .f64 f)).setCell ⟨rb, 7, none⟩ (.string s)).setCell ⟨rb, 8, none⟩ (.slice A' n' c')) := (((((hu6'.setCell (p := ⟨rb, 4, none⟩) (fun _ => .inr rfl) (.int .i64 k)).setCell (p := ⟨rb, 5, none⟩) (fun _ => .inr rfl) (.int .i64 i)).setCell (p := ⟨rb, 6, none⟩) (fun _ => .inr rfl) (.float .f64 f)).setCell (p := ⟨rb, 7, none⟩) (fun _ => .inr rfl) (.string s)).setCell (p := ⟨rb, 8, none⟩) (fun _ => .inr rfl) (.slice A' n' c'))
    have hv7 := hv6.upd (w' := (((((w6.setCell ⟨rb, 4, none⟩ (.int .i64 k)).setCell ⟨rb, 5, none⟩ (.int .i64 i)).setCell ⟨rb, 6, none⟩ (.float .f64 f)).setCell ⟨rb, 7, none⟩ (.string s)).setCell ⟨rb, 8, none⟩ (.slice A' n' c'))) (S := fun x => x = r ∨ x = rb) ((((((Upd.refl (fun x => x = r ∨ x = rb) w6).setCell (p := ⟨rb, 4, none⟩) (fun _ => .inr rfl) (.int .i64 k)).setCell (p := ⟨rb, 5, none⟩) (fun _ => .inr rfl) (.int .i64 i)).setCell (p := ⟨rb, 6, none⟩) (fun _ => .inr rfl) (.float .f64 f)).setCell (p := ⟨rb, 7, none⟩) (fun _ => .inr rfl) (.string s)).setCell (p := ⟨rb, 8, none⟩) (fun _ => .inr rfl) (.slice A' n' c')) (fun g hg e => by have h9 : w5.heap.size ≤ g := hg; omega)
    have hfin : RClRes w r rb (some ad) bl c (some ((c1, s1, n1, e1), v, 12 + q)) (.returned (.tuple #[])) (((((w6.setCell ⟨rb, 4, none⟩ (.int .i64 k)).setCell ⟨rb, 5, none⟩ (.int .i64 i)).setCell ⟨rb, 6, none⟩ (.float .f64 f)).setCell ⟨rb, 7, none⟩ (.string s)).setCell ⟨rb, 8, none⟩ (.slice A' n' c')) := ⟨rfl, hR7, ⟨k, i, f, s, A', n', c', ho7, hv7.mono (fun g _ hg => by have h9 : w5.heap.size ≤ g := hg; omega)⟩, hu7⟩
    replace hfin := Lib.hid hfin
    clear hR7 ho7 hu7 hv7 hv6 hR6 hu6 hu6' hR5 hp5 ho5 hu5 ho6
    go_wp2_with fail
    go_end0
    exact hfin.out
end Go.Proofs.Ytblakaddanoilaa
