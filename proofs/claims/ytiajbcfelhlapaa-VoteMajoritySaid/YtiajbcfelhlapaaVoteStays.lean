/- VoteStays: any put, with what stays; the walk. -/
import Derived.Test.YtiajbcfelhlapaaVote7
namespace Go.Proofs.Ytiajbcfelhlapaa
open Go.RowKit

def PutNext (Aw Al : Option Addr) (b p : Nat) (c s n nn pol : Int) (D : Option FR) (j : Nat) (w : World) (e : Ending) (w' : World) : Prop :=
  ∃ (q : Bool) (who' : List Int) (L' : List FR) (D' : Option FR) (Aw' Al' : Option Addr) (cw' cl' : Nat) (xs' : List Value), e = .returned (.bool q) ∧ VAt w' b p c s n nn pol who' L' D' Aw' Al' cw' cl' xs' ∧ (∀ y ∈ who', y < ((j + 1 : Nat) : Int)) ∧ who'.length ≤ j + 1 ∧ L'.length ≤ j + 1 ∧ (∀ y, D = some y → D' = some y) ∧ Upd (fun g => g = p ∨ some g = bOf Aw ∨ some g = bOf Al) w w'
theorem put_next {w : World} {b p : Nat} {c s n nn pol : Int} {who : List Int} {L : List FR} {D : Option FR} {Aw Al : Option Addr} {cw cl : Nat} {xs : List Value} (h : VAt w b p c s n nn pol who L D Aw Al cw cl xs) (j : Nat) (x : FR) (hj : j ≤ 20) (hwho : ∀ y ∈ who, y < (j : Int)) (hwl : who.length ≤ j) (hLl : L.length ≤ j) (hfx : FlatC x.k x.i x.f) (h1 : 1 ≤ nn) (h7 : nn ≤ 7) (hb0 : b ≤ w.heap.size) :
    Calls Try.prog 14 #[.pointer (some ⟨p, 0, none⟩), .int .i64 (j : Int), .agg #[.int .u32 c, .int .u32 s, .int .u16 n, .int .i64 x.e, .int .i64 x.k, .int .i64 x.i, .float .f64 x.f, .string ⟨#[]⟩, .slice none 0 0]] w (PutNext Aw Al b p c s n nn pol D j w) := by
  by_cases hn : (j : Int) < nn
  · refine (put_ok h (j : Int) x (by omega) hn (fun hm => absurd (hwho _ hm) (by omega)) hfx (by omega) (by omega) h1 h7 hb0).mono ?_
    rintro e w' ⟨rfl, ⟨Aw', Al', cw', cl', xs', V⟩, hu⟩
    refine ⟨true, _, _, _, Aw', Al', cw', cl', xs', rfl, V, ?_, ?_, ?_, ?_, hu⟩
    · intro y hy
      rw [List.mem_append] at hy
      rcases hy with hy | hy
      · have := hwho y hy; omega
      · simp at hy; omega
    · simp; omega
    · simp; omega
    · intro y hy
      subst hy
      rfl
  · refine (put_far h (j : Int) x (by omega) (by omega) (by omega)).mono ?_
    rintro e w' ⟨rfl, hb⟩
    refine ⟨false, who, L, D, Aw, Al, cw, cl, xs, rfl, h.below hb, fun y hy => by have := hwho y hy; omega, by omega, by omega, fun y hy => hy, Upd.of_below_size hb⟩

theorem Blk.rep9 {w : World} {g : Nat} {t : TypeId} {a b c d e f h i j : Value} (x : Blk w g t #[a, b, c, d, e, f, h, i, j]) : w.cell? ⟨g, 0, none⟩ = some a ∧ w.cell? ⟨g, 1, none⟩ = some b ∧ w.cell? ⟨g, 2, none⟩ = some c ∧ w.cell? ⟨g, 3, none⟩ = some d ∧ w.cell? ⟨g, 4, none⟩ = some e ∧ w.cell? ⟨g, 5, none⟩ = some f ∧ w.cell? ⟨g, 6, none⟩ = some h ∧ w.cell? ⟨g, 7, none⟩ = some i ∧ w.cell? ⟨g, 8, none⟩ = some j := ⟨x.cell 0, x.cell 1, x.cell 2, x.cell 3, x.cell 4, x.cell 5, x.cell 6, x.cell 7, x.cell 8⟩

theorem VAt.row_ {w : World} {b p g : Nat} {c s n nn pol : Int} {who : List Int} {L : List FR} {D : Option FR} {Aw Al : Option Addr} {cw cl : Nat} {xs : List Value} (h : VAt w b p c s n nn pol who L D Aw Al cw cl xs) (hg : g < b) (hne : p ≠ g) (cs : Array Value) : VAt (w.setRow g cs) b p c s n nn pol who L D Aw Al cw cl xs :=
  have hu : Upd (fun x => x = g) w (w.setRow g cs) := (Upd.refl (fun x => x = g) w).setRow (g := g) (fun _ => rfl) cs
  ⟨h.blk.farRow hne cs, h.hw.upd hu (fun k hk e => by have := h.hAw k hk; omega), h.hl.upd hu (fun k hk e => by have := h.hAl k hk; omega), h.hx, h.hD, h.hp, h.hAw, h.hAl⟩

structure SRel (w ws : World) (b p ib fb : Nat) (nn pol : Int) (wr : World) (j : Nat) (who : List Int) (L : List FR) (D : Option FR) (Aw Al : Option Addr) (cw cl : Nat) (xs : List Value) : Prop where
  V : VAt wr b p 1 2 0 nn pol who L D Aw Al cw cl xs
  hwho : ∀ y ∈ who, y < (j : Int)
  hwl : who.length ≤ j
  hLl : L.length ≤ j
  id : Blk wr ib 25 #[.int .u32 1, .int .u32 2, .int .u16 0]
  fst : Blk wr fb 32 #[resD 1 2 0 D 0, resD 1 2 0 D 1, resD 1 2 0 D 2, resD 1 2 0 D 3, resD 1 2 0 D 4, resD 1 2 0 D 5, resD 1 2 0 D 6, resD 1 2 0 D 7, resD 1 2 0 D 8]
  hfb : fb < b
  hB : Below w.heap.size w wr
  hs : ws.heap.size ≤ wr.heap.size

set_option maxHeartbeats 6400000 in
theorem voteStays_walk (x0 x1 : Int) (A : Option Addr) (c : Nat) (l : List UInt8) (w : World) (h00 : 0 ≤ x0) (h01 : x0 ≤ 255) (h10 : 0 ≤ x1) (h11 : x1 ≤ 255) (hr : Reads w w.heap.size 1 A l.length (bys l)) (hl : l.length ≤ 140737488351232) :
    Calls Try.prog 4 #[.int .u8 x0, .int .u8 x1, .slice A l.length c] w (SaysTrue w) := by
  have hsf := fun a k x m w => run_store_float (P := Try.prog) a k x m w
  go_enter Try.func4, Try.ntmps4
  go_wp2_with fail
  refine (known_true _).mono ?_
  rintro e w1 ⟨rfl, hb1⟩
  dsimp only
  by_cases h10l : 10 < l.length
  · have hd : decide ((10 : Int) < (l.length : Int)) = true := decide_eq_true (by omega)
    go_wp2_with fail
    go_ret
    exact ⟨rfl, hb1⟩
  have hd : decide ((10 : Int) < (l.length : Int)) = false := decide_eq_false (by omega)
  have hid := Blk.new w1 25 #[.int .u32 1, .int .u32 2, .int .u16 0]
  have hb2 := hb1.alloc hb1.size (.cells #[.int .u32 1, .int .u32 2, .int .u16 0] 25)
  obtain ⟨i0, i1, i2⟩ := hid.id3
  go_wp2_with fail
  obtain ⟨nn, hnn⟩ : ∃ nn, x0 % 7 + 1 = nn := ⟨_, rfl⟩
  have hn1 : 1 ≤ nn := by omega
  have hn7 : nn ≤ 7 := by omega
  rw [hnn]
  clear hnn
  refine (new_flat 1 2 0 nn (x1 % 3) _ hn1 hn7).mono ?_
  rintro e w2 ⟨p, rfl, V2, hbn, hbp⟩
  dsimp only
  have hid2 := hid.below hbn hid.lt
  have hb2' := below_then hbn hb2
  clear hb2 hid i0 i1 i2
  go_wp2_with fail
  have V3 := V2.below ((Below.refl w2.heap.size w2).alloc (Nat.le_refl _) (.cells #[.int .u32 0, .int .u32 0, .int .u16 0, .int .i64 0, .int .i64 0, .int .i64 0, .float .f64 0, .string ⟨#[]⟩, .slice none 0 0] 32))
  have hid3 := hid2.alloc (.cells #[.int .u32 0, .int .u32 0, .int .u16 0, .int .i64 0, .int .i64 0, .int .i64 0, .float .f64 0, .string ⟨#[]⟩, .slice none 0 0] 32)
  have hf3 := Blk.new w2 32 #[.int .u32 0, .int .u32 0, .int .u16 0, .int .i64 0, .int .i64 0, .int .i64 0, .float .f64 0, .string ⟨#[]⟩, .slice none 0 0]
  have hb3 := hb2'.alloc hb2'.size (.cells #[.int .u32 0, .int .u32 0, .int .u16 0, .int .i64 0, .int .i64 0, .int .i64 0, .float .f64 0, .string ⟨#[]⟩, .slice none 0 0] 32)
  have hp3 : w.heap.size ≤ p := by have := hb1.size; rw [World.size_alloc] at hbp; omega
  have V4 : VAt (w2.alloc (.cells #[.int .u32 0, .int .u32 0, .int .u16 0, .int .i64 0, .int .i64 0, .int .i64 0, .float .f64 0, .string ⟨#[]⟩, .slice none 0 0] 32)) (w2.heap.size + 1) p 1 2 0 nn (x1 % 3) [] [] none none none 0 0 [] := ⟨V3.blk, Own.none_, Own.none_, by simp, by simp, trivial, by simp [bOf], by simp [bOf]⟩
  have hlo : w.heap.size ≤ w2.heap.size := hb2'.size
  have hws : (w2.alloc (.cells #[.int .u32 0, .int .u32 0, .int .u16 0, .int .i64 0, .int .i64 0, .int .i64 0, .float .f64 0, .string ⟨#[]⟩, .slice none 0 0] 32)).heap.size = w2.heap.size + 1 := by simp
  clear V2 V3 hid2 hb2' hbn hbp
  generalize x1 % 3 = pol at *
  generalize w2.heap.size = fb at *
  generalize w1.heap.size = ib at *
  generalize w2.alloc (.cells #[.int .u32 0, .int .u32 0, .int .u16 0, .int .i64 0, .int .i64 0, .int .i64 0, .float .f64 0, .string ⟨#[]⟩, .slice none 0 0] 32) = ws at *
  go_loopw [10, 11, 12, 13] (fun had i r ok wr => ∃ (j : Nat) (who : List Int) (L : List FR) (D : Option FR) (Aw Al : Option Addr) (cw cl : Nat) (xs : List Value), j ≤ l.length ∧ i = .int .i64 (j : Int) ∧ had = .bool D.isSome ∧ SRel w ws (fb + 1) p ib fb nn pol wr j who L D Aw Al cw cl xs) (fun _ i _ _ _ => l.length - (intOf i).toNat)
  case atStart => exact ⟨0, [], [], none, none, none, 0, 0, [], Nat.zero_le _, rfl, rfl, V4, by simp, by simp, by simp, hid3, hf3, by omega, hb3, Nat.le_refl _⟩
  case round =>
    rename_i hrel
    obtain ⟨j, who, L, D, Aw, Al, cw, cl, xs, hj, rfl, rfl, R⟩ := hrel
    by_cases hlt : j < l.length
    · obtain ⟨ad, u, rfl, had, hu, hc⟩ := (hr.below R.hB).at_ hlt
      simp only [bys, byv, List.getElem?_map, List.getElem?_eq_getElem hlt, Option.map_some, Option.some.injEq] at hu
      subst hu
      have hy := l[j].toNat_lt
      generalize l[j].toNat = yb at *
      have hS : (wr.drew.cell? ⟨ib, 0, none⟩ = some (.int .u32 1) ∧ wr.drew.cell? ⟨ib, 1, none⟩ = some (.int .u32 2) ∧ wr.drew.cell? ⟨ib, 2, none⟩ = some (.int .u16 0)) ∧ wr.drew.cell? (ad.add j) = some (.int .u8 (yb : Int)) := ⟨R.id.id3, hc⟩
      go_wp2_with fail
      refine wp_region_lex (fun W => (W.cell? ⟨ib, 0, none⟩ = some (.int .u32 1) ∧ W.cell? ⟨ib, 1, none⟩ = some (.int .u32 2) ∧ W.cell? ⟨ib, 2, none⟩ = some (.int .u16 0)) ∧ W.cell? (ad.add j) = some (.int .u8 (yb : Int))) [2, 6] [9, 11] [0, 1, 2, 3, 4, 5, 6, 7, 8, 9, 10, 11] (by kernel_rfl) rfl (by kernel_rfl) (by kernel_rfl) (fun _ _ d _ _ h => by cases d <;> exact h) ?_
      repeat (first | (refine lexG_take _ ?_ rfl rfl rfl rfl (fun _ => ?_) ?_; rotate_left; (focus (go_simp; with_reducible rfl)); try simp only [Act.put, List.setIfInBounds_toArray, List.set_cons_zero, List.set_cons_succ]) | (refine lexG_held _ ?_ rfl rfl rfl rfl (by assumption) (fun _ hSw => ?_) ?_; rotate_left; (focus ((try dsimp only at hSw); go_simp; with_reducible rfl)); try simp only [Act.put, List.setIfInBounds_toArray, List.set_cons_zero, List.set_cons_succ]) | (refine lexG_skip _ rfl rfl (by assumption) ?_; try simp only [Act.put, List.setIfInBounds_toArray, List.set_cons_zero, List.set_cons_succ]))
      refine lexG_now _ rfl rfl rfl (fun K hK => ?_)
      go_wp2_with fail
      obtain ⟨yi, hyi⟩ : ∃ yi : Int, (yb : Int) % 3 = yi := ⟨_, rfl⟩
      rw [hyi]
      refine (int_ref yi _).mono ?_
      rintro e w5 ⟨rfl, hb5⟩
      dsimp only
      have hb5' : Below wr.heap.size wr w5 := below_of_drew hb5
      have V5 := R.V.below hb5'
      have id5 := R.id.below hb5' R.id.lt
      have hc5 := cell_keep hb5' hc
      refine hK _ _ _ (fun _ h => h) ⟨id5.id3, hc5⟩ ?_
      clear hK K hS hb5
      try simp only [Act.put, List.setIfInBounds_toArray, List.set_cons_zero, List.set_cons_succ]
      repeat (first | (refine lexG_take _ ?_ rfl rfl rfl rfl (fun _ => ?_) ?_; rotate_left; (focus (go_simp; with_reducible rfl)); try simp only [Act.put, List.setIfInBounds_toArray, List.set_cons_zero, List.set_cons_succ]) | (refine lexG_held _ ?_ rfl rfl rfl rfl (by assumption) (fun _ hSw => ?_) ?_; rotate_left; (focus ((try dsimp only at hSw); go_simp; with_reducible rfl)); try simp only [Act.put, List.setIfInBounds_toArray, List.set_cons_zero, List.set_cons_succ]) | (refine lexG_skip _ rfl rfl (by assumption) ?_; try simp only [Act.put, List.setIfInBounds_toArray, List.set_cons_zero, List.set_cons_succ]))
      refine lexG_now _ rfl rfl rfl (fun K hK => ?_)
      go_wp2_with fail
      refine (put_next V5 j ⟨0, 1, yi, 0⟩ (by omega) R.hwho R.hwl R.hLl (.inr (.inl ⟨rfl, rfl⟩)) hn1 hn7 (Nat.le_trans (Nat.le_of_eq hws.symm) (Nat.le_trans R.hs hb5'.size))).mono ?_
      rintro e w6 ⟨q, who', L', D', Aw', Al', cw', cl', xs', rfl, V6, hwho', hwl', hLl', hD', hu6⟩
      dsimp only
      have hu56 : Upd (fun g => g = p ∨ some g = bOf Aw ∨ some g = bOf Al) wr w6 := (Upd.of_below_size hb5').trans hu6 (fun _ _ h => h)
      have hpb := R.V.blk
      have id6 := R.id.upd hu56 (fun h => by rcases h with h | h | h; (exact R.id.ne_ R.V.blk (by decide) h); (exact R.V.hw.ne_blk R.id (by decide) h.symm); (exact R.V.hl.ne_blk R.id (by decide) h.symm))
      have hfb := R.hfb
      have fst6 := R.fst.upd hu56 (fun h => by rcases h with h | h | h; (exact R.fst.ne_ R.V.blk (by decide) h); (have := R.V.hAw fb h.symm; omega); (have := R.V.hAl fb h.symm; omega))
      have hB6 : Below w.heap.size w w6 := R.hB.trans (hu56.below (B := w.heap.size) R.hB.size (fun k hk h => by rcases h with h | h | h; omega; (have := R.V.hAw k h.symm; omega); (have := R.V.hAl k h.symm; omega)))
      have hc6 : w6.cell? (ad.add j) = some (.int .u8 (yb : Int)) := (hB6.cell (p := ad.add j) (by rw [block_of_add]; exact had)).trans ((R.hB.cell (p := ad.add j) (by rw [block_of_add]; exact had)).symm.trans hc)
      have hs6 := Nat.le_trans R.hs hu56.size
      refine hK _ _ _ (fun _ h => h) ⟨id6.id3, hc6⟩ ?_
      clear hK K hpb V5 id5 hc5 hb5' hu56 hu6 hc6 R hc
      try simp only [Act.put, List.setIfInBounds_toArray, List.set_cons_zero, List.set_cons_succ]
      repeat (first | (refine lexG_take _ ?_ rfl rfl rfl rfl (fun _ => ?_) ?_; rotate_left; (focus (go_simp; with_reducible rfl)); try simp only [Act.put, List.setIfInBounds_toArray, List.set_cons_zero, List.set_cons_succ]) | (refine lexG_held _ ?_ rfl rfl rfl rfl (by assumption) (fun _ hSw => ?_) ?_; rotate_left; (focus ((try dsimp only at hSw); go_simp; with_reducible rfl)); try simp only [Act.put, List.setIfInBounds_toArray, List.set_cons_zero, List.set_cons_succ]) | (refine lexG_skip _ rfl rfl (by assumption) ?_; try simp only [Act.put, List.setIfInBounds_toArray, List.set_cons_zero, List.set_cons_succ]))
      refine lexG_nil ?_
      go_wp2_with fail
      cases D' with
      | none =>
        have hD0 : D = none := by cases D with | none => rfl | some z => cases hD' z rfl
        subst hD0
        refine (result_no V6).mono ?_
        rintro e w7 ⟨rfl, hb7⟩
        dsimp only [resD]
        have V7 := V6.below hb7
        have id7 := id6.below hb7 id6.lt
        have fst7 := fst6.below hb7 fst6.lt
        have hB7 := hB6.trans (hb7.mono hB6.size)
        have hs7 := Nat.le_trans hs6 hb7.size
        clear V6 id6 fst6 hB6 hs6 hb7
        have V8 := V7.below ((Below.refl w7.heap.size w7).alloc (Nat.le_refl _) (.cells #[.int .u32 0, .int .u32 0, .int .u16 0, .int .i64 0, .int .i64 0, .int .i64 0, .float .f64 0, .string ⟨#[]⟩, .slice none 0 0] 32))
        have id8 := id7.alloc (.cells #[.int .u32 0, .int .u32 0, .int .u16 0, .int .i64 0, .int .i64 0, .int .i64 0, .float .f64 0, .string ⟨#[]⟩, .slice none 0 0] 32)
        have fst8 := fst7.alloc (.cells #[.int .u32 0, .int .u32 0, .int .u16 0, .int .i64 0, .int .i64 0, .int .i64 0, .float .f64 0, .string ⟨#[]⟩, .slice none 0 0] 32)
        have hB8 := hB7.alloc hB7.size (.cells #[.int .u32 0, .int .u32 0, .int .u16 0, .int .i64 0, .int .i64 0, .int .i64 0, .float .f64 0, .string ⟨#[]⟩, .slice none 0 0] 32)
        have hs8 : ws.heap.size ≤ (w7.alloc (.cells #[.int .u32 0, .int .u32 0, .int .u16 0, .int .i64 0, .int .i64 0, .int .i64 0, .float .f64 0, .string ⟨#[]⟩, .slice none 0 0] 32)).heap.size := by rw [World.size_alloc]; omega
        clear V7 id7 fst7 hB7
        go_wp2_with fail
        go_roundw
        case rel => exact ⟨j + 1, who', L', none, Aw', Al', cw', cl', xs', by omega, by simp, rfl, V8, hwho', hwl', hLl', id8, fst8, hfb, hB8, hs8⟩
        case measure => simp [intOf]; omega
      | some y =>
        refine (result_yes V6).mono ?_
        rintro e w7 ⟨rfl, hb7⟩
        dsimp only [resD]
        have V7 := V6.below hb7
        have id7 := id6.below hb7 id6.lt
        have fst7 := fst6.below hb7 fst6.lt
        have hB7 := hB6.trans (hb7.mono hB6.size)
        have hs7 := Nat.le_trans hs6 hb7.size
        clear V6 id6 fst6 hB6 hs6 hb7
        have V8 := V7.below ((Below.refl w7.heap.size w7).alloc (Nat.le_refl _) (.cells #[.int .u32 1, .int .u32 2, .int .u16 0, .int .i64 y.e, .int .i64 y.k, .int .i64 y.i, .float .f64 y.f, .string ⟨#[]⟩, .slice none 0 0] 32))
        have id8 := id7.alloc (.cells #[.int .u32 1, .int .u32 2, .int .u16 0, .int .i64 y.e, .int .i64 y.k, .int .i64 y.i, .float .f64 y.f, .string ⟨#[]⟩, .slice none 0 0] 32)
        have fst8 := fst7.alloc (.cells #[.int .u32 1, .int .u32 2, .int .u16 0, .int .i64 y.e, .int .i64 y.k, .int .i64 y.i, .float .f64 y.f, .string ⟨#[]⟩, .slice none 0 0] 32)
        have hB8 := hB7.alloc hB7.size (.cells #[.int .u32 1, .int .u32 2, .int .u16 0, .int .i64 y.e, .int .i64 y.k, .int .i64 y.i, .float .f64 y.f, .string ⟨#[]⟩, .slice none 0 0] 32)
        have hs8 : ws.heap.size ≤ (w7.alloc (.cells #[.int .u32 1, .int .u32 2, .int .u16 0, .int .i64 y.e, .int .i64 y.k, .int .i64 y.i, .float .f64 y.f, .string ⟨#[]⟩, .slice none 0 0] 32)).heap.size := by rw [World.size_alloc]; omega
        clear V7 id7 hB7
        cases D with
        | some z =>
          have hzy : z = y := by have := hD' z rfl; cases this; rfl
          subst hzy
          obtain ⟨f0, f1, f2, f3, f4, f5, f6, f7, f8⟩ := fst8.rep9
          dsimp only [resD] at f0 f1 f2 f3 f4 f5 f6 f7 f8
          go_wp2_with fail
          refine (reply_same 1 2 0 z.e z.k z.i z.f _).mono ?_
          rintro e w9 ⟨rfl, hb9⟩
          dsimp only
          have V9 := V8.below hb9
          have id9 := id8.below hb9 id8.lt
          have fst9 := fst8.below hb9 fst8.lt
          have hB9 := hB8.trans (hb9.mono hB8.size)
          have hs9 := Nat.le_trans hs8 hb9.size
          clear V8 id8 fst8 hB8 hs8 hb9 f0 f1 f2 f3 f4 f5 f6 f7 f8 fst7
          go_wp2_with fail
          go_roundw
          case rel => exact ⟨j + 1, who', L', some z, Aw', Al', cw', cl', xs', by omega, by simp, rfl, V9, hwho', hwl', hLl', id9, fst9, hfb, hB9, hs9⟩
          case measure => simp [intOf]; omega
        | none =>
          have fst8' : Blk (w7.alloc (.cells #[.int .u32 1, .int .u32 2, .int .u16 0, .int .i64 y.e, .int .i64 y.k, .int .i64 y.i, .float .f64 y.f, .string ⟨#[]⟩, .slice none 0 0] 32)) fb 32 #[.int .u32 0, .int .u32 0, .int .u16 0, .int .i64 0, .int .i64 0, .int .i64 0, .float .f64 0, .string ⟨#[]⟩, .slice none 0 0] := fst8
          have hBr := below_row hB8 (g := fb) hlo #[.int .u32 1, .int .u32 2, .int .u16 0, .int .i64 y.e, .int .i64 y.k, .int .i64 y.i, .float .f64 y.f, .string ⟨#[]⟩, .slice none 0 0]
          have hsr : ws.heap.size ≤ ((w7.alloc (.cells #[.int .u32 1, .int .u32 2, .int .u16 0, .int .i64 y.e, .int .i64 y.k, .int .i64 y.i, .float .f64 y.f, .string ⟨#[]⟩, .slice none 0 0] 32)).setRow fb #[.int .u32 1, .int .u32 2, .int .u16 0, .int .i64 y.e, .int .i64 y.k, .int .i64 y.i, .float .f64 y.f, .string ⟨#[]⟩, .slice none 0 0]).heap.size := by rw [size_setRow]; exact hs8
          have idr := id8.farRow (g := fb) (fun e => by subst e; exact id8.ne_ fst8 (by decide) rfl) #[.int .u32 1, .int .u32 2, .int .u16 0, .int .i64 y.e, .int .i64 y.k, .int .i64 y.i, .float .f64 y.f, .string ⟨#[]⟩, .slice none 0 0]
          have fstr := fst8'.row #[.int .u32 1, .int .u32 2, .int .u16 0, .int .i64 y.e, .int .i64 y.k, .int .i64 y.i, .float .f64 y.f, .string ⟨#[]⟩, .slice none 0 0]
          have hVr : VAt ((w7.alloc (.cells #[.int .u32 1, .int .u32 2, .int .u16 0, .int .i64 y.e, .int .i64 y.k, .int .i64 y.i, .float .f64 y.f, .string ⟨#[]⟩, .slice none 0 0] 32)).setRow fb #[.int .u32 1, .int .u32 2, .int .u16 0, .int .i64 y.e, .int .i64 y.k, .int .i64 y.i, .float .f64 y.f, .string ⟨#[]⟩, .slice none 0 0]) (fb + 1) p 1 2 0 nn pol who' L' (some y) Aw' Al' cw' cl' xs' := V8.row_ hfb (fun e => by subst e; exact fst8'.ne_ V8.blk (by decide) rfl) #[.int .u32 1, .int .u32 2, .int .u16 0, .int .i64 y.e, .int .i64 y.k, .int .i64 y.i, .float .f64 y.f, .string ⟨#[]⟩, .slice none 0 0]
          clear fst7
          go_wp2_with (refine store_row_gen rfl 32 (Operand.tmp 9) _ rfl fb #[.int .u32 1, .int .u32 2, .int .u16 0, .int .i64 y.e, .int .i64 y.k, .int .i64 y.i, .float .f64 y.f, .string ⟨#[]⟩, .slice none 0 0] (by simp [go_sem]) (by simp [go_sem]) 32 _ fst8' (by kernel_rfl) rfl (by simp [Value.oneCell']) (fun w9 hw9 => ?_); rw [← hw9] at hBr hsr idr fstr hVr; clear hw9)
          go_wp2_with fail
          go_roundw
          case rel => exact ⟨j + 1, who', L', some y, Aw', Al', cw', cl', xs', by omega, by simp, rfl, hVr, hwho', hwl', hLl', idr, fstr, hfb, hBr, hsr⟩
          case measure => simp [intOf]; omega
    · have hj' : j = l.length := by omega
      have hB := R.hB
      subst hj'
      clear R
      go_wp2_with fail
      go_ret
      exact ⟨rfl, hB⟩
end Go.Proofs.Ytiajbcfelhlapaa
