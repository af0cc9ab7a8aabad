/- ClientPlays: any script comes to just the document's answers. -/
import Derived.Test.YtgdhiihfcngjbaaCy8
import Derived.Deep.CutBlock
set_option linter.unusedSimpArgs false
set_option linter.unusedVariables false
set_option linter.unusedSimpArgs false
set_option linter.unusedVariables false
namespace Go.Proofs.Ytgdhiihfcngjbaa
open Go.RowKit
set_option maxRecDepth 100000

theorem act_cells {w : World} {B n k0 : Nat} {ad : Addr} {xs : List Value} {a0 a1 a2 a3 a4 a5 a6 a7 a8 a9 : Value} (h : Reads w B 10 (some ad) n xs) (hk : k0 < n) (hxs : (xs.drop (k0 * 10)).take 10 = [a0, a1, a2, a3, a4, a5, a6, a7, a8, a9]) :
    w.cell? (ad.add (k0 * 10)) = some a0 ∧ w.cell? ⟨(ad.add (k0 * 10)).block, (ad.add (k0 * 10)).off + 1, none⟩ = some a1 ∧ w.cell? ⟨(ad.add (k0 * 10)).block, (ad.add (k0 * 10)).off + 2, none⟩ = some a2 ∧ w.cell? ⟨(ad.add (k0 * 10)).block, (ad.add (k0 * 10)).off + 3, none⟩ = some a3 ∧ w.cell? ⟨(ad.add (k0 * 10)).block, (ad.add (k0 * 10)).off + 4, none⟩ = some a4 ∧ w.cell? ⟨(ad.add (k0 * 10)).block, (ad.add (k0 * 10)).off + 5, none⟩ = some a5 ∧ w.cell? ⟨(ad.add (k0 * 10)).block, (ad.add (k0 * 10)).off + 6, none⟩ = some a6 ∧ w.cell? ⟨(ad.add (k0 * 10)).block, (ad.add (k0 * 10)).off + 7, none⟩ = some a7 ∧ w.cell? ⟨(ad.add (k0 * 10)).block, (ad.add (k0 * 10)).off + 8, none⟩ = some a8 ∧ w.cell? ⟨(ad.add (k0 * 10)).block, (ad.add (k0 * 10)).off + 9, none⟩ = some a9 := by
  obtain ⟨ad', e, hb, hc⟩ := h.2 (by omega)
  cases e
  have hg : ∀ i u, i < 10 → [a0, a1, a2, a3, a4, a5, a6, a7, a8, a9][i]? = some u → xs[k0 * 10 + i]? = some u := by
    intro i u hi hu
    rw [← hxs, List.getElem?_take, if_pos hi, List.getElem?_drop] at hu
    exact hu
  have g0 := hc (k0 * 10 + 0) a0 (hg 0 a0 (by omega) rfl)
  have g1 := hc (k0 * 10 + (0 + 1)) a1 (hg 1 a1 (by omega) rfl)
  have g2 := hc (k0 * 10 + (1 + 1)) a2 (hg 2 a2 (by omega) rfl)
  have g3 := hc (k0 * 10 + (2 + 1)) a3 (hg 3 a3 (by omega) rfl)
  have g4 := hc (k0 * 10 + (3 + 1)) a4 (hg 4 a4 (by omega) rfl)
  have g5 := hc (k0 * 10 + (4 + 1)) a5 (hg 5 a5 (by omega) rfl)
  have g6 := hc (k0 * 10 + (5 + 1)) a6 (hg 6 a6 (by omega) rfl)
  have g7 := hc (k0 * 10 + (6 + 1)) a7 (hg 7 a7 (by omega) rfl)
  have g8 := hc (k0 * 10 + (7 + 1)) a8 (hg 8 a8 (by omega) rfl)
  have g9 := hc (k0 * 10 + (8 + 1)) a9 (hg 9 a9 (by omega) rfl)
  rw [add_pos] at g1 g2 g3 g4 g5 g6 g7 g8 g9
  exact ⟨g0, g1, g2, g3, g4, g5, g6, g7, g8, g9⟩
theorem idRow_at {l : List OpnD} {q t : Nat} {x : OpnD} {v : Value} (h : l[q]? = some x) (hv : (idV x)[t]? = some v) : (idRow l)[q * 3 + t]? = some v := by
  have ht : t < 3 := by have := atLt hv; simpa [idV] using this
  unfold idRow
  induction l generalizing q with
  | nil => simp at h
  | cons y l ih =>
    rw [List.flatMap_cons]
    have hl : (idV y).length = 3 := rfl
    cases q with
    | zero =>
      simp at h
      subst h
      rw [List.getElem?_append_left (by omega), Nat.zero_mul, Nat.zero_add]
      exact hv
    | succ q =>
      rw [List.getElem?_append_right (by omega), hl, show (q + 1) * 3 + t - 3 = q * 3 + t by omega]
      exact ih (by simpa using h)
theorem Two.put {b : Nat} {w0 w w' : World} {G G2 : Nat} {F F2 K S : Nat → Prop} {d e : CliD} (h : Two b w0 w G G2 F F2 K d e) (hu : Upd S w w') (hS : ∀ y, S y → K y) (hb : ∀ y, S y → b ≤ y) : Two b w0 w' G G2 F F2 K d e :=
  ⟨h.S.keep hu (fun y hf hs => (h.hK y (hS y hs)).2.1 hf), h.Y.keep hu (fun y hf hs => (h.hK y (hS y hs)).2.2 hf), h.hF, h.hF2, fun y hy => ⟨Nat.lt_of_lt_of_le (h.hK y hy).1 hu.size, (h.hK y hy).2⟩, h.hb.trans (hu.below h.hbw (fun k hk hs => by have := hb k hs; omega)), Nat.le_trans h.hbw hu.size⟩
theorem new_doc (w : World) (id : Nat) (hid : id < 4294967296) : StubYS (w.alloc (.cells #[.int .u32 (id : Int), .int .u32 0, .slice none 0 0, .slice none 0 0, .slice none 0 0, .slice none 0 0] 52)) (fun y => y = w.heap.size) w.heap.size ⟨id, 0, [], []⟩ :=
  ⟨⟨none, 0, none, 0, none, 0, none, 0, [], [], fun _ => #[], fun _ => #[]⟩, Blk.new w _ _, Own.none_, Own.none_, Own.none_, Own.none_, by simp, by simp, by simp, by simp, fun y hy => (by rcases hy with e | e | e | e | e; exact e; cases e; cases e; cases e; cases e), fun y hy => (by subst hy; simp), hid, Nat.zero_le _, Nat.zero_le _, Nat.zero_le _⟩

set_option maxHeartbeats 51200000 in
theorem clientPlays_walk {id : Nat} {A : Option Addr} {c : Nat} {l : List ActD} {xs : List Value} {css : Nat → Array Value} (w : World) (hid : id < 4294967296) (ho : RowAct w A l xs css) (hcap : l.length ≤ c) : Calls Try.prog 5 #[.int .u32 (id : Int), .slice A l.length c] w (fun e w' => e = .returned (.bool true) ∧ Below w.heap.size w w') := by
  have hsf := fun a k x m w => run_store_float (P := Try.prog) a k x m w
  have hkn := fun W => known_true W
  obtain ⟨hr, hx, hxs⟩ := ho
  obtain ⟨n, hn⟩ : ∃ q, l.length = q := ⟨_, rfl⟩
  rw [hn] at hr hxs hcap ⊢
  replace hkn := Lib.hid hkn
  replace hr := Lib.hid hr
  replace hx := Lib.hid hx
  replace hxs := Lib.hid hxs
  replace hn := Lib.hid hn
  go_enter Try.func5, Try.ntmps5
  go_wp2_with fail
  refine (hkn.out w).mono ?_
  clear hkn
  rintro e w0 ⟨rfl, hb0⟩
  try dsimp only
  by_cases h80 : 80 < n
  · have d80 : decide ((80 : Int) < (n : Int)) = true := decide_eq_true (by omega)
    go_wp2_with fail
    go_ret
    exact ⟨rfl, hb0⟩
  · have d80 : decide ((80 : Int) < (n : Int)) = false := decide_eq_false (by omega)
    go_wp2_with fail
    refine (cl_new w0 id 3 hid).mono ?_
    rintro e w1 ⟨rfl, hS1, hb1⟩
    try dsimp only
    obtain ⟨G, hG⟩ : ∃ y, w0.heap.size = y := ⟨_, rfl⟩
    have hs0 := hb0.size
    have hs1 := hb1.size
    have hb01 : Below w.heap.size w w1 := below_then hb1 hb0
    have hGl : G < w1.heap.size := by rw [hG] at hS1; exact hS1.ft G rfl
    rw [hG] at hS1 hs0 ⊢
    have hGb : w.heap.size ≤ G := by omega
    obtain ⟨w2, hw2⟩ : ∃ q, q = w1.alloc (.cells #[.int .u32 (id : Int), .int .u32 0, .slice none 0 0, .slice none 0 0, .slice none 0 0, .slice none 0 0] 52) := ⟨_, rfl⟩
    have hb12 : Below w1.heap.size w1 w2 := by rw [hw2]; exact (Below.refl _ _).alloc (Nat.le_refl _) _
    have hY2 : StubYS w2 (fun y => y = w1.heap.size) w1.heap.size ⟨id, 0, [], []⟩ := by rw [hw2]; exact new_doc w1 id hid
    obtain ⟨G2, hG2⟩ : ∃ y, w1.heap.size = y := ⟨_, rfl⟩
    rw [hG2] at hY2
    have hG2b : w.heap.size ≤ G2 := by omega
    have T2 : Two w.heap.size w w2 G G2 (fun y => y = G) (fun y => y = G2) (fun _ => False) ⟨id, 0, [], []⟩ ⟨id, 0, [], []⟩ :=
      ⟨hS1.below hb12, hY2, fun y hy => ⟨by omega, by omega⟩, fun y hy => by omega, fun _ hf => hf.elim, hb01.trans (hb12.mono hb01.size), by have := hb12.size; omega⟩
    replace T2 := Lib.hid T2
    clear hS1 hY2 hb0 hb1 hb01
    go_upto_region 6 with (fail)
    rw [← hw2]
    try rw [hG2]
    clear hw2 hb12
    go_wp2_with fail
    go_loopw [7] (fun z wr => ∃ (j : Nat) (F F2 : Nat → Prop) (d : CliD), j ≤ n ∧ z = .int .i64 (j : Int) ∧ Two w.heap.size w wr G G2 F F2 (fun _ => False) d d ∧ InvC id j d) (fun z _ => n - (intOf z).toNat)
    case atStart => exact ⟨0, _, _, _, Nat.zero_le _, rfl, T2.out, ⟨rfl, rfl, Nat.le_refl _, by simp, by simp⟩⟩
    case round =>
      clear T2
      rename_i hrel
      obtain ⟨j, F, F2, d, hj, rfl, T, I⟩ := hrel
      by_cases hlt : j < n
      · have hgk : l[j]? = some (l[j]'(by rw [hn.out]; exact hlt)) := List.getElem?_eq_getElem _
        obtain ⟨Al, cl, k, i, f, t, Av, nv, cv, xrl, cssl, hcs, hrl, hvl, hxl, hokl, hll, hv, hokv, bw, bn, be⟩ := hx.out j _ hgk
        generalize l[j]'(by rw [hn.out]; exact hlt) = x at hgk hcs hrl hvl hxl hokl hll hv hokv bw bn be
        obtain ⟨xw, xn, xs_, xl, xe, xv⟩ := x
        dsimp only at hcs hrl hvl hxl hokl hll hv hokv bw bn be
        have hel := hxs.out j hlt
        rw [hcs] at hel
        have hrr := hr.out.below T.hb
        obtain ⟨ad, rfl, -, -⟩ := hrr.2 (by omega)
        obtain ⟨g0, g1, g2, g3, g4, g5, g6, g7, g8, g9⟩ := act_cells hrr hlt hel
        obtain ⟨LL, hLL⟩ : ∃ q, xl.length = q := ⟨_, rfl⟩
        rw [hLL] at g3
        have hd : decide ((j : Int) < (n : Int)) = true := decide_eq_true (by omega)
        have hjw : IntKind.i64.wrap ((j : Int) + 1) = (j : Int) + 1 := by rw [IntKind.wrap_i64]; omega
        obtain ⟨w3, hw3⟩ : ∃ q, q = wr.alloc (.cells #[.int .u8 (xw : Int), .int .u8 (xn : Int), .string xs_, .slice Al LL cl, .int .u8 (xe : Int), .int .i64 k, .int .i64 i, .float .f64 f, .string t, .slice Av nv cv] 54) := ⟨_, rfl⟩
        have T3 : Two w.heap.size w w3 G G2 F F2 (fun y => False ∨ y = wr.heap.size) d d := by rw [hw3]; exact T.box _
        have hbx3 : Blk w3 wr.heap.size 54 #[.int .u8 (xw : Int), .int .u8 (xn : Int), .string xs_, .slice Al LL cl, .int .u8 (xe : Int), .int .i64 k, .int .i64 i, .float .f64 f, .string t, .slice Av nv cv] := by rw [hw3]; exact Blk.new wr _ _
        obtain ⟨y8, hy8⟩ : ∃ y, wr.heap.size = y := ⟨_, rfl⟩
        rw [hy8] at T3 hbx3
        have hb03 := T3.hb
        replace T3 := Lib.hid T3
        replace I := Lib.hid I
        replace hrl := Lib.hid hrl
        replace hvl := Lib.hid hvl
        replace hxl := Lib.hid hxl
        replace hokl := Lib.hid hokl
        replace hv := Lib.hid hv
        clear hel hrr hgk hcs T
        go_upto_region 10 with (fail)
        rw [← hw3]
        try rw [hy8]
        clear hw3 g0 g1 g2 g3 g4 g5 g6 g7 g8 g9 hy8
        have hcl := lights_any (c := cl) hrl.out hxl.out hvl.out hb03 hb03.size (by omega)
        rw [hLL] at hcl
        replace hcl := Lib.hid hcl
        have p0 := hbx3.cell 0
        have p1 := hbx3.cell 1
        have p2 := hbx3.cell 2
        have p3 := hbx3.cell 3
        have p4 := hbx3.cell 4
        have p5 := hbx3.cell 5
        have p6 := hbx3.cell 6
        have p7 := hbx3.cell 7
        have p8 := hbx3.cell 8
        have p9 := hbx3.cell 9
        go_wp2_with fail
        refine hcl.out.mono ?_
        clear hcl
        rintro e w4 ⟨q1, rfl, hq1, hb4⟩
        try dsimp only
        have hb04 := hb03.trans (hb4.mono hb03.size)
        cases q1
        · go_wp2_with fail
          go_ret
          exact ⟨rfl, hb04⟩
        have hlen40 := hq1 rfl
        clear hq1
        have hbx4 := hbx3.below hb4 hbx3.lt
        have T4 := T3.out.below hb4
        clear p0 p1 p2 p3 p4 p5 p6 p7 p8 p9
        have p0 := hbx4.cell 0
        have p1 := hbx4.cell 1
        have p2 := hbx4.cell 2
        have p3 := hbx4.cell 3
        have p4 := hbx4.cell 4
        have p5 := hbx4.cell 5
        have p6 := hbx4.cell 6
        have p7 := hbx4.cell 7
        have p8 := hbx4.cell 8
        have p9 := hbx4.cell 9
        have hcl2 := light_any hv.out w4 hb04 hb04.size
        replace hcl2 := Lib.hid hcl2
        replace T4 := Lib.hid T4
        clear T3 hbx3
        go_wp2_with fail
        refine hcl2.out.mono ?_
        clear hcl2
        rintro e w5 ⟨q2, rfl, hb5⟩
        try dsimp only
        have hb05 := hb04.trans (hb5.mono hb04.size)
        cases q2
        · go_wp2_with fail
          go_ret
          exact ⟨rfl, hb05⟩
        have hbx5 := hbx4.below hb5 hbx4.lt
        have T5 := T4.out.below hb5
        clear p0 p1 p2 p3 p4 p5 p6 p7 p8 p9
        have p0 := hbx5.cell 0
        have p1 := hbx5.cell 1
        have p2 := hbx5.cell 2
        have p3 := hbx5.cell 3
        have p4 := hbx5.cell 4
        have p5 := hbx5.cell 5
        have p6 := hbx5.cell 6
        have p7 := hbx5.cell 7
        have p8 := hbx5.cell 8
        have p9 := hbx5.cell 9
        replace T5 := Lib.hid T5
        clear T4 hbx4
        by_cases h60 : 60 < xs_.size
        · have d60 : decide ((60 : Int) < (xs_.size : Int)) = true := decide_eq_true (by omega)
          go_wp2_with fail
          go_ret
          exact ⟨rfl, hb05⟩
        have d60 : decide ((60 : Int) < (xs_.size : Int)) = false := decide_eq_false (by omega)
        obtain ⟨m7, hm7⟩ : ∃ q, xw % 7 = q := ⟨_, rfl⟩
        have t7 : Int.tmod (xw : Int) 7 = (m7 : Int) := by rw [Int.tmod_eq_emod_of_nonneg (by omega)]; omega
        have t7' : (xw : Int) % 7 = (m7 : Int) := by omega
        have v7 : IntKind.u8.wrap (m7 : Int) = (m7 : Int) := by unfold IntKind.wrap; simp [IntKind.bits, IntKind.signed]; omega
        have hm77 : m7 < 7 := by omega
        go_upto_block 2 with (fail)
        go_cut [9, 10, 11, 12, 13, 14, 15] from 57 to 141 (fun x9 x10 x11 x12 x13 x14 x15 wx => ∃ (F F2 : Nat → Prop) (d : CliD), Two w.heap.size w wx G G2 F F2 (fun _ => False) d d ∧ InvC id (j + 1) d)
        case first =>
          replace T5 := T5.out
          replace I := I.out
          replace hrl := hrl.out
          replace hvl := hvl.out
          replace hxl := hxl.out
          replace hokl := hokl.out
          replace hv := hv.out
          rcases (show m7 = 0 ∨ m7 = 1 ∨ m7 = 2 ∨ m7 = 3 ∨ m7 = 4 ∨ m7 = 5 ∨ m7 = 6 by omega) with rfl | rfl | rfl | rfl | rfl | rfl | rfl
          · skip
            have hsq := I.hseq
            have hseqs := I.hid
            have ha5 := act_held (c := d.id) (s := d.seq + 1) (gg := (⟨#[103]⟩ : ByteArray)) (mm := xs_) (cl := cl) (G := G) hb05 hGb hrl hvl hxl hokl hll (by rw [hseqs]; exact hid) (by omega)
            have hc1 := cl_callS T5.S ha5 (by omega) (by omega) (by decide) (by omega)
            obtain ⟨cC, hcC⟩ : ∃ q, callC d (⟨#[103]⟩ : ByteArray) xs_ xl = q := ⟨_, rfl⟩
            obtain ⟨cS, hcS⟩ : ∃ q, callS d (⟨#[103]⟩ : ByteArray) xs_ xl = q := ⟨_, rfl⟩
            obtain ⟨cE, hcE⟩ : ∃ q, callE d (⟨#[103]⟩ : ByteArray) xs_ xl = q := ⟨_, rfl⟩
            have hI := I.call (⟨#[103]⟩ : ByteArray) xs_ xl
            obtain ⟨d', hd'⟩ : ∃ q, callD d (⟨#[103]⟩ : ByteArray) xs_ xl = q := ⟨_, rfl⟩
            rw [hcC, hcS, hcE, hd', hLL] at hc1
            rw [hd'] at hI
            replace hc1 := Lib.hid hc1
            replace hcC := Lib.hid hcC
            replace hcS := Lib.hid hcS
            replace hcE := Lib.hid hcE
            replace hd' := Lib.hid hd'
            replace T5 := Lib.hid T5
            go_wp2_with fail
            refine hc1.out.mono ?_
            clear hc1
            rintro e w6 ⟨rfl, hC6⟩
            try dsimp only
            obtain ⟨F6, T6, hu6⟩ := T5.out.prog hC6
            have hbx6 := hbx5.upd hu6 (fun h => h (.inr rfl))
            obtain ⟨w7, hw7⟩ : ∃ q, q = w6.alloc (.cells #[.int .u32 (cC : Int), .int .u32 (cS : Int), .int .u16 0] 29) := ⟨_, rfl⟩
            have T7 : Two w.heap.size w w7 G G2 F6 F2 (fun y => (False ∨ y = y8) ∨ y = w6.heap.size) d' d := by rw [hw7]; exact T6.box _
            have hb67 : Below w6.heap.size w6 w7 := by rw [hw7]; exact (Below.refl _ _).alloc (Nat.le_refl _) _
            have h9 : Blk w7 w6.heap.size 29 #[.int .u32 (cC : Int), .int .u32 (cS : Int), .int .u16 0] := by rw [hw7]; exact Blk.new w6 _ _
            have hbx7 := hbx6.below hb67 hbx6.lt
            obtain ⟨y9, hy9⟩ : ∃ y, w6.heap.size = y := ⟨_, rfl⟩
            rw [hy9] at h9 T7
            have hb07 := T7.hb
            have ha7 := act_held (c := d.id) (s := d.seq + 1) (gg := (⟨#[103]⟩ : ByteArray)) (mm := xs_) (cl := cl) (G := G2) hb07 hG2b hrl hvl hxl hokl hll (by rw [hseqs]; exact hid) (by omega)
            have hc2 := cy_call T7.Y ha7 (by omega) (by omega) (by omega)
            rw [hcC.out, hcS.out, hcE.out, hd'.out, hLL] at hc2
            clear p0 p1 p2 p3 p4 p5 p6 p7 p8 p9
            clear hC6 T6 hu6 hbx6 hb67
            replace hc2 := Lib.hid hc2
            replace T7 := Lib.hid T7
            go_upto_region 24 with (fail)
            rw [← hw7]
            try rw [hy9]
            clear hw7
            have p0 := hbx7.cell 0
            have p1 := hbx7.cell 1
            have p2 := hbx7.cell 2
            have p3 := hbx7.cell 3
            have p4 := hbx7.cell 4
            have p5 := hbx7.cell 5
            have p6 := hbx7.cell 6
            have p7 := hbx7.cell 7
            have p8 := hbx7.cell 8
            have p9 := hbx7.cell 9
            go_wp2_with fail
            refine hc2.out.mono ?_
            clear hc2
            rintro e w8 ⟨rfl, hC8⟩
            try dsimp only
            obtain ⟨F8, T8, hu8⟩ := T7.out.doc hC8
            have h98 := h9.upd hu8 (fun h => h (.inr rfl))
            obtain ⟨w9, hw9⟩ : ∃ q, q = w8.alloc (.cells #[.int .u32 (cC : Int), .int .u32 (cS : Int), .int .u16 0] 29) := ⟨_, rfl⟩
            have hb89 : Below w8.heap.size w8 w9 := by rw [hw9]; exact (Below.refl _ _).alloc (Nat.le_refl _) _
            have h11 : Blk w9 w8.heap.size 29 #[.int .u32 (cC : Int), .int .u32 (cS : Int), .int .u16 0] := by rw [hw9]; exact Blk.new w8 _ _
            have h99 := h98.below hb89 h98.lt
            have T9 := (T8.below hb89).free
            obtain ⟨y11, hy11⟩ : ∃ y, w8.heap.size = y := ⟨_, rfl⟩
            rw [hy11] at h11
            clear p0 p1 p2 p3 p4 p5 p6 p7 p8 p9
            clear hC8 T8 hu8 h98 hb89
            replace T9 := Lib.hid T9
            go_upto_region 25 with (fail)
            rw [← hw9]
            try rw [hy11]
            clear hw9
            have q0 := h99.cell 0
            have q1 := h99.cell 1
            have q2 := h99.cell 2
            have s0 := h11.cell 0
            have s1 := h11.cell 1
            have s2 := h11.cell 2
            go_wp2_with fail
            go_meet
            exact ⟨F6, F8, d', T9.out, hI⟩
          · skip
            have hsq := I.hseq
            have hseqs := I.hid
            have ha5 := act_held (c := d.id) (s := d.seq + 1) (gg := (⟨#[103]⟩ : ByteArray)) (mm := xs_) (cl := cl) (G := G) hb05 hGb hrl hvl hxl hokl hll (by rw [hseqs]; exact hid) (by omega)
            have hc1 := cl_callS T5.S ha5 (by omega) (by omega) (by decide) (by omega)
            obtain ⟨cC, hcC⟩ : ∃ q, callC d (⟨#[103]⟩ : ByteArray) xs_ xl = q := ⟨_, rfl⟩
            obtain ⟨cS, hcS⟩ : ∃ q, callS d (⟨#[103]⟩ : ByteArray) xs_ xl = q := ⟨_, rfl⟩
            obtain ⟨cE, hcE⟩ : ∃ q, callE d (⟨#[103]⟩ : ByteArray) xs_ xl = q := ⟨_, rfl⟩
            have hI := I.call (⟨#[103]⟩ : ByteArray) xs_ xl
            obtain ⟨d', hd'⟩ : ∃ q, callD d (⟨#[103]⟩ : ByteArray) xs_ xl = q := ⟨_, rfl⟩
            rw [hcC, hcS, hcE, hd', hLL] at hc1
            rw [hd'] at hI
            replace hc1 := Lib.hid hc1
            replace hcC := Lib.hid hcC
            replace hcS := Lib.hid hcS
            replace hcE := Lib.hid hcE
            replace hd' := Lib.hid hd'
            replace T5 := Lib.hid T5
            go_wp2_with fail
            refine hc1.out.mono ?_
            clear hc1
            rintro e w6 ⟨rfl, hC6⟩
            try dsimp only
            obtain ⟨F6, T6, hu6⟩ := T5.out.prog hC6
            have hbx6 := hbx5.upd hu6 (fun h => h (.inr rfl))
            obtain ⟨w7, hw7⟩ : ∃ q, q = w6.alloc (.cells #[.int .u32 (cC : Int), .int .u32 (cS : Int), .int .u16 0] 29) := ⟨_, rfl⟩
            have T7 : Two w.heap.size w w7 G G2 F6 F2 (fun y => (False ∨ y = y8) ∨ y = w6.heap.size) d' d := by rw [hw7]; exact T6.box _
            have hb67 : Below w6.heap.size w6 w7 := by rw [hw7]; exact (Below.refl _ _).alloc (Nat.le_refl _) _
            have h9 : Blk w7 w6.heap.size 29 #[.int .u32 (cC : Int), .int .u32 (cS : Int), .int .u16 0] := by rw [hw7]; exact Blk.new w6 _ _
            have hbx7 := hbx6.below hb67 hbx6.lt
            obtain ⟨y9, hy9⟩ : ∃ y, w6.heap.size = y := ⟨_, rfl⟩
            rw [hy9] at h9 T7
            have hb07 := T7.hb
            have ha7 := act_held (c := d.id) (s := d.seq + 1) (gg := (⟨#[103]⟩ : ByteArray)) (mm := xs_) (cl := cl) (G := G2) hb07 hG2b hrl hvl hxl hokl hll (by rw [hseqs]; exact hid) (by omega)
            have hc2 := cy_call T7.Y ha7 (by omega) (by omega) (by omega)
            rw [hcC.out, hcS.out, hcE.out, hd'.out, hLL] at hc2
            clear p0 p1 p2 p3 p4 p5 p6 p7 p8 p9
            clear hC6 T6 hu6 hbx6 hb67
            replace hc2 := Lib.hid hc2
            replace T7 := Lib.hid T7
            go_upto_region 24 with (fail)
            rw [← hw7]
            try rw [hy9]
            clear hw7
            have p0 := hbx7.cell 0
            have p1 := hbx7.cell 1
            have p2 := hbx7.cell 2
            have p3 := hbx7.cell 3
            have p4 := hbx7.cell 4
            have p5 := hbx7.cell 5
            have p6 := hbx7.cell 6
            have p7 := hbx7.cell 7
            have p8 := hbx7.cell 8
            have p9 := hbx7.cell 9
            go_wp2_with fail
            refine hc2.out.mono ?_
            clear hc2
            rintro e w8 ⟨rfl, hC8⟩
            try dsimp only
            obtain ⟨F8, T8, hu8⟩ := T7.out.doc hC8
            have h98 := h9.upd hu8 (fun h => h (.inr rfl))
            obtain ⟨w9, hw9⟩ : ∃ q, q = w8.alloc (.cells #[.int .u32 (cC : Int), .int .u32 (cS : Int), .int .u16 0] 29) := ⟨_, rfl⟩
            have hb89 : Below w8.heap.size w8 w9 := by rw [hw9]; exact (Below.refl _ _).alloc (Nat.le_refl _) _
            have h11 : Blk w9 w8.heap.size 29 #[.int .u32 (cC : Int), .int .u32 (cS : Int), .int .u16 0] := by rw [hw9]; exact Blk.new w8 _ _
            have h99 := h98.below hb89 h98.lt
            have T9 := (T8.below hb89).free
            obtain ⟨y11, hy11⟩ : ∃ y, w8.heap.size = y := ⟨_, rfl⟩
            rw [hy11] at h11
            clear p0 p1 p2 p3 p4 p5 p6 p7 p8 p9
            clear hC8 T8 hu8 h98 hb89
            replace T9 := Lib.hid T9
            go_upto_region 25 with (fail)
            rw [← hw9]
            try rw [hy11]
            clear hw9
            have q0 := h99.cell 0
            have q1 := h99.cell 1
            have q2 := h99.cell 2
            have s0 := h11.cell 0
            have s1 := h11.cell 1
            have s2 := h11.cell 2
            go_wp2_with fail
            go_meet
            exact ⟨F6, F8, d', T9.out, hI⟩
          · skip
            have hc1 := cl_outS T5.S
            rw [I.outs] at hc1
            have hft5 := T5.Y.ft
            have hlo : (outR d).length ≤ 4 := by
              have h1 := T5.S.hn
              have h2 : (outR d).length ≤ d.op.length := by unfold outR; rw [List.length_map]; exact List.length_filter_le _ _
              omega
            obtain ⟨LO, hLO⟩ : ∃ q, (outR d).length = q := ⟨_, rfl⟩
            rw [hLO] at hc1
            replace hc1 := Lib.hid hc1
            replace T5 := Lib.hid T5
            replace hft5 := Lib.hid hft5
            go_wp2_with fail
            refine hc1.out.mono ?_
            clear hc1
            rintro e w6 ⟨Ao, co, xo, cso, rfl, hP6, hC6⟩
            try dsimp only
            obtain ⟨F6, T6, -⟩ := T5.out.prog hC6
            have hc2 := cy_out T6.Y
            rw [hLO] at hc2
            replace hc2 := Lib.hid hc2
            replace T6 := Lib.hid T6
            replace hP6 := Lib.hid hP6
            clear p0 p1 p2 p3 p4 p5 p6 p7 p8 p9
            clear hC6
            go_wp2_with fail
            refine hc2.out.mono ?_
            clear hc2
            rintro e w7 ⟨Ao2, co2, xo2, cso2, P2, rfl, hP7, hC7⟩
            try dsimp only
            obtain ⟨F7, T7, -⟩ := T6.out.doc hC7
            have hP67 := hP6.out.under hC7.1 (fun y hy => hft5.out y hy)
            have hc3 := ops_same hP67.toO hP7.toO (by omega)
            rw [hLO] at hc3
            replace hc3 := Lib.hid hc3
            replace T7 := Lib.hid T7
            clear hP7 hP67 hC7
            go_wp2_with fail
            refine hc3.out.mono ?_
            clear hc3
            rintro e w8 ⟨rfl, hb8⟩
            try dsimp only
            go_wp2_with fail
            go_meet
            exact ⟨F6, F7, outD d, (T7.out.below hb8).free, (I.out).mono (by omega)⟩
          · skip
            have hsum := I.hsum
            have hsq := I.hseq
            obtain ⟨n12, hn12⟩ : ∃ q, xn % 12 = q := ⟨_, rfl⟩
            obtain ⟨e50, he50⟩ : ∃ q, xe % 50 = q := ⟨_, rfl⟩
            have t12 : Int.tmod (xn : Int) 12 = (n12 : Int) := by rw [Int.tmod_eq_emod_of_nonneg (by omega)]; omega
            have t12' : (xn : Int) % 12 = (n12 : Int) := by omega
            have t50 : Int.tmod (xe : Int) 50 = (e50 : Int) := by rw [Int.tmod_eq_emod_of_nonneg (by omega)]; omega
            have t50' : (xe : Int) % 50 = (e50 : Int) := by omega
            have v1 : IntKind.u8.wrap (n12 : Int) = (n12 : Int) := by unfold IntKind.wrap; simp [IntKind.bits, IntKind.signed]; omega
            have v2 : IntKind.u8.wrap (e50 : Int) = (e50 : Int) := by unfold IntKind.wrap; simp [IntKind.bits, IntKind.signed]; omega
            have v3 : IntKind.u32.wrap (n12 : Int) = (n12 : Int) := by unfold IntKind.wrap; simp [IntKind.bits, IntKind.signed]; omega
            have v4 : IntKind.i64.wrap (e50 : Int) = (e50 : Int) := by rw [IntKind.wrap_i64]; omega
            obtain ⟨w6, hw6⟩ : ∃ q, q = w5.alloc (.cells #[.int .u32 (id : Int), .int .u32 (n12 : Int), .int .u16 0, .int .i64 (e50 : Int), .int .i64 k, .int .i64 i, .float .f64 f, .string t, .slice Av nv cv] 39) := ⟨_, rfl⟩
            have T6 : Two w.heap.size w w6 G G2 F F2 (fun y => (False ∨ y = y8) ∨ y = w5.heap.size) d d := by rw [hw6]; exact T5.box _
            have hbr : Blk w6 w5.heap.size 39 #[.int .u32 (id : Int), .int .u32 (n12 : Int), .int .u16 0, .int .i64 (e50 : Int), .int .i64 k, .int .i64 i, .float .f64 f, .string t, .slice Av nv cv] := by rw [hw6]; exact Blk.new w5 _ _
            have hb56 : Below w5.heap.size w5 w6 := by rw [hw6]; exact (Below.refl _ _).alloc (Nat.le_refl _) _
            have hbx6 := hbx5.below hb56 hbx5.lt
            obtain ⟨y13, hy13⟩ : ∃ y, w5.heap.size = y := ⟨_, rfl⟩
            have hy813 : y8 ≠ y13 := by have := hbx5.lt; omega
            rw [hy13] at hbr T6
            clear T5 hb56
            replace T6 := Lib.hid T6
            go_upto_region 33 with (fail)
            rw [← hw6]
            try rw [hy13]
            clear hw6
            clear p0 p1 p2 p3 p4 p5 p6 p7 p8 p9
            have p1 := hbx6.cell 1
            by_cases h240 : 240 ≤ xn
            · have d240 : decide ((240 : Int) ≤ (xn : Int)) = true := decide_eq_true (by omega)
              obtain ⟨c9, hc9⟩ : ∃ q : Nat, IntKind.u32.wrap ((id : Int) + 1) = (q : Int) := ⟨(IntKind.u32.wrap ((id : Int) + 1)).toNat, by unfold IntKind.wrap; simp [IntKind.bits, IntKind.signed]; omega⟩
              have k0 := hbr.cell 0
              have f0 := hbr.frozen 0
              have hbr7 : Blk (w6.setCell ⟨y13, 0, none⟩ (.int .u32 (c9 : Int))) y13 39 #[.int .u32 (c9 : Int), .int .u32 (n12 : Int), .int .u16 0, .int .i64 (e50 : Int), .int .i64 k, .int .i64 i, .float .f64 f, .string t, .slice Av nv cv] := hbr.set_ 0 _
              have hu7 : Upd (fun z => z = y13) w6 (w6.setCell ⟨y13, 0, none⟩ (.int .u32 (c9 : Int))) := (Upd.refl (fun z => z = y13) w6).setCell (p := ⟨y13, 0, none⟩) (fun _ => rfl) _
              have T7 : Two w.heap.size w (w6.setCell ⟨y13, 0, none⟩ (.int .u32 (c9 : Int))) G G2 F F2 (fun y => (False ∨ y = y8) ∨ y = y13) d d := T6.out.put hu7 (fun y e => .inr e) (fun y e => by have h1 := T6.out.hbw; have h2 := hb05.size; omega)
              replace T7 := Lib.hid T7
              clear T6
              go_upto_region 35 with (fail)
              generalize w6.setCell ⟨y13, 0, none⟩ (.int .u32 (c9 : Int)) = w7 at *
              clear k0 f0 hbr
              have hbr := hbr7
              have T6 := T7
              clear hbr7 T7 hu7 p1 hbx6
              have hbr0 : Blk w7.drew y13 39 #[.int .u32 (c9 : Int), .int .u32 (n12 : Int), .int .u16 0, .int .i64 (e50 : Int), .int .i64 k, .int .i64 i, .float .f64 f, .string t, .slice Av nv cv] := hbr.drewN 1
              refine wp_region_lex (fun W => Blk W y13 39 #[.int .u32 (c9 : Int), .int .u32 (n12 : Int), .int .u16 0, .int .i64 (e50 : Int), .int .i64 k, .int .i64 i, .float .f64 f, .string t, .slice Av nv cv]) [1, 4] [2, 5] [0, 1, 3, 4, 2, 5, 6] (by kernel_rfl) rfl (by kernel_rfl) (by kernel_rfl) (fun _ _ d _ _ h => by cases d <;> exact h) ?_
              repeat (first | (refine lexG_take _ ?_ rfl rfl rfl rfl (fun _ => ?_) ?_; rotate_left; (focus (go_simp; with_reducible rfl)); try simp only [Act.put, List.setIfInBounds_toArray, List.set_cons_zero, List.set_cons_succ]) | (refine lexG_held _ ?_ rfl rfl rfl rfl (by assumption) (fun _ hSw => ?_) ?_; rotate_left; (focus (have h1 := hSw.cells9; clear hSw; go_simp; with_reducible rfl)); try simp only [Act.put, List.setIfInBounds_toArray, List.set_cons_zero, List.set_cons_succ]) | (refine lexG_skip _ rfl rfl (by assumption) ?_; try simp only [Act.put, List.setIfInBounds_toArray, List.set_cons_zero, List.set_cons_succ]))
              have Td := T6.out.below (Below.refl w7.heap.size w7).drew
              have hc1 := cl_recvS (rc := c9) (rs := n12) (rn := 0) (er := (e50 : Int)) Td.S (hv.under Td.hb) Td.hbw hokv (by omega)
              refine lexG_now _ rfl rfl rfl (fun K0 hK => ?_)
              go_wp2_with fail
              refine hc1.mono ?_
              clear hc1
              rintro e w8 ⟨rfl, hC8⟩
              try dsimp only
              obtain ⟨F8, T8, hu8⟩ := Td.prog hC8
              have hbr8 := hbr0.upd hu8 (fun h => h (.inr rfl))
              refine hK _ _ _ (fun _ h => h) hbr8 ?_
              clear hK K0
              try simp only [Act.put, List.setIfInBounds_toArray, List.set_cons_zero, List.set_cons_succ]
              repeat (first | (refine lexG_take _ ?_ rfl rfl rfl rfl (fun _ => ?_) ?_; rotate_left; (focus (go_simp; with_reducible rfl)); try simp only [Act.put, List.setIfInBounds_toArray, List.set_cons_zero, List.set_cons_succ]) | (refine lexG_held _ ?_ rfl rfl rfl rfl (by assumption) (fun _ hSw => ?_) ?_; rotate_left; (focus (have h1 := hSw.cells9; clear hSw; go_simp; with_reducible rfl)); try simp only [Act.put, List.setIfInBounds_toArray, List.set_cons_zero, List.set_cons_succ]) | (refine lexG_skip _ rfl rfl (by assumption) ?_; try simp only [Act.put, List.setIfInBounds_toArray, List.set_cons_zero, List.set_cons_succ]))
              have hc2 := cy_recv (rc := c9) (rs := n12) (rn := 0) (er := (e50 : Int)) T8.Y (val_held T8.hb T8.hF2 hv) hokv (by omega)
              refine lexG_now _ rfl rfl rfl (fun K0 hK => ?_)
              go_wp2_with fail
              refine hc2.mono ?_
              clear hc2
              rintro e w9 ⟨rfl, hC9⟩
              try dsimp only
              obtain ⟨F9, T9, hu9⟩ := T8.doc hC9
              have hbr9 := hbr8.upd hu9 (fun h => h (.inr rfl))
              refine hK _ _ _ (fun _ h => h) hbr9 ?_
              clear hK K0
              try simp only [Act.put, List.setIfInBounds_toArray, List.set_cons_zero, List.set_cons_succ]
              have hI := (I.recv (c := c9) (s := n12) (n := 0) (e := (e50 : Int)) hokv).mono (show j ≤ j + 1 by omega)
              generalize recvD d ⟨c9, n12, 0, (e50 : Int), cleanV xv⟩ = dq at *
              obtain ⟨dd, qq⟩ := dq
              dsimp only at T9 hI
              have hne : (qq != qq) = false := by cases qq <;> rfl
              repeat (first | (refine lexG_take _ ?_ rfl rfl rfl rfl (fun _ => ?_) ?_; rotate_left; (focus (go_simp; with_reducible rfl)); try simp only [Act.put, List.setIfInBounds_toArray, List.set_cons_zero, List.set_cons_succ]) | (refine lexG_held _ ?_ rfl rfl rfl rfl (by assumption) (fun _ hSw => ?_) ?_; rotate_left; (focus (have h1 := hSw.cells9; clear hSw; go_simp; with_reducible rfl)); try simp only [Act.put, List.setIfInBounds_toArray, List.set_cons_zero, List.set_cons_succ]) | (refine lexG_skip _ rfl rfl (by assumption) ?_; try simp only [Act.put, List.setIfInBounds_toArray, List.set_cons_zero, List.set_cons_succ]))
              refine lexG_nil ?_
              replace T9 := Lib.hid T9
              replace hI := Lib.hid hI
              clear hu8 hu9 hbr8 hbr9 hbr0 T8 hC8 hC9 Td
              go_wp2_with fail
              go_meet
              exact ⟨F8, F9, dd, T9.out.free, hI.out⟩
            · have d240 : decide ((240 : Int) ≤ (xn : Int)) = false := decide_eq_false (by omega)
              go_upto_region 35 with (fail)
              have hbr0 : Blk w6.drew y13 39 #[.int .u32 (id : Int), .int .u32 (n12 : Int), .int .u16 0, .int .i64 (e50 : Int), .int .i64 k, .int .i64 i, .float .f64 f, .string t, .slice Av nv cv] := hbr.drewN 1
              refine wp_region_lex (fun W => Blk W y13 39 #[.int .u32 (id : Int), .int .u32 (n12 : Int), .int .u16 0, .int .i64 (e50 : Int), .int .i64 k, .int .i64 i, .float .f64 f, .string t, .slice Av nv cv]) [1, 4] [2, 5] [0, 1, 3, 4, 2, 5, 6] (by kernel_rfl) rfl (by kernel_rfl) (by kernel_rfl) (fun _ _ d _ _ h => by cases d <;> exact h) ?_
              repeat (first | (refine lexG_take _ ?_ rfl rfl rfl rfl (fun _ => ?_) ?_; rotate_left; (focus (go_simp; with_reducible rfl)); try simp only [Act.put, List.setIfInBounds_toArray, List.set_cons_zero, List.set_cons_succ]) | (refine lexG_held _ ?_ rfl rfl rfl rfl (by assumption) (fun _ hSw => ?_) ?_; rotate_left; (focus (have h1 := hSw.cells9; clear hSw; go_simp; with_reducible rfl)); try simp only [Act.put, List.setIfInBounds_toArray, List.set_cons_zero, List.set_cons_succ]) | (refine lexG_skip _ rfl rfl (by assumption) ?_; try simp only [Act.put, List.setIfInBounds_toArray, List.set_cons_zero, List.set_cons_succ]))
              have Td := T6.out.below (Below.refl w6.heap.size w6).drew
              have hc1 := cl_recvS (rc := id) (rs := n12) (rn := 0) (er := (e50 : Int)) Td.S (hv.under Td.hb) Td.hbw hokv (by omega)
              refine lexG_now _ rfl rfl rfl (fun K0 hK => ?_)
              go_wp2_with fail
              refine hc1.mono ?_
              clear hc1
              rintro e w8 ⟨rfl, hC8⟩
              try dsimp only
              obtain ⟨F8, T8, hu8⟩ := Td.prog hC8
              have hbr8 := hbr0.upd hu8 (fun h => h (.inr rfl))
              refine hK _ _ _ (fun _ h => h) hbr8 ?_
              clear hK K0
              try simp only [Act.put, List.setIfInBounds_toArray, List.set_cons_zero, List.set_cons_succ]
              repeat (first | (refine lexG_take _ ?_ rfl rfl rfl rfl (fun _ => ?_) ?_; rotate_left; (focus (go_simp; with_reducible rfl)); try simp only [Act.put, List.setIfInBounds_toArray, List.set_cons_zero, List.set_cons_succ]) | (refine lexG_held _ ?_ rfl rfl rfl rfl (by assumption) (fun _ hSw => ?_) ?_; rotate_left; (focus (have h1 := hSw.cells9; clear hSw; go_simp; with_reducible rfl)); try simp only [Act.put, List.setIfInBounds_toArray, List.set_cons_zero, List.set_cons_succ]) | (refine lexG_skip _ rfl rfl (by assumption) ?_; try simp only [Act.put, List.setIfInBounds_toArray, List.set_cons_zero, List.set_cons_succ]))
              have hc2 := cy_recv (rc := id) (rs := n12) (rn := 0) (er := (e50 : Int)) T8.Y (val_held T8.hb T8.hF2 hv) hokv (by omega)
              refine lexG_now _ rfl rfl rfl (fun K0 hK => ?_)
              go_wp2_with fail
              refine hc2.mono ?_
              clear hc2
              rintro e w9 ⟨rfl, hC9⟩
              try dsimp only
              obtain ⟨F9, T9, hu9⟩ := T8.doc hC9
              have hbr9 := hbr8.upd hu9 (fun h => h (.inr rfl))
              refine hK _ _ _ (fun _ h => h) hbr9 ?_
              clear hK K0
              try simp only [Act.put, List.setIfInBounds_toArray, List.set_cons_zero, List.set_cons_succ]
              have hI := (I.recv (c := id) (s := n12) (n := 0) (e := (e50 : Int)) hokv).mono (show j ≤ j + 1 by omega)
              generalize recvD d ⟨id, n12, 0, (e50 : Int), cleanV xv⟩ = dq at *
              obtain ⟨dd, qq⟩ := dq
              dsimp only at T9 hI
              have hne : (qq != qq) = false := by cases qq <;> rfl
              repeat (first | (refine lexG_take _ ?_ rfl rfl rfl rfl (fun _ => ?_) ?_; rotate_left; (focus (go_simp; with_reducible rfl)); try simp only [Act.put, List.setIfInBounds_toArray, List.set_cons_zero, List.set_cons_succ]) | (refine lexG_held _ ?_ rfl rfl rfl rfl (by assumption) (fun _ hSw => ?_) ?_; rotate_left; (focus (have h1 := hSw.cells9; clear hSw; go_simp; with_reducible rfl)); try simp only [Act.put, List.setIfInBounds_toArray, List.set_cons_zero, List.set_cons_succ]) | (refine lexG_skip _ rfl rfl (by assumption) ?_; try simp only [Act.put, List.setIfInBounds_toArray, List.set_cons_zero, List.set_cons_succ]))
              refine lexG_nil ?_
              replace T9 := Lib.hid T9
              replace hI := Lib.hid hI
              clear hu8 hu9 hbr8 hbr9 hbr0 T8 hC8 hC9 Td
              go_wp2_with fail
              go_meet
              exact ⟨F8, F9, dd, T9.out.free, hI.out⟩
          · skip
            have hsum := I.hsum
            have hsq := I.hseq
            obtain ⟨n12, hn12⟩ : ∃ q, xn % 12 = q := ⟨_, rfl⟩
            obtain ⟨e50, he50⟩ : ∃ q, xe % 50 = q := ⟨_, rfl⟩
            have t12 : Int.tmod (xn : Int) 12 = (n12 : Int) := by rw [Int.tmod_eq_emod_of_nonneg (by omega)]; omega
            have t12' : (xn : Int) % 12 = (n12 : Int) := by omega
            have t50 : Int.tmod (xe : Int) 50 = (e50 : Int) := by rw [Int.tmod_eq_emod_of_nonneg (by omega)]; omega
            have t50' : (xe : Int) % 50 = (e50 : Int) := by omega
            have v1 : IntKind.u8.wrap (n12 : Int) = (n12 : Int) := by unfold IntKind.wrap; simp [IntKind.bits, IntKind.signed]; omega
            have v2 : IntKind.u8.wrap (e50 : Int) = (e50 : Int) := by unfold IntKind.wrap; simp [IntKind.bits, IntKind.signed]; omega
            have v3 : IntKind.u32.wrap (n12 : Int) = (n12 : Int) := by unfold IntKind.wrap; simp [IntKind.bits, IntKind.signed]; omega
            have v4 : IntKind.i64.wrap (e50 : Int) = (e50 : Int) := by rw [IntKind.wrap_i64]; omega
            obtain ⟨w6, hw6⟩ : ∃ q, q = w5.alloc (.cells #[.int .u32 (id : Int), .int .u32 (n12 : Int), .int .u16 0, .int .i64 (e50 : Int), .int .i64 k, .int .i64 i, .float .f64 f, .string t, .slice Av nv cv] 39) := ⟨_, rfl⟩
            have T6 : Two w.heap.size w w6 G G2 F F2 (fun y => (False ∨ y = y8) ∨ y = w5.heap.size) d d := by rw [hw6]; exact T5.box _
            have hbr : Blk w6 w5.heap.size 39 #[.int .u32 (id : Int), .int .u32 (n12 : Int), .int .u16 0, .int .i64 (e50 : Int), .int .i64 k, .int .i64 i, .float .f64 f, .string t, .slice Av nv cv] := by rw [hw6]; exact Blk.new w5 _ _
            have hb56 : Below w5.heap.size w5 w6 := by rw [hw6]; exact (Below.refl _ _).alloc (Nat.le_refl _) _
            have hbx6 := hbx5.below hb56 hbx5.lt
            obtain ⟨y13, hy13⟩ : ∃ y, w5.heap.size = y := ⟨_, rfl⟩
            have hy813 : y8 ≠ y13 := by have := hbx5.lt; omega
            rw [hy13] at hbr T6
            clear T5 hb56
            replace T6 := Lib.hid T6
            go_upto_region 33 with (fail)
            rw [← hw6]
            try rw [hy13]
            clear hw6
            clear p0 p1 p2 p3 p4 p5 p6 p7 p8 p9
            have p1 := hbx6.cell 1
            by_cases h240 : 240 ≤ xn
            · have d240 : decide ((240 : Int) ≤ (xn : Int)) = true := decide_eq_true (by omega)
              obtain ⟨c9, hc9⟩ : ∃ q : Nat, IntKind.u32.wrap ((id : Int) + 1) = (q : Int) := ⟨(IntKind.u32.wrap ((id : Int) + 1)).toNat, by unfold IntKind.wrap; simp [IntKind.bits, IntKind.signed]; omega⟩
              have k0 := hbr.cell 0
              have f0 := hbr.frozen 0
              have hbr7 : Blk (w6.setCell ⟨y13, 0, none⟩ (.int .u32 (c9 : Int))) y13 39 #[.int .u32 (c9 : Int), .int .u32 (n12 : Int), .int .u16 0, .int .i64 (e50 : Int), .int .i64 k, .int .i64 i, .float .f64 f, .string t, .slice Av nv cv] := hbr.set_ 0 _
              have hu7 : Upd (fun z => z = y13) w6 (w6.setCell ⟨y13, 0, none⟩ (.int .u32 (c9 : Int))) := (Upd.refl (fun z => z = y13) w6).setCell (p := ⟨y13, 0, none⟩) (fun _ => rfl) _
              have T7 : Two w.heap.size w (w6.setCell ⟨y13, 0, none⟩ (.int .u32 (c9 : Int))) G G2 F F2 (fun y => (False ∨ y = y8) ∨ y = y13) d d := T6.out.put hu7 (fun y e => .inr e) (fun y e => by have h1 := T6.out.hbw; have h2 := hb05.size; omega)
              replace T7 := Lib.hid T7
              clear T6
              go_upto_region 35 with (fail)
              generalize w6.setCell ⟨y13, 0, none⟩ (.int .u32 (c9 : Int)) = w7 at *
              clear k0 f0 hbr
              have hbr := hbr7
              have T6 := T7
              clear hbr7 T7 hu7 p1 hbx6
              have hbr0 : Blk w7.drew y13 39 #[.int .u32 (c9 : Int), .int .u32 (n12 : Int), .int .u16 0, .int .i64 (e50 : Int), .int .i64 k, .int .i64 i, .float .f64 f, .string t, .slice Av nv cv] := hbr.drewN 1
              refine wp_region_lex (fun W => Blk W y13 39 #[.int .u32 (c9 : Int), .int .u32 (n12 : Int), .int .u16 0, .int .i64 (e50 : Int), .int .i64 k, .int .i64 i, .float .f64 f, .string t, .slice Av nv cv]) [1, 4] [2, 5] [0, 1, 3, 4, 2, 5, 6] (by kernel_rfl) rfl (by kernel_rfl) (by kernel_rfl) (fun _ _ d _ _ h => by cases d <;> exact h) ?_
              repeat (first | (refine lexG_take _ ?_ rfl rfl rfl rfl (fun _ => ?_) ?_; rotate_left; (focus (go_simp; with_reducible rfl)); try simp only [Act.put, List.setIfInBounds_toArray, List.set_cons_zero, List.set_cons_succ]) | (refine lexG_held _ ?_ rfl rfl rfl rfl (by assumption) (fun _ hSw => ?_) ?_; rotate_left; (focus (have h1 := hSw.cells9; clear hSw; go_simp; with_reducible rfl)); try simp only [Act.put, List.setIfInBounds_toArray, List.set_cons_zero, List.set_cons_succ]) | (refine lexG_skip _ rfl rfl (by assumption) ?_; try simp only [Act.put, List.setIfInBounds_toArray, List.set_cons_zero, List.set_cons_succ]))
              have Td := T6.out.below (Below.refl w7.heap.size w7).drew
              have hc1 := cl_recvS (rc := c9) (rs := n12) (rn := 0) (er := (e50 : Int)) Td.S (hv.under Td.hb) Td.hbw hokv (by omega)
              refine lexG_now _ rfl rfl rfl (fun K0 hK => ?_)
              go_wp2_with fail
              refine hc1.mono ?_
              clear hc1
              rintro e w8 ⟨rfl, hC8⟩
              try dsimp only
              obtain ⟨F8, T8, hu8⟩ := Td.prog hC8
              have hbr8 := hbr0.upd hu8 (fun h => h (.inr rfl))
              refine hK _ _ _ (fun _ h => h) hbr8 ?_
              clear hK K0
              try simp only [Act.put, List.setIfInBounds_toArray, List.set_cons_zero, List.set_cons_succ]
              repeat (first | (refine lexG_take _ ?_ rfl rfl rfl rfl (fun _ => ?_) ?_; rotate_left; (focus (go_simp; with_reducible rfl)); try simp only [Act.put, List.setIfInBounds_toArray, List.set_cons_zero, List.set_cons_succ]) | (refine lexG_held _ ?_ rfl rfl rfl rfl (by assumption) (fun _ hSw => ?_) ?_; rotate_left; (focus (have h1 := hSw.cells9; clear hSw; go_simp; with_reducible rfl)); try simp only [Act.put, List.setIfInBounds_toArray, List.set_cons_zero, List.set_cons_succ]) | (refine lexG_skip _ rfl rfl (by assumption) ?_; try simp only [Act.put, List.setIfInBounds_toArray, List.set_cons_zero, List.set_cons_succ]))
              have hc2 := cy_recv (rc := c9) (rs := n12) (rn := 0) (er := (e50 : Int)) T8.Y (val_held T8.hb T8.hF2 hv) hokv (by omega)
              refine lexG_now _ rfl rfl rfl (fun K0 hK => ?_)
              go_wp2_with fail
              refine hc2.mono ?_
              clear hc2
              rintro e w9 ⟨rfl, hC9⟩
              try dsimp only
              obtain ⟨F9, T9, hu9⟩ := T8.doc hC9
              have hbr9 := hbr8.upd hu9 (fun h => h (.inr rfl))
              refine hK _ _ _ (fun _ h => h) hbr9 ?_
              clear hK K0
              try simp only [Act.put, List.setIfInBounds_toArray, List.set_cons_zero, List.set_cons_succ]
              have hI := (I.recv (c := c9) (s := n12) (n := 0) (e := (e50 : Int)) hokv).mono (show j ≤ j + 1 by omega)
              generalize recvD d ⟨c9, n12, 0, (e50 : Int), cleanV xv⟩ = dq at *
              obtain ⟨dd, qq⟩ := dq
              dsimp only at T9 hI
              have hne : (qq != qq) = false := by cases qq <;> rfl
              repeat (first | (refine lexG_take _ ?_ rfl rfl rfl rfl (fun _ => ?_) ?_; rotate_left; (focus (go_simp; with_reducible rfl)); try simp only [Act.put, List.setIfInBounds_toArray, List.set_cons_zero, List.set_cons_succ]) | (refine lexG_held _ ?_ rfl rfl rfl rfl (by assumption) (fun _ hSw => ?_) ?_; rotate_left; (focus (have h1 := hSw.cells9; clear hSw; go_simp; with_reducible rfl)); try simp only [Act.put, List.setIfInBounds_toArray, List.set_cons_zero, List.set_cons_succ]) | (refine lexG_skip _ rfl rfl (by assumption) ?_; try simp only [Act.put, List.setIfInBounds_toArray, List.set_cons_zero, List.set_cons_succ]))
              refine lexG_nil ?_
              replace T9 := Lib.hid T9
              replace hI := Lib.hid hI
              clear hu8 hu9 hbr8 hbr9 hbr0 T8 hC8 hC9 Td
              go_wp2_with fail
              go_meet
              exact ⟨F8, F9, dd, T9.out.free, hI.out⟩
            · have d240 : decide ((240 : Int) ≤ (xn : Int)) = false := decide_eq_false (by omega)
              go_upto_region 35 with (fail)
              have hbr0 : Blk w6.drew y13 39 #[.int .u32 (id : Int), .int .u32 (n12 : Int), .int .u16 0, .int .i64 (e50 : Int), .int .i64 k, .int .i64 i, .float .f64 f, .string t, .slice Av nv cv] := hbr.drewN 1
              refine wp_region_lex (fun W => Blk W y13 39 #[.int .u32 (id : Int), .int .u32 (n12 : Int), .int .u16 0, .int .i64 (e50 : Int), .int .i64 k, .int .i64 i, .float .f64 f, .string t, .slice Av nv cv]) [1, 4] [2, 5] [0, 1, 3, 4, 2, 5, 6] (by kernel_rfl) rfl (by kernel_rfl) (by kernel_rfl) (fun _ _ d _ _ h => by cases d <;> exact h) ?_
              repeat (first | (refine lexG_take _ ?_ rfl rfl rfl rfl (fun _ => ?_) ?_; rotate_left; (focus (go_simp; with_reducible rfl)); try simp only [Act.put, List.setIfInBounds_toArray, List.set_cons_zero, List.set_cons_succ]) | (refine lexG_held _ ?_ rfl rfl rfl rfl (by assumption) (fun _ hSw => ?_) ?_; rotate_left; (focus (have h1 := hSw.cells9; clear hSw; go_simp; with_reducible rfl)); try simp only [Act.put, List.setIfInBounds_toArray, List.set_cons_zero, List.set_cons_succ]) | (refine lexG_skip _ rfl rfl (by assumption) ?_; try simp only [Act.put, List.setIfInBounds_toArray, List.set_cons_zero, List.set_cons_succ]))
              have Td := T6.out.below (Below.refl w6.heap.size w6).drew
              have hc1 := cl_recvS (rc := id) (rs := n12) (rn := 0) (er := (e50 : Int)) Td.S (hv.under Td.hb) Td.hbw hokv (by omega)
              refine lexG_now _ rfl rfl rfl (fun K0 hK => ?_)
              go_wp2_with fail
              refine hc1.mono ?_
              clear hc1
              rintro e w8 ⟨rfl, hC8⟩
              try dsimp only
              obtain ⟨F8, T8, hu8⟩ := Td.prog hC8
              have hbr8 := hbr0.upd hu8 (fun h => h (.inr rfl))
              refine hK _ _ _ (fun _ h => h) hbr8 ?_
              clear hK K0
              try simp only [Act.put, List.setIfInBounds_toArray, List.set_cons_zero, List.set_cons_succ]
              repeat (first | (refine lexG_take _ ?_ rfl rfl rfl rfl (fun _ => ?_) ?_; rotate_left; (focus (go_simp; with_reducible rfl)); try simp only [Act.put, List.setIfInBounds_toArray, List.set_cons_zero, List.set_cons_succ]) | (refine lexG_held _ ?_ rfl rfl rfl rfl (by assumption) (fun _ hSw => ?_) ?_; rotate_left; (focus (have h1 := hSw.cells9; clear hSw; go_simp; with_reducible rfl)); try simp only [Act.put, List.setIfInBounds_toArray, List.set_cons_zero, List.set_cons_succ]) | (refine lexG_skip _ rfl rfl (by assumption) ?_; try simp only [Act.put, List.setIfInBounds_toArray, List.set_cons_zero, List.set_cons_succ]))
              have hc2 := cy_recv (rc := id) (rs := n12) (rn := 0) (er := (e50 : Int)) T8.Y (val_held T8.hb T8.hF2 hv) hokv (by omega)
              refine lexG_now _ rfl rfl rfl (fun K0 hK => ?_)
              go_wp2_with fail
              refine hc2.mono ?_
              clear hc2
              rintro e w9 ⟨rfl, hC9⟩
              try dsimp only
              obtain ⟨F9, T9, hu9⟩ := T8.doc hC9
              have hbr9 := hbr8.upd hu9 (fun h => h (.inr rfl))
              refine hK _ _ _ (fun _ h => h) hbr9 ?_
              clear hK K0
              try simp only [Act.put, List.setIfInBounds_toArray, List.set_cons_zero, List.set_cons_succ]
              have hI := (I.recv (c := id) (s := n12) (n := 0) (e := (e50 : Int)) hokv).mono (show j ≤ j + 1 by omega)
              generalize recvD d ⟨id, n12, 0, (e50 : Int), cleanV xv⟩ = dq at *
              obtain ⟨dd, qq⟩ := dq
              dsimp only at T9 hI
              have hne : (qq != qq) = false := by cases qq <;> rfl
              repeat (first | (refine lexG_take _ ?_ rfl rfl rfl rfl (fun _ => ?_) ?_; rotate_left; (focus (go_simp; with_reducible rfl)); try simp only [Act.put, List.setIfInBounds_toArray, List.set_cons_zero, List.set_cons_succ]) | (refine lexG_held _ ?_ rfl rfl rfl rfl (by assumption) (fun _ hSw => ?_) ?_; rotate_left; (focus (have h1 := hSw.cells9; clear hSw; go_simp; with_reducible rfl)); try simp only [Act.put, List.setIfInBounds_toArray, List.set_cons_zero, List.set_cons_succ]) | (refine lexG_skip _ rfl rfl (by assumption) ?_; try simp only [Act.put, List.setIfInBounds_toArray, List.set_cons_zero, List.set_cons_succ]))
              refine lexG_nil ?_
              replace T9 := Lib.hid T9
              replace hI := Lib.hid hI
              clear hu8 hu9 hbr8 hbr9 hbr0 T8 hC8 hC9 Td
              go_wp2_with fail
              go_meet
              exact ⟨F8, F9, dd, T9.out.free, hI.out⟩
          · skip
            obtain ⟨n12, hn12⟩ : ∃ q, xn % 12 = q := ⟨_, rfl⟩
            have t12 : Int.tmod (xn : Int) 12 = (n12 : Int) := by rw [Int.tmod_eq_emod_of_nonneg (by omega)]; omega
            have t12' : (xn : Int) % 12 = (n12 : Int) := by omega
            have v1 : IntKind.u8.wrap (n12 : Int) = (n12 : Int) := by unfold IntKind.wrap; simp [IntKind.bits, IntKind.signed]; omega
            have v4 : IntKind.i64.wrap (n12 : Int) = (n12 : Int) := by rw [IntKind.wrap_i64]; omega
            obtain ⟨nn, hnn, hn15⟩ : ∃ nn : Nat, (nn : Int) = (if 230 < xn then (1500 : Int) else (n12 : Int)) ∧ nn ≤ 1500 := by
              by_cases h : 230 < xn
              · exact ⟨1500, by rw [if_pos h]; rfl, by omega⟩
              · exact ⟨n12, by rw [if_neg h], by omega⟩
            have T5' := T5.free
            have hI5 := I.mono (show j ≤ j + 1 by omega)
            replace T5' := Lib.hid T5'
            replace T5 := Lib.hid T5
            by_cases h230 : 230 < xn
            · have d230 : decide ((230 : Int) < (xn : Int)) = true := decide_eq_true (by omega)
              rw [if_pos h230] at hnn
              have hn' : nn = 1500 := by omega
              subst hn'
              go_upto_region 16 with (fail)
              clear p0 p1 p2 p3 p4 p5 p6 p7 p8 p9
              go_wp2_with fail
              go_loopw [15] (fun z wr => ∃ (q : Nat) (F F2 : Nat → Prop) (d : CliD), q ≤ 1500 ∧ z = .int .i64 (q : Int) ∧ Two w.heap.size w wr G G2 F F2 (fun _ => False) d d ∧ InvC id (j + 1) d) (fun z _ => 1500 - (intOf z).toNat)
              case atStart => exact ⟨0, F, F2, d, Nat.zero_le _, rfl, T5'.out, hI5⟩
              case round =>
                clear T5' hI5 I T5 hbx5
                rename_i hrel
                obtain ⟨q, F, F2, d, hq, rfl, T, I⟩ := hrel
                by_cases hlt : q < 1500
                · have hd : decide ((q : Int) < (1500 : Int)) = true := decide_eq_true (by omega)
                  have hqw : IntKind.i64.wrap ((q : Int) + 1) = (q : Int) + 1 := by rw [IntKind.wrap_i64]; omega
                  have hage : ∀ x ∈ d.op, x.age < 1000000 := fun x hx => by have := (I.hop x hx).1; omega
                  have hrl4 : d.rp.length < 900000 := by have h1 := I.hsum; have h2 := I.hseq; omega
                  have hc1 := cl_tickS T.S hage hrl4
                  replace hc1 := Lib.hid hc1
                  replace T := Lib.hid T
                  replace hage := Lib.hid hage
                  go_wp2_with fail
                  refine hc1.out.mono ?_
                  clear hc1
                  rintro e w6 ⟨rfl, hC6⟩
                  try dsimp only
                  obtain ⟨F6, T6, -⟩ := T.out.prog hC6
                  have hc2 := cy_tick T6.Y hage.out hrl4
                  replace hc2 := Lib.hid hc2
                  replace T6 := Lib.hid T6
                  clear hC6
                  go_wp2_with fail
                  refine hc2.out.mono ?_
                  clear hc2
                  rintro e w7 ⟨rfl, hC7⟩
                  try dsimp only
                  obtain ⟨F7, T7, -⟩ := T6.out.doc hC7
                  have hI7 := I.tick
                  replace T7 := Lib.hid T7
                  clear hC7
                  go_wp2_with fail
                  go_roundw
                  case rel => exact ⟨q + 1, F6, F7, _, by omega, by simp, T7.out, hI7⟩
                  case measure => simp [intOf]; omega
                · have hq' : q = 1500 := by omega
                  have hd : decide ((q : Int) < (1500 : Int)) = false := decide_eq_false (by omega)
                  replace T := Lib.hid T
                  go_wp2_with fail
                  go_meet
                  exact ⟨F, F2, d, T.out, I⟩
            · have d230 : decide ((230 : Int) < (xn : Int)) = false := decide_eq_false (by omega)
              rw [if_neg h230] at hnn
              have hn' : nn = n12 := by omega
              clear hnn hn' hn15
              go_upto_region 16 with (fail)
              clear p0 p1 p2 p3 p4 p5 p6 p7 p8 p9
              go_wp2_with fail
              go_loopw [15] (fun z wr => ∃ (q : Nat) (F F2 : Nat → Prop) (d : CliD), q ≤ n12 ∧ z = .int .i64 (q : Int) ∧ Two w.heap.size w wr G G2 F F2 (fun _ => False) d d ∧ InvC id (j + 1) d) (fun z _ => n12 - (intOf z).toNat)
              case atStart => exact ⟨0, F, F2, d, Nat.zero_le _, rfl, T5'.out, hI5⟩
              case round =>
                clear T5' hI5 I T5 hbx5
                rename_i hrel
                obtain ⟨q, F, F2, d, hq, rfl, T, I⟩ := hrel
                by_cases hlt : q < n12
                · have hd : decide ((q : Int) < (n12 : Int)) = true := decide_eq_true (by omega)
                  have hqw : IntKind.i64.wrap ((q : Int) + 1) = (q : Int) + 1 := by rw [IntKind.wrap_i64]; omega
                  have hage : ∀ x ∈ d.op, x.age < 1000000 := fun x hx => by have := (I.hop x hx).1; omega
                  have hrl4 : d.rp.length < 900000 := by have h1 := I.hsum; have h2 := I.hseq; omega
                  have hc1 := cl_tickS T.S hage hrl4
                  replace hc1 := Lib.hid hc1
                  replace T := Lib.hid T
                  replace hage := Lib.hid hage
                  go_wp2_with fail
                  refine hc1.out.mono ?_
                  clear hc1
                  rintro e w6 ⟨rfl, hC6⟩
                  try dsimp only
                  obtain ⟨F6, T6, -⟩ := T.out.prog hC6
                  have hc2 := cy_tick T6.Y hage.out hrl4
                  replace hc2 := Lib.hid hc2
                  replace T6 := Lib.hid T6
                  clear hC6
                  go_wp2_with fail
                  refine hc2.out.mono ?_
                  clear hc2
                  rintro e w7 ⟨rfl, hC7⟩
                  try dsimp only
                  obtain ⟨F7, T7, -⟩ := T6.out.doc hC7
                  have hI7 := I.tick
                  replace T7 := Lib.hid T7
                  clear hC7
                  go_wp2_with fail
                  go_roundw
                  case rel => exact ⟨q + 1, F6, F7, _, by omega, by simp, T7.out, hI7⟩
                  case measure => simp [intOf]; omega
                · have hq' : q = n12 := by omega
                  have hd : decide ((q : Int) < (n12 : Int)) = false := decide_eq_false (by omega)
                  replace T := Lib.hid T
                  go_wp2_with fail
                  go_meet
                  exact ⟨F, F2, d, T.out, I⟩
          · skip
            obtain ⟨n12, hn12⟩ : ∃ q, xn % 12 = q := ⟨_, rfl⟩
            have t12 : Int.tmod (xn : Int) 12 = (n12 : Int) := by rw [Int.tmod_eq_emod_of_nonneg (by omega)]; omega
            have t12' : (xn : Int) % 12 = (n12 : Int) := by omega
            have v1 : IntKind.u8.wrap (n12 : Int) = (n12 : Int) := by unfold IntKind.wrap; simp [IntKind.bits, IntKind.signed]; omega
            have v4 : IntKind.i64.wrap (n12 : Int) = (n12 : Int) := by rw [IntKind.wrap_i64]; omega
            obtain ⟨nn, hnn, hn15⟩ : ∃ nn : Nat, (nn : Int) = (if 230 < xn then (1500 : Int) else (n12 : Int)) ∧ nn ≤ 1500 := by
              by_cases h : 230 < xn
              · exact ⟨1500, by rw [if_pos h]; rfl, by omega⟩
              · exact ⟨n12, by rw [if_neg h], by omega⟩
            have T5' := T5.free
            have hI5 := I.mono (show j ≤ j + 1 by omega)
            replace T5' := Lib.hid T5'
            replace T5 := Lib.hid T5
            by_cases h230 : 230 < xn
            · have d230 : decide ((230 : Int) < (xn : Int)) = true := decide_eq_true (by omega)
              rw [if_pos h230] at hnn
              have hn' : nn = 1500 := by omega
              subst hn'
              go_upto_region 16 with (fail)
              clear p0 p1 p2 p3 p4 p5 p6 p7 p8 p9
              go_wp2_with fail
              go_loopw [15] (fun z wr => ∃ (q : Nat) (F F2 : Nat → Prop) (d : CliD), q ≤ 1500 ∧ z = .int .i64 (q : Int) ∧ Two w.heap.size w wr G G2 F F2 (fun _ => False) d d ∧ InvC id (j + 1) d) (fun z _ => 1500 - (intOf z).toNat)
              case atStart => exact ⟨0, F, F2, d, Nat.zero_le _, rfl, T5'.out, hI5⟩
              case round =>
                clear T5' hI5 I T5 hbx5
                rename_i hrel
                obtain ⟨q, F, F2, d, hq, rfl, T, I⟩ := hrel
                by_cases hlt : q < 1500
                · have hd : decide ((q : Int) < (1500 : Int)) = true := decide_eq_true (by omega)
                  have hqw : IntKind.i64.wrap ((q : Int) + 1) = (q : Int) + 1 := by rw [IntKind.wrap_i64]; omega
                  have hage : ∀ x ∈ d.op, x.age < 1000000 := fun x hx => by have := (I.hop x hx).1; omega
                  have hrl4 : d.rp.length < 900000 := by have h1 := I.hsum; have h2 := I.hseq; omega
                  have hc1 := cl_tickS T.S hage hrl4
                  replace hc1 := Lib.hid hc1
                  replace T := Lib.hid T
                  replace hage := Lib.hid hage
                  go_wp2_with fail
                  refine hc1.out.mono ?_
                  clear hc1
                  rintro e w6 ⟨rfl, hC6⟩
                  try dsimp only
                  obtain ⟨F6, T6, -⟩ := T.out.prog hC6
                  have hc2 := cy_tick T6.Y hage.out hrl4
                  replace hc2 := Lib.hid hc2
                  replace T6 := Lib.hid T6
                  clear hC6
                  go_wp2_with fail
                  refine hc2.out.mono ?_
                  clear hc2
                  rintro e w7 ⟨rfl, hC7⟩
                  try dsimp only
                  obtain ⟨F7, T7, -⟩ := T6.out.doc hC7
                  have hI7 := I.tick
                  replace T7 := Lib.hid T7
                  clear hC7
                  go_wp2_with fail
                  go_roundw
                  case rel => exact ⟨q + 1, F6, F7, _, by omega, by simp, T7.out, hI7⟩
                  case measure => simp [intOf]; omega
                · have hq' : q = 1500 := by omega
                  have hd : decide ((q : Int) < (1500 : Int)) = false := decide_eq_false (by omega)
                  replace T := Lib.hid T
                  go_wp2_with fail
                  go_meet
                  exact ⟨F, F2, d, T.out, I⟩
            · have d230 : decide ((230 : Int) < (xn : Int)) = false := decide_eq_false (by omega)
              rw [if_neg h230] at hnn
              have hn' : nn = n12 := by omega
              clear hnn hn' hn15
              go_upto_region 16 with (fail)
              clear p0 p1 p2 p3 p4 p5 p6 p7 p8 p9
              go_wp2_with fail
              go_loopw [15] (fun z wr => ∃ (q : Nat) (F F2 : Nat → Prop) (d : CliD), q ≤ n12 ∧ z = .int .i64 (q : Int) ∧ Two w.heap.size w wr G G2 F F2 (fun _ => False) d d ∧ InvC id (j + 1) d) (fun z _ => n12 - (intOf z).toNat)
              case atStart => exact ⟨0, F, F2, d, Nat.zero_le _, rfl, T5'.out, hI5⟩
              case round =>
                clear T5' hI5 I T5 hbx5
                rename_i hrel
                obtain ⟨q, F, F2, d, hq, rfl, T, I⟩ := hrel
                by_cases hlt : q < n12
                · have hd : decide ((q : Int) < (n12 : Int)) = true := decide_eq_true (by omega)
                  have hqw : IntKind.i64.wrap ((q : Int) + 1) = (q : Int) + 1 := by rw [IntKind.wrap_i64]; omega
                  have hage : ∀ x ∈ d.op, x.age < 1000000 := fun x hx => by have := (I.hop x hx).1; omega
                  have hrl4 : d.rp.length < 900000 := by have h1 := I.hsum; have h2 := I.hseq; omega
                  have hc1 := cl_tickS T.S hage hrl4
                  replace hc1 := Lib.hid hc1
                  replace T := Lib.hid T
                  replace hage := Lib.hid hage
                  go_wp2_with fail
                  refine hc1.out.mono ?_
                  clear hc1
                  rintro e w6 ⟨rfl, hC6⟩
                  try dsimp only
                  obtain ⟨F6, T6, -⟩ := T.out.prog hC6
                  have hc2 := cy_tick T6.Y hage.out hrl4
                  replace hc2 := Lib.hid hc2
                  replace T6 := Lib.hid T6
                  clear hC6
                  go_wp2_with fail
                  refine hc2.out.mono ?_
                  clear hc2
                  rintro e w7 ⟨rfl, hC7⟩
                  try dsimp only
                  obtain ⟨F7, T7, -⟩ := T6.out.doc hC7
                  have hI7 := I.tick
                  replace T7 := Lib.hid T7
                  clear hC7
                  go_wp2_with fail
                  go_roundw
                  case rel => exact ⟨q + 1, F6, F7, _, by omega, by simp, T7.out, hI7⟩
                  case measure => simp [intOf]; omega
                · have hq' : q = n12 := by omega
                  have hd : decide ((q : Int) < (n12 : Int)) = false := decide_eq_false (by omega)
                  replace T := Lib.hid T
                  go_wp2_with fail
                  go_meet
                  exact ⟨F, F2, d, T.out, I⟩
        case rest =>
          skip
          obtain ⟨F, F2, d, T, I⟩ := hcut
          generalize wc = v0 at *
          clear hbx5
          obtain ⟨N, hN⟩ : ∃ q, d.op.length = q := ⟨_, rfl⟩
          obtain ⟨M, hM⟩ : ∃ q, d.rp.length = q := ⟨_, rfl⟩
          have hN4 := T.S.hn
          rw [hN] at hN4
          have hM4 : M ≤ 1000000 := by have h1 := I.hsum; have h2 := I.hseq; omega
          have hc1 := cl_openS T.S
          rw [hN] at hc1
          replace hc1 := Lib.hid hc1
          replace T := Lib.hid T
          replace hN := Lib.hid hN
          replace hM := Lib.hid hM
          go_wp2_with fail
          refine hc1.out.mono ?_
          clear hc1
          rintro e v1 ⟨AO, cO, rfl, hO, -, hb1⟩
          try dsimp only
          have T1 := T.out.below hb1
          obtain ⟨r, Y1⟩ := T1.Y
          have z2 : v1.cell? ⟨G2, 2, none⟩ = some (.slice r.A N r.c) := by rw [← hN.out]; exact Y1.blk.cell 2
          have z5 : v1.cell? ⟨G2, 5, none⟩ = some (.slice r.A2 M r.c2) := by rw [← hM.out]; exact Y1.blk.cell 5
          have hgl := Y1.blk.lt
          obtain ⟨rA, hrA⟩ : ∃ q, r.A = q := ⟨_, rfl⟩
          obtain ⟨rc, hrc⟩ : ∃ q, r.c = q := ⟨_, rfl⟩
          obtain ⟨rA2, hrA2⟩ : ∃ q, r.A2 = q := ⟨_, rfl⟩
          obtain ⟨rc2, hrc2⟩ : ∃ q, r.c2 = q := ⟨_, rfl⟩
          rw [hrA, hrc] at z2
          rw [hrA2, hrc2] at z5
          have hcr := cl_repliesS (T1.S.below (Below.refl v1.heap.size v1).drew) (fun x hx => (I.hrp x hx).1)
          rw [I.reps, hM.out] at hcr
          have hSP : (v1.drew.cell? ⟨G2, 2, none⟩ = some (.slice rA N rc) ∧ v1.drew.cell? ⟨G2, 5, none⟩ = some (.slice rA2 M rc2)) := ⟨z2, z5⟩
          replace hcr := Lib.hid hcr
          replace T1 := Lib.hid T1
          replace Y1 := Lib.hid Y1
          replace hO := Lib.hid hO
          replace hrA := Lib.hid hrA
          replace hrc := Lib.hid hrc
          replace hrA2 := Lib.hid hrA2
          replace hrc2 := Lib.hid hrc2
          have hNN : ((N : Int) != (N : Int)) = false := by simp
          clear z2 z5
          go_upto_region 38 with (fail)
          refine wp_region_lex (fun W => (W.cell? ⟨G2, 2, none⟩ = some (.slice rA N rc) ∧ W.cell? ⟨G2, 5, none⟩ = some (.slice rA2 M rc2))) [5, 14] [10, 15] [0, 1, 2, 3, 4, 5, 6, 7, 8, 9, 11, 12, 13, 14, 10, 15, 16, 17] (by kernel_rfl) rfl (by kernel_rfl) (by kernel_rfl) (fun _ _ d _ _ h => by cases d <;> exact h) ?_
          repeat (first | (refine lexG_take _ ?_ rfl rfl rfl rfl (fun _ => ?_) ?_; rotate_left; (focus (go_simp; with_reducible rfl)); try simp only [Act.put, List.setIfInBounds_toArray, List.set_cons_zero, List.set_cons_succ]) | (refine lexG_held _ ?_ rfl rfl rfl rfl (by assumption) (fun _ hSw => ?_) ?_; rotate_left; (focus (have h1 := hSw.1; have h2 := hSw.2; clear hSw; go_simp; with_reducible rfl)); try simp only [Act.put, List.setIfInBounds_toArray, List.set_cons_zero, List.set_cons_succ]) | (refine lexG_skip _ rfl rfl (by assumption) ?_; try simp only [Act.put, List.setIfInBounds_toArray, List.set_cons_zero, List.set_cons_succ]))
          refine lexG_now _ rfl rfl rfl (fun K0 hK => ?_)
          go_wp2_with fail
          refine hcr.out.mono ?_
          clear hcr
          rintro e v2 ⟨AR, cR, xR, csR, rfl, hPR, hb2⟩
          try dsimp only
          have hb12 := below_then hb2 (Below.refl v1.heap.size v1).drew
          have hSP2 : (v2.cell? ⟨G2, 2, none⟩ = some (.slice rA N rc) ∧ v2.cell? ⟨G2, 5, none⟩ = some (.slice rA2 M rc2)) := ⟨(hb12.cell (p := ⟨G2, 2, none⟩) hgl).trans hSP.1, (hb12.cell (p := ⟨G2, 5, none⟩) hgl).trans hSP.2⟩
          refine hK _ _ _ (fun _ h => h) hSP2 ?_
          clear hK K0
          try simp only [Act.put, List.setIfInBounds_toArray, List.set_cons_zero, List.set_cons_succ]
          repeat (first | (refine lexG_take _ ?_ rfl rfl rfl rfl (fun _ => ?_) ?_; rotate_left; (focus (go_simp; with_reducible rfl)); try simp only [Act.put, List.setIfInBounds_toArray, List.set_cons_zero, List.set_cons_succ]) | (refine lexG_held _ ?_ rfl rfl rfl rfl (by assumption) (fun _ hSw => ?_) ?_; rotate_left; (focus (have h1 := hSw.1; have h2 := hSw.2; clear hSw; go_simp; with_reducible rfl)); try simp only [Act.put, List.setIfInBounds_toArray, List.set_cons_zero, List.set_cons_succ]) | (refine lexG_skip _ rfl rfl (by assumption) ?_; try simp only [Act.put, List.setIfInBounds_toArray, List.set_cons_zero, List.set_cons_succ]))
          have hdone := (Y1.out.below hb12).done
          rw [hrA2.out, hrc2.out] at hdone
          have hcs := replies_same hPR.toO hdone (by rw [hM.out]; exact hM4)
          rw [hM.out] at hcs
          refine lexG_now _ rfl rfl rfl (fun K0 hK => ?_)
          go_wp2_with fail
          refine hcs.mono ?_
          clear hcs
          rintro e v3 ⟨rfl, hb3⟩
          try dsimp only
          have hb13 := below_then hb3 hb12
          have hSP3 : (v3.cell? ⟨G2, 2, none⟩ = some (.slice rA N rc) ∧ v3.cell? ⟨G2, 5, none⟩ = some (.slice rA2 M rc2)) := ⟨(hb13.cell (p := ⟨G2, 2, none⟩) hgl).trans hSP.1, (hb13.cell (p := ⟨G2, 5, none⟩) hgl).trans hSP.2⟩
          refine hK _ _ _ (fun _ h => h) hSP3 ?_
          clear hK K0
          try simp only [Act.put, List.setIfInBounds_toArray, List.set_cons_zero, List.set_cons_succ]
          repeat (first | (refine lexG_take _ ?_ rfl rfl rfl rfl (fun _ => ?_) ?_; rotate_left; (focus (go_simp; with_reducible rfl)); try simp only [Act.put, List.setIfInBounds_toArray, List.set_cons_zero, List.set_cons_succ]) | (refine lexG_held _ ?_ rfl rfl rfl rfl (by assumption) (fun _ hSw => ?_) ?_; rotate_left; (focus (have h1 := hSw.1; have h2 := hSw.2; clear hSw; go_simp; with_reducible rfl)); try simp only [Act.put, List.setIfInBounds_toArray, List.set_cons_zero, List.set_cons_succ]) | (refine lexG_skip _ rfl rfl (by assumption) ?_; try simp only [Act.put, List.setIfInBounds_toArray, List.set_cons_zero, List.set_cons_succ]))
          refine lexG_nil ?_
          have T3 := T1.out.below hb13
          have Y3 := Y1.out.below hb13
          have hO3 := hO.out.below hb13 (Nat.le_refl _)
          clear hSP hSP2 hSP3 hdone hPR hb2 hb12
          replace T3 := Lib.hid T3
          replace Y3 := Lib.hid Y3
          replace hO3 := Lib.hid hO3
          replace I := Lib.hid I
          go_upto_region 40 with (fail)
          go_wp2_with fail
          go_loopw [17] (fun z wr => ∃ q : Nat, q ≤ N ∧ z = .int .i64 (q : Int) ∧ Below v3.heap.size v3 wr) (fun z _ => N - (intOf z).toNat)
          case atStart => exact ⟨0, Nat.zero_le _, rfl, Below.refl _ _⟩
          case round =>
            rename_i hrel
            obtain ⟨q, hq, rfl, hbr⟩ := hrel
            by_cases hlt : q < N
            · have hgk : d.op[q]? = some (d.op[q]'(by rw [hN.out]; exact hlt)) := List.getElem?_eq_getElem _
              generalize d.op[q]'(by rw [hN.out]; exact hlt) = x at hgk
              have hd : decide ((q : Int) < (N : Int)) = true := decide_eq_true (by omega)
              have hqw : IntKind.i64.wrap ((q : Int) + 1) = (q : Int) + 1 := by rw [IntKind.wrap_i64]; omega
              have Yr := Y3.out.below hbr
              have hOr := hO3.out.below hbr (Nat.le_refl _)
              have hcapO : N ≤ cO := hOr.le_cap
              have hcapY : N ≤ rc := by have := Yr.ho.le_cap; rw [hN.out, hrc.out] at this; exact this
              obtain ⟨gA, A1, c1, hAg, -, g0, g1, g2, -, -, -⟩ := Yr.cells hgk
              have eA : rA = some ⟨gA, 0, none⟩ := hrA.out.symm.trans hAg
              subst eA
              obtain ⟨gO, cur, hAO, hcur, -, htk, -⟩ := hOr.open_s (by omega)
              subst hAO
              have hid3 : ∀ t v, (idV x)[t]? = some v → wr.cell? ⟨gO, q * 3 + t, none⟩ = some v := fun t v hv => by
                have h1 := idRow_at hgk hv
                have ht : t < 3 := by have := atLt hv; simpa [idV] using this
                rw [← htk, List.getElem?_take, if_pos (by omega)] at h1
                rw [hcur.cell, show cur[q * 3 + t]? = cur.toList[q * 3 + t]? by simp, h1]
              have z2 : wr.cell? ⟨G2, 2, none⟩ = some (.slice (some ⟨gA, 0, none⟩) N rc) := by
                have h1 := Yr.blk.cell 2
                rw [hrc.out, hAg, hN.out] at h1
                exact h1
              obtain ⟨⟨xc, xs2_, xn2, xg2, xm2, xl2⟩, xage, xnow⟩ := x
              dsimp only at g0 g1 g2
              have k0 := hid3 0 _ rfl
              have k1 := hid3 1 _ rfl
              have k2 := hid3 2 _ rfl
              dsimp only at k0 k1 k2
              have hSP : (wr.drew.cell? ⟨G2, 2, none⟩ = some (.slice (some ⟨gA, 0, none⟩) N rc) ∧ wr.drew.cell? ⟨gA, q * 6, none⟩ = some (.int .u32 (xc : Int)) ∧ wr.drew.cell? ⟨gA, q * 6 + 1, none⟩ = some (.int .u32 (xs2_ : Int)) ∧ wr.drew.cell? ⟨gA, q * 6 + 2, none⟩ = some (.int .u16 (xn2 : Int)) ∧ wr.drew.cell? ⟨gO, q * 3, none⟩ = some (.int .u32 (xc : Int)) ∧ wr.drew.cell? ⟨gO, q * 3 + 1, none⟩ = some (.int .u32 (xs2_ : Int)) ∧ wr.drew.cell? ⟨gO, q * 3 + 2, none⟩ = some (.int .u16 (xn2 : Int))) := ⟨z2, g0, g1, g2, k0, k1, k2⟩
              clear hid3 Yr hOr hcur htk g0 g1 g2 k0 k1 k2 z2 hAg hgk
              go_upto_region 43 with (fail)
              refine wp_region_lex (fun W => (W.cell? ⟨G2, 2, none⟩ = some (.slice (some ⟨gA, 0, none⟩) N rc) ∧ W.cell? ⟨gA, q * 6, none⟩ = some (.int .u32 (xc : Int)) ∧ W.cell? ⟨gA, q * 6 + 1, none⟩ = some (.int .u32 (xs2_ : Int)) ∧ W.cell? ⟨gA, q * 6 + 2, none⟩ = some (.int .u16 (xn2 : Int)) ∧ W.cell? ⟨gO, q * 3, none⟩ = some (.int .u32 (xc : Int)) ∧ W.cell? ⟨gO, q * 3 + 1, none⟩ = some (.int .u32 (xs2_ : Int)) ∧ W.cell? ⟨gO, q * 3 + 2, none⟩ = some (.int .u16 (xn2 : Int)))) [3, 7, 11] [] [0, 1, 2, 3, 4, 5, 6, 7, 8, 9, 10, 11, 12] (by kernel_rfl) rfl (by kernel_rfl) (by kernel_rfl) (fun _ _ d _ _ h => by cases d <;> exact h) ?_
              repeat (first | (refine lexG_take _ ?_ rfl rfl rfl rfl (fun _ => ?_) ?_; rotate_left; (focus (go_simp; with_reducible rfl)); try simp only [Act.put, List.setIfInBounds_toArray, List.set_cons_zero, List.set_cons_succ]) | (refine lexG_held _ ?_ rfl rfl rfl rfl (by assumption) (fun _ hSw => ?_) ?_; rotate_left; (focus (have h1 := hSw.1; have h2 := hSw.2.1; have h3 := hSw.2.2.1; have h4 := hSw.2.2.2.1; have h5 := hSw.2.2.2.2.1; have h6 := hSw.2.2.2.2.2.1; have h7 := hSw.2.2.2.2.2.2; clear hSw; go_simp; with_reducible rfl)); try simp only [Act.put, List.setIfInBounds_toArray, List.set_cons_zero, List.set_cons_succ]) | (refine lexG_skip _ rfl rfl (by assumption) ?_; try simp only [Act.put, List.setIfInBounds_toArray, List.set_cons_zero, List.set_cons_succ]))
              refine lexG_nil ?_
              have hbd := hbr.drew
              generalize wr.drew = w4 at *
              clear hSP
              go_wp2_with fail
              go_roundw
              case rel => exact ⟨q + 1, by omega, by simp, hbd⟩
              case measure => simp [intOf]; omega
            · have hq' : q = N := by omega
              have hd : decide ((q : Int) < (N : Int)) = false := decide_eq_false (by omega)
              go_wp2_with fail
              go_roundw
              case rel => exact ⟨j + 1, F, F2, d, by omega, by simp, T3.out.below hbr, I.out⟩
              case measure => simp [intOf]; omega
      · have hj' : j = n := by omega
        have hd : decide ((j : Int) < (n : Int)) = false := decide_eq_false (by omega)
        have hb := T.hb
        clear T
        go_wp2_with fail
        go_ret
        exact ⟨rfl, hb⟩
theorem u32_in {x : Int} (h : (Lit.int .u32 x).wf = true) : 0 ≤ x ∧ x ≤ 4294967295 := by
  simp [Lit.wf, IntKind.min, IntKind.max, IntKind.signed, IntKind.bits] at h
  omega
theorem clientPlays_int {x : Int} {A : Option Addr} {c : Nat} {l : List ActD} {xs : List Value} {css : Nat → Array Value} (w : World) (hw : (Lit.int .u32 x).wf = true) (ho : RowAct w A l xs css) (hcap : l.length ≤ c) : Calls Try.prog 5 #[.int .u32 x, .slice A l.length c] w (fun e w' => e = .returned (.bool true) ∧ Below w.heap.size w w') := by
  have h := u32_in hw
  obtain ⟨n, rfl⟩ : ∃ n : Nat, x = (n : Int) := ⟨x.toNat, by omega⟩
  exact clientPlays_walk w (by omega) ho hcap
end Go.Proofs.Ytgdhiihfcngjbaa
