/- JournalReads' walk. -/
import Derived.Test.YtjljlgkghlphnaaJBack
set_option linter.unusedSimpArgs false
set_option linter.unusedVariables false
namespace Go.Proofs.Ytjljlgkghlphnaa
open Go.RowKit
set_option maxRecDepth 100000

theorem place_walk {k n : Int} (w : World) (hn : 0 < n) (hn2 : n ≤ 1000000000) : Calls Try.prog 17 #[.int .i64 k, .int .i64 n] w (fun e w' => (∃ q : Int, 0 ≤ q ∧ q < n ∧ e = .returned (.int .i64 q)) ∧ w' = w) := by
  have h1 : -n < k.tmod n ∧ k.tmod n < n := ⟨by have := Int.tmod_lt_of_pos (-k) hn; rw [Int.neg_tmod] at this; omega, Int.tmod_lt_of_pos k hn⟩
  have dn : (n == 0) = false := by rw [beq_eq_false_iff_ne]; omega
  have hn0 : ¬ n = 0 := by omega
  obtain ⟨t, ht⟩ : ∃ t, k.tmod n = t := ⟨_, rfl⟩
  rw [ht] at h1
  by_cases hm : t < 0
  · have dm : decide (t < 0) = true := decide_eq_true hm
    have hw : IntKind.i64.wrap (t + n) = t + n := w64_id _ (by omega) (by omega)
    have fin : ∃ q : Int, 0 ≤ q ∧ q < n ∧ (Ending.returned (.int .i64 (t + n)) : Ending) = .returned (.int .i64 q) := ⟨t + n, by omega, by omega, rfl⟩
    replace fin := Lib.hid fin
    go_enter Try.func17, Try.ntmps17
    go_wp2_with fail
    go_ret
    exact ⟨fin.out, rfl⟩
  · have dm : decide (t < 0) = false := decide_eq_false hm
    have fin : ∃ q : Int, 0 ≤ q ∧ q < n ∧ (Ending.returned (.int .i64 t) : Ending) = .returned (.int .i64 q) := ⟨t, by omega, by omega, rfl⟩
    replace fin := Lib.hid fin
    go_enter Try.func17, Try.ntmps17
    go_wp2_with fail
    go_ret
    exact ⟨fin.out, rfl⟩

/-- What any bytes are read as: the same record by each who reads them. -/
theorem RecRd.one (y : List UInt8) : ∃ (xk xn er : Int) (xv oc os_ on : Nat) (og om : ByteArray) (oL : Nat) (O : OpD), ∀ w e w', RecRd w (rdRec y) e w' → ∃ A cc, e = .returned (.tuple #[.agg #[.int .i64 xk, .int .u64 (xv : Int), .int .i64 xn, .int .u32 (oc : Int), .int .u32 (os_ : Int), .int .u16 (on : Int), .string og, .string om, .slice A oL cc], .int .i64 er]) ∧ OpReads w' w'.heap.size O #[.int .u32 (oc : Int), .int .u32 (os_ : Int), .int .u16 (on : Int), .string og, .string om, .slice A oL cc] ∧ Below w.heap.size w w' := by
  cases h : rdRec y with
  | none =>
    refine ⟨0, 0, 20, 0, 0, 0, 0, bstr [], bstr [], 0, ⟨0, 0, 0, [], [], []⟩, fun w e w' hr => ?_⟩
    obtain ⟨rfl, hb⟩ := hr
    exact ⟨none, 0, rfl, op_none _ _ [] [] (by decide) (by decide) (by decide), hb⟩
  | some r =>
    refine ⟨r.k, r.n, 0, r.v, r.o.c, r.o.s, r.o.n, bstr r.o.g, bstr r.o.m, r.o.l.length, r.o, fun w e w' hr => ?_⟩
    obtain ⟨A', c', xs, css, rfl, R, hok, hb⟩ := hr
    obtain ⟨hokv, hl16, h1, h2, h3, -⟩ := hok
    exact ⟨A', c', rfl, op_of_row R (by omega) hokv h1 h2 h3, hb⟩

theorem two_raws' {w : World} {q : Nat} (hq : w.heap.size = q) (A E : Option Addr) (ca ce : Nat) (a d : List UInt8) (ha : Reads w q 1 A a.length (bys a)) (hd : Reads w q 1 E d.length (bys d)) (hca : a.length ≤ ca) (hce : d.length ≤ ce) (hal : a.length ≤ 1000000) (hdl : d.length ≤ 1000000) :
    ∀ k, k < 2 → ∃ (X : Option Addr) (y : List UInt8) (c : Nat), (w.alloc (.cells #[.slice A a.length ca, .slice E d.length ce] 22)).cell? ⟨q, k, none⟩ = some (.slice X y.length c) ∧ Reads (w.alloc (.cells #[.slice A a.length ca, .slice E d.length ce] 22)) q 1 X y.length (bys y) ∧ y.length ≤ c ∧ y.length ≤ 1000000 := by
  intro k hk
  have hb := Blk.new w 22 #[.slice A a.length ca, .slice E d.length ce]
  rw [hq] at hb
  have hbel : Below q w (w.alloc (.cells #[.slice A a.length ca, .slice E d.length ce] 22)) := by rw [← hq]; exact (Below.refl _ _).alloc (Nat.le_refl _) _
  rcases (by omega : k = 0 ∨ k = 1) with rfl | rfl
  · exact ⟨A, a, ca, hb.cell 0, ha.below hbel, hca, hal⟩
  · exact ⟨E, d, ce, hb.cell 1, hd.below hbel, hce, hdl⟩

set_option maxHeartbeats 12800000 in
theorem journalReads_walk (D : Option Addr) (cd : Nat) (raw : List UInt8) (r : RecD) (ca : Array Value) (at_ x : Int) (w : World) (ha0 : 0 ≤ at_) (ha1 : at_ ≤ 65535) (hx0 : 0 ≤ x) (hx1 : x ≤ 255) (h : Reads w w.heap.size 1 D raw.length (bys raw)) (hcd : raw.length ≤ cd) (hr : RecIs w r ca) :
    Calls Try.prog 4 #[.slice D raw.length cd, .agg ca, .int .u16 at_, .int .u8 x] w (Says w (.bool true)) := by
  obtain ⟨gg, mm, A, K, cc, rfl, ho, hv, -, -⟩ := hr
  obtain ⟨k, v, nn, ⟨c, s, n, g, m, l⟩⟩ := r
  dsimp only at ho hv ⊢
  have hz0 := Blk.new w 32 #[.int .i64 k, .int .u64 (v : Int), .int .i64 nn, .int .u32 (c : Int), .int .u32 (s : Int), .int .u16 (n : Int), .string gg, .string mm, .slice A K cc]
  have hb0 := (Below.refl w.heap.size w).alloc (Nat.le_refl _) (.cells #[.int .i64 k, .int .u64 (v : Int), .int .i64 nn, .int .u32 (c : Int), .int .u32 (s : Int), .int .u16 (n : Int), .string gg, .string mm, .slice A K cc] 32)
  obtain ⟨N, hN⟩ : ∃ N, raw.length = N := ⟨_, rfl⟩
  have hrd : ∀ W, Below w.heap.size w W → Reads W W.heap.size 1 D raw.length (bys raw) := fun W hW => (h.below hW).more hW.size
  have hop : ∀ W, Below w.heap.size w W → OpReads W W.heap.size ⟨c, s, n, g, m, l⟩ #[.int .u32 (c : Int), .int .u32 (s : Int), .int .u16 (n : Int), .string gg, .string mm, .slice A K cc] := fun W hW => (ho.below hW).up hW.size
  rw [hN] at hcd ⊢
  replace hz0 := Lib.hid hz0
  replace hrd := Lib.hid hrd
  replace hop := Lib.hid hop
  replace hN := Lib.hid hN
  clear h ho
  go_enter Try.func4, Try.ntmps4
  go_wp2_with fail
  refine (known_true _).mono ?_
  rintro e w1 ⟨rfl, hb1'⟩
  try dsimp only
  have hb1 := below_then hb1' hb0
  have hz1 := hz0.out.below hb1' hz0.out.lt
  clear hz0 hb0 hb1'
  obtain ⟨z, hzz⟩ : ∃ z, w.heap.size = z := ⟨_, rfl⟩
  have hwz : w.heap.size ≤ z := by omega
  rw [hzz] at hz1 ⊢
  replace hzz := Lib.hid hzz
  by_cases h200 : 200 < N
  · have d1 : decide ((200 : Int) < (N : Int)) = true := decide_eq_true (by omega)
    go_wp2_with fail
    go_ret
    exact ⟨rfl, hb1⟩
  have d1 : decide ((200 : Int) < (N : Int)) = false := decide_eq_false (by omega)
  have e1 := hz1.rec9
  have hli := light_op (hop.out w1 hb1) w1 (Below.refl _ _) (Nat.le_refl _)
  go_wp2_with fail
  refine hli.mono ?_
  clear hli e1
  rintro e w2 ⟨qq, rfl, hq, hb2'⟩
  try dsimp only
  have hb2 := below_then hb2' hb1
  have hz2 := hz1.below hb2' hz1.lt
  clear hz1 hb2' hb1
  cases qq
  · go_wp2_with fail
    go_ret
    exact ⟨rfl, hb2⟩
  obtain ⟨hlg, hlm, -⟩ := hq rfl
  try dsimp only at hlg hlm
  clear hq d1
  have e2 := hz2.rec9
  go_wp2_with fail
  refine (place_walk w2 (by decide) (by decide)).mono ?_
  rintro e w3 ⟨⟨qk, hq0, hq4, rfl⟩, rfl⟩
  try dsimp only
  have hnw : IntKind.i64.wrap (qk + 1) = qk + 1 := w64_id _ (by omega) (by omega)
  have hf0 := hz2.frozen 0
  have hz3 : Blk (w3.setCell ⟨z, 0, none⟩ (.int .i64 (qk + 1))) z 32 #[.int .i64 (qk + 1), .int .u64 (v : Int), .int .i64 nn, .int .u32 (c : Int), .int .u32 (s : Int), .int .u16 (n : Int), .string gg, .string mm, .slice A K cc] := hz2.set_ 0 (.int .i64 (qk + 1))
  have hb3 := hb2.setCell (p := ⟨z, 0, none⟩) hwz (.int .i64 (qk + 1))
  have e3 := hz3.rec9
  go_upto_region 6 with (fail)
  generalize w3.setCell ⟨z, 0, none⟩ (.int .i64 (qk + 1)) = w4 at *
  clear e2 hf0 hz2 hb2
  go_wp2_with fail
  refine (ref_same w4).mono ?_
  rintro e w5 ⟨rfl, hb5'⟩
  try dsimp only
  have hb5 := below_then hb5' hb3
  have hput := rput_walk (k := qk + 1) (n := nn) (A0 := none) (bs := []) (hop.out w5 hb5) (Nat.le_refl _) hv (by omega) (by omega) Reads.none_ (by simp)
  have hle := bytesP_le (r := ⟨qk + 1, v, nn, ⟨c, s, n, g, m, l⟩⟩)
  have hres : ∀ e w', PayRes w5 (errJ ⟨qk + 1, v, nn, ⟨c, s, n, g, m, l⟩⟩) ([] ++ framed (bytesP ⟨qk + 1, v, nn, ⟨c, s, n, g, m, l⟩⟩)) e w' → ∃ (E : Option Addr) (t : List UInt8) (ce : Nat) (er : Int), e = .returned (.tuple #[.slice E t.length ce, .int .i64 er]) ∧ Own w' 5 1 E t.length ce (bys t) ∧ Below w5.heap.size w5 w' ∧ t.length ≤ 200000 := by
    intro e w' h
    by_cases hck : errJ ⟨qk + 1, v, nn, ⟨c, s, n, g, m, l⟩⟩ = 0
    · obtain ⟨E, ce, rfl, ho3, hb3, hg3⟩ := h.1 hck
      have h1 := hle (errJ_zero hck).1
      refine ⟨E, _, ce, 0, rfl, ho3, hb3, ?_⟩
      rw [List.nil_append, framed_len]
      omega
    · obtain ⟨rfl, hb3⟩ := h.2 hck
      exact ⟨none, [], 0, _, rfl, Own.none_, hb3, by simp⟩
  have hput2 := hput.mono (fun e w' h => hres e w' h)
  clear hput hres hle e3 hz3 hb3 hb5'
  go_wp2_with fail
  refine hput2.mono ?_
  clear hput2
  rintro e w6 ⟨E6, t, c6, er, rfl, ho6, hb6', ht⟩
  try dsimp only
  have hb6 := below_then hb6' hb5
  have hoo := open_ref (c := c6) ho6.reads_ ho6.le_cap (by omega)
  have hshort := opened_le t
  obtain ⟨⟨p, on, oe⟩, ho⟩ : ∃ o, opened t = o := ⟨_, rfl⟩
  rw [ho] at hoo hshort
  dsimp only at hshort
  obtain ⟨T, hT⟩ : ∃ T, t.length = T := ⟨_, rfl⟩
  rw [hT] at hoo ht hshort ⊢
  clear ho hT ho6 hb6' hb5
  go_wp2_with fail
  refine hoo.mono ?_
  clear hoo
  rintro e w7 ⟨E7, c7, rfl, ho7, hb7', hg7⟩
  dsimp only at ho7 ⊢
  have hb7 := below_then hb7' hb6
  have hcle := ho7.le_cap
  have hb6s := hb6.size
  obtain ⟨M, hM⟩ : ∃ M, p.length = M := ⟨_, rfl⟩
  have ho7' := ho7
  rw [hM] at ho7' hcle hshort ⊢
  clear hb6 hb7'
  go_upto_if 50 with (fail)
  go_cut [] from 51 to 61 (fun wx => ∃ (d : List UInt8), d.length = M ∧ Reads wx wx.heap.size 1 E7 d.length (bys d) ∧ Below w.heap.size w wx)
  case first =>
    by_cases hM0 : M = 0
    · have hd : decide ((0 : Int) < (M : Int)) = false := decide_eq_false (by omega)
      go_wp2_with fail
      go_meet
      exact ⟨p, hM, ho7.reads_, hb7⟩
    · have hd : decide ((0 : Int) < (M : Int)) = true := decide_eq_true (by omega)
      obtain ⟨g0, cur, rfl, hblk, hcur, hset⟩ := ho7'.open_ (by omega)
      have hgw : w.heap.size ≤ g0 := by have := hg7 g0 rfl; omega
      obtain ⟨j, hj', hjj⟩ : ∃ j : Nat, at_ % (M : Int) = (j : Int) ∧ j < M := by
        have h1 := Int.emod_nonneg at_ (show (M : Int) ≠ 0 by omega)
        have h2 := Int.emod_lt_of_pos at_ (show (0 : Int) < (M : Int) by omega)
        exact ⟨(at_ % (M : Int)).toNat, by omega, by omega⟩
      have hcell := hblk.cell j
      rw [hcur j hjj] at hcell
      simp only [bys, byv, List.getElem?_map, List.getElem?_eq_getElem (show j < p.length by omega), Option.map_some] at hcell
      have hfz := hblk.frozen j
      obtain ⟨b', hbv⟩ := byte_xor (p[j]'(by omega)) x (by omega) (by omega)
      have ho4 := hset j (byv b') hjj
      rw [bys_set] at ho4
      have hdl : (p.set j b').length = M := by simp [hM]
      obtain ⟨d, hd'⟩ : ∃ d, p.set j b' = d := ⟨_, rfl⟩
      rw [hd'] at ho4 hdl
      have hb4 : Below w.heap.size w (w7.setCell ⟨g0, j, none⟩ (byv b')) := hb7.setCell (by show w.heap.size ≤ g0; omega) _
      have hr4 := ho4.reads_
      rw [← hdl] at hr4
      clear hset hcur hblk ho4
      replace hdl := Lib.hid hdl
      replace hr4 := Lib.hid hr4
      replace hd' := Lib.hid hd'
      replace hM := Lib.hid hM
      clear ho7 ho7'
      go_wp2_with fail
      go_meet
      exact ⟨d, hdl.out, hr4.out, hb4⟩
  case rest =>
    obtain ⟨d, hd, hr8, hb8⟩ := hcut
    generalize wc = w8 at *
    clear hg7 hb6s hb7 ho7 ho7' hM
    obtain ⟨q, hq⟩ : ∃ q, w8.heap.size = q := ⟨_, rfl⟩
    have har : Reads w8 q 1 D raw.length (bys raw) := by rw [← hq]; exact hrd.out w8 hb8
    have hr8' : Reads w8 q 1 E7 d.length (bys d) := by rw [← hq]; exact hr8
    have F := two_raws' hq D E7 cd c7 raw d har hr8' (by rw [hN.out]; exact hcd) (by omega) (by rw [hN.out]; omega) (by omega)
    have hb9 := hb8.alloc hb8.size (.cells #[.slice D raw.length cd, .slice E7 d.length c7] 22)
    have hs9 : (w8.alloc (.cells #[.slice D raw.length cd, .slice E7 d.length c7] 22)).heap.size = q + 1 := by simp [hq]
    rw [hN.out, hd] at F hb9 hs9
    clear har hr8' hr8 hb8 hd
    replace F := Lib.hid F
    go_wp2_with fail
    generalize w8.alloc (.cells #[.slice D N cd, .slice E7 M c7] 22) = w9 at *
    (try rw [hq])
    replace hq := Lib.hid hq
    go_loopw [66] (fun i wr => ∃ k : Nat, k ≤ 2 ∧ i = .int .i64 k ∧ Below w9.heap.size w9 wr) (fun i _ => 2 - (intOf i).toNat)
    case atStart => exact ⟨0, by omega, rfl, Below.refl _ _⟩
    case round =>
      rename_i hrel
      obtain ⟨k0, hk2, rfl, hbr⟩ := hrel
      by_cases hk : k0 < 2
      · obtain ⟨A6, y, c6', hc6, hr6, hl6, hm6⟩ := F.out k0 hk
        have hc6' := (hbr.cell (p := ⟨q, k0, none⟩) (by show q < _; omega)).trans hc6
        have hr6' : ∀ W, Below wr.heap.size wr W → Reads W W.heap.size 1 A6 y.length (bys y) := fun W hW => (hr6.below ((below_then hW hbr).mono (by omega))).more (by have := (below_then hW hbr).size; omega)
        obtain ⟨xk, xn, er2, xv, oc, os_, on, og, om, oL, O, hone⟩ := RecRd.one y
        have hx1 := jread_walk (hr6' wr (Below.refl _ _)) hl6 (by omega) _ rfl
        have hx2 := fun W (hW : Below wr.heap.size wr W) => rread_walk (hr6' W hW) hl6 (by omega) _ rfl
        obtain ⟨Y, hY⟩ : ∃ Y, y.length = Y := ⟨_, rfl⟩
        rw [hY] at hx1 hx2 hc6'
        replace hone := Lib.hid hone
        replace hx2 := Lib.hid hx2
        have hkd : decide ((k0 : Int) < 2) = true := decide_eq_true (by omega)
        clear hc6 hr6 hr6' hl6 hm6 hY
        go_wp2_with fail
        refine hx1.mono ?_
        clear hx1 hc6'
        rintro e w10 hrr
        obtain ⟨A10, c10, rfl, hop10, hb10'⟩ := hone.out _ _ _ hrr
        clear hrr
        try dsimp only
        have hu10 := (Blk.new w10 32 #[.int .i64 xk, .int .u64 (xv : Int), .int .i64 xn, .int .u32 (oc : Int), .int .u32 (os_ : Int), .int .u16 (on : Int), .string og, .string om, .slice A10 oL c10])
        have hb11w := ((Below.refl w10.heap.size w10).alloc (Nat.le_refl _) (.cells #[.int .i64 xk, .int .u64 (xv : Int), .int .i64 xn, .int .u32 (oc : Int), .int .u32 (os_ : Int), .int .u16 (on : Int), .string og, .string om, .slice A10 oL c10] 32))
        have hop11 := (hop10.below hb11w).up hb11w.size
        have hx2' := hx2.out _ (below_then hb11w hb10')
        have hb11 := below_then hb11w (below_then hb10' hbr)
        clear hop10 hb11w hx2 hb10'
        go_wp2_with fail
        generalize w10.alloc (.cells #[.int .i64 xk, .int .u64 (xv : Int), .int .i64 xn, .int .u32 (oc : Int), .int .u32 (os_ : Int), .int .u16 (on : Int), .string og, .string om, .slice A10 oL c10] 32) = w11 at *
        generalize w10.heap.size = u10 at *
        refine hx2'.mono ?_
        clear hx2'
        rintro e w12 hrr
        obtain ⟨A12, c12, rfl, hop12, hb12'⟩ := hone.out _ _ _ hrr
        clear hrr
        try dsimp only
        have hw12 := (Blk.new w12 41 #[.int .i64 xk, .int .u64 (xv : Int), .int .i64 xn, .int .u32 (oc : Int), .int .u32 (os_ : Int), .int .u16 (on : Int), .string og, .string om, .slice A12 oL c12])
        have hb13w := ((Below.refl w12.heap.size w12).alloc (Nat.le_refl _) (.cells #[.int .i64 xk, .int .u64 (xv : Int), .int .i64 xn, .int .u32 (oc : Int), .int .u32 (os_ : Int), .int .u16 (on : Int), .string og, .string om, .slice A12 oL c12] 41))
        have hu13 := (hu10.below hb12' hu10.lt).below hb13w (by have := (hu10.below hb12' hu10.lt).lt; omega)
        have hb13 := below_then hb13w (below_then hb12' hb11)
        have hos := op_same (((hop11.below hb12').up hb12'.size).below hb13w |>.up hb13w.size) ((hop12.below hb13w).up hb13w.size) _ (Below.refl _ _) (Nat.le_refl _)
        have hc1 := hu13.rec9
        have hc2 := hw12.rec9
        have nk : (xk != xk) = false := by simp
        have nn' : (xn != xn) = false := by simp
        have ne' : (er2 != er2) = false := by simp
        have nv' : ((xv : Int) != (xv : Int)) = false := by simp
        clear hop12 hop11 hb12' hb13w hb11 hu10
        go_wp2_with fail
        generalize w12.alloc (.cells #[.int .i64 xk, .int .u64 (xv : Int), .int .i64 xn, .int .u32 (oc : Int), .int .u32 (os_ : Int), .int .u16 (on : Int), .string og, .string om, .slice A12 oL c12] 41) = w13 at *
        refine hos.mono ?_
        rintro e w14 ⟨rfl, hb14'⟩
        try dsimp only
        have hb14 := below_then hb14' hb13
        clear hos hc1 hc2 hb13 hb14'
        have hnw2 : IntKind.i64.wrap ((k0 : Int) + 1) = ((k0 + 1 : Nat) : Int) := by rw [IntKind.wrap_i64]; omega
        go_wp2_with fail
        go_roundw
        case rel => exact ⟨k0 + 1, by omega, rfl, hb14⟩
        case measure => simp [intOf]; omega
      · have hkd : decide ((k0 : Int) < 2) = false := decide_eq_false (by omega)
        go_wp2_with fail
        go_ret
        exact ⟨rfl, below_then hbr hb9⟩
end Go.Proofs.Ytjljlgkghlphnaa
