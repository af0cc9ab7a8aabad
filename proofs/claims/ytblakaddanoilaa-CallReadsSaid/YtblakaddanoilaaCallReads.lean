/- CallReads' walk. -/
import Derived.Test.YtblakaddanoilaaOpRef
import Derived.Test.YtblakaddanoilaaRepSame
import Derived.Test.YtblakaddanoilaaOpenOp
import Derived.Test.YtblakaddanoilaaOpCl
import Derived.Deep.CutRange
namespace Go.Proofs.Ytblakaddanoilaa
open Go.RowKit
open Go.ChangeShapes Go.WideShapes Go.ChangeAt
set_option maxRecDepth 100000


/-- A call that the machine reads, of whatever values. -/
def OpR0 (w : World) (B : Nat) (o : OpD) (cs : Array Value) : Prop :=
  ∃ (A : Option Addr) (cc : Nat) (xs : List Value) (css : Nat → Array Value), cs = #[.int .u32 o.c, .int .u32 o.s, .int .u16 o.n, .string (bstr o.g), .string (bstr o.m), .slice A o.l.length cc] ∧ Reads w B 5 A o.l.length xs ∧ (∀ j v, o.l[j]? = some v → VReads w B v (css j)) ∧ (∀ j, j < o.l.length → (xs.drop (j * 5)).take 5 = (css j).toList) ∧ o.l.length ≤ 2199023255488
theorem OpR0.below {w w' : World} {B : Nat} {o : OpD} {cs : Array Value} (h : OpR0 w B o cs) (hb : Below B w w') : OpR0 w' B o cs := by
  obtain ⟨A, cc, xs, css, h1, h2, h3, h4, h5⟩ := h
  exact ⟨A, cc, xs, css, h1, h2.below hb, fun j v hv => (h3 j v hv).under hb, h4, h5⟩
theorem OpR0.up {w : World} {B B' : Nat} {o : OpD} {cs : Array Value} (h : OpR0 w B o cs) (hB : B ≤ B') : OpR0 w B' o cs := by
  obtain ⟨A, cc, xs, css, h1, h2, h3, h4, h5⟩ := h
  exact ⟨A, cc, xs, css, h1, h2.more hB, fun j v hv => (h3 j v hv).up hB, h4, h5⟩
theorem op_same0 {w : World} {B : Nat} {o : OpD} {cs cs' : Array Value} (h : OpR0 w B o cs) (h' : OpR0 w B o cs') (w1 : World) (hb1 : Below B w w1) (hB1 : B ≤ w1.heap.size) :
    Calls Try.prog 13 #[.agg cs, .agg cs'] w1 (Says w1 (.bool true)) := by
  obtain ⟨A, cc, xs, css, rfl, hr, hx, hxs, hl⟩ := h
  obtain ⟨A', cc', xs', css', rfl, hr', hx', hxs', -⟩ := h'
  have hva := fun w2 (hb2 : Below w1.heap.size w1 w2) => values_true (c := cc) (c' := cc') (hr.below (hb1.trans (hb2.mono hB1))) (hr'.below (hb1.trans (hb2.mono hB1))) (Nat.le_trans hB1 hb2.size) hxs hxs' (fun j v hv => (hx j v hv).under (hb1.trans (hb2.mono hB1))) (fun j v hv => (hx' j v hv).under (hb1.trans (hb2.mono hB1))) (by omega)
  obtain ⟨c, s, n, g, m, l⟩ := o
  dsimp only at *
  generalize bstr g = gg at *
  generalize bstr m = mm at *
  have d1 : decide (gg = gg) = true := decide_eq_true rfl
  have d2 : decide (mm = mm) = true := decide_eq_true rfl
  have b1 := Blk.new w1 29 #[.int .u32 c, .int .u32 s, .int .u16 n, .string gg, .string mm, .slice A l.length cc]
  have b1' := b1.alloc (.cells #[.int .u32 c, .int .u32 s, .int .u16 n, .string gg, .string mm, .slice A' l.length cc'] 29)
  have b2 := Blk.new (w1.alloc (.cells #[.int .u32 c, .int .u32 s, .int .u16 n, .string gg, .string mm, .slice A l.length cc] 29)) 29 #[.int .u32 c, .int .u32 s, .int .u16 n, .string gg, .string mm, .slice A' l.length cc']
  have hsz : (w1.alloc (.cells #[.int .u32 c, .int .u32 s, .int .u16 n, .string gg, .string mm, .slice A l.length cc] 29)).heap.size = w1.heap.size + 1 := by simp
  rw [hsz] at b2
  have hbl := ((Below.refl w1.heap.size w1).alloc (Nat.le_refl _) (.cells #[.int .u32 c, .int .u32 s, .int .u16 n, .string gg, .string mm, .slice A l.length cc] 29)).alloc (by simp) (.cells #[.int .u32 c, .int .u32 s, .int .u16 n, .string gg, .string mm, .slice A' l.length cc'] 29)
  replace hva := Lib.hid hva
  clear hr hx hxs hr' hx' hxs' hl b1 hsz
  go_enter Try.func13, Try.ntmps13
  go_wp2_with fail
  refine (hva.out _ hbl).mono ?_
  rintro e w2 ⟨rfl, hb2⟩
  dsimp only
  have hb3 := below_then hb2 hbl
  go_wp2_with fail
  go_ret
  exact ⟨rfl, hb3⟩

theorem pl_len {p : List UInt8 → Option (Val × Nat)} : ∀ (n : Nat) (b : List UInt8) (l : List Val) (m : Nat), pl p n b = some (l, m) → l.length = n
  | 0, b, l, m, h => by
    simp only [pl, Option.some.injEq, Prod.mk.injEq] at h
    rw [← h.1]; rfl
  | n + 1, b, l, m, h => by
    unfold pl at h
    split at h
    · cases h
    · rename_i v m1 hv
      split at h
      · cases h
      · rename_i l1 m2 hl
        simp only [Option.some.injEq, Prod.mk.injEq] at h
        rw [← h.1, List.length_cons, pl_len n _ l1 m2 hl]
theorem rdOp_len {b : List UInt8} {o : OpD} {q : Nat} (h : rdOp b = some (o, q)) : o.l.length ≤ 16 := by
  unfold rdOp at h
  split at h
  · cases h
  split at h
  · cases h
  split at h
  · cases h
  split at h
  · cases h
  split at h
  · cases h
  rename_i h16
  split at h
  · cases h
  · rename_i l m hl
    simp only [Option.some.injEq, Prod.mk.injEq] at h
    rw [← h.1]
    dsimp only
    rw [pl_len _ _ _ _ hl]
    omega

/-- What the reading of a call tells, found or not, in one. -/
theorem OpRd.one (b : List UInt8) : ∃ (o : OpD) (c1 s1 n1 K1 : Nat) (g1 m1 : ByteArray) (Z X : Int), ∀ w e w', OpRd w (rdOp b) e w' → ∃ A1 d1, e = .returned (.tuple #[.agg #[.int .u32 (c1 : Int), .int .u32 (s1 : Int), .int .u16 (n1 : Int), .string g1, .string m1, .slice A1 K1 d1], .int .i64 Z, .int .i64 X]) ∧ OpR0 w' w'.heap.size o #[.int .u32 (c1 : Int), .int .u32 (s1 : Int), .int .u16 (n1 : Int), .string g1, .string m1, .slice A1 K1 d1] ∧ Below w.heap.size w w' := by
  cases h : rdOp b with
  | none => exact ⟨⟨0, 0, 0, [], [], []⟩, 0, 0, 0, 0, ⟨#[]⟩, ⟨#[]⟩, 0, 20, fun w e w' h => ⟨none, 0, h.1, ⟨none, 0, [], fun _ => #[], rfl, Reads.none_, by simp, by simp, by simp⟩, h.2⟩⟩
  | some x =>
    obtain ⟨o, q⟩ := x
    have hl := rdOp_len h
    refine ⟨o, o.c, o.s, o.n, o.l.length, bstr o.g, bstr o.m, q, 0, fun w e w' h => ?_⟩
    obtain ⟨A', c', xs, css, rfl, R, hb⟩ := h
    exact ⟨A', c', rfl, ⟨A', c', xs, css, rfl, R.ho.reads_, fun j v hv => (R.hx j v hv).reads, R.hxs, by omega⟩, hb⟩

theorem RepRd.one (b : List UInt8) : ∃ (V : Val) (c2 s2 n2 er Z X : Int), ∀ w e w', RepRd w (rdRep b) e w' → ∃ k1 i1 f1 s1' A1 n1' d1, e = .returned (.tuple #[.agg #[.int .u32 c2, .int .u32 s2, .int .u16 n2, .int .i64 er, .int .i64 k1, .int .i64 i1, .float .f64 f1, .string s1', .slice A1 n1' d1], .int .i64 Z, .int .i64 X]) ∧ VReads w' w'.heap.size V #[.int .i64 k1, .int .i64 i1, .float .f64 f1, .string s1', .slice A1 n1' d1] ∧ Below w.heap.size w w' := by
  cases h : rdRep b with
  | none => exact ⟨.mk 0 0 0 [] [], 0, 0, 0, 0, 0, 20, fun w e w' h => ⟨0, 0, 0, ⟨#[]⟩, none, 0, 0, h.1, val1_reads _ _ 0 0 0, h.2⟩⟩
  | some x =>
    obtain ⟨⟨c1, s1, n1, e1⟩, v, q⟩ := x
    refine ⟨v, c1, s1, n1, e1, q, 0, fun w e w' h => ?_⟩
    obtain ⟨k, i, f, s, A', n', c', rfl, hv, hb⟩ := h
    exact ⟨k, i, f, s, A', n', c', rfl, hv.reads, hb⟩

theorem two_raws {w4 : World} {q : Nat} (hq : w4.heap.size = q) (D E : Option Addr) (c d : Nat) (a b : List UInt8) (ha : Reads w4 q 1 D a.length (bys a)) (hb : Reads w4 q 1 E b.length (bys b)) (hca : a.length ≤ c) (hcb : b.length ≤ d) (hla : a.length ≤ 70000) (hlb : b.length ≤ 70000) (h0 : D = none → c = 0) (h1 : E = none → d = 0) (k : Nat) (hk : k < 2) :
    ∃ A' y c', (w4.alloc (.cells #[.slice D a.length c, .slice E b.length d] 22)).cell? ⟨q, k, none⟩ = some (.slice A' y.length c') ∧ Reads (w4.alloc (.cells #[.slice D a.length c, .slice E b.length d] 22)) q 1 A' y.length (bys y) ∧ y.length ≤ c' ∧ y.length ≤ 70000 ∧ (A' = none → c' = 0) := by
  subst hq
  have hn := (Blk.new w4 22 #[.slice D a.length c, .slice E b.length d]).cell k
  rcases (show k = 0 ∨ k = 1 by omega) with rfl | rfl
  · exact ⟨D, a, c, hn, ha.alloc (Nat.le_refl _) _, hca, hla, h0⟩
  · exact ⟨E, b, d, hn, hb.alloc (Nat.le_refl _) _, hcb, hlb, h1⟩


set_option maxHeartbeats 12800000 in
theorem callReads_walk (D A : Option Addr) (cd K cc c s n : Nat) (g m raw : List UInt8) (gg mm : ByteArray) (l : List Val) (at_ x : Int) (cut : Bool) (w : World) (ha0 : 0 ≤ at_) (ha1 : at_ ≤ 65535) (hx0 : 0 ≤ x) (hx1 : x ≤ 255) (ho : OpReads w w.heap.size ⟨c, s, n, g, m, l⟩ #[.int .u32 (c : Int), .int .u32 (s : Int), .int .u16 (n : Int), .string gg, .string mm, .slice A K cc])
    (h : Reads w w.heap.size 1 D raw.length (bys raw)) (hc : raw.length ≤ cd) (hl : raw.length ≤ 140737488351232) (hD : D = none → cd = 0) :
    Calls Try.prog 3 #[.slice D raw.length cd, .agg #[.int .u32 (c : Int), .int .u32 (s : Int), .int .u16 (n : Int), .string gg, .string mm, .slice A K cc], .int .u16 at_, .int .u8 x, .bool cut] w (Says w (.bool true)) := by
  have hsf := fun a k x m w => run_store_float (P := Try.prog) a k x m w
  obtain ⟨hpg, hpm, hpK⟩ := op_parts ho
  have hS := Blk.new w 29 #[.int .u32 (c : Int), .int .u32 (s : Int), .int .u16 (n : Int), .string gg, .string mm, .slice A K cc]
  have hb0 := (Below.refl w.heap.size w).alloc (Nat.le_refl _) (.cells #[.int .u32 (c : Int), .int .u32 (s : Int), .int .u16 (n : Int), .string gg, .string mm, .slice A K cc] 29)
  obtain ⟨N, hN⟩ : ∃ N, raw.length = N := ⟨_, rfl⟩
  rw [hN] at hc hl ⊢
  replace hN := Lib.hid hN
  replace hS := Lib.hid hS
  replace hb0 := Lib.hid hb0
  replace h := Lib.hid h
  replace ho := Lib.hid ho
  replace hD := Lib.hid hD
  replace hpg := Lib.hid hpg
  replace hpm := Lib.hid hpm
  replace hpK := Lib.hid hpK
  go_enter Try.func3, Try.ntmps3
  go_wp2_with fail
  refine (known_true _).mono ?_
  rintro e w1 ⟨rfl, hb1'⟩
  dsimp only
  have hb1 := below_then hb1' hb0.out
  have hS1 := hS.out.below hb1' hS.out.lt
  clear hb1'
  obtain ⟨e0, e1, e2, e3, e4, e5⟩ := hS1.op6
  by_cases h300 : 300 < N
  · go_wp2_with fail
    go_ret
    exact ⟨rfl, hb1⟩
  go_wp2_with fail
  refine (light_op ho.out w1 hb1 hb1.size).mono ?_
  rintro e w2 ⟨q, rfl, hq, hb2'⟩
  dsimp only
  have hb2 := below_then hb2' hb1
  have hS2 := hS1.below hb2' hS1.lt
  clear e0 e1 e2 e3 e4 e5 hS1 hb2' hb1
  obtain ⟨e0, e1, e2, e3, e4, e5⟩ := hS2.op6
  cases q
  · go_wp2_with fail
    go_ret
    exact ⟨rfl, hb2⟩
  obtain ⟨hlg, hlm, hll⟩ := hq rfl
  dsimp only at hlg hlm hll
  clear hq
  have hput := ref_put_op (A0 := none) (bs := []) ((ho.out.below hb2).up hb2.size) (Nat.le_refl _) Reads.none_ (by simp) (by dsimp only; omega) (by dsimp only; omega)
  have hok := ho.out
  obtain ⟨hok, hc4, hs4, hn2⟩ : (∀ v ∈ l, OkV v) ∧ c < 4294967296 ∧ s < 4294967296 ∧ n < 65536 := by
    obtain ⟨_, _, _, _, -, -, -, -, -, h1, h2, h3, h4⟩ := ho.out
    exact ⟨h1, h2, h3, h4⟩
  have hres : ∀ e w', OpPut w2 [] ⟨c, s, n, g, m, l⟩ e w' → ∃ (E : Option Addr) (r : List UInt8) (ce : Nat) (er : Int), e = .returned (.tuple #[.slice E r.length ce, .int .i64 er]) ∧ Own w' 5 1 E r.length ce (bys r) ∧ Below w2.heap.size w2 w' ∧ (∀ g, bOf E = some g → w2.heap.size ≤ g) ∧ r.length ≤ 70000 := by
    intro e w' h
    by_cases hck : errO ⟨c, s, n, g, m, l⟩ = 0
    · obtain ⟨E, ce, rfl, ho3, hb3, hg3⟩ := h.1 hck
      obtain ⟨z1, z2, z3, z4⟩ := errO_zero hck
      have hee := encL_le l z4
      have hbe := bytesO_len ⟨c, s, n, g, m, l⟩
      dsimp only at z1 z2 z3 hbe
      exact ⟨E, _, ce, 0, rfl, ho3, hb3, hg3, by rw [List.nil_append, hbe]; omega⟩
    · obtain ⟨rfl, hb3⟩ := h.2 hck
      exact ⟨none, [], 0, _, rfl, Own.none_, hb3, by simp [bOf], by simp⟩
  replace hput := hput.mono (fun e w' h => hres e w' h)
  clear hres hok
  replace hok := Lib.hid hput
  clear hput
  go_wp2_with fail
  refine hok.out.mono ?_
  clear hok
  rintro e w3 ⟨E, r, ce, er, rfl, ho3, hb3', hg3, hr7⟩
  dsimp only
  have hb3 := below_then hb3' hb2
  have hcle := ho3.le_cap
  have hcE := ho3.none_cap
  have hb2s := hb2.size
  clear e0 e1 e2 e3 e4 e5 hS2 hb3'
  obtain ⟨M, hM⟩ : ∃ M, r.length = M := ⟨_, rfl⟩
  have ho3' := ho3
  rw [hM] at ho3' hcle hr7 ⊢
  go_upto_if 41 with (fail)
  go_cut [11] from 42 to 57 (fun x11 wx => ∃ (E2 : Option Addr) (d : List UInt8) (c2 : Nat), x11 = .slice E2 d.length c2 ∧ Reads wx wx.heap.size 1 E2 d.length (bys d) ∧ d.length ≤ c2 ∧ d.length ≤ 70000 ∧ (E2 = none → c2 = 0) ∧ Below w.heap.size w wx)
  case first =>
    by_cases hM0 : M = 0
    · have hd : decide ((0 : Int) < (M : Int)) = false := decide_eq_false (by omega)
      go_wp2_with fail
      go_meet
      exact ⟨E, r, ce, by rw [hM], ho3.reads_, by omega, by omega, hcE, hb3⟩
    · have hd : decide ((0 : Int) < (M : Int)) = true := decide_eq_true (by omega)
      obtain ⟨g0, cur, rfl, hblk, hcur, hset⟩ := ho3'.open_ (by omega)
      have hgw : w2.heap.size ≤ g0 := hg3 g0 rfl
      obtain ⟨j, hj', hjj⟩ : ∃ j : Nat, at_ % (M : Int) = (j : Int) ∧ j < M := by
        have h1 := Int.emod_nonneg at_ (show (M : Int) ≠ 0 by omega)
        have h2 := Int.emod_lt_of_pos at_ (show (0 : Int) < (M : Int) by omega)
        exact ⟨(at_ % (M : Int)).toNat, by omega, by omega⟩
      have hcell := hblk.cell j
      rw [hcur j hjj] at hcell
      simp only [bys, byv, List.getElem?_map, List.getElem?_eq_getElem (show j < r.length by omega), Option.map_some] at hcell
      have hfz := hblk.frozen j
      obtain ⟨b', hbv⟩ := byte_xor (r[j]'(by omega)) x (by omega) (by omega)
      have ho4 := hset j (byv b') hjj
      rw [bys_set] at ho4
      have hdl : (r.set j b').length = M := by simp [hM]
      obtain ⟨d, hd'⟩ : ∃ d, r.set j b' = d := ⟨_, rfl⟩
      rw [hd'] at ho4 hdl
      have hb4 : Below w.heap.size w (w3.setCell ⟨g0, j, none⟩ (byv b')) := hb3.setCell (by show w.heap.size ≤ g0; omega) _
      have hr4 := ho4.reads_
      rw [← hdl] at hr4
      clear hset hcur hblk ho4
      replace hdl := Lib.hid hdl
      replace hr4 := Lib.hid hr4
      replace hd' := Lib.hid hd'
      replace hM := Lib.hid hM
      clear ho3 ho3'
      cases cut
      · go_wp2_with fail
        go_meet
        exact ⟨some ⟨g0, 0, none⟩, d, ce, by rw [hdl.out], hr4.out, by rw [hdl.out]; exact hcle, by rw [hdl.out]; exact hr7, by simp, hb4⟩
      · go_wp2_with fail
        go_meet
        refine ⟨some ⟨g0, 0, none⟩, d.take j, ce, by rw [List.length_take, hdl.out, Nat.min_eq_left (by omega)], ?_, by rw [List.length_take, hdl.out]; omega, by rw [List.length_take, hdl.out]; omega, by simp, hb4⟩
        have h9 := hr4.out.first (k := j) (by rw [hdl.out]; omega)
        rw [Nat.mul_one, bys_take] at h9
        rw [List.length_take, hdl.out, Nat.min_eq_left (by omega)]
        exact h9
  case rest =>
    obtain ⟨E2, d, c2', rfl, hr4, hc4', hd7, hE2, hb4⟩ := hcut
    generalize wc = w4 at *
    clear hcE hcle hr7 ho3 ho3' hM hb3 hc4 hs4 hn2 hpg hpm hpK ho hb2 hg3 hb2s hS hb0 hll hlg hlm
    obtain ⟨q, hq⟩ : ∃ q, w4.heap.size = q := ⟨_, rfl⟩
    have har : Reads w4 q 1 D raw.length (bys raw) := (h.out.below hb4).more (by rw [← hq]; exact hb4.size)
    have hr4' : Reads w4 q 1 E2 d.length (bys d) := by rw [← hq]; exact hr4
    have F := two_raws hq D E2 cd c2' raw d har hr4' (by rw [hN.out]; exact hc) hc4' (by rw [hN.out]; omega) hd7 hD.out hE2
    have hb5 := hb4.alloc hb4.size (.cells #[.slice D raw.length cd, .slice E2 d.length c2'] 22)
    have hs5 : (w4.alloc (.cells #[.slice D raw.length cd, .slice E2 d.length c2'] 22)).heap.size = q + 1 := by simp [hq]
    rw [hN.out] at F hb5 hs5
    obtain ⟨M2, hM2⟩ : ∃ M2, d.length = M2 := ⟨_, rfl⟩
    rw [hM2] at F hb5 hs5 hc4' hd7 ⊢
    replace hM2 := Lib.hid hM2
    clear har hr4' hr4 hb4
    replace F := Lib.hid F
    go_wp2_with fail
    generalize w4.alloc (.cells #[.slice D N cd, .slice E2 M2 c2'] 22) = w5 at *
    replace hq := Lib.hid hq
    go_loopw [62] (fun i wr => ∃ k : Nat, k ≤ 2 ∧ i = .int .i64 k ∧ Below w5.heap.size w5 wr) (fun i _ => 2 - (intOf i).toNat)
    case atStart => exact ⟨0, by omega, rfl, Below.refl _ _⟩
    case round =>
      rename_i hrel
      obtain ⟨k0, hk2, rfl, hbr⟩ := hrel
      by_cases hk : k0 < 2
      · obtain ⟨A6, y, c6, hc6, hr6, hl6, hm6, hA6⟩ := F.out k0 hk
        have hc6' := (hbr.cell (p := ⟨q, k0, none⟩) (by show q < _; omega)).trans hc6
        have hr6' : Reads wr wr.heap.size 1 A6 y.length (bys y) := (hr6.below (hbr.mono (by omega))).more (by have := hbr.size; omega)
        clear hc6 hr6
        obtain ⟨O, c1, s1, n1, K1, g1, m1, Z, X, hres⟩ := OpRd.one y
        obtain ⟨V, c2, s2, n2, er2, Z2, X2, hres2⟩ := RepRd.one y
        have hx1 := fun w7 (hb : Below wr.heap.size wr w7) => call_read ((hr6'.below hb).more hb.size) hA6 hl6 (by omega) _ rfl
        have hx2 := fun w7 (hb : Below wr.heap.size wr w7) => ref_read_op ((hr6'.below hb).more hb.size) hl6 (by omega) _ rfl
        have hx3 := fun w7 (hb : Below wr.heap.size wr w7) => call_read_reply ((hr6'.below hb).more hb.size) hA6 hl6 (by omega) _ rfl
        have hx4 := fun w7 (hb : Below wr.heap.size wr w7) => ref_read_reply ((hr6'.below hb).more hb.size) hl6 (by omega) _ rfl
        obtain ⟨L, hL⟩ : ∃ L, y.length = L := ⟨_, rfl⟩
        rw [hL] at hx1 hx2 hx3 hx4 hc6'
        have hXX : (X != X) = false := by simp
        have hZZ : (Z != Z) = false := by simp
        have hXX2 : (X2 != X2) = false := by simp
        have hZZ2 : (Z2 != Z2) = false := by simp
        replace hx1 := Lib.hid hx1
        replace hx2 := Lib.hid hx2
        replace hx3 := Lib.hid hx3
        replace hx4 := Lib.hid hx4
        replace hres := Lib.hid hres
        replace hres2 := Lib.hid hres2
        clear hr6' hA6 hl6 hm6 hL
        go_wp2_with fail
        refine (hx1.out _ (Below.refl _ _)).mono ?_
        rintro e w7 hr7
        obtain ⟨A1, d1, rfl, hv7, hb7⟩ := hres.out _ _ _ hr7
        clear hr7 hx1
        dsimp only
        have hb7w := hb7.alloc hb7.size (.cells #[.int .u32 (c1 : Int), .int .u32 (s1 : Int), .int .u16 (n1 : Int), .string g1, .string m1, .slice A1 K1 d1] 29)
        have hB7 := Blk.new w7 29 #[.int .u32 (c1 : Int), .int .u32 (s1 : Int), .int .u16 (n1 : Int), .string g1, .string m1, .slice A1 K1 d1]
        have hO7 := (hv7.below ((Below.refl w7.heap.size w7).alloc (Nat.le_refl _) (.cells #[.int .u32 (c1 : Int), .int .u32 (s1 : Int), .int .u16 (n1 : Int), .string g1, .string m1, .slice A1 K1 d1] 29))).up (show w7.heap.size ≤ (w7.alloc (.cells #[.int .u32 (c1 : Int), .int .u32 (s1 : Int), .int .u16 (n1 : Int), .string g1, .string m1, .slice A1 K1 d1] 29)).heap.size by simp)
        go_wp2_with fail
        generalize hw8 : w7.alloc (.cells #[.int .u32 (c1 : Int), .int .u32 (s1 : Int), .int .u16 (n1 : Int), .string g1, .string m1, .slice A1 K1 d1] 29) = w8 at *
        obtain ⟨p7, hp7⟩ : ∃ p7, w7.heap.size = p7 := ⟨_, rfl⟩
        rw [hp7] at hB7 ⊢
        clear hw8 hv7 hb7
        replace hp7 := Lib.hid hp7
        refine (hx2.out _ hb7w).mono ?_
        rintro e w9 hr9
        obtain ⟨A2, d2, rfl, hv9, hb9⟩ := hres.out _ _ _ hr9
        clear hr9 hx2
        dsimp only
        have hb9' := below_then hb9 hb7w
        have hb9w := hb9'.alloc hb9'.size (.cells #[.int .u32 (c1 : Int), .int .u32 (s1 : Int), .int .u16 (n1 : Int), .string g1, .string m1, .slice A2 K1 d2] 29)
        have hB7' := (hB7.below hb9 hB7.lt).alloc (.cells #[.int .u32 (c1 : Int), .int .u32 (s1 : Int), .int .u16 (n1 : Int), .string g1, .string m1, .slice A2 K1 d2] 29)
        have hO7' := ((hO7.below hb9).up hb9.size).below ((Below.refl w9.heap.size w9).alloc (Nat.le_refl _) (.cells #[.int .u32 (c1 : Int), .int .u32 (s1 : Int), .int .u16 (n1 : Int), .string g1, .string m1, .slice A2 K1 d2] 29))
        have hB9 := Blk.new w9 29 #[.int .u32 (c1 : Int), .int .u32 (s1 : Int), .int .u16 (n1 : Int), .string g1, .string m1, .slice A2 K1 d2]
        have hO9 := hv9.below ((Below.refl w9.heap.size w9).alloc (Nat.le_refl _) (.cells #[.int .u32 (c1 : Int), .int .u32 (s1 : Int), .int .u16 (n1 : Int), .string g1, .string m1, .slice A2 K1 d2] 29))
        have hsm := op_same0 hO7' hO9 (w9.alloc (.cells #[.int .u32 (c1 : Int), .int .u32 (s1 : Int), .int .u16 (n1 : Int), .string g1, .string m1, .slice A2 K1 d2] 29)) (Below.refl _ _) (by simp)
        have hc7 := hB7'.op6
        have hc9 := hB9.op6
        clear hO7 hB7 hb7w hv9 hb9 hb9' hO7' hO9 hB9 hB7'
        go_wp2_with fail
        refine hsm.mono ?_
        clear hsm
        rintro e w10 ⟨rfl, hb10⟩
        dsimp only
        have hb10w := below_then hb10 hb9w
        clear hc7 hc9 hb10 hb9w
        go_wp2_with fail
        refine (hx3.out _ hb10w).mono ?_
        rintro e w11 hr11
        obtain ⟨k1, i1, f1, s1', A1, n1', d1, rfl, hv11, hb11⟩ := hres2.out _ _ _ hr11
        clear hr11 hx3
        dsimp only
        have hb11' := below_then hb11 hb10w
        have hb11w := hb11'.alloc hb11'.size (.cells #[.int .u32 c2, .int .u32 s2, .int .u16 n2, .int .i64 er2, .int .i64 k1, .int .i64 i1, .float .f64 f1, .string s1', .slice A1 n1' d1] 45)
        have hB11 := Blk.new w11 45 #[.int .u32 c2, .int .u32 s2, .int .u16 n2, .int .i64 er2, .int .i64 k1, .int .i64 i1, .float .f64 f1, .string s1', .slice A1 n1' d1]
        have hO11 := (hv11.under ((Below.refl w11.heap.size w11).alloc (Nat.le_refl _) (.cells #[.int .u32 c2, .int .u32 s2, .int .u16 n2, .int .i64 er2, .int .i64 k1, .int .i64 i1, .float .f64 f1, .string s1', .slice A1 n1' d1] 45))).up (show w11.heap.size ≤ (w11.alloc (.cells #[.int .u32 c2, .int .u32 s2, .int .u16 n2, .int .i64 er2, .int .i64 k1, .int .i64 i1, .float .f64 f1, .string s1', .slice A1 n1' d1] 45)).heap.size by simp)
        go_wp2_with fail
        generalize hw12 : w11.alloc (.cells #[.int .u32 c2, .int .u32 s2, .int .u16 n2, .int .i64 er2, .int .i64 k1, .int .i64 i1, .float .f64 f1, .string s1', .slice A1 n1' d1] 45) = w12 at *
        obtain ⟨p11, hp11⟩ : ∃ p11, w11.heap.size = p11 := ⟨_, rfl⟩
        rw [hp11] at hB11 ⊢
        clear hw12 hv11 hb11 hb11'
        replace hp11 := Lib.hid hp11
        refine (hx4.out _ hb11w).mono ?_
        rintro e w13 hr13
        obtain ⟨k2, i2, f2, s2', A2, n2', d2, rfl, hv13, hb13⟩ := hres2.out _ _ _ hr13
        clear hr13 hx4
        dsimp only
        have hb13' := below_then hb13 hb11w
        have hb13w := hb13'.alloc hb13'.size (.cells #[.int .u32 c2, .int .u32 s2, .int .u16 n2, .int .i64 er2, .int .i64 k2, .int .i64 i2, .float .f64 f2, .string s2', .slice A2 n2' d2] 45)
        have hB11' := (hB11.below hb13 hB11.lt).alloc (.cells #[.int .u32 c2, .int .u32 s2, .int .u16 n2, .int .i64 er2, .int .i64 k2, .int .i64 i2, .float .f64 f2, .string s2', .slice A2 n2' d2] 45)
        have hO11' := ((hO11.under hb13).up hb13.size).under ((Below.refl w13.heap.size w13).alloc (Nat.le_refl _) (.cells #[.int .u32 c2, .int .u32 s2, .int .u16 n2, .int .i64 er2, .int .i64 k2, .int .i64 i2, .float .f64 f2, .string s2', .slice A2 n2' d2] 45))
        have hB13 := Blk.new w13 45 #[.int .u32 c2, .int .u32 s2, .int .u16 n2, .int .i64 er2, .int .i64 k2, .int .i64 i2, .float .f64 f2, .string s2', .slice A2 n2' d2]
        have hO13 := hv13.under ((Below.refl w13.heap.size w13).alloc (Nat.le_refl _) (.cells #[.int .u32 c2, .int .u32 s2, .int .u16 n2, .int .i64 er2, .int .i64 k2, .int .i64 i2, .float .f64 f2, .string s2', .slice A2 n2' d2] 45))
        have hsm := rep_same (c := c2) (s := s2) (n := n2) (er := er2) hO11' hO13 (by simp)
        have hc11 := hB11'.cells9
        have hc13 := hB13.cells9
        clear hO11 hB11 hb11w hv13 hb13 hb13' hO11' hO13 hB13 hB11'
        go_wp2_with fail
        refine hsm.mono ?_
        clear hsm
        rintro e w14 ⟨rfl, hb14⟩
        dsimp only
        have hb14w := below_then hb14 hb13w
        have hb15 := hbr.trans (hb14w.mono hbr.size)
        clear hc11 hc13 hb14 hb13w hb14w
        go_wp2_with fail
        go_roundw
        case rel => exact ⟨k0 + 1, by omega, by simp, hb15⟩
        case measure => simp [intOf]; omega
      · have hk' : k0 = 2 := by omega
        subst hk'
        go_wp2_with fail
        go_ret
        exact ⟨rfl, below_then hbr hb5⟩
end Go.Proofs.Ytblakaddanoilaa
