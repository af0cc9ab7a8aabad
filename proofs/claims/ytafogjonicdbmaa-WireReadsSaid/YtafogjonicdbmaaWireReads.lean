/- WireReads' walk. -/
import Derived.Test.YtafogjonicdbmaaWireBack
namespace Go.Proofs.Ytafogjonicdbmaa
open Go.RowKit
open Go.ChangeShapes Go.WideShapes Go.ChangeAt

theorem open_raw {H : Type} {enc : TypeId × Value → H} {W : World} {r : Reach} {base : Nat} {v : Value} {d : DataW H} {p : List MemPlace} (hval : Value.okWide Try.prog W r base 22 v) (h : DataW.Trod enc Try.prog W 0 (fun _ => true) true 22 v d p) {ts : List TypeId} {ds : List (DataW H)} {j : Nat}
    (hsz : (DataW.weightsEach Try.prog ts ds).all (· ≤ reachBytes) = true) (hj : ts[j]? = some 22) (hd : ds[j]? = some d) :
    ∃ (a : Option Addr) (cap : Nat) (bs : List UInt8), v = .slice a bs.length cap ∧ Reads W W.heap.size 1 a bs.length (bys bs) ∧ bs.length ≤ cap ∧ cap ≤ 140737488351232 ∧ (a = none → cap = 0) := by
  obtain ⟨a, cap, bs, rfl, hr, hl, hb⟩ := open_bytes Try.underlying22 Try.underlying5 (by kernel_rfl) (by kernel_rfl) hval h hsz hj hd
  refine ⟨a, cap, bs, rfl, hr, hl, hb, fun h0 => ?_⟩
  obtain ⟨fuel, hf⟩ := h
  rcases open_ints Try.underlying22 Try.underlying5 (by kernel_rfl) hf with ⟨hcs, _⟩ | ⟨x, l, c, zs, hcs, _⟩
  · simp [Value.cells] at hcs
    exact hcs.2.2
  · simp [Value.cells] at hcs
    rw [h0] at hcs
    cases hcs.1

/-- What a reading tells, found or not, in one. -/
theorem RdRes.one (o : Option (Val × Nat)) : ∃ (V : Val) (Z X : Int), ∀ w e w', RdRes w o e w' → ∃ cs, e = .returned (.tuple #[.agg cs, .int .i64 Z, .int .i64 X]) ∧ VOwn w' (fun g => w.heap.size ≤ g) V cs ∧ Below w.heap.size w w' := by
  cases o with
  | none => exact ⟨.mk 0 0 0 [] [], 0, 20, fun w e w' h => ⟨_, h.1, VOwn.flat _ _ 0 0 0 [], h.2⟩⟩
  | some x => exact ⟨x.1, x.2, 0, fun w e w' h => h⟩

theorem two_raws {w4 : World} {q : Nat} (hq : w4.heap.size = q) (D E : Option Addr) (c d : Nat) (a b : List UInt8) (ha : Reads w4 q 1 D a.length (bys a)) (hb : Reads w4 q 1 E b.length (bys b)) (hca : a.length ≤ c) (hcb : b.length ≤ d) (hla : a.length ≤ 4096) (hlb : b.length ≤ 4096) (h0 : D = none → c = 0) (h1 : E = none → d = 0) (k : Nat) (hk : k < 2) :
    ∃ A' y c', (w4.alloc (.cells #[.slice D a.length c, .slice E b.length d] 22)).cell? ⟨q, k, none⟩ = some (.slice A' y.length c') ∧ Reads (w4.alloc (.cells #[.slice D a.length c, .slice E b.length d] 22)) q 1 A' y.length (bys y) ∧ y.length ≤ c' ∧ y.length ≤ 4096 ∧ (A' = none → c' = 0) := by
  subst hq
  have hn := (Blk.new w4 22 #[.slice D a.length c, .slice E b.length d]).cell k
  rcases (show k = 0 ∨ k = 1 by omega) with rfl | rfl
  · exact ⟨D, a, c, hn, ha.alloc (Nat.le_refl _) _, hca, hla, h0⟩
  · exact ⟨E, b, d, hn, hb.alloc (Nat.le_refl _) _, hcb, hlb, h1⟩

set_option maxHeartbeats 12800000 in
set_option maxRecDepth 100000 in
theorem wireReads_walk (D : Option Addr) (cd : Nat) (raw : List UInt8) (v : Val) (cs : Array Value) (at_ x : Int) (cut : Bool) (w : World) (ha0 : 0 ≤ at_) (ha1 : at_ ≤ 65535) (hx0 : 0 ≤ x) (hx1 : x ≤ 255) (hv : VReads w w.heap.size v cs) (hok : OkV v)
    (h : Reads w w.heap.size 1 D raw.length (bys raw)) (hc : raw.length ≤ cd) (hl : raw.length ≤ 140737488351232) (hD : D = none → cd = 0) :
    Calls Try.prog 4 #[.slice D raw.length cd, .agg cs, .int .u16 at_, .int .u8 x, .bool cut] w (SaysTrue w) := by
  have hsf := fun a k x m w => run_store_float (P := Try.prog) a k x m w
  obtain ⟨k, i, f, s, A, n, c, hform⟩ := hv.form
  have hS := SV.alloc w (Below.refl _ _) k i f s A n c
  have hb0 := (Below.refl w.heap.size w).alloc (Nat.le_refl _) (.cells #[.int .i64 k, .int .i64 i, .float .f64 f, .string s, .slice A n c] 26)
  subst hform
  obtain ⟨B, hB⟩ : ∃ B, w.heap.size = B := ⟨_, rfl⟩
  rw [hB] at hv h
  replace hB := Lib.hid hB
  replace hS := Lib.hid hS
  replace hb0 := Lib.hid hb0
  replace h := Lib.hid h
  replace hok := Lib.hid hok
  replace hD := Lib.hid hD
  go_enter Try.func4, Try.ntmps4
  go_wp2_with fail
  refine (known_true _).mono ?_
  rintro e w1 ⟨rfl, hb1'⟩
  dsimp only
  have hb1 := below_then hb1' hb0.out
  have hS1 := hS.out.below hb1'
  clear hb1'
  by_cases h300 : 300 < raw.length
  · go_wp2_with fail
    go_ret
    exact ⟨rfl, hb1⟩
  obtain ⟨e0, e1, e2, e3, e4, e5, e6⟩ := id hS1
  go_wp2_with fail
  refine (light_any hv w1 (by rw [← hB.out]; exact hb1) (by rw [← hB.out]; exact hb1.size)).mono ?_
  rintro e w2 ⟨lq, rfl, hb2'⟩
  dsimp only
  have hb2 := below_then hb2' hb1
  have hS2 := hS1.below hb2'
  clear e0 e1 e2 e3 e4 e5 e6 hS1 hb2' hb1
  cases lq
  · go_wp2_with fail
    go_ret
    exact ⟨rfl, hb2⟩
  obtain ⟨e0, e1, e2, e3, e4, e5, e6⟩ := id hS2
  have hB2 : B ≤ w2.heap.size := by rw [← hB.out]; exact hb2.size
  have hbB : Below B w w2 := by rw [← hB.out]; exact hb2
  have hr2 := h.out.below hbB
  have hfin : ∀ (w5 w6 : World), Below w.heap.size w w5 → Below w5.heap.size w5 w6 → Below w.heap.size w w6 := fun w5 w6 h1 h2 => below_then h2 h1
  by_cases hck : checkV v = 0
  · have hput := ref_put_ok (row := none) (A := none) (c := 0) (bs := []) hv hok.out hck hbB hB2 (Grows.own Own.none_) (by simp) (by simp)
    obtain ⟨r, hr⟩ : ∃ r, encV v = r := ⟨_, rfl⟩
    rw [List.nil_append, hr] at hput
    obtain ⟨-, -, hz⟩ := checkV_zero hck
    have hrl : r.length ≤ 4096 := by rw [← hr, encV_len]; exact hz
    have hr0 : 0 < r.length := by rw [← hr, encV_len]; exact sizeV_pos v
    clear hr
    have hput' : Calls Try.prog 12 #[.slice none 0 0, .agg #[.int .i64 k, .int .i64 i, .float .f64 f, .string s, .slice A n c]] w2 (PutRowOk w2 none r) := hput
    clear hput
    go_wp2_with fail
    refine hput'.mono ?_
    clear hput'
    rintro e w3 ⟨A3, c3, rfl, ho3, hu3, hf3⟩
    dsimp only
    have hb3' : Below w2.heap.size w2 w3 := hu3.below (Nat.le_refl _) (fun k hk e => by cases e)
    have hb3 := below_then hb3' hb2
    have hcle := ho3.le_cap
    obtain ⟨g, cur, rfl, hblk, hcur, hset⟩ := ho3.open_ (by omega)
    have hgw : w2.heap.size ≤ g := by rcases hf3 with e | e; (cases e); exact e g rfl
    obtain ⟨j, hj', hjj⟩ : ∃ j : Nat, at_ % (r.length : Int) = (j : Int) ∧ j < r.length := by
      have h1 := Int.emod_nonneg at_ (show (r.length : Int) ≠ 0 by omega)
      have h2 := Int.emod_lt_of_pos at_ (show (0 : Int) < (r.length : Int) by omega)
      exact ⟨(at_ % (r.length : Int)).toNat, by omega, by omega⟩
    have hcell := hblk.cell j
    rw [hcur j hjj] at hcell
    simp only [bys, byv, List.getElem?_map, List.getElem?_eq_getElem hjj, Option.map_some] at hcell
    have hfz := hblk.frozen j
    obtain ⟨b', hbv⟩ := byte_xor r[j] x (by omega) (by omega)
    have ho4 := hset j (byv b') hjj
    rw [bys_set] at ho4
    have hdl : (r.set j b').length = r.length := by simp
    obtain ⟨d, hd⟩ : ∃ d, r.set j b' = d := ⟨_, rfl⟩
    rw [hd] at ho4 hdl
    have hb4 : Below w.heap.size w (w3.setCell ⟨g, j, none⟩ (byv b')) := hb3.setCell (by show w.heap.size ≤ g; have := hb2.size; omega) _
    have hr4 := ho4.reads_
    rw [← hdl] at hr4
    obtain ⟨q, hq⟩ : ∃ q, w3.heap.size = q := ⟨_, rfl⟩
    have hq4 : (w3.setCell ⟨g, j, none⟩ (byv b')).heap.size = q := by simp [hq]
    have har4 : Reads (w3.setCell ⟨g, j, none⟩ (byv b')) q 1 D raw.length (bys raw) := ((hr2.below (hb3'.mono hB2)).setCell (p := ⟨g, j, none⟩) (by show B ≤ g; omega) (byv b')).more (by have := hb3'.size; omega)
    replace hdl := Lib.hid hdl
    have hqh := Lib.hid hq
    clear hset hcur hblk e0 e1 e2 e3 e4 e5 e6 hu3 hf3 hb3'
    rw [show (w3.setCell ⟨g, j, none⟩ (byv b')).heap.size = w3.heap.size from by simp, hq] at hr4
    cases cut
    · have F := two_raws hq4 D (some ⟨g, 0, none⟩) cd c3 raw d har4 hr4 hc (by rw [hdl.out]; exact hcle) (by omega) (by rw [hdl.out]; omega) hD.out (by simp)
      rw [hdl.out] at F
      have hb5 := hb4.alloc hb4.size (.cells #[.slice D raw.length cd, .slice (some ⟨g, 0, none⟩) r.length c3] 22)
      have hs5 : ((w3.setCell ⟨g, j, none⟩ (byv b')).alloc (.cells #[.slice D raw.length cd, .slice (some ⟨g, 0, none⟩) r.length c3] 22)).heap.size = q + 1 := by simp [hq]
      clear hd hq hq4 ho4 hr4 har4 hb4
      go_wp2_with fail
      rw [hqh.out]
      change Code.wp _ _ _ _ ((w3.setCell ⟨g, j, none⟩ (byv b')).alloc (.cells #[.slice D raw.length cd, .slice (some ⟨g, 0, none⟩) r.length c3] 22))
      generalize (w3.setCell ⟨g, j, none⟩ (byv b')).alloc (.cells #[.slice D raw.length cd, .slice (some ⟨g, 0, none⟩) r.length c3] 22) = w5 at F hb5 hs5 ⊢
      clear hcell hfz
      go_loopw [60] (fun i wr => ∃ k : Nat, k ≤ 2 ∧ i = .int .i64 k ∧ Below w5.heap.size w5 wr) (fun i _ => 2 - (intOf i).toNat)
      case atStart => exact ⟨0, by omega, rfl, Below.refl _ _⟩
      case round =>
        rename_i hrel
        obtain ⟨k0, hk2, rfl, hbr⟩ := hrel
        by_cases hk : k0 < 2
        · obtain ⟨A6, y, c6, hc6, hr6, hl6, hm6, hA6⟩ := F k0 hk
          have hc6' := (hbr.cell (p := ⟨q, k0, none⟩) (by show q < _; omega)).trans hc6
          have hr6' : Reads wr wr.heap.size 1 A6 y.length (bys y) := (hr6.below (hbr.mono (by omega))).more (by have := hbr.size; omega)
          clear hc6 hr6
          obtain ⟨o, ho⟩ : ∃ o, pv 8 y = o := ⟨_, rfl⟩
          have hsz : ∀ v m, o = some (v, m) → m ≤ 4096 := fun v m e => Nat.le_trans (pv_le _ _ _ _ (ho.trans e)) hm6
          obtain ⟨V, Z, X, hres⟩ := RdRes.one o
          have hrd := wire_read_all hr6' hA6 hl6 (by omega) o ho hsz
          have hrd2 := fun w7 (hb : Below wr.heap.size wr w7) => ref_read_both ((hr6'.below hb).more hb.size) hl6 (by omega) o ho hsz
          have hXX : (X != X) = false := by simp
          have hZZ : (Z != Z) = false := by simp
          replace hrd2 := Lib.hid hrd2
          replace hres := Lib.hid hres
          clear ho hsz hr6' hA6 hl6 hm6
          go_wp2_with fail
          refine hrd.mono ?_
          clear hrd
          rintro e w7 hr7
          obtain ⟨cs7, rfl, hv7, hb7⟩ := hres.out _ _ _ hr7
          clear hr7
          dsimp only
          obtain ⟨k7, i7, f7, s7, A7, n7, c7, hform⟩ := hv7.reads.form
          subst hform
          have hb7' := below_then hb7 hbr
          have hb77 := hb7.alloc hb7.size (.cells #[.int .i64 k7, .int .i64 i7, .float .f64 f7, .string s7, .slice A7 n7 c7] 26)
          have hbx7 := Blk.new w7 26 #[.int .i64 k7, .int .i64 i7, .float .f64 f7, .string s7, .slice A7 n7 c7]
          have hv77 := hv7.upd ((Upd.refl (fun _ => False) w7).alloc (.cells #[.int .i64 k7, .int .i64 i7, .float .f64 f7, .string s7, .slice A7 n7 c7] 26)) (fun _ _ h => h)
          have hb777 := hb7'.alloc hb7'.size (.cells #[.int .i64 k7, .int .i64 i7, .float .f64 f7, .string s7, .slice A7 n7 c7] 26)
          have hrd3 := hrd2.out _ hb77
          go_wp2_with fail
          refine hrd3.mono ?_
          clear hrd3 hrd2
          rintro e w8 hr8
          obtain ⟨cs8, rfl, hv8, hb8⟩ := hres.out _ _ _ hr8
          clear hr8
          dsimp only
          obtain ⟨k8, i8, f8, s8, A8, n8, c8, hform⟩ := hv8.reads.form
          subst hform
          have hb8' := below_then hb8 hb777
          have hbx7' := (hbx7.below hb8 hbx7.lt).alloc (.cells #[.int .i64 k8, .int .i64 i8, .float .f64 f8, .string s8, .slice A8 n8 c8] 26)
          have hbx8 := Blk.new w8 26 #[.int .i64 k8, .int .i64 i8, .float .f64 f8, .string s8, .slice A8 n8 c8]
          have hva := (hv77.upd (Upd.of_below_size (S := fun _ => False) hb8) (fun _ _ h => h)).upd ((Upd.refl (fun _ => False) w8).alloc (.cells #[.int .i64 k8, .int .i64 i8, .float .f64 f8, .string s8, .slice A8 n8 c8] 26)) (fun _ _ h => h)
          have hvb := hv8.upd ((Upd.refl (fun _ => False) w8).alloc (.cells #[.int .i64 k8, .int .i64 i8, .float .f64 f8, .string s8, .slice A8 n8 c8] 26)) (fun _ _ h => h)
          have hb9 := hb8'.alloc hb8'.size (.cells #[.int .i64 k8, .int .i64 i8, .float .f64 f8, .string s8, .slice A8 n8 c8] 26)
          have hsm := same_true hva.reads #[.int .i64 k8, .int .i64 i8, .float .f64 f8, .string s8, .slice A8 n8 c8] _ hvb.reads (Below.refl _ _) (Nat.le_refl _)
          have p0 := hbx7'.cell 0
          have p1 := hbx7'.cell 1
          have p2 := hbx7'.cell 2
          have p3 := hbx7'.cell 3
          have p4 := hbx7'.cell 4
          have q0 := hbx8.cell 0
          have q1 := hbx8.cell 1
          have q2 := hbx8.cell 2
          have q3 := hbx8.cell 3
          have q4 := hbx8.cell 4
          clear hva hvb hbx7' hbx7 hbx8 hv77 hv7 hv8 hb77 hb777 hb8 hb8' hb7 hb7'
          go_wp2_with fail
          refine hsm.mono ?_
          clear hsm
          rintro e w9 ⟨rfl, hb10⟩
          dsimp only
          have hb11 := below_then hb10 hb9
          clear p0 p1 p2 p3 p4 q0 q1 q2 q3 q4 hb9 hb10
          go_wp2_with fail
          go_roundw
          case rel => exact ⟨k0 + 1, by omega, by simp, by assumption⟩
          case measure => simp [intOf]; omega
        · have hk' : k0 = 2 := by omega
          subst hk'
          go_wp2_with fail
          go_ret
          exact ⟨rfl, hfin _ _ hb5 (by assumption)⟩
    · obtain ⟨z, hzt⟩ : ∃ z, d.take j = z := ⟨_, rfl⟩
      have hzl : z.length = j := by rw [← hzt, List.length_take, hdl.out]; omega
      have hr4' : Reads (w3.setCell ⟨g, j, none⟩ (byv b')) q 1 (some ⟨g, 0, none⟩) z.length (bys z) := by
        have := hr4.first (k := j) (by rw [hdl.out]; omega)
        rw [Nat.mul_one, bys_take, hzt] at this
        rw [hzl]
        exact this
      have F := two_raws hq4 D (some ⟨g, 0, none⟩) cd c3 raw z har4 hr4' hc (by rw [hzl]; omega) (by omega) (by rw [hzl]; omega) hD.out (by simp)
      rw [hzl] at F
      have hb5 := hb4.alloc hb4.size (.cells #[.slice D raw.length cd, .slice (some ⟨g, 0, none⟩) j c3] 22)
      have hs5 : ((w3.setCell ⟨g, j, none⟩ (byv b')).alloc (.cells #[.slice D raw.length cd, .slice (some ⟨g, 0, none⟩) j c3] 22)).heap.size = q + 1 := by simp [hq]
      clear hd hq hq4 ho4 hr4 har4 hb4 hzt hzl hr4'
      go_wp2_with fail
      rw [hqh.out]
      change Code.wp _ _ _ _ ((w3.setCell ⟨g, j, none⟩ (byv b')).alloc (.cells #[.slice D raw.length cd, .slice (some ⟨g, 0, none⟩) j c3] 22))
      generalize (w3.setCell ⟨g, j, none⟩ (byv b')).alloc (.cells #[.slice D raw.length cd, .slice (some ⟨g, 0, none⟩) j c3] 22) = w5 at F hb5 hs5 ⊢
      clear hcell hfz
      go_loopw [60] (fun i wr => ∃ k : Nat, k ≤ 2 ∧ i = .int .i64 k ∧ Below w5.heap.size w5 wr) (fun i _ => 2 - (intOf i).toNat)
      case atStart => exact ⟨0, by omega, rfl, Below.refl _ _⟩
      case round =>
        rename_i hrel
        obtain ⟨k0, hk2, rfl, hbr⟩ := hrel
        by_cases hk : k0 < 2
        · obtain ⟨A6, y, c6, hc6, hr6, hl6, hm6, hA6⟩ := F k0 hk
          have hc6' := (hbr.cell (p := ⟨q, k0, none⟩) (by show q < _; omega)).trans hc6
          have hr6' : Reads wr wr.heap.size 1 A6 y.length (bys y) := (hr6.below (hbr.mono (by omega))).more (by have := hbr.size; omega)
          clear hc6 hr6
          obtain ⟨o, ho⟩ : ∃ o, pv 8 y = o := ⟨_, rfl⟩
          have hsz : ∀ v m, o = some (v, m) → m ≤ 4096 := fun v m e => Nat.le_trans (pv_le _ _ _ _ (ho.trans e)) hm6
          obtain ⟨V, Z, X, hres⟩ := RdRes.one o
          have hrd := wire_read_all hr6' hA6 hl6 (by omega) o ho hsz
          have hrd2 := fun w7 (hb : Below wr.heap.size wr w7) => ref_read_both ((hr6'.below hb).more hb.size) hl6 (by omega) o ho hsz
          have hXX : (X != X) = false := by simp
          have hZZ : (Z != Z) = false := by simp
          replace hrd2 := Lib.hid hrd2
          replace hres := Lib.hid hres
          clear ho hsz hr6' hA6 hl6 hm6
          go_wp2_with fail
          refine hrd.mono ?_
          clear hrd
          rintro e w7 hr7
          obtain ⟨cs7, rfl, hv7, hb7⟩ := hres.out _ _ _ hr7
          clear hr7
          dsimp only
          obtain ⟨k7, i7, f7, s7, A7, n7, c7, hform⟩ := hv7.reads.form
          subst hform
          have hb7' := below_then hb7 hbr
          have hb77 := hb7.alloc hb7.size (.cells #[.int .i64 k7, .int .i64 i7, .float .f64 f7, .string s7, .slice A7 n7 c7] 26)
          have hbx7 := Blk.new w7 26 #[.int .i64 k7, .int .i64 i7, .float .f64 f7, .string s7, .slice A7 n7 c7]
          have hv77 := hv7.upd ((Upd.refl (fun _ => False) w7).alloc (.cells #[.int .i64 k7, .int .i64 i7, .float .f64 f7, .string s7, .slice A7 n7 c7] 26)) (fun _ _ h => h)
          have hb777 := hb7'.alloc hb7'.size (.cells #[.int .i64 k7, .int .i64 i7, .float .f64 f7, .string s7, .slice A7 n7 c7] 26)
          have hrd3 := hrd2.out _ hb77
          go_wp2_with fail
          refine hrd3.mono ?_
          clear hrd3 hrd2
          rintro e w8 hr8
          obtain ⟨cs8, rfl, hv8, hb8⟩ := hres.out _ _ _ hr8
          clear hr8
          dsimp only
          obtain ⟨k8, i8, f8, s8, A8, n8, c8, hform⟩ := hv8.reads.form
          subst hform
          have hb8' := below_then hb8 hb777
          have hbx7' := (hbx7.below hb8 hbx7.lt).alloc (.cells #[.int .i64 k8, .int .i64 i8, .float .f64 f8, .string s8, .slice A8 n8 c8] 26)
          have hbx8 := Blk.new w8 26 #[.int .i64 k8, .int .i64 i8, .float .f64 f8, .string s8, .slice A8 n8 c8]
          have hva := (hv77.upd (Upd.of_below_size (S := fun _ => False) hb8) (fun _ _ h => h)).upd ((Upd.refl (fun _ => False) w8).alloc (.cells #[.int .i64 k8, .int .i64 i8, .float .f64 f8, .string s8, .slice A8 n8 c8] 26)) (fun _ _ h => h)
          have hvb := hv8.upd ((Upd.refl (fun _ => False) w8).alloc (.cells #[.int .i64 k8, .int .i64 i8, .float .f64 f8, .string s8, .slice A8 n8 c8] 26)) (fun _ _ h => h)
          have hb9 := hb8'.alloc hb8'.size (.cells #[.int .i64 k8, .int .i64 i8, .float .f64 f8, .string s8, .slice A8 n8 c8] 26)
          have hsm := same_true hva.reads #[.int .i64 k8, .int .i64 i8, .float .f64 f8, .string s8, .slice A8 n8 c8] _ hvb.reads (Below.refl _ _) (Nat.le_refl _)
          have p0 := hbx7'.cell 0
          have p1 := hbx7'.cell 1
          have p2 := hbx7'.cell 2
          have p3 := hbx7'.cell 3
          have p4 := hbx7'.cell 4
          have q0 := hbx8.cell 0
          have q1 := hbx8.cell 1
          have q2 := hbx8.cell 2
          have q3 := hbx8.cell 3
          have q4 := hbx8.cell 4
          clear hva hvb hbx7' hbx7 hbx8 hv77 hv7 hv8 hb77 hb777 hb8 hb8' hb7 hb7'
          go_wp2_with fail
          refine hsm.mono ?_
          clear hsm
          rintro e w9 ⟨rfl, hb10⟩
          dsimp only
          have hb11 := below_then hb10 hb9
          clear p0 p1 p2 p3 p4 q0 q1 q2 q3 q4 hb9 hb10
          go_wp2_with fail
          go_roundw
          case rel => exact ⟨k0 + 1, by omega, by simp, by assumption⟩
          case measure => simp [intOf]; omega
        · have hk' : k0 = 2 := by omega
          subst hk'
          go_wp2_with fail
          go_ret
          exact ⟨rfl, hfin _ _ hb5 (by assumption)⟩
  · have hput := ref_put_no (A := none) (m := 0) (c := 0) hv hck hbB hB2
    generalize checkV v = xx at *
    clear hck
    go_wp2_with fail
    refine hput.mono ?_
    clear hput
    rintro e w3 ⟨rfl, hb3'⟩
    dsimp only
    have hb3 := below_then hb3' hb2
    obtain ⟨q, hq⟩ : ∃ q, w3.heap.size = q := ⟨_, rfl⟩
    have har3 : Reads w3 q 1 D raw.length (bys raw) := (hr2.below (hb3'.mono hB2)).more (by have := hb3'.size; omega)
    have F := two_raws hq D none cd 0 raw [] har3 Reads.none_ hc (Nat.le_refl _) (by omega) (by simp) hD.out (fun _ => rfl)
    have hb5 := hb3.alloc hb3.size (.cells #[.slice D raw.length cd, .slice none 0 0] 22)
    have hs5 : (w3.alloc (.cells #[.slice D raw.length cd, .slice none 0 0] 22)).heap.size = q + 1 := by simp [hq]
    have hqh := Lib.hid hq
    clear hq har3 e0 e1 e2 e3 e4 e5 e6 hb3'
    go_wp2_with fail
    rw [hqh.out]
    change Code.wp _ _ _ _ (w3.alloc (.cells #[.slice D raw.length cd, .slice none 0 0] 22))
    replace F : ∀ k, k < 2 → ∃ A' y c', (w3.alloc (.cells #[.slice D raw.length cd, .slice none 0 0] 22)).cell? ⟨q, k, none⟩ = some (.slice A' y.length c') ∧ Reads (w3.alloc (.cells #[.slice D raw.length cd, .slice none 0 0] 22)) q 1 A' y.length (bys y) ∧ y.length ≤ c' ∧ y.length ≤ 4096 ∧ (A' = none → c' = 0) := F
    generalize w3.alloc (.cells #[.slice D raw.length cd, .slice none 0 0] 22) = w5 at F hb5 hs5 ⊢
    go_loopw [60] (fun i wr => ∃ k : Nat, k ≤ 2 ∧ i = .int .i64 k ∧ Below w5.heap.size w5 wr) (fun i _ => 2 - (intOf i).toNat)
    case atStart => exact ⟨0, by omega, rfl, Below.refl _ _⟩
    case round =>
      rename_i hrel
      obtain ⟨k0, hk2, rfl, hbr⟩ := hrel
      by_cases hk : k0 < 2
      · obtain ⟨A6, y, c6, hc6, hr6, hl6, hm6, hA6⟩ := F k0 hk
        have hc6' := (hbr.cell (p := ⟨q, k0, none⟩) (by show q < _; omega)).trans hc6
        have hr6' : Reads wr wr.heap.size 1 A6 y.length (bys y) := (hr6.below (hbr.mono (by omega))).more (by have := hbr.size; omega)
        clear hc6 hr6
        obtain ⟨o, ho⟩ : ∃ o, pv 8 y = o := ⟨_, rfl⟩
        have hsz : ∀ v m, o = some (v, m) → m ≤ 4096 := fun v m e => Nat.le_trans (pv_le _ _ _ _ (ho.trans e)) hm6
        obtain ⟨V, Z, X, hres⟩ := RdRes.one o
        have hrd := wire_read_all hr6' hA6 hl6 (by omega) o ho hsz
        have hrd2 := fun w7 (hb : Below wr.heap.size wr w7) => ref_read_both ((hr6'.below hb).more hb.size) hl6 (by omega) o ho hsz
        have hXX : (X != X) = false := by simp
        have hZZ : (Z != Z) = false := by simp
        replace hrd2 := Lib.hid hrd2
        replace hres := Lib.hid hres
        clear ho hsz hr6' hA6 hl6 hm6
        go_wp2_with fail
        refine hrd.mono ?_
        clear hrd
        rintro e w7 hr7
        obtain ⟨cs7, rfl, hv7, hb7⟩ := hres.out _ _ _ hr7
        clear hr7
        dsimp only
        obtain ⟨k7, i7, f7, s7, A7, n7, c7, hform⟩ := hv7.reads.form
        subst hform
        have hb7' := below_then hb7 hbr
        have hb77 := hb7.alloc hb7.size (.cells #[.int .i64 k7, .int .i64 i7, .float .f64 f7, .string s7, .slice A7 n7 c7] 26)
        have hbx7 := Blk.new w7 26 #[.int .i64 k7, .int .i64 i7, .float .f64 f7, .string s7, .slice A7 n7 c7]
        have hv77 := hv7.upd ((Upd.refl (fun _ => False) w7).alloc (.cells #[.int .i64 k7, .int .i64 i7, .float .f64 f7, .string s7, .slice A7 n7 c7] 26)) (fun _ _ h => h)
        have hb777 := hb7'.alloc hb7'.size (.cells #[.int .i64 k7, .int .i64 i7, .float .f64 f7, .string s7, .slice A7 n7 c7] 26)
        have hrd3 := hrd2.out _ hb77
        go_wp2_with fail
        refine hrd3.mono ?_
        clear hrd3 hrd2
        rintro e w8 hr8
        obtain ⟨cs8, rfl, hv8, hb8⟩ := hres.out _ _ _ hr8
        clear hr8
        dsimp only
        obtain ⟨k8, i8, f8, s8, A8, n8, c8, hform⟩ := hv8.reads.form
        subst hform
        have hb8' := below_then hb8 hb777
        have hbx7' := (hbx7.below hb8 hbx7.lt).alloc (.cells #[.int .i64 k8, .int .i64 i8, .float .f64 f8, .string s8, .slice A8 n8 c8] 26)
        have hbx8 := Blk.new w8 26 #[.int .i64 k8, .int .i64 i8, .float .f64 f8, .string s8, .slice A8 n8 c8]
        have hva := (hv77.upd (Upd.of_below_size (S := fun _ => False) hb8) (fun _ _ h => h)).upd ((Upd.refl (fun _ => False) w8).alloc (.cells #[.int .i64 k8, .int .i64 i8, .float .f64 f8, .string s8, .slice A8 n8 c8] 26)) (fun _ _ h => h)
        have hvb := hv8.upd ((Upd.refl (fun _ => False) w8).alloc (.cells #[.int .i64 k8, .int .i64 i8, .float .f64 f8, .string s8, .slice A8 n8 c8] 26)) (fun _ _ h => h)
        have hb9 := hb8'.alloc hb8'.size (.cells #[.int .i64 k8, .int .i64 i8, .float .f64 f8, .string s8, .slice A8 n8 c8] 26)
        have hsm := same_true hva.reads #[.int .i64 k8, .int .i64 i8, .float .f64 f8, .string s8, .slice A8 n8 c8] _ hvb.reads (Below.refl _ _) (Nat.le_refl _)
        have p0 := hbx7'.cell 0
        have p1 := hbx7'.cell 1
        have p2 := hbx7'.cell 2
        have p3 := hbx7'.cell 3
        have p4 := hbx7'.cell 4
        have q0 := hbx8.cell 0
        have q1 := hbx8.cell 1
        have q2 := hbx8.cell 2
        have q3 := hbx8.cell 3
        have q4 := hbx8.cell 4
        clear hva hvb hbx7' hbx7 hbx8 hv77 hv7 hv8 hb77 hb777 hb8 hb8' hb7 hb7'
        go_wp2_with fail
        refine hsm.mono ?_
        clear hsm
        rintro e w9 ⟨rfl, hb10⟩
        dsimp only
        have hb11 := below_then hb10 hb9
        clear p0 p1 p2 p3 p4 q0 q1 q2 q3 q4 hb9 hb10
        go_wp2_with fail
        go_roundw
        case rel => exact ⟨k0 + 1, by omega, by simp, by assumption⟩
        case measure => simp [intOf]; omega
      · have hk' : k0 = 2 := by omega
        subst hk'
        go_wp2_with fail
        go_ret
        exact ⟨rfl, hfin _ _ hb5 (by assumption)⟩
end Go.Proofs.Ytafogjonicdbmaa
