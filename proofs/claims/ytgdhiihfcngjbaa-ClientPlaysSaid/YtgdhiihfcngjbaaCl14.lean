/- The chapter's example. -/
import Derived.Test.YtgdhiihfcngjbaaCl13
set_option linter.unusedSimpArgs false
set_option linter.unusedVariables false
namespace Go.Proofs.Ytgdhiihfcngjbaa
open Go.RowKit
set_option maxRecDepth 100000

/-- A row of answers, cell by cell. -/
theorem RepsP.cells {w : World} {b : Nat} {A : Option Addr} {c : Nat} {rs : List RplD} {xs : List Value} {css : Nat → Array Value} (h : RepsP w b A c rs xs css) {j xc xs' xn f : Nat} {k i er : Int} {s : List UInt8} {l : List Val} (hj : rs[j]? = some ⟨xc, xs', xn, er, .mk k i f s l⟩) :
    ∃ gB Av cv, A = some ⟨gB, 0, none⟩ ∧ css j = #[.int .i64 k, .int .i64 i, .float .f64 f, .string (bstr s), .slice Av l.length cv] ∧
      w.cell? ⟨gB, j * 9, none⟩ = some (.int .u32 (xc : Int)) ∧ w.cell? ⟨gB, j * 9 + 1, none⟩ = some (.int .u32 (xs' : Int)) ∧ w.cell? ⟨gB, j * 9 + 2, none⟩ = some (.int .u16 (xn : Int)) ∧ w.cell? ⟨gB, j * 9 + 3, none⟩ = some (.int .i64 er) ∧ w.cell? ⟨gB, j * 9 + 4, none⟩ = some (.int .i64 k) ∧ w.cell? ⟨gB, j * 9 + 5, none⟩ = some (.int .i64 i) ∧ w.cell? ⟨gB, j * 9 + 6, none⟩ = some (.float .f64 f) ∧ w.cell? ⟨gB, j * 9 + 7, none⟩ = some (.string (bstr s)) ∧ w.cell? ⟨gB, j * 9 + 8, none⟩ = some (.slice Av l.length cv) := by
  have hjl := atLt hj
  obtain ⟨gB, cur, rfl, hcur, hle, htk, -⟩ := h.ho.open_s (by omega)
  have hv := h.hx j _ hj
  have hx := h.hxs j _ hj
  dsimp only at hv
  obtain ⟨Av, cv, hcs⟩ : ∃ Av cv, css j = #[.int .i64 k, .int .i64 i, .float .f64 f, .string (bstr s), .slice Av l.length cv] := by
    generalize css j = cs at hv
    cases hv with
    | mk css hn ho hP hx hxs => exact ⟨_, _, rfl⟩
  rw [hcs] at hx
  have hc : ∀ t v, t < 9 → ([Value.int .u32 (xc : Int), .int .u32 (xs' : Int), .int .u16 (xn : Int), .int .i64 er, .int .i64 k, .int .i64 i, .float .f64 f, .string (bstr s), .slice Av l.length cv] : List Value)[t]? = some v → w.cell? ⟨gB, j * 9 + t, none⟩ = some v := fun t v ht hv => by
    rw [hcur.cell]
    have h1 := window hx t ht
    rw [← htk, List.getElem?_take, if_pos (by omega)] at h1
    rw [show cur[j * 9 + t]? = cur.toList[j * 9 + t]? by simp, h1]
    exact hv
  exact ⟨gB, Av, cv, rfl, hcs, hc 0 _ (by decide) rfl, hc 1 _ (by decide) rfl, hc 2 _ (by decide) rfl, hc 3 _ (by decide) rfl, hc 4 _ (by decide) rfl, hc 5 _ (by decide) rfl, hc 6 _ (by decide) rfl, hc 7 _ (by decide) rfl, hc 8 _ (by decide) rfl⟩
def kOp : OpD := ⟨7, 1, 0, (⟨#[103]⟩ : ByteArray).toList, (⟨#[109]⟩ : ByteArray).toList, [.mk 1 1 0 [] []]⟩
theorem k1E : callE ⟨7, 0, [], []⟩ (⟨#[103]⟩ : ByteArray) (⟨#[109]⟩ : ByteArray) [.mk 1 1 0 [] []] = 0 := by decide +kernel
theorem k1D : callD ⟨7, 0, [], []⟩ (⟨#[103]⟩ : ByteArray) (⟨#[109]⟩ : ByteArray) [.mk 1 1 0 [] []] = ⟨7, 1, [⟨kOp, 0, true⟩], []⟩ := by unfold callD; rw [if_pos k1E]; rfl
theorem k1C : callC ⟨7, 0, [], []⟩ (⟨#[103]⟩ : ByteArray) (⟨#[109]⟩ : ByteArray) [.mk 1 1 0 [] []] = 7 := by unfold callC; rw [if_pos k1E]
theorem k1S : callS ⟨7, 0, [], []⟩ (⟨#[103]⟩ : ByteArray) (⟨#[109]⟩ : ByteArray) [.mk 1 1 0 [] []] = 1 := by unfold callS; rw [if_pos k1E]
theorem k2E : callE ⟨7, 1, [⟨kOp, 0, true⟩], []⟩ (⟨#[]⟩ : ByteArray) (⟨#[109]⟩ : ByteArray) [] = 31 := by
  unfold callE badC
  rw [if_pos (by rfl)]
theorem k2D : callD ⟨7, 1, [⟨kOp, 0, true⟩], []⟩ (⟨#[]⟩ : ByteArray) (⟨#[109]⟩ : ByteArray) [] = ⟨7, 1, [⟨kOp, 0, true⟩], []⟩ := by unfold callD; rw [k2E, if_neg (by decide)]
theorem k2C : callC ⟨7, 1, [⟨kOp, 0, true⟩], []⟩ (⟨#[]⟩ : ByteArray) (⟨#[109]⟩ : ByteArray) [] = 0 := by unfold callC; rw [k2E, if_neg (by decide)]
theorem k2S : callS ⟨7, 1, [⟨kOp, 0, true⟩], []⟩ (⟨#[]⟩ : ByteArray) (⟨#[109]⟩ : ByteArray) [] = 0 := by unfold callS; rw [k2E, if_neg (by decide)]
theorem k3 : recvD ⟨7, 1, [⟨kOp, 0, false⟩], []⟩ ⟨7, 1, 0, 42, cleanV zeroV⟩ = (⟨7, 1, [⟨kOp, 0, false⟩], []⟩, false) := rfl
theorem k4 : recvD ⟨7, 1, [⟨kOp, 0, false⟩], []⟩ ⟨7, 1, 0, 0, cleanV (.mk 1 2 0 [] [])⟩ = (⟨7, 1, [], [⟨7, 1, 0, 0, .mk 1 2 0 [] []⟩]⟩, true) := rfl

set_option maxHeartbeats 6400000 in
theorem known_true (w : World) : Calls Try.prog 6 #[] w (Says w (.bool true)) := by
  have hsf := fun a k x m w => run_store_float (P := Try.prog) a k x m w
  obtain ⟨G, hG⟩ : ∃ y, w.heap.size = y := ⟨_, rfl⟩
  go_enter Try.func6, Try.ntmps6
  go_wp2_with fail
  refine (cl_new w 7 3 (by decide)).mono ?_
  rintro e w1 ⟨rfl, hS1, hb1⟩
  rw [hG] at hS1 ⊢
  try dsimp only
  go_wp2_with fail
  refine (int_val w1 (i := 1) (by decide)).mono ?_
  rintro e w2 ⟨rfl, hv2, -, hb2⟩
  try dsimp only
  have hs1 := hb1.size
  have hs2 := hb2.size
  have hGw1 : G < w1.heap.size := hS1.ft G rfl
  have hbk2 := (Below.refl w2.heap.size w2).alloc (Nat.le_refl _) (.cells #[.int .i64 1, .int .i64 1, .float .f64 0, .string ⟨#[]⟩, .slice none 0 0] 37)
  have hrow := Blk.new w2 37 #[.int .i64 1, .int .i64 1, .float .f64 0, .string ⟨#[]⟩, .slice none 0 0]
  have hb02 := (below_then (hb2) hb1).alloc (by omega) (.cells #[.int .i64 1, .int .i64 1, .float .f64 0, .string ⟨#[]⟩, .slice none 0 0] 37)
  have hS2 := (hS1.below hb2).below hbk2
  obtain ⟨q, hq⟩ : ∃ y, w2.heap.size = y := ⟨_, rfl⟩
  rw [hq] at hrow
  have hs3 := hb02.size
  obtain ⟨w3, hw3⟩ : ∃ q, w2.alloc (.cells #[.int .i64 1, .int .i64 1, .float .f64 0, .string ⟨#[]⟩, .slice none 0 0] 37) = q := ⟨_, rfl⟩
  rw [hw3] at hrow hb02 hS2 hs3 hbk2
  have hc1 := cl_callS hS2 (held_int hrow (by decide) (fun y => y = G) (by omega) 7 1 0 1 (⟨#[103]⟩ : ByteArray) (⟨#[109]⟩ : ByteArray) (by decide) (by decide) (by decide)) (by decide) (by decide) (by decide) (by decide)
  rw [k1D, k1E, k1C, k1S] at hc1
  replace hc1 := Lib.hid hc1
  replace hS2 := Lib.hid hS2
  replace hrow := Lib.hid hrow
  go_wp2_with (rw [hw3])
  try rw [hq]
  refine hc1.out.mono ?_
  clear hc1
  rintro e w4 ⟨rfl, hC4⟩
  try dsimp only
  have hF1 : ∀ y, y = G → w.heap.size ≤ y ∧ ¬ False := fun y e => ⟨by omega, fun f => f⟩
  obtain ⟨F4, hS4, hF4, hb4, -⟩ := hC4.next (b := w.heap.size) (K := fun _ => False) (w0 := w) hF1 (fun _ hf => hf.elim) (by rw [hG] at hb02 ⊢; exact hb02) (by omega)
  have hbx := Blk.new w4 29 #[.int .u32 7, .int .u32 1, .int .u16 0]
  have hb5 := hb4.alloc hb4.size (.cells #[.int .u32 7, .int .u32 1, .int .u16 0] 29)
  have hS5 := hS4.below ((Below.refl w4.heap.size w4).alloc (Nat.le_refl _) (.cells #[.int .u32 7, .int .u32 1, .int .u16 0] 29))
  obtain ⟨bx, hbxe⟩ : ∃ y, w4.heap.size = y := ⟨_, rfl⟩
  have hbF : ∀ y, y = bx → ¬ F4 y := fun y e hf => by have := hS4.ft y hf; omega
  rw [hbxe] at hbx
  clear hS4
  obtain ⟨w5, hw5⟩ : ∃ q, q = w4.alloc (.cells #[.int .u32 7, .int .u32 1, .int .u16 0] 29) := ⟨_, rfl⟩
  rw [← hw5] at hbx hb5 hS5
  have hc2 := cl_callS hS5 (held_none w5 (fun y => y = G) 7 2 0 (⟨#[]⟩ : ByteArray) (⟨#[109]⟩ : ByteArray) (by decide) (by decide) (by decide)) (by decide) (by decide) (by decide) (by decide)
  rw [k2D, k2E, k2C, k2S, List.length_nil] at hc2
  replace hc2 := Lib.hid hc2
  replace hS5 := Lib.hid hS5
  go_wp2_with fail
  rw [← hw5]
  try rw [hbxe]
  refine hc2.out.mono ?_
  clear hc2
  rintro e w6 ⟨rfl, hC6⟩
  try dsimp only
  have hF5 : ∀ y, F4 y → w.heap.size ≤ y ∧ ¬ y = bx := fun y hy => ⟨(hF4 y hy).1, fun e => hbF y e hy⟩
  obtain ⟨F6, hS6, hF6, hb6, hu6⟩ := hC6.next (b := w.heap.size) (K := fun y => y = bx) (w0 := w) hF5 (fun y e => by rw [e]; exact hbx.lt) hb5 hb5.size
  have hbx6 := hbx.upd hu6 (fun h => h rfl)
  have hbx7 := hbx6.alloc (.cells #[.int .u32 0, .int .u32 0, .int .u16 0] 29)
  have hb7 := hb6.alloc hb6.size (.cells #[.int .u32 0, .int .u32 0, .int .u16 0] 29)
  have hS7 := hS6.below ((Below.refl w6.heap.size w6).alloc (Nat.le_refl _) (.cells #[.int .u32 0, .int .u32 0, .int .u16 0] 29))
  clear hbx hS5 hS6 hu6 hbx6
  obtain ⟨y6, hy6⟩ : ∃ y, w6.heap.size = y := ⟨_, rfl⟩
  obtain ⟨w7, hw7⟩ : ∃ q, q = w6.alloc (.cells #[.int .u32 0, .int .u32 0, .int .u16 0] 29) := ⟨_, rfl⟩
  rw [← hw7] at hbx7 hb7 hS7
  have hc3 := cl_outS hS7
  have hsz7 := hb7.size
  replace hc3 := Lib.hid hc3
  replace hS7 := Lib.hid hS7
  go_wp2_with fail
  rw [← hw7]
  try rw [hy6]
  refine hc3.out.mono ?_
  clear hc3
  rintro e w8 ⟨Ao, co, xo, cso, rfl, -, hC8⟩
  rw [show (outL ⟨7, 1, [⟨kOp, 0, true⟩], []⟩).length = 1 from rfl]
  rw [show outD ⟨7, 1, [⟨kOp, 0, true⟩], []⟩ = ⟨7, 1, [⟨kOp, 0, false⟩], []⟩ from rfl] at hC8
  try dsimp only
  obtain ⟨F8, hS8, hF8, hb8, hu8⟩ := hC8.next (b := w.heap.size) (K := fun y => y = bx) (w0 := w) hF6 (fun y e => by rw [e]; exact hbx7.lt) hb7 hsz7
  have hbx8 := hbx7.upd hu8 (fun h => h rfl)
  have p0 := hbx8.cell 0
  have p1 := hbx8.cell 1
  have p2 := hbx8.cell 2
  have hc4 := cl_recvS (rc := 7) (rs := 1) (rn := 0) (er := 42) hS8 (zero_reads w8) (Nat.le_refl _) zero_ok (by decide)
  rw [k3] at hc4
  clear hbx7 hu8 hS7
  replace hc4 := Lib.hid hc4
  replace hS8 := Lib.hid hS8
  go_wp2_with fail
  refine hc4.out.mono ?_
  clear hc4
  rintro e w9 ⟨rfl, hC9⟩
  try dsimp only
  obtain ⟨F9, hS9, hF9, hb9, hu9⟩ := hC9.next (b := w.heap.size) (K := fun y => y = bx) (w0 := w) hF8 (fun y e => by rw [e]; exact hbx8.lt) hb8 hb8.size
  have hbx9 := hbx8.upd hu9 (fun h => h rfl)
  clear p0 p1 p2 hbx8 hu9 hS8
  replace hS9 := Lib.hid hS9
  go_upto_region 8 with (fail)
  have hS0 : Blk w9.drew bx 29 #[.int .u32 7, .int .u32 1, .int .u16 0] := hbx9.drewN 1
  refine wp_region_lex (fun W => Blk W bx 29 #[.int .u32 7, .int .u32 1, .int .u16 0]) [1] [2, 4] [0, 1, 2, 3, 4, 5] (by kernel_rfl) rfl (by kernel_rfl) (by kernel_rfl) (fun _ _ d _ _ h => by cases d <;> exact h) ?_
  repeat (first | (refine lexG_take _ ?_ rfl rfl rfl rfl (fun _ => ?_) ?_; rotate_left; (focus (go_simp; with_reducible rfl)); try simp only [Act.put, List.setIfInBounds_toArray, List.set_cons_zero, List.set_cons_succ]) | (refine lexG_held _ ?_ rfl rfl rfl rfl (by assumption) (fun _ hSw => ?_) ?_; rotate_left; (focus (have h1 := hSw.cell 0; have h2 := hSw.cell 1; have h3 := hSw.cell 2; clear hSw; go_simp; with_reducible rfl)); try simp only [Act.put, List.setIfInBounds_toArray, List.set_cons_zero, List.set_cons_succ]) | (refine lexG_skip _ rfl rfl (by assumption) ?_; try simp only [Act.put, List.setIfInBounds_toArray, List.set_cons_zero, List.set_cons_succ]))
  refine lexG_now _ rfl rfl rfl (fun K0 hK => ?_)
  go_wp2_with fail
  refine (int_val w9.drew (i := 2) (by decide)).mono ?_
  rintro e w10 ⟨rfl, hv10, -, hb10⟩
  try dsimp only
  have hbx10 := hbx9.below (below_then hb10 (Below.refl w9.heap.size w9).drew) hbx9.lt
  have hS10 := hS9.out.below (below_then hb10 (Below.refl w9.heap.size w9).drew)
  have hb10' := hb9.trans ((below_then hb10 (Below.refl w9.heap.size w9).drew).mono hb9.size)
  refine hK _ _ _ (fun _ h => h) hbx10 ?_
  clear hK K0
  try simp only [Act.put, List.setIfInBounds_toArray, List.set_cons_zero, List.set_cons_succ]
  repeat (first | (refine lexG_take _ ?_ rfl rfl rfl rfl (fun _ => ?_) ?_; rotate_left; (focus (go_simp; with_reducible rfl)); try simp only [Act.put, List.setIfInBounds_toArray, List.set_cons_zero, List.set_cons_succ]) | (refine lexG_held _ ?_ rfl rfl rfl rfl (by assumption) (fun _ hSw => ?_) ?_; rotate_left; (focus (have h1 := hSw.cell 0; have h2 := hSw.cell 1; have h3 := hSw.cell 2; clear hSw; go_simp; with_reducible rfl)); try simp only [Act.put, List.setIfInBounds_toArray, List.set_cons_zero, List.set_cons_succ]) | (refine lexG_skip _ rfl rfl (by assumption) ?_; try simp only [Act.put, List.setIfInBounds_toArray, List.set_cons_zero, List.set_cons_succ]))
  have hc5 := cl_recvS (rc := 7) (rs := 1) (rn := 0) (er := 0) hS10 hv10.reads (Nat.le_refl _) (val1_ok 1 2 0 (by decide) (by decide)) (by decide)
  rw [k4] at hc5
  refine lexG_now _ rfl rfl rfl (fun K0 hK => ?_)
  go_wp2_with fail
  refine hc5.mono ?_
  clear hc5
  rintro e w11 ⟨rfl, hC11⟩
  try dsimp only
  obtain ⟨F11, hS11, hF11, hb11, hu11⟩ := hC11.next (b := w.heap.size) (K := fun y => y = bx) (w0 := w) hF9 (fun y e => by rw [e]; exact hbx10.lt) hb10' hb10'.size
  have hbx11 := hbx10.upd hu11 (fun h => h rfl)
  refine hK _ _ _ (fun _ h => h) hbx11 ?_
  clear hK K0
  try simp only [Act.put, List.setIfInBounds_toArray, List.set_cons_zero, List.set_cons_succ]
  repeat (first | (refine lexG_take _ ?_ rfl rfl rfl rfl (fun _ => ?_) ?_; rotate_left; (focus (go_simp; with_reducible rfl)); try simp only [Act.put, List.setIfInBounds_toArray, List.set_cons_zero, List.set_cons_succ]) | (refine lexG_held _ ?_ rfl rfl rfl rfl (by assumption) (fun _ hSw => ?_) ?_; rotate_left; (focus (have h1 := hSw.cell 0; have h2 := hSw.cell 1; have h3 := hSw.cell 2; clear hSw; go_simp; with_reducible rfl)); try simp only [Act.put, List.setIfInBounds_toArray, List.set_cons_zero, List.set_cons_succ]) | (refine lexG_skip _ rfl rfl (by assumption) ?_; try simp only [Act.put, List.setIfInBounds_toArray, List.set_cons_zero, List.set_cons_succ]))
  refine lexG_nil ?_
  clear hu11 hbx10 hS10 hv10 hS0
  have hc6 := cl_repliesS hS11 (by intro x hx; simp at hx; subst hx; exact val1_ok 1 2 0 (by decide) (by decide))
  have hft11 := hS11.ft
  replace hc6 := Lib.hid hc6
  replace hS11 := Lib.hid hS11
  replace hft11 := Lib.hid hft11
  go_wp2_with fail
  refine hc6.out.mono ?_
  clear hc6
  rintro e w12 ⟨A', c', xs', css', rfl, hP12, hb12⟩
  rw [show (CliD.mk 7 1 [] [⟨7, 1, 0, 0, .mk 1 2 0 [] []⟩]).rp.length = 1 from rfl]
  rw [show (CliD.mk 7 1 [] [⟨7, 1, 0, 0, .mk 1 2 0 [] []⟩]).rp.map clR = [⟨7, 1, 0, 0, .mk 1 2 0 [] []⟩] from rfl] at hP12
  try dsimp only
  have hS12 := hS11.out.below hb12
  have hbx12 := hbx11.below hb12 hbx11.lt
  have hb12' := hb11.trans (hb12.mono hb11.size)
  have p0 := hbx12.cell 0
  have p1 := hbx12.cell 1
  have p2 := hbx12.cell 2
  have hc7 := cl_outS hS12
  replace hP12 := Lib.hid hP12
  replace hc7 := Lib.hid hc7
  replace hS12 := Lib.hid hS12
  go_wp2_with fail
  refine hc7.out.mono ?_
  clear hc7
  rintro e w13 ⟨Ao2, co2, xo2, cso2, rfl, -, hC13⟩
  rw [show (outL ⟨7, 1, [], [⟨7, 1, 0, 0, .mk 1 2 0 [] []⟩]⟩).length = 0 from rfl]
  rw [show outD ⟨7, 1, [], [⟨7, 1, 0, 0, .mk 1 2 0 [] []⟩]⟩ = ⟨7, 1, [], [⟨7, 1, 0, 0, .mk 1 2 0 [] []⟩]⟩ from rfl] at hC13
  try dsimp only
  have hP13 := hP12.out.upd hC13.1 (fun y hy => hft11.out y hy)
  obtain ⟨F13, hS13, hF13, hb13, -⟩ := hC13.next (b := w.heap.size) (K := fun y => y = bx) (w0 := w) hF11 (fun y e => by rw [e]; exact hbx12.lt) hb12' hb12'.size
  have hcap : 1 ≤ c' := hP13.ho.le_cap
  obtain ⟨gB, Av, cv, rfl, -, r0, r1, r2, r3, r4, r5, r6, r7, r8⟩ := hP13.cells (j := 0) rfl
  have hc8 := cl_openS hS13
  replace hc8 := Lib.hid hc8
  clear p0 p1 p2 hP12 hP13 hS12 hS11 hbx12 hbx11
  go_wp2_with fail
  refine hc8.out.mono ?_
  clear hc8
  rintro e w14 ⟨A4, c4, rfl, -, -, hb14⟩
  rw [show (CliD.mk 7 1 [] [⟨7, 1, 0, 0, .mk 1 2 0 [] []⟩]).op.length = 0 from rfl]
  try dsimp only
  have hb14' := hb13.trans (hb14.mono hb13.size)
  go_wp2_with fail
  go_ret
  exact ⟨rfl, hb14'⟩
end Go.Proofs.Ytgdhiihfcngjbaa
