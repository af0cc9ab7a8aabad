/- Nets: Drop, Double, Take, All. -/
import Derived.Test.YtfhdnehheoligaaNp4
set_option linter.unusedSimpArgs false
set_option linter.unusedVariables false
namespace Go.Proofs.Ytfhdnehheoligaa
open Go.RowKit
set_option maxRecDepth 100000

def dropL (l : List PkD) (k : Int) : List PkD := if inB k l.length = true then l.eraseIdx k.toNat else l
def doubL (l : List PkD) (k : Int) : List PkD := if inB k l.length = true then l ++ (l[k.toNat]?).toList else l
def zeroP : PkD := ⟨0, 0, []⟩
def takeD (mask : Nat) (l : List PkD) (k : Int) : PkD × Bool := if inB k l.length = true then (match l[k.toNat]? with
  | some p => if (sideB mask p.f == sideB mask p.t) = true then (p, true) else (zeroP, false)
  | none => (zeroP, false)) else (zeroP, false)
theorem zero_pk (w : World) (P : Nat → Prop) : PkHeld w P zeroP #[.int .i64 0, .int .i64 0, .slice none 0 0] := fun _ W _ _ => ⟨none, 0, rfl, rfl, fun h => absurd h (by simp [zeroP])⟩
theorem in_nat {k : Int} {n : Nat} (h : inB k n = true) : ∃ j : Nat, k = (j : Int) ∧ j < n := by
  unfold inB at h
  rw [Bool.and_eq_true, decide_eq_true_eq, decide_eq_true_eq] at h
  exact ⟨k.toNat, by omega, by omega⟩
theorem Chg.after {b : Nat} {w w1 w2 : World} {F : Nat → Prop} {ty : TypeId} {g mask : Nat} {l : List PkD} (h : Chg b w1 w2 F ty g mask l) (hb : Below w.heap.size w w1) : Chg b w w2 F ty g mask l := by
  obtain ⟨hu, F', hS, hF⟩ := h
  exact ⟨(Upd.of_below_size hb).trans hu (fun _ _ e => e), F', hS, fun y hy => (hF y hy).elim .inl (fun e => .inr (by have := hb.size; omega))⟩
theorem Chg.then {b : Nat} {w w1 w2 : World} {F : Nat → Prop} {ty : TypeId} {g mask : Nat} {l : List PkD} (h : Chg b w w1 F ty g mask l) (hb : Below w1.heap.size w1 w2) : Chg b w w2 F ty g mask l := by
  obtain ⟨hu, F', hS, hF⟩ := h
  exact ⟨hu.trans (Upd.of_below_size (S := F) hb) (fun _ _ e => e), F', hS.below hb, hF⟩
theorem NetS.hbb {b : Nat} {w : World} {F : Nat → Prop} {g mask : Nat} {l : List PkD} {ty : TypeId} (h : NetS b w F ty g mask l) : b ≤ w.heap.size := by obtain ⟨_, _, _, _, _, h⟩ := h; exact h.hb
/-- A block that is nobody's, and new to the caller, written. -/
theorem Chg.put {b : Nat} {w0 w w1 w2 : World} {F S : Nat → Prop} {ty : TypeId} {g mask : Nat} {l : List PkD} (h : Chg b w w1 F ty g mask l) (hb0 : Below w0.heap.size w0 w) (hu : Upd S w1 w2) (hS : ∀ y, S y → w0.heap.size ≤ y ∧ y < w.heap.size ∧ ¬ F y) (hbw : b ≤ w0.heap.size) : Chg b w0 w2 F ty g mask l := by
  obtain ⟨hu1, F', hN, hF'⟩ := h
  have hs := hb0.size
  refine ⟨((Upd.of_below_size hb0).trans hu1 (fun _ _ e => e)).trans hu (fun y hy e => by have := (hS y e).1; omega), F', hN.keep hu (fun y e => ⟨by have := (hS y e).1; omega, fun hf => ?_⟩), fun y hy => (hF' y hy).elim .inl (fun e => .inr (by omega))⟩
  rcases hF' y hf with e2 | e2
  · exact (hS y e).2.2 e2
  · have := (hS y e).2.1; omega
theorem NetS.same {b : Nat} {w : World} {F : Nat → Prop} {g mask : Nat} {l : List PkD} {ty : TypeId} (h : NetS b w F ty g mask l) {w' : World} (hb : Below w.heap.size w w') : Chg b w w' F ty g mask l := ⟨Upd.of_below_size hb, F, h.below hb, fun _ hy => .inl hy⟩
set_option maxHeartbeats 1600000 in
theorem np_dropX {b : Nat} {w : World} {F : Nat → Prop} {g mask : Nat} {l : List PkD} {A : Option Addr} {c : Nat} {xs : List Value} {css : Nat → Array Value} {C : Nat → Prop} (h : NetX b w F 47 g mask l A c xs css C) (k : Int) : Calls Try.prog 9 #[.pointer (some ⟨g, 0, none⟩), .int .i64 k] w (fun e w' => e = .returned (.bool (inB k l.length)) ∧ Upd (fun y => y = g ∨ bOf A = some y) w w' ∧ Chg b w w' F 47 g mask (dropL l k)) := by
  have hh := np_has ⟨A, c, xs, css, C, h⟩ k
  obtain ⟨q, hq⟩ : ∃ q, inB k l.length = q := ⟨_, rfl⟩
  obtain ⟨l', hl'⟩ : ∃ q, dropL l k = q := ⟨_, rfl⟩
  have hlF : q = false → l' = l := fun e => by rw [← hl']; unfold dropL; rw [hq, e]; rfl
  have hlT : q = true → l' = l.eraseIdx k.toNat := fun e => by rw [← hl']; unfold dropL; rw [hq, e]; rfl
  rw [hq] at hh
  rw [hl', hq]
  clear hl'
  replace hlF := Lib.hid hlF
  replace hlT := Lib.hid hlT
  replace hh := Lib.hid hh
  replace h := Lib.hid h
  replace hq := Lib.hid hq
  go_enter Try.func9, Try.ntmps9
  go_wp2_with fail
  refine hh.out.mono ?_
  clear hh
  rintro e w1 ⟨rfl, hb1⟩
  try dsimp only
  cases q
  · go_wp2_with fail
    go_ret
    rw [hlF.out (by trivial)]
    exact ⟨rfl, Upd.of_below_size hb1, NetS.same ⟨A, c, xs, css, C, h.out⟩ hb1⟩
  · obtain ⟨j, rfl, hj⟩ := in_nat hq.out
    have X := h.out.below hb1
    obtain ⟨N, hN⟩ : ∃ q, l.length = q := ⟨_, rfl⟩
    have hln := X.hl
    have hbg := X.blk
    have hoA := X.ho
    rw [hN] at hj hln hbg hoA
    obtain ⟨gA, cur, rfl, -⟩ := hoA.open_s (by omega)
    have hgA := X.neA gA rfl
    have k0 := hbg.cell 0
    have hdel := delete_pk hoA hj hln X.one
    have wj : IntKind.i64.wrap ((j : Int) + 1) = (j : Int) + 1 := by rw [IntKind.wrap_i64]; omega
    replace hdel := Lib.hid hdel
    replace X := Lib.hid X
    replace hN := Lib.hid hN
    go_wp2_with fail
    refine hdel.out.mono ?_
    clear hdel
    rintro e w2 ⟨rfl, ho2, hu2⟩
    try dsimp only
    have hbg2 := hbg.upd hu2 (fun e => hgA e.symm)
    have f0 := hbg2.frozen 0
    clear k0
    have k0 := hbg2.cell 0
    have hbE : Blk (w2.setCell ⟨g, 0, none⟩ (.slice (some ⟨gA, 0, none⟩) (N - 1) c)) g 47 #[.slice (some ⟨gA, 0, none⟩) (N - 1) c, .int .u64 (mask : Int)] := hbg2.set_ 0 _
    have u9 : Upd (fun y => y = g) w2 (w2.setCell ⟨g, 0, none⟩ (.slice (some ⟨gA, 0, none⟩) (N - 1) c)) := (Upd.refl (fun y => y = g) w2).setCell (p := ⟨g, 0, none⟩) (fun _ => rfl) _
    have hoE := ho2.upd u9 (fun y hy e => hgA (by cases hy; exact e))
    have huE : Upd (fun y => y = g ∨ bOf (some (⟨gA, 0, none⟩ : Addr)) = some y) w1 (w2.setCell ⟨g, 0, none⟩ (.slice (some ⟨gA, 0, none⟩) (N - 1) c)) := (hu2.mono (fun y _ e => .inr (by rw [e]; rfl))).trans u9 (fun _ _ e => .inl e)
    have hcut := X.out.cutd (j := j) (by rw [hN.out]; exact hj) huE (by rw [hN.out]; exact hoE) (by rw [hN.out]; exact hbE) (fun y hy => .inl hy)
    replace hcut := Lib.hid hcut
    replace huE := Lib.hid huE
    clear ho2 hu2 hbE u9 hoE
    go_wp2_with fail
    go_ret
    rw [hlT.out (by trivial)]
    exact ⟨rfl, (Upd.of_below_size hb1).trans huE.out (fun _ _ e => e), hcut.out.after hb1⟩
theorem np_drop {b : Nat} {w : World} {F : Nat → Prop} {g mask : Nat} {l : List PkD} (h : NetS b w F 47 g mask l) (k : Int) : Calls Try.prog 9 #[.pointer (some ⟨g, 0, none⟩), .int .i64 k] w (fun e w' => e = .returned (.bool (inB k l.length)) ∧ Chg b w w' F 47 g mask (dropL l k)) := by
  obtain ⟨A, c, xs, css, C, h⟩ := h
  exact (np_dropX h k).mono fun e w' h => ⟨h.1, h.2.2⟩
set_option maxHeartbeats 1600000 in
theorem np_double {b : Nat} {w : World} {F : Nat → Prop} {g mask : Nat} {l : List PkD} (h : NetS b w F 47 g mask l) (k : Int) (hl : l.length < 1000) : Calls Try.prog 10 #[.pointer (some ⟨g, 0, none⟩), .int .i64 k] w (fun e w' => e = .returned (.bool (inB k l.length)) ∧ Chg b w w' F 47 g mask (doubL l k)) := by
  have hh := np_has h k
  obtain ⟨q, hq⟩ : ∃ q, inB k l.length = q := ⟨_, rfl⟩
  obtain ⟨l', hl'⟩ : ∃ q, doubL l k = q := ⟨_, rfl⟩
  have hlF : q = false → l' = l := fun e => by rw [← hl']; unfold doubL; rw [hq, e]; rfl
  have hlT : q = true → l' = l ++ (l[k.toNat]?).toList := fun e => by rw [← hl']; unfold doubL; rw [hq, e]; rfl
  rw [hq] at hh
  rw [hl', hq]
  clear hl'
  replace hlF := Lib.hid hlF
  replace hlT := Lib.hid hlT
  replace hh := Lib.hid hh
  replace h := Lib.hid h
  replace hq := Lib.hid hq
  go_enter Try.func10, Try.ntmps10
  go_wp2_with fail
  refine hh.out.mono ?_
  clear hh
  rintro e w1 ⟨rfl, hb1⟩
  try dsimp only
  cases q
  · go_wp2_with fail
    go_ret
    rw [hlF.out (by trivial)]
    exact ⟨rfl, h.out.same hb1⟩
  · obtain ⟨j, rfl, hj⟩ := in_nat hq.out
    obtain ⟨A, c, xs, css, C, X⟩ := h.out.below hb1
    have hgk : l[j]? = some l[j] := List.getElem?_eq_getElem hj
    have hbk := X.hp _ (List.getElem_mem hj)
    generalize l[j] = p at hgk hbk
    obtain ⟨gA, B, cB, rfl, hcs, g0, g1, g2, hrB⟩ := X.cells hgk
    have hld := X.hx j p hgk
    rw [hcs] at hld
    have hcap := X.ho.le_cap
    obtain ⟨N, hN⟩ : ∃ q, l.length = q := ⟨_, rfl⟩
    have k0 := X.blk.cell 0
    rw [hN] at k0 hj hcap
    obtain ⟨pf, pt, pb⟩ := p
    dsimp only at g0 g1 g2 hld hbk
    obtain ⟨LB, hLB⟩ : ∃ q, pb.length = q := ⟨_, rfl⟩
    rw [hLB] at g2 hld
    obtain ⟨w2, hw2⟩ : ∃ q, q = w1.alloc (.cells #[.int .i64 pf, .int .i64 pt, .slice B LB cB] 33) := ⟨_, rfl⟩
    have hb12 : Below w1.heap.size w1 w2 := by rw [hw2]; exact (Below.refl _ _).alloc (Nat.le_refl _) _
    have hoq : Own w2 33 3 (some ⟨w1.heap.size, 0, none⟩) 1 1 [.int .i64 pf, .int .i64 pt, .slice B LB cB] := by rw [hw2]; exact Own.new w1 33 3 1 #[.int .i64 pf, .int .i64 pt, .slice B LB cB] rfl (by decide)
    have X2 := X.below hb12
    have hql : ∀ y, bOf (some (⟨w1.heap.size, 0, none⟩ : Addr)) = some y → ¬ (y = g ∨ bOf (some (⟨gA, 0, none⟩ : Addr)) = some y) := fun y hy e => by
      have h1 : w1.heap.size = y := by injection hy
      have h2 := (X.ft y (X.fo y e).1).1
      omega
    have hsend := np_send (ps := [⟨pf, pt, pb⟩]) (csp := fun _ => #[.int .i64 pf, .int .i64 pt, .slice B LB cB]) X2 hoq rfl hql (fun k p hk => by
      cases k with
      | zero =>
        simp at hk
        subst hk
        refine hld.next (T := fun _ => False) (Upd.of_below_size hb12) (fun _ _ hf => hf.elim) (fun y hy e hc => ?_)
        rcases e with e | e
        · exact (X.fo y e).2 hc
        · have := hb12.size; omega
      | succ k => simp at hk) (fun k p hk => by
      cases k with
      | zero => rfl
      | succ k => simp at hk) (by omega) (fun p hp => by cases List.mem_singleton.1 hp; exact hbk)
    have hget : (l[((j : Nat) : Int).toNat]?).toList = [(⟨pf, pt, pb⟩ : PkD)] := by rw [Int.toNat_natCast, hgk]; rfl
    replace hget := Lib.hid hget
    replace hsend := Lib.hid hsend
    replace X := Lib.hid X
    replace hld := Lib.hid hld
    obtain ⟨y1, hy1⟩ : ∃ y, w1.heap.size = y := ⟨_, rfl⟩
    clear X2 hoq hql hgk hcs hrB
    rw [hy1] at hsend
    go_wp2_with fail
    try rw [← hw2]
    try rw [hy1]
    refine hsend.out.mono ?_
    clear hsend
    rintro e w3 ⟨rfl, hC3⟩
    try dsimp only
    go_wp2_with fail
    go_ret
    rw [hlT.out (by trivial), hget.out]
    exact ⟨rfl, (hC3.after hb12).after hb1⟩
set_option maxHeartbeats 3200000 in
theorem np_take {b : Nat} {w : World} {F : Nat → Prop} {g mask : Nat} {l : List PkD} (h : NetS b w F 47 g mask l) (k : Int) : Calls Try.prog 6 #[.pointer (some ⟨g, 0, none⟩), .int .i64 k] w (fun e w' => ∃ cs, e = .returned (.tuple #[.agg cs, .bool (takeD mask l k).2]) ∧ PkHeld w' (fun y => b ≤ y ∧ ¬ F y) (takeD mask l k).1 cs ∧ Chg b w w' F 47 g mask (dropL l k)) := by
  obtain ⟨q, hq⟩ : ∃ q, inB k l.length = q := ⟨_, rfl⟩
  obtain ⟨l', hl'⟩ : ∃ q, dropL l k = q := ⟨_, rfl⟩
  obtain ⟨R, hR⟩ : ∃ q, takeD mask l k = q := ⟨_, rfl⟩
  have hlF : q = false → l' = l := fun e => by rw [← hl']; unfold dropL; rw [hq, e]; rfl
  have hRF : q = false → R = (zeroP, false) := fun e => by rw [← hR]; unfold takeD; rw [hq, e]; rfl
  have hRT : q = true → ∀ p, l[k.toNat]? = some p → R = if (sideB mask p.f == sideB mask p.t) = true then (p, true) else (zeroP, false) := fun e p hp => by rw [← hR]; unfold takeD; rw [hq, e, hp]; rfl
  have hft := h.ft
  have hb0 := (Below.refl w.heap.size w).alloc (Nat.le_refl _) (.cells #[.int .i64 0, .int .i64 0, .slice none 0 0] 33)
  have hz0 := Blk.new w 33 #[.int .i64 0, .int .i64 0, .slice none 0 0]
  obtain ⟨z4, hz4⟩ : ∃ y, w.heap.size = y := ⟨_, rfl⟩
  have hzF : ¬ F z4 := fun hf => by have := (hft z4 hf).1; omega
  rw [hz4] at hz0
  have h0 := h.below hb0
  have hh := np_has h0 k
  rw [hl', hR]
  rw [hq] at hh
  clear hR
  replace hl' := Lib.hid hl'
  replace hh := Lib.hid hh
  replace h := Lib.hid h
  replace hq := Lib.hid hq
  replace hft := Lib.hid hft
  replace hlF := Lib.hid hlF
  replace hRF := Lib.hid hRF
  replace hRT := Lib.hid hRT
  replace h0 := Lib.hid h0
  go_enter Try.func6, Try.ntmps6
  go_upto_region 1 with (fail)
  generalize w.alloc (.cells #[.int .i64 0, .int .i64 0, .slice none 0 0] 33) = w0 at *
  try rw [hz4]
  go_wp2_with fail
  refine hh.out.mono ?_
  clear hh
  rintro e w1 ⟨rfl, hb1⟩
  try dsimp only
  have hz1 := hz0.below hb1 hz0.lt
  have hb01 := below_then hb1 hb0
  have hs01 := hb01.size
  cases q
  · have hq2 := hRF.out (by trivial)
    have hl2 := hlF.out (by trivial)
    subst hq2 hl2
    have hC1 := (h0.out.below hb1).same (Below.refl _ _)
    have hbw := h.out.hbb
    have hz1l := hz1.lt
    replace hC1 := Lib.hid hC1
    have f0 := hz1.frozen 0
    have f1 := hz1.frozen 1
    have f2 := hz1.frozen 2
    have k0 := hz1.cell 0
    have k1 := hz1.cell 1
    have k2 := hz1.cell 2
    have hze := ((hz1.set_ 0 (.int .i64 0)).set_ 1 (.int .i64 0)).set_ 2 (.slice none 0 0)
    have uE : Upd (fun y => y = z4) w1 (((w1.setCell ⟨z4, 0, none⟩ (.int .i64 0)).setCell ⟨z4, 1, none⟩ (.int .i64 0)).setCell ⟨z4, 2, none⟩ (.slice none 0 0)) := (((Upd.refl (fun y => y = z4) w1).setCell (p := ⟨z4, 0, none⟩) (fun _ => rfl) _).setCell (p := ⟨z4, 1, none⟩) (fun _ => rfl) _).setCell (p := ⟨z4, 2, none⟩) (fun _ => rfl) _
    replace hze := Lib.hid hze
    replace uE := Lib.hid uE
    go_wp2_with fail
    refine bodyPost_ret (v := .tuple #[.agg #[.int .i64 0, .int .i64 0, .slice none 0 0], .bool false]) ?hr rfl ?_
    case hr => exact results_ct rfl _ _ z4 33 _ (0, 0) _ _ rfl rfl hze.out Try.underlying33 rfl (by kernel_rfl)
    exact ⟨#[.int .i64 0, .int .i64 0, .slice none 0 0], rfl, zero_pk _ _, hC1.out.put hb01 uE.out (fun y e => by rw [e]; exact ⟨by omega, hz1l, hzF⟩) hbw⟩
  · obtain ⟨j, rfl, hj⟩ := in_nat hq.out
    obtain ⟨A, c, xs, css, C, X⟩ := h0.out.below hb1
    have hgk : l[j]? = some l[j] := List.getElem?_eq_getElem hj
    generalize l[j] = p at hgk
    have hRT2 := hRT.out (by trivial) p (by rw [Int.toNat_natCast]; exact hgk)
    obtain ⟨gA, B, cB, rfl, hcs, g0, g1, g2, hrB⟩ := X.cells hgk
    have hld := X.hx j p hgk
    rw [hcs] at hld
    have hcap := X.ho.le_cap
    obtain ⟨N, hN⟩ : ∃ q, l.length = q := ⟨_, rfl⟩
    have k0 := X.blk.cell 0
    rw [hN] at k0 hj hcap
    obtain ⟨pf, pt, pb⟩ := p
    dsimp only at g0 g1 g2 hld hRT2
    obtain ⟨LB, hLB⟩ : ∃ q, pb.length = q := ⟨_, rfl⟩
    rw [hLB] at g2 hld
    obtain ⟨w2, hw2⟩ : ∃ q, q = w1.alloc (.cells #[.int .i64 pf, .int .i64 pt, .slice B LB cB] 33) := ⟨_, rfl⟩
    have hb12 : Below w1.heap.size w1 w2 := by rw [hw2]; exact (Below.refl _ _).alloc (Nat.le_refl _) _
    have hx2 : Blk w2 w1.heap.size 33 #[.int .i64 pf, .int .i64 pt, .slice B LB cB] := by rw [hw2]; exact Blk.new w1 _ _
    obtain ⟨y6, hy6⟩ : ∃ y, w1.heap.size = y := ⟨_, rfl⟩
    have hyF : ¬ F y6 := fun hf => by have := (hft.out y6 hf).1; omega
    have hyz : y6 ≠ z4 := by have := hz1.lt; omega
    rw [hy6] at hx2
    have hz2 := hz1.below hb12 hz1.lt
    have X2 := X.below hb12
    have hdr := np_dropX X2 (j : Int)
    rw [show inB (j : Int) l.length = true from hq.out] at hdr
    rw [hl'.out] at hdr
    have hld2 := hld.next (P' := fun y => ¬ C y) (T := fun _ => False) (Upd.of_below_size hb12) (fun _ _ hf => hf.elim) (fun _ _ e => e)
    have hfo := X.fo
    have hfc := X.fc
    replace hdr := Lib.hid hdr
    replace X := Lib.hid X
    replace hld2 := Lib.hid hld2
    replace hfo := Lib.hid hfo
    replace hfc := Lib.hid hfc
    replace hRT2 := Lib.hid hRT2
    clear X2 hgk hcs hrB hld
    go_upto_region 4 with (fail)
    rw [← hw2]
    try rw [hy6]
    clear hw2 g0 g1 g2 k0
    go_wp2_with fail
    refine hdr.out.mono ?_
    clear hdr
    rintro e w3 ⟨rfl, hu3, hC3⟩
    try dsimp only
    have hx3 := hx2.upd hC3.1 (fun e => hyF e)
    have hz3 := hz2.upd hC3.1 (fun e => hzF e)
    have hld3 := hld2.out.next (P' := fun y => b ≤ y ∧ ¬ F y) hu3 (fun y _ e => (hfo.out y e).2) (fun y _ e hc => (hfc.out y hc).elim e.2 (fun h => by omega))
    have hb02 := below_then hb12 hb01
    have hbw := h.out.hbb
    have hz2l := hz2.lt
    have hC03 := hC3
    have hs3 := hC3.1.size
    have hs12 := hb12.size
    obtain ⟨hu30, F3, hS3, hF3⟩ := hC3
    have hjn := np_joined hS3 pf pt
    have p0 := hx3.cell 0
    have p1 := hx3.cell 1
    have p2 := hx3.cell 2
    obtain ⟨qs, hqs⟩ : ∃ q, (sideB mask pf == sideB mask pt) = q := ⟨_, rfl⟩
    rw [hqs] at hjn
    have hRR := hRT2.out
    rw [hqs] at hRR
    replace hjn := Lib.hid hjn
    replace hC03 := Lib.hid hC03
    replace hld3 := Lib.hid hld3
    replace hS3 := Lib.hid hS3
    clear hz1 hz2 hx2 hb12 hu3 hRT2 hqs
    go_wp2_with fail
    refine hjn.out.mono ?_
    clear hjn
    rintro e w5 ⟨rfl, hb5⟩
    try dsimp only
    have hz5 := hz3.below hb5 hz3.lt
    have hx5 := hx3.below hb5 hx3.lt
    have hC05 := hC03.out.then hb5
    have hld5 := hld3.out.next (P' := fun y => b ≤ y ∧ ¬ F y) (T := fun _ => False) (Upd.of_below_size hb5) (fun _ _ hf => hf.elim) (fun _ _ e => e)
    clear p0 p1 p2 hz3 hx3
    cases qs
    · rw [if_neg (by decide)] at hRR
      subst hRR
      replace hC05 := Lib.hid hC05
      have f0 := hz5.frozen 0
      have f1 := hz5.frozen 1
      have f2 := hz5.frozen 2
      have k0 := hz5.cell 0
      have k1 := hz5.cell 1
      have k2 := hz5.cell 2
      have hze := ((hz5.set_ 0 (.int .i64 0)).set_ 1 (.int .i64 0)).set_ 2 (.slice none 0 0)
      have uE : Upd (fun y => y = z4) w5 (((w5.setCell ⟨z4, 0, none⟩ (.int .i64 0)).setCell ⟨z4, 1, none⟩ (.int .i64 0)).setCell ⟨z4, 2, none⟩ (.slice none 0 0)) := (((Upd.refl (fun y => y = z4) w5).setCell (p := ⟨z4, 0, none⟩) (fun _ => rfl) _).setCell (p := ⟨z4, 1, none⟩) (fun _ => rfl) _).setCell (p := ⟨z4, 2, none⟩) (fun _ => rfl) _
      replace hze := Lib.hid hze
      replace uE := Lib.hid uE
      go_wp2_with fail
      refine bodyPost_ret (v := .tuple #[.agg #[.int .i64 0, .int .i64 0, .slice none 0 0], .bool false]) ?hr rfl ?_
      case hr => exact results_ct rfl _ _ z4 33 _ (0, 0) _ _ rfl rfl hze.out Try.underlying33 rfl (by kernel_rfl)
      exact ⟨#[.int .i64 0, .int .i64 0, .slice none 0 0], rfl, zero_pk _ _, hC05.out.put hb02 uE.out (fun y e => by rw [e]; exact ⟨by omega, hz2l, hzF⟩) hbw⟩
    · rw [if_pos rfl] at hRR
      subst hRR
      have p0 := hx5.cell 0
      have p1 := hx5.cell 1
      have p2 := hx5.cell 2
      have f0 := hz5.frozen 0
      have f1 := hz5.frozen 1
      have f2 := hz5.frozen 2
      have k0 := hz5.cell 0
      have k1 := hz5.cell 1
      have k2 := hz5.cell 2
      have hze := ((hz5.set_ 0 (.int .i64 pf)).set_ 1 (.int .i64 pt)).set_ 2 (.slice B LB cB)
      have uE : Upd (fun y => y = z4) w5 (((w5.setCell ⟨z4, 0, none⟩ (.int .i64 pf)).setCell ⟨z4, 1, none⟩ (.int .i64 pt)).setCell ⟨z4, 2, none⟩ (.slice B LB cB)) := (((Upd.refl (fun y => y = z4) w5).setCell (p := ⟨z4, 0, none⟩) (fun _ => rfl) _).setCell (p := ⟨z4, 1, none⟩) (fun _ => rfl) _).setCell (p := ⟨z4, 2, none⟩) (fun _ => rfl) _
      have hldE := hld5.next (P' := fun y => b ≤ y ∧ ¬ F y) uE (fun y _ e => ⟨by have := h.out.hbb; omega, fun hf => hzF (by rw [← e]; exact hf)⟩) (fun _ _ e => e)
      have hCE := hC05.put hb02 uE (fun y e => by rw [e]; exact ⟨by omega, hz2l, hzF⟩) hbw
      replace hze := Lib.hid hze
      replace hldE := Lib.hid hldE
      replace hCE := Lib.hid hCE
      clear uE hC05 hld5
      go_wp2_with fail
      refine bodyPost_ret (v := .tuple #[.agg #[.int .i64 pf, .int .i64 pt, .slice B LB cB], .bool true]) ?hr rfl ?_
      case hr => exact results_ct rfl _ _ z4 33 _ (0, 0) _ _ rfl rfl hze.out Try.underlying33 rfl (by kernel_rfl)
      exact ⟨#[.int .i64 pf, .int .i64 pt, .slice B LB cB], rfl, hldE.out, hCE.out⟩
end Go.Proofs.Ytfhdnehheoligaa
