/- The document's net: cut, Take. -/
import Derived.Test.YtfhdnehheoligaaNp6
set_option linter.unusedSimpArgs false
set_option linter.unusedVariables false
namespace Go.Proofs.Ytfhdnehheoligaa
open Go.RowKit
set_option maxRecDepth 100000

theorem Own.ne_b2 {w : World} {e e' : TypeId} {sz n c g : Nat} {A : Option Addr} {xs : List Value} {cs : Array Value} (h : Own w e sz A n c xs) (hb : Blk w g e' cs) (hne : e ≠ e') : ∀ y, bOf A = some y → y ≠ g := fun y hy e1 => by
  rcases h.2 with ⟨rfl, -⟩ | ⟨gA, cur, rfl, hb', -⟩
  · cases hy
  · cases hy; exact hb'.ne_ hb hne e1
set_option maxHeartbeats 6400000 in
theorem nd_cut {b : Nat} {w : World} {F : Nat → Prop} {g mask : Nat} {l : List PkD} {A : Option Addr} {c : Nat} {xs : List Value} {css : Nat → Array Value} {C : Nat → Prop} {j : Nat} {p : PkD} (h : NetX b w F 30 g mask l A c xs css C) (hgk : l[j]? = some p) : Calls Try.prog 18 #[.pointer (some ⟨g, 0, none⟩), .int .i64 (j : Int)] w (fun e w' => ∃ B cB, e = .returned (.agg #[.int .i64 p.f, .int .i64 p.t, .slice B p.b.length cB]) ∧ PkHeld w' (fun y => b ≤ y ∧ ¬ F y) p #[.int .i64 p.f, .int .i64 p.t, .slice B p.b.length cB] ∧ Chg b w w' F 30 g mask (l.eraseIdx j)) := by
  obtain ⟨iP0, iP1, iP2, iP3, iP4⟩ := info_parts info_pk
  have hjl := lt_at hgk
  have hln := h.hl
  have hone := h.one
  have hft := h.ft
  obtain ⟨gA, B, cB, rfl, hcs, g0, g1, g2, hrB⟩ := h.cells hgk
  have hld := h.hx j p hgk
  rw [hcs] at hld
  have hbw := h.blk
  have hoA := h.ho
  have hgA := h.neA gA rfl
  have hAF := (h.fo gA (.inr rfl)).1
  obtain ⟨N, hN⟩ : ∃ q, l.length = q := ⟨_, rfl⟩
  obtain ⟨n1, hn1⟩ : ∃ q, N - 1 = q := ⟨_, rfl⟩
  rw [hN] at hbw hoA hjl hln
  have hcap := hoA.le_cap
  have hgl := hbw.lt
  have hgAl := (hft gA hAF).1
  have hld2 := hld.next (P' := fun y => b ≤ y ∧ ¬ F y) (T := fun _ => False) (Upd.refl _ w) (fun _ _ hf => hf.elim) (fun y _ e hc => (h.fc y hc).elim e.2 (fun h => by omega))
  have hOC : ∀ y, y = g ∨ y = gA → ¬ C y := fun y e => (h.fo y (e.elim .inl (fun e => .inr (by rw [e]; rfl)))).2
  have hfc := h.fc
  obtain ⟨pf, pt, pb⟩ := p
  dsimp only at g0 g1 g2 hld hld2 ⊢
  obtain ⟨LB, hLB⟩ : ∃ q, pb.length = q := ⟨_, rfl⟩
  rw [hLB] at g2 hld hld2 ⊢
  obtain ⟨w1, hw1⟩ : ∃ q, q = w.alloc (.cells #[.int .i64 0, .int .i64 0, .slice none 0 0] 33) := ⟨_, rfl⟩
  have hb1 : Below w.heap.size w w1 := by rw [hw1]; exact (Below.refl _ _).alloc (Nat.le_refl _) _
  have hz1 : Blk w1 w.heap.size 33 #[.int .i64 0, .int .i64 0, .slice none 0 0] := by rw [hw1]; exact Blk.new w _ _
  obtain ⟨w2, hw2⟩ : ∃ q, q = w1.alloc (.cells #[.int .i64 pf, .int .i64 pt, .slice B LB cB] 33) := ⟨_, rfl⟩
  have hb12 : Below w1.heap.size w1 w2 := by rw [hw2]; exact (Below.refl _ _).alloc (Nat.le_refl _) _
  have hx2 : Blk w2 w1.heap.size 33 #[.int .i64 pf, .int .i64 pt, .slice B LB cB] := by rw [hw2]; exact Blk.new w1 _ _
  have hz2 := hz1.below hb12 hz1.lt
  have hb2 := below_then hb12 hb1
  have hsz1 : w1.heap.size = w.heap.size + 1 := by rw [hw1]; simp
  obtain ⟨z4, hz4⟩ : ∃ y, w.heap.size = y := ⟨_, rfl⟩
  obtain ⟨y5, hy5⟩ : ∃ y, w1.heap.size = y := ⟨_, rfl⟩
  have hzl := hz2.lt
  have hyl := hx2.lt
  have hbg2 := hbw.below hb2 hgl
  have hoA2 := hoA.below hb2 (Nat.le_refl _)
  have hld3 := hld.next (P' := fun y => ¬ C y) (T := fun _ => False) (Upd.of_below_size hb2) (fun _ _ hf => hf.elim) (fun _ _ e => e)
  rw [hz4] at hz2
  rw [hy5] at hx2
  have hzg : z4 ≠ g := by omega
  have hzA : z4 ≠ gA := by omega
  have hyg : y5 ≠ g := by omega
  have hyA : y5 ≠ gA := by omega
  have hyz : y5 ≠ z4 := by omega
  replace h := Lib.hid h
  replace hld2 := Lib.hid hld2
  replace hld3 := Lib.hid hld3
  replace hft := Lib.hid hft
  replace hfc := Lib.hid hfc
  replace hN := Lib.hid hN
  replace hLB := Lib.hid hLB
  clear hcs hrB hld hbw hoA
  go_enter Try.func18, Try.ntmps18
  have hw1k : w1.cell? ⟨g, 0, none⟩ = some (.slice (some ⟨gA, 0, none⟩) N c) := (hb1.cell (p := ⟨g, 0, none⟩) hgl).trans (by have := h.out.blk.cell 0; rw [hN.out] at this; exact this)
  have e0 := (hb1.cell (p := ⟨gA, j * 3, none⟩) hgAl).trans g0
  have e1 := (hb1.cell (p := ⟨gA, j * 3 + 1, none⟩) hgAl).trans g1
  have e2 := (hb1.cell (p := ⟨gA, j * 3 + 2, none⟩) hgAl).trans g2
  go_upto_region 1 with (fail)
  rw [← hw1]
  try rw [hz4]
  clear g0 g1 g2 hw1
  go_upto_region 2 with (fail)
  try rw [← hw2]
  try rw [hy5]
  have hzy : z4 + 1 = y5 := by omega
  try rw [hzy]
  clear hw2 hw1k e0 e1 e2 hzy hsz1
  have hj0 : (0 : Int) ≤ (j : Int) := by omega
  have hjj : (j : Int) ≤ (j : Int) := Int.le_refl _
  have b1 : (j : Int) + 1 ≤ (N : Int) := by omega
  have b6 : j + 1 ≤ N := by omega
  have b8 : (0 : Int) ≤ (j : Int) + 1 := by omega
  have b9 : ((j : Int) + 1).toNat = j + 1 := by omega
  have b10 : j ≤ N := by omega
  have b2z : (j : Int) ≤ (c : Int) := by omega
  have b3z : j ≤ c := by omega
  have b4z : (N : Int) ≤ (c : Int) := by omega
  have b5z : N ≤ c := by omega
  have wj : IntKind.i64.wrap ((j : Int) + 1) = (j : Int) + 1 := by rw [IntKind.wrap_i64]; omega
  have hS0 : Blk w2.drew g 30 #[.slice (some ⟨gA, 0, none⟩) N c, .int .u64 (mask : Int)] := hbg2.drewN 1
  refine wp_region_lex (fun W => Blk W g 30 #[.slice (some ⟨gA, 0, none⟩) N c, .int .u64 (mask : Int)]) [4, 11] [15, 18] [0, 1, 2, 3, 4, 5, 6, 7, 8, 9, 10, 11, 12, 13, 14, 15, 16, 17, 18] (by kernel_rfl) rfl (by kernel_rfl) (by kernel_rfl) (fun _ _ d _ _ h => by cases d <;> exact h) ?_
  repeat (first | (refine lexG_take _ ?_ rfl rfl rfl rfl (fun _ => ?_) ?_; rotate_left; (focus (go_simp; with_reducible rfl)); try simp only [Act.put, List.setIfInBounds_toArray, List.set_cons_zero, List.set_cons_succ]) | (refine lexG_held _ ?_ rfl rfl rfl rfl (by assumption) (fun _ hSw => ?_) ?_; rotate_left; (focus (have h1 := hSw.cell 0; clear hSw; go_simp; with_reducible rfl)); try simp only [Act.put, List.setIfInBounds_toArray, List.set_cons_zero, List.set_cons_succ]) | (refine lexG_skip _ rfl rfl (by assumption) ?_; try simp only [Act.put, List.setIfInBounds_toArray, List.set_cons_zero, List.set_cons_succ]))
  have hsrc := (hoA2.reads_.cut (k := j + 1) (cap := c) (by omega) (by omega)).drew
  have eA : (if c = j + 1 then some (⟨gA, 0, none⟩ : Addr) else Option.map (fun x : Addr => x.add ((j + 1) * 3)) (some (⟨gA, 0, none⟩ : Addr))) = (if c = j + 1 then some (⟨gA, 0, none⟩ : Addr) else some (⟨gA, (j + 1) * 3, none⟩ : Addr)) := by
    split
    · rfl
    · simp [Addr.add]
  rw [eA] at hsrc
  clear eA
  generalize (if c = j + 1 then some (⟨gA, 0, none⟩ : Addr) else some (⟨gA, (j + 1) * 3, none⟩ : Addr)) = AA at *
  have hown := ((hoA2.first (k := j) (by omega)).clip (Nat.le_refl j) (by omega)).drew
  refine lexG_now _ rfl rfl rfl (fun K0 hK => ?_)
  refine wp_append_mine _ _ 27 27 rfl 33 iP0 _ 3 40 Try.underlying27 iP1 iP2 iP3 iP4 rfl rfl hown rfl (Src.ofReads Try.underlying27 _ hsrc (fun u hu => hone u (List.mem_of_mem_drop hu))) (by unfold maxLen; omega) (by omega) (fun A8 c8 w8 ho8 hg8 hat8 => ?_)
  have eN : j + (N - (j + 1)) = n1 := by omega
  rw [eN] at ho8 ⊢
  have hu8 : Upd (fun z => z = gA) w2 w8 := (Upd.of_below_size (Below.refl w2.heap.size w2).drew).grown hg8 (fun y e _ => (Option.some.inj e).symm)
  have hA8 : ∀ y, bOf A8 = some y → y = gA ∨ w2.heap.size ≤ y := fun y hy => by
    rcases hat8 with e | e
    · rw [e] at hy; exact .inl (Option.some.inj hy).symm
    · have h1 : w2.drew.heap.size = y := by rw [e] at hy; injection hy
      have h2 : w2.drew.heap.size = w2.heap.size := rfl
      exact .inr (by omega)
  have hbg8 := hbg2.upd hu8 (fun e => hgA e.symm)
  refine hK _ _ _ (fun _ h => h) hbg8 ?_
  clear hK K0
  try simp only [Act.put, List.setIfInBounds_toArray, List.set_cons_zero, List.set_cons_succ]
  repeat (first | (refine lexG_take _ ?_ rfl rfl rfl rfl (fun _ => ?_) ?_; rotate_left; (focus (go_simp; with_reducible rfl)); try simp only [Act.put, List.setIfInBounds_toArray, List.set_cons_zero, List.set_cons_succ]) | (refine lexG_held _ ?_ rfl rfl rfl rfl (by assumption) (fun _ hSw => ?_) ?_; rotate_left; (focus (have h1 := hSw.cell 0; clear hSw; go_simp; with_reducible rfl)); try simp only [Act.put, List.setIfInBounds_toArray, List.set_cons_zero, List.set_cons_succ]) | (refine lexG_skip _ rfl rfl (by assumption) ?_; try simp only [Act.put, List.setIfInBounds_toArray, List.set_cons_zero, List.set_cons_succ]))
  have k0 := hbg8.cell 0
  have f0 := hbg8.frozen 0
  refine lexG_nowF _ rfl rfl rfl (by kernel_rfl) (fun K0 hK => ?_)
  go_wp2_with fail
  try simp only [Act.put, List.setIfInBounds_toArray, List.set_cons_zero, List.set_cons_succ]
  refine lexG_nil ?_
  go_upto_region 3 with (fail)
  have hbgE : Blk (w8.setCell ⟨g, 0, none⟩ (.slice A8 n1 c8)) g 30 #[.slice A8 n1 c8, .int .u64 (mask : Int)] := hbg8.set_ 0 _
  have hu9 : Upd (fun z => z = g) w8 (w8.setCell ⟨g, 0, none⟩ (.slice A8 n1 c8)) := (Upd.refl (fun z => z = g) w8).setCell (p := ⟨g, 0, none⟩) (fun _ => rfl) _
  have hoE := ho8.upd hu9 (fun y hy e => ho8.ne_b2 hbg8 (by decide) y hy e)
  have hu29 : Upd (fun z => z = g ∨ z = gA) w2 (w8.setCell ⟨g, 0, none⟩ (.slice A8 n1 c8)) := (hu8.mono (fun _ _ e => .inr e)).trans hu9 (fun _ _ e => .inl e)
  generalize w8.setCell ⟨g, 0, none⟩ (.slice A8 n1 c8) = w9 at *
  have hx9 := hx2.upd hu29 (fun e => e.elim hyg hyA)
  have hz9 := hz2.upd hu29 (fun e => e.elim hzg hzA)
  have hld9 := hld3.out.next (P' := fun y => b ≤ y ∧ ¬ F y) hu29 (fun y _ e => hOC y e) (fun y _ e hc => (hfc.out y hc).elim e.2 (fun h => by omega))
  have hX2 := h.out.below hb2
  have hcut := hX2.cutd (j := j) (by rw [hN.out]; exact hjl) (hu29.mono (fun y _ e => e.imp id (fun e => by rw [e]; rfl))) (by rw [hN.out, hn1]; exact hoE) (by rw [hN.out, hn1]; exact hbgE) (fun y hy => (hA8 y hy).imp (fun e => by rw [e]; rfl) id)
  clear hsrc hown ho8 hg8 hat8 hu8 hbg8 k0 f0 hbgE hu9 hoE hX2 hS0
  have p0 := hx9.cell 0
  have p1 := hx9.cell 1
  have p2 := hx9.cell 2
  have f0 := hz9.frozen 0
  have f1 := hz9.frozen 1
  have f2 := hz9.frozen 2
  have k0 := hz9.cell 0
  have k1 := hz9.cell 1
  have k2 := hz9.cell 2
  have hze := ((hz9.set_ 0 (.int .i64 pf)).set_ 1 (.int .i64 pt)).set_ 2 (.slice B LB cB)
  have uE : Upd (fun y => y = z4) w9 (((w9.setCell ⟨z4, 0, none⟩ (.int .i64 pf)).setCell ⟨z4, 1, none⟩ (.int .i64 pt)).setCell ⟨z4, 2, none⟩ (.slice B LB cB)) := (((Upd.refl (fun y => y = z4) w9).setCell (p := ⟨z4, 0, none⟩) (fun _ => rfl) _).setCell (p := ⟨z4, 1, none⟩) (fun _ => rfl) _).setCell (p := ⟨z4, 2, none⟩) (fun _ => rfl) _
  have hzF : ¬ F z4 := fun hf => by have := (hft.out z4 hf).1; omega
  have hbwb := h.out.hb
  have hldE := hld9.next (P' := fun y => b ≤ y ∧ ¬ F y) uE (fun y _ e => ⟨by omega, fun hf => hzF (by rw [← e]; exact hf)⟩) (fun _ _ e => e)
  have hCE := hcut.put hb2 uE (fun y e => by rw [e]; exact ⟨by omega, by omega, hzF⟩) hbwb
  replace hze := Lib.hid hze
  replace hldE := Lib.hid hldE
  replace hCE := Lib.hid hCE
  clear uE hcut hld9 hu29
  go_wp2_with fail
  refine bodyPost_ret (v := .agg #[.int .i64 pf, .int .i64 pt, .slice B LB cB]) ?hr rfl ?_
  case hr => exact results_cell_row rfl _ _ z4 33 _ (0, 0) _ rfl hze.out Try.underlying33 rfl (by kernel_rfl)
  exact ⟨B, cB, rfl, hldE.out, hCE.out⟩
set_option maxHeartbeats 3200000 in
theorem nd_take {b : Nat} {w : World} {F : Nat → Prop} {g mask : Nat} {l : List PkD} (h : NetS b w F 30 g mask l) (k : Int) : Calls Try.prog 7 #[.pointer (some ⟨g, 0, none⟩), .int .i64 k] w (fun e w' => ∃ cs, e = .returned (.tuple #[.agg cs, .bool (takeD mask l k).2]) ∧ PkHeld w' (fun y => b ≤ y ∧ ¬ F y) (takeD mask l k).1 cs ∧ Chg b w w' F 30 g mask (dropL l k)) := by
  obtain ⟨q, hq⟩ : ∃ q, inB k l.length = q := ⟨_, rfl⟩
  obtain ⟨l', hl'⟩ : ∃ q, dropL l k = q := ⟨_, rfl⟩
  obtain ⟨R, hR⟩ : ∃ q, takeD mask l k = q := ⟨_, rfl⟩
  have hlF : q = false → l' = l := fun e => by rw [← hl']; unfold dropL; rw [hq, e]; rfl
  have hRF : q = false → R = (zeroP, false) := fun e => by rw [← hR]; unfold takeD; rw [hq, e]; rfl
  have hRT : q = true → ∀ p, l[k.toNat]? = some p → R = if (sideB mask p.f == sideB mask p.t) = true then (p, true) else (zeroP, false) := fun e p hp => by rw [← hR]; unfold takeD; rw [hq, e, hp]; rfl
  have hft := h.ft
  have hb0 := (Below.refl w.heap.size w).alloc (Nat.le_refl _) (.cells #[.int .i64 0, .int .i64 0, .slice none 0 0] 33)
  have hz0 := Blk.new w 33 #[.int .i64 0, .int .i64 0, .slice none 0 0]
  obtain ⟨z4, hz4⟩ : ∃ y, w.heap.size = y := ⟨_, rfl⟩
  have hzF : ¬ F z4 := fun hf => by have := (hft z4 hf).1; omega
  rw [hz4] at hz0
  have h0 := h.below hb0
  rw [hl', hR]
  clear hR
  replace hl' := Lib.hid hl'
  replace h := Lib.hid h
  replace hq := Lib.hid hq
  replace hft := Lib.hid hft
  replace hlF := Lib.hid hlF
  replace hRF := Lib.hid hRF
  replace hRT := Lib.hid hRT
  replace h0 := Lib.hid h0
  go_enter Try.func7, Try.ntmps7
  go_upto_region 1 with (fail)
  generalize w.alloc (.cells #[.int .i64 0, .int .i64 0, .slice none 0 0] 33) = w0 at *
  try rw [hz4]
  have hb1 : Below w0.heap.size w0 w0 := Below.refl _ _
  have hz1 := hz0
  have hb01 := hb0
  have hs01 := hb01.size
  obtain ⟨A, c, xs, css, C, X⟩ := h0.out
  obtain ⟨N, hN⟩ : ∃ q, l.length = q := ⟨_, rfl⟩
  have kk := X.blk.cell 0
  rw [hN] at kk
  replace X := Lib.hid X
  cases q
  · have hq2 := hRF.out (by trivial)
    have hl2 := hlF.out (by trivial)
    subst hq2 hl2
    have hC1 := h0.out.same (Below.refl _ _)
    have hbw := h.out.hbb
    have hz1l := hz1.lt
    replace hC1 := Lib.hid hC1
    by_cases hk0 : k < 0
    · have d1 : decide (k < 0) = true := decide_eq_true hk0
      clear kk
      have f0 := hz1.frozen 0
      have f1 := hz1.frozen 1
      have f2 := hz1.frozen 2
      have k0 := hz1.cell 0
      have k1 := hz1.cell 1
      have k2 := hz1.cell 2
      have hze := ((hz1.set_ 0 (.int .i64 0)).set_ 1 (.int .i64 0)).set_ 2 (.slice none 0 0)
      have uE : Upd (fun y => y = z4) w0 (((w0.setCell ⟨z4, 0, none⟩ (.int .i64 0)).setCell ⟨z4, 1, none⟩ (.int .i64 0)).setCell ⟨z4, 2, none⟩ (.slice none 0 0)) := (((Upd.refl (fun y => y = z4) w0).setCell (p := ⟨z4, 0, none⟩) (fun _ => rfl) _).setCell (p := ⟨z4, 1, none⟩) (fun _ => rfl) _).setCell (p := ⟨z4, 2, none⟩) (fun _ => rfl) _
      replace hze := Lib.hid hze
      replace uE := Lib.hid uE
      go_wp2_with fail
      refine bodyPost_ret (v := .tuple #[.agg #[.int .i64 0, .int .i64 0, .slice none 0 0], .bool false]) ?hr rfl ?_
      case hr => exact results_ct rfl _ _ z4 33 _ (0, 0) _ _ rfl rfl hze.out Try.underlying33 rfl (by kernel_rfl)
      exact ⟨#[.int .i64 0, .int .i64 0, .slice none 0 0], rfl, zero_pk _ _, hC1.out.put hb01 uE.out (fun y e => by rw [e]; exact ⟨by omega, hz1l, hzF⟩) hbw⟩
    · have d1 : decide (k < 0) = false := decide_eq_false hk0
      have hkN : (N : Int) ≤ k := by
        have h1 := hq.out
        unfold inB at h1
        rw [hN, decide_eq_true (by omega : 0 ≤ k), Bool.true_and, decide_eq_false_iff_not] at h1
        omega
      have d2 : decide ((N : Int) ≤ k) = true := decide_eq_true hkN
      have f0 := hz1.frozen 0
      have f1 := hz1.frozen 1
      have f2 := hz1.frozen 2
      have k0 := hz1.cell 0
      have k1 := hz1.cell 1
      have k2 := hz1.cell 2
      have hze := ((hz1.set_ 0 (.int .i64 0)).set_ 1 (.int .i64 0)).set_ 2 (.slice none 0 0)
      have uE : Upd (fun y => y = z4) w0 (((w0.setCell ⟨z4, 0, none⟩ (.int .i64 0)).setCell ⟨z4, 1, none⟩ (.int .i64 0)).setCell ⟨z4, 2, none⟩ (.slice none 0 0)) := (((Upd.refl (fun y => y = z4) w0).setCell (p := ⟨z4, 0, none⟩) (fun _ => rfl) _).setCell (p := ⟨z4, 1, none⟩) (fun _ => rfl) _).setCell (p := ⟨z4, 2, none⟩) (fun _ => rfl) _
      replace hze := Lib.hid hze
      replace uE := Lib.hid uE
      go_wp2_with fail
      refine bodyPost_ret (v := .tuple #[.agg #[.int .i64 0, .int .i64 0, .slice none 0 0], .bool false]) ?hr rfl ?_
      case hr => exact results_ct rfl _ _ z4 33 _ (0, 0) _ _ rfl rfl hze.out Try.underlying33 rfl (by kernel_rfl)
      exact ⟨#[.int .i64 0, .int .i64 0, .slice none 0 0], rfl, zero_pk _ _, hC1.out.put hb01 uE.out (fun y e => by rw [e]; exact ⟨by omega, hz1l, hzF⟩) hbw⟩
  · obtain ⟨j, rfl, hj⟩ := in_nat hq.out
    have hgk : l[j]? = some l[j] := List.getElem?_eq_getElem hj
    generalize l[j] = p at hgk
    have hRT2 := hRT.out (by trivial) p (by rw [Int.toNat_natCast]; exact hgk)
    have hcu := nd_cut X.out hgk
    have hdl : l' = l.eraseIdx j := by rw [← hl'.out]; unfold dropL; rw [hq.out]; rfl
    rw [← hdl] at hcu
    clear hdl
    rw [hN] at hj
    have d1 : decide ((j : Int) < 0) = false := decide_eq_false (by omega)
    have d2 : decide ((N : Int) ≤ (j : Int)) = false := decide_eq_false (by omega)
    obtain ⟨pf, pt, pb⟩ := p
    dsimp only at hcu hRT2
    obtain ⟨LB, hLB⟩ : ∃ q, pb.length = q := ⟨_, rfl⟩
    rw [hLB] at hcu
    replace hcu := Lib.hid hcu
    replace hRT2 := Lib.hid hRT2
    clear hgk
    go_wp2_with fail
    refine hcu.out.mono ?_
    clear hcu kk
    rintro e w3 ⟨B, cB, rfl, hld3, hC3⟩
    try dsimp only
    obtain ⟨w4, hw4⟩ : ∃ q, q = w3.alloc (.cells #[.int .i64 pf, .int .i64 pt, .slice B LB cB] 33) := ⟨_, rfl⟩
    have hb34 : Below w3.heap.size w3 w4 := by rw [hw4]; exact (Below.refl _ _).alloc (Nat.le_refl _) _
    have hx3 : Blk w4 w3.heap.size 33 #[.int .i64 pf, .int .i64 pt, .slice B LB cB] := by rw [hw4]; exact Blk.new w3 _ _
    have hz3 := (hz1.upd hC3.1 (fun e => hzF e)).below hb34 (by have := hC3.1.size; have := hz1.lt; omega)
    have hld3 := hld3.next (P' := fun y => b ≤ y ∧ ¬ F y) (T := fun _ => False) (Upd.of_below_size hb34) (fun _ _ hf => hf.elim) (fun _ _ e => e)
    have hC03 := hC3.then hb34
    have hb02 := hb01
    have hbw := h.out.hbb
    have hz2l := hz1.lt
    obtain ⟨hu30, F3, hS3, hF3⟩ := hC03
    have hC03 : Chg b w0 w4 F 30 g mask l' := ⟨hu30, F3, hS3, hF3⟩
    have hjn := nd_joined hS3 pf pt
    obtain ⟨y6, hy6⟩ : ∃ y, w3.heap.size = y := ⟨_, rfl⟩
    rw [hy6] at hx3
    have p0 := hx3.cell 0
    have p1 := hx3.cell 1
    have p2 := hx3.cell 2
    obtain ⟨qs, hqs⟩ : ∃ q, (sideB mask pf == sideB mask pt) = q := ⟨_, rfl⟩
    rw [hqs] at hjn
    have hRR := hRT2.out
    rw [hqs] at hRR
    replace hjn := Lib.hid hjn
    replace hC03 := Lib.hid hC03
    replace hld3 := Lib.hid hld3
    replace hS3 := Lib.hid hS3
    clear hRT2 hqs
    go_upto_region 4 with (fail)
    rw [← hw4]
    try rw [hy6]
    clear hw4
    go_wp2_with fail
    refine hjn.out.mono ?_
    clear hjn
    rintro e w5 ⟨rfl, hb5⟩
    try dsimp only
    have hz5 := hz3.below hb5 hz3.lt
    have hx5 := hx3.below hb5 hx3.lt
    have hC05 := hC03.out.then hb5
    have hld5 := hld3.out.next (P' := fun y => b ≤ y ∧ ¬ F y) (T := fun _ => False) (Upd.of_below_size hb5) (fun _ _ hf => hf.elim) (fun _ _ e => e)
    clear p0 p1 p2 hz3 hx3
    cases qs
    · rw [if_neg (by decide)] at hRR
      subst hRR
      replace hC05 := Lib.hid hC05
      have f0 := hz5.frozen 0
      have f1 := hz5.frozen 1
      have f2 := hz5.frozen 2
      have k0 := hz5.cell 0
      have k1 := hz5.cell 1
      have k2 := hz5.cell 2
      have hze := ((hz5.set_ 0 (.int .i64 0)).set_ 1 (.int .i64 0)).set_ 2 (.slice none 0 0)
      have uE : Upd (fun y => y = z4) w5 (((w5.setCell ⟨z4, 0, none⟩ (.int .i64 0)).setCell ⟨z4, 1, none⟩ (.int .i64 0)).setCell ⟨z4, 2, none⟩ (.slice none 0 0)) := (((Upd.refl (fun y => y = z4) w5).setCell (p := ⟨z4, 0, none⟩) (fun _ => rfl) _).setCell (p := ⟨z4, 1, none⟩) (fun _ => rfl) _).setCell (p := ⟨z4, 2, none⟩) (fun _ => rfl) _
      replace hze := Lib.hid hze
      replace uE := Lib.hid uE
      go_wp2_with fail
      refine bodyPost_ret (v := .tuple #[.agg #[.int .i64 0, .int .i64 0, .slice none 0 0], .bool false]) ?hr rfl ?_
      case hr => exact results_ct rfl _ _ z4 33 _ (0, 0) _ _ rfl rfl hze.out Try.underlying33 rfl (by kernel_rfl)
      exact ⟨#[.int .i64 0, .int .i64 0, .slice none 0 0], rfl, zero_pk _ _, hC05.out.put hb02 uE.out (fun y e => by rw [e]; exact ⟨by omega, hz2l, hzF⟩) hbw⟩
    · rw [if_pos rfl] at hRR
      subst hRR
      have p0 := hx5.cell 0
      have p1 := hx5.cell 1
      have p2 := hx5.cell 2
      have f0 := hz5.frozen 0
      have f1 := hz5.frozen 1
      have f2 := hz5.frozen 2
      have k0 := hz5.cell 0
      have k1 := hz5.cell 1
      have k2 := hz5.cell 2
      have hze := ((hz5.set_ 0 (.int .i64 pf)).set_ 1 (.int .i64 pt)).set_ 2 (.slice B LB cB)
      have uE : Upd (fun y => y = z4) w5 (((w5.setCell ⟨z4, 0, none⟩ (.int .i64 pf)).setCell ⟨z4, 1, none⟩ (.int .i64 pt)).setCell ⟨z4, 2, none⟩ (.slice B LB cB)) := (((Upd.refl (fun y => y = z4) w5).setCell (p := ⟨z4, 0, none⟩) (fun _ => rfl) _).setCell (p := ⟨z4, 1, none⟩) (fun _ => rfl) _).setCell (p := ⟨z4, 2, none⟩) (fun _ => rfl) _
      have hldE := hld5.next (P' := fun y => b ≤ y ∧ ¬ F y) uE (fun y _ e => ⟨by have := h.out.hbb; omega, fun hf => hzF (by rw [← e]; exact hf)⟩) (fun _ _ e => e)
      have hCE := hC05.put hb02 uE (fun y e => by rw [e]; exact ⟨by omega, hz2l, hzF⟩) hbw
      replace hze := Lib.hid hze
      replace hldE := Lib.hid hldE
      replace hCE := Lib.hid hCE
      clear uE hC05 hld5
      go_wp2_with fail
      refine bodyPost_ret (v := .tuple #[.agg #[.int .i64 pf, .int .i64 pt, .slice B LB cB], .bool true]) ?hr rfl ?_
      case hr => exact results_ct rfl _ _ z4 33 _ (0, 0) _ _ rfl rfl hze.out Try.underlying33 rfl (by kernel_rfl)
      exact ⟨#[.int .i64 pf, .int .i64 pt, .slice B LB cB], rfl, hldE.out, hCE.out⟩
end Go.Proofs.Ytfhdnehheoligaa
