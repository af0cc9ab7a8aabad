/- Nets: Send, slices.Delete, Drop, Double. -/
import Derived.Test.YtfhdnehheoligaaNp3
import Derived.Test.YtfhdnehheoligaaDelete
set_option linter.unusedSimpArgs false
set_option linter.unusedVariables false
namespace Go.Proofs.Ytfhdnehheoligaa
open Go.RowKit
set_option maxRecDepth 100000

set_option maxHeartbeats 3200000 in
theorem delete_pk {w : World} {gA N c i : Nat} {xs : List Value} (h : Own w 33 3 (some ⟨gA, 0, none⟩) N c xs) (hiN : i < N) (hN4 : N ≤ 1000) (hone : ∀ u ∈ xs, u.oneCell' = true) :
    Calls Try.prog 19 #[.slice (some ⟨gA, 0, none⟩) N c, .int .i64 (i : Int), .int .i64 ((i : Int) + 1)] w (fun e w' => e = .returned (.slice (some ⟨gA, 0, none⟩) (N - 1) c) ∧ Own w' 33 3 (some ⟨gA, 0, none⟩) (N - 1) c (xs.take (i * 3) ++ xs.drop ((i + 1) * 3)) ∧ Upd (fun k => k = gA) w w') := by
  obtain ⟨i0, hi, hz0, hz1, hz2⟩ := info_parts info_pk
  have hcap := h.le_cap
  obtain ⟨n1, hn1⟩ : ∃ n1, N - 1 = n1 := ⟨_, rfl⟩
  rw [hn1]
  replace hn1 := Lib.hid hn1
  have d1 : ((i : Int) == (i : Int) + 1) = false := by rw [beq_eq_false_iff_ne]; omega
  have b1 : (i : Int) ≤ (i : Int) + 1 := by omega
  have b2 : (i : Int) + 1 ≤ (N : Int) := by omega
  have b3 : (N : Int) ≤ (c : Int) := by omega
  have b4 : (0 : Int) ≤ (i : Int) := by omega
  have b5 : (i : Int) ≤ (c : Int) := by omega
  have b6 : i + 1 ≤ N := by omega
  have b7 : i ≤ c := by omega
  have b8 : (0 : Int) ≤ (i : Int) + 1 := by omega
  have b9 : ((i : Int) + 1).toNat = i + 1 := by omega
  have b10 : i ≤ N := by omega
  go_enter Try.func19, Try.ntmps19
  go_upto_region 5 with (fail)
  have hS0 : Below w.heap.size w w.drew := (Below.refl _ _).drew
  refine wp_region_lex (fun W => Below w.heap.size w W) [] [6] [0, 1, 2, 3, 4, 5, 6, 7] (by kernel_rfl) rfl (by kernel_rfl) (by kernel_rfl) (fun _ _ d _ _ h => by cases d <;> exact h) ?_
  repeat (first | (refine lexG_take _ ?_ rfl rfl rfl rfl (fun _ => ?_) ?_; rotate_left; (focus (go_simp; with_reducible rfl)); try simp only [Act.put, List.setIfInBounds_toArray, List.set_cons_zero, List.set_cons_succ]) | (refine lexG_held _ ?_ rfl rfl rfl rfl (by assumption) (fun _ hSw => ?_) ?_; rotate_left; (focus ((try dsimp only at hSw); go_simp; with_reducible rfl)); try simp only [Act.put, List.setIfInBounds_toArray, List.set_cons_zero, List.set_cons_succ]) | (refine lexG_skip _ rfl rfl (by assumption) ?_; try simp only [Act.put, List.setIfInBounds_toArray, List.set_cons_zero, List.set_cons_succ]))
  have hsrc := ((h.reads_.cut (k := i + 1) (cap := c) b6 hcap).drew)
  have eA : (if c = i + 1 then some (⟨gA, 0, none⟩ : Addr) else Option.map (fun x : Addr => x.add ((i + 1) * 3)) (some (⟨gA, 0, none⟩ : Addr))) = (if c = i + 1 then some (⟨gA, 0, none⟩ : Addr) else some (⟨gA, (i + 1) * 3, none⟩ : Addr)) := by
    split
    · rfl
    · simp [Addr.add]
  rw [eA] at hsrc
  generalize (if c = i + 1 then some (⟨gA, 0, none⟩ : Addr) else some (⟨gA, (i + 1) * 3, none⟩ : Addr)) = AA at *
  have hown := (h.first b10).below hS0 (Nat.le_refl _)
  refine lexG_nowF _ rfl rfl rfl (by kernel_rfl) (fun K0 hK => ?_)
  refine wp_append_room _ _ 27 27 rfl 33 i0 3 Try.underlying27 hi hz1 rfl hown rfl (Src.ofReads Try.underlying27 _ hsrc (fun u hu => hone u (List.mem_of_mem_drop hu))) (by omega) (fun w8 ho8 hu8 hs8 => ?_)
  refine hK _ _ ?_
  clear hK K0
  try simp only [Act.put, List.setIfInBounds_toArray, List.set_cons_zero, List.set_cons_succ]
  repeat (first | (refine lexG_take _ ?_ rfl rfl rfl rfl (fun _ => ?_) ?_; rotate_left; (focus (go_simp; with_reducible rfl)); try simp only [Act.put, List.setIfInBounds_toArray, List.set_cons_zero, List.set_cons_succ]) | (refine lexG_held _ ?_ rfl rfl rfl rfl (by assumption) (fun _ hSw => ?_) ?_; rotate_left; (focus ((try dsimp only at hSw); go_simp; with_reducible rfl)); try simp only [Act.put, List.setIfInBounds_toArray, List.set_cons_zero, List.set_cons_succ]) | (refine lexG_skip _ rfl rfl (by assumption) ?_; try simp only [Act.put, List.setIfInBounds_toArray, List.set_cons_zero, List.set_cons_succ]))
  refine lexG_nil ?_
  have eN : i + (N - (i + 1)) = n1 := by have := hn1.out; omega
  rw [eN] at ho8 ⊢
  go_upto_region 6 with (fail)
  obtain ⟨w9, hrun, ho9, hu9, -⟩ := run_clear_behind (P := Try.prog) 27 0 33 i0 _ 3 Try.underlying27 hi hz0 (by decide) (by intro u hu; have h' : u ∈ ([Value.int .i64 0, .int .i64 0, .slice none 0 0] : List Value) := hu; simp only [List.mem_cons, List.not_mem_nil, or_false] at h'; rcases h' with rfl | rfl | rfl <;> rfl) (n := n1) (k := 1) (cc := c - n1) ho8 (by decide) (Nat.le_refl _) (by have := hn1.out; omega)
  have hn1' := hn1.out
  have m1 : (n1 : Int) ≤ (N : Int) := by omega
  have m2 : n1 ≤ N := by omega
  have m3 : ¬ c = n1 := by omega
  have m4 : N - n1 = 1 := by omega
  clear hn1'
  have hu := ((Upd.of_below_size (S := fun k => k = gA) hS0).trans hu8 (fun _ _ e => e)).trans hu9 (fun _ _ e => e)
  replace ho9 := Lib.hid ho9
  replace hu := Lib.hid hu
  clear ho8 hu8 hu9 hsrc hown eN
  go_wp2_with fail
  go_ret
  exact ⟨rfl, ho9.out, hu.out⟩

/-- Packets in a row, cell by cell. -/
theorem row_cells {w : World} {AP : Option Addr} {M cP : Nat} {xp : List Value} {csp : Nat → Array Value} (ho : Own w 33 3 AP M cP xp) {ps : List PkD} (hM : ps.length = M) (hr : ∀ k p, ps[k]? = some p → PkReads w p (csp k)) (hxp : ∀ k p, ps[k]? = some p → (xp.drop (k * 3)).take 3 = (csp k).toList) {j : Nat} {p : PkD} (hj : ps[j]? = some p) :
    ∃ gP B cB, AP = some ⟨gP, 0, none⟩ ∧ csp j = #[.int .i64 p.f, .int .i64 p.t, .slice B p.b.length cB] ∧ w.cell? ⟨gP, j * 3, none⟩ = some (.int .i64 p.f) ∧ w.cell? ⟨gP, j * 3 + 1, none⟩ = some (.int .i64 p.t) ∧ w.cell? ⟨gP, j * 3 + 2, none⟩ = some (.slice B p.b.length cB) ∧ Reads w w.heap.size 1 B p.b.length (bys p.b) := by
  have hjl := lt_at hj
  obtain ⟨gA, cur, rfl, hcur, hle, htk, -⟩ := ho.open_s (by omega)
  obtain ⟨B, cB, hcs, hr⟩ := hr j p hj
  have hx := hxp j p hj
  rw [hcs] at hx
  have hc : ∀ t v, t < 3 → ([Value.int .i64 p.f, .int .i64 p.t, .slice B p.b.length cB] : List Value)[t]? = some v → w.cell? ⟨gA, j * 3 + t, none⟩ = some v := fun t v ht hv => by
    rw [hcur.cell]
    have h1 := window hx t ht
    rw [← htk, List.getElem?_take, if_pos (by omega)] at h1
    rw [show cur[j * 3 + t]? = cur.toList[j * 3 + t]? by simp, h1]
    exact hv
  exact ⟨gA, B, cB, rfl, hcs, hc 0 _ (by decide) rfl, hc 1 _ (by decide) rfl, hc 2 _ (by decide) rfl, hr⟩
structure SendRel (b : Nat) (w wr : World) (F : Nat → Prop) (g mask : Nat) (l : List PkD) (A : Option Addr) (l' : List PkD) : Prop where
  X : ∃ F' A' c' xs' css' C', NetX b wr F' 47 g mask (l ++ l') A' c' xs' css' C' ∧ (∀ y, bOf A' = some y → bOf A = some y ∨ w.heap.size ≤ y) ∧ ∀ y, F' y → F y ∨ w.heap.size ≤ y
  U : Upd (fun y => y = g ∨ bOf A = some y) w wr
set_option maxHeartbeats 6400000 in
theorem np_send {b : Nat} {w : World} {F : Nat → Prop} {g mask : Nat} {l : List PkD} {A : Option Addr} {c : Nat} {xs : List Value} {css : Nat → Array Value} {C : Nat → Prop} {AP : Option Addr} {M cP : Nat} {xp : List Value} {csp : Nat → Array Value} {ps : List PkD} (h : NetX b w F 47 g mask l A c xs css C) (ho : Own w 33 3 AP M cP xp) (hM : ps.length = M) (hd : ∀ y, bOf AP = some y → ¬ (y = g ∨ bOf A = some y))
    (hp : ∀ k p, ps[k]? = some p → PkHeld w (fun y => (y = g ∨ bOf A = some y) ∨ w.heap.size ≤ y) p (csp k)) (hxp : ∀ k p, ps[k]? = some p → (xp.drop (k * 3)).take 3 = (csp k).toList) (hl : l.length + M ≤ 1000) (hb : ∀ p ∈ ps, p.b.length ≤ 1000) :
    Calls Try.prog 12 #[.pointer (some ⟨g, 0, none⟩), .slice AP M cP] w (fun e w' => e = .returned (.tuple #[]) ∧ Chg b w w' F 47 g mask (l ++ ps)) := by
  obtain ⟨i0, hi, hz0, hz1, hz2⟩ := info_parts info_pk
  have hcap := ho.le_cap
  replace h := Lib.hid h
  replace ho := Lib.hid ho
  replace hp := Lib.hid hp
  replace hM := Lib.hid hM
  go_enter Try.func12, Try.ntmps12
  go_wp2_with fail
  go_loopw [8] (fun z wr => ∃ K : Nat, K ≤ M ∧ z = .int .i64 (K : Int) ∧ SendRel b w wr F g mask l A (ps.take K)) (fun z _ => M - (intOf z).toNat)
  case atStart => exact ⟨0, Nat.zero_le _, rfl, ⟨F, A, c, xs, css, C, by rw [List.take_zero, List.append_nil]; exact h.out, fun _ e => .inl e, fun _ e => .inl e⟩, Upd.refl _ _⟩
  case round =>
    rename_i hrel
    obtain ⟨K, hk, rfl, R⟩ := hrel
    by_cases hlt : K < M
    · have hgk : ps[K]? = some (ps[K]'(by rw [hM.out]; exact hlt)) := List.getElem?_eq_getElem _
      have hbk := hb _ (List.getElem_mem (by rw [hM.out]; exact hlt : K < ps.length))
      generalize ps[K]'(by rw [hM.out]; exact hlt) = p at hgk hbk
      have htk : ps.take (K + 1) = ps.take K ++ [p] := by rw [List.take_add_one, hgk]; rfl
      have hU := R.U
      obtain ⟨F', A', c', xs', css', C', X, hA', hF'⟩ := R.X
      have hor := ho.out.upd hU (fun y hy e => hd y hy e)
      have hpr : ∀ k p, ps[k]? = some p → PkReads wr p (csp k) := fun k p hk => hp.out k p hk _ wr hU (fun y e => .inl e)
      obtain ⟨gP, B, cB, rfl, -, g0, g1, g2, hrB⟩ := row_cells hor hM.out hpr hxp hgk
      have hdk : decide ((K : Int) < (M : Int)) = true := decide_eq_true (by omega)
      have hkw : IntKind.i64.wrap ((K : Int) + 1) = (K : Int) + 1 := by rw [IntKind.wrap_i64]; omega
      obtain ⟨pf, pt, pb⟩ := p
      dsimp only at g0 g1 g2 hrB hbk
      obtain ⟨LB, hLB⟩ : ∃ q, pb.length = q := ⟨_, rfl⟩
      rw [hLB] at g2 hbk
      have hlK : (l ++ ps.take K).length = l.length + K := by rw [List.length_append, List.length_take, hM.out]; omega
      obtain ⟨n1, hn1⟩ : ∃ q, l.length + K = q := ⟨_, rfl⟩
      rw [hn1] at hlK
      have hbgr := X.blk
      have hoA := X.ho
      rw [hlK] at hbgr hoA
      obtain ⟨w5, hw5⟩ : ∃ q, q = wr.alloc (.cells #[.int .i64 pf, .int .i64 pt, .slice B LB cB] 33) := ⟨_, rfl⟩
      have hb5 : Below wr.heap.size wr w5 := by rw [hw5]; exact (Below.refl _ _).alloc (Nat.le_refl _) _
      have hx5 : Blk w5 wr.heap.size 33 #[.int .i64 pf, .int .i64 pt, .slice B LB cB] := by rw [hw5]; exact Blk.new wr _ _
      have hbg := hbgr.below hb5 hbgr.lt
      have hoA5 := hoA.below hb5 (Nat.le_refl _)
      have hA'l : ∀ y, bOf A' = some y → y < wr.heap.size := fun y hy => X.ho.lt hy
      have hgA : ¬ bOf A' = some g := fun e => X.neA g e rfl
      have hpA : ¬ bOf A' = some wr.heap.size := fun e => by have := hA'l _ e; omega
      have hgl := hbgr.lt
      obtain ⟨p5, hp5⟩ : ∃ y, wr.heap.size = y := ⟨_, rfl⟩
      have hs5 := hb5.size
      rw [hp5] at hx5 hpA
      replace X := Lib.hid X
      replace htk := Lib.hid htk
      clear hbgr hgk R
      go_upto_region 3 with (fail)
      rw [← hw5]
      try rw [hp5]
      clear hw5 g0 g1 g2
      have hS0 : Upd (fun y => bOf A' = some y) w5 w5.drew := Upd.of_below_size (Below.refl _ _).drew
      refine wp_region_lex (fun W => Upd (fun y => bOf A' = some y) w5 W) [4, 5] [6, 7, 8, 11] [0, 1, 2, 3, 4, 5, 6, 7, 8, 9, 10, 11] (by kernel_rfl) rfl (by kernel_rfl) (by kernel_rfl) (fun _ _ d _ _ h => by cases d <;> exact h) ?_
      repeat (first | (refine lexG_take _ ?_ rfl rfl rfl rfl (fun _ => ?_) ?_; rotate_left; (focus (go_simp; with_reducible rfl)); try simp only [Act.put, List.setIfInBounds_toArray, List.set_cons_zero, List.set_cons_succ]) | (refine lexG_held _ ?_ rfl rfl rfl rfl (by assumption) (fun _ hSw => ?_) ?_; rotate_left; (focus (have h1 := (hbg.upd hSw hgA).cell 0; have h2 := (hx5.upd hSw hpA).cell 0; have h3 := (hx5.upd hSw hpA).cell 1; have h4 := (hx5.upd hSw hpA).cell 2; clear hSw; go_simp; with_reducible rfl)); try simp only [Act.put, List.setIfInBounds_toArray, List.set_cons_zero, List.set_cons_succ]) | (refine lexG_skip _ rfl rfl (by assumption) ?_; try simp only [Act.put, List.setIfInBounds_toArray, List.set_cons_zero, List.set_cons_succ]))
      have hcl := np_clone (f := pf) (t := pt) (c := cB) (hrB.below hb5 |>.drew.more hb5.size) hLB (by omega)
      refine lexG_now _ rfl rfl rfl (fun K0 hK => ?_)
      go_wp2_with fail
      refine hcl.mono ?_
      clear hcl
      rintro e w6 ⟨B', cB', rfl, hoB, hB', hb6⟩
      try dsimp only
      have hb56 := below_then hb6 (Below.refl w5.heap.size w5).drew
      refine hK _ _ _ (fun _ h => h) (Upd.of_below_size hb56) ?_
      clear hK K0
      try simp only [Act.put, List.setIfInBounds_toArray, List.set_cons_zero, List.set_cons_succ]
      repeat (first | (refine lexG_take _ ?_ rfl rfl rfl rfl (fun _ => ?_) ?_; rotate_left; (focus (go_simp; with_reducible rfl)); try simp only [Act.put, List.setIfInBounds_toArray, List.set_cons_zero, List.set_cons_succ]) | (refine lexG_held _ ?_ rfl rfl rfl rfl (by assumption) (fun _ hSw => ?_) ?_; rotate_left; (focus (have h1 := (hbg.upd hSw hgA).cell 0; have h2 := (hx5.upd hSw hpA).cell 0; have h3 := (hx5.upd hSw hpA).cell 1; have h4 := (hx5.upd hSw hpA).cell 2; clear hSw; go_simp; with_reducible rfl)); try simp only [Act.put, List.setIfInBounds_toArray, List.set_cons_zero, List.set_cons_succ]) | (refine lexG_skip _ rfl rfl (by assumption) ?_; try simp only [Act.put, List.setIfInBounds_toArray, List.set_cons_zero, List.set_cons_succ]))
      have hsrc := Reads.lit (size := 3) w6 #[.int .i64 pf, .int .i64 pt, .slice B' LB cB'] 33 (0, 0) 1 [.int .i64 pf, .int .i64 pt, .slice B' LB cB'] rfl rfl
      have hb67 := (Below.refl w6.heap.size w6).alloc (Nat.le_refl _) (.cells #[.int .i64 pf, .int .i64 pt, .slice B' LB cB'] 33)
      have hS7 := hb56.alloc hb56.size (.cells #[.int .i64 pf, .int .i64 pt, .slice B' LB cB'] 33)
      have hoB7 := hoB.below hb67 (Nat.le_refl _)
      refine lexG_now _ rfl rfl rfl (fun K0 hK => ?_)
      go_wp2_with fail
      generalize w6.alloc (.cells #[.int .i64 pf, .int .i64 pt, .slice B' LB cB'] 33) = w7 at *
      refine hK _ _ _ (fun _ h => h) (Upd.of_below_size hS7) ?_
      clear hK K0
      try simp only [Act.put, List.setIfInBounds_toArray, List.set_cons_zero, List.set_cons_succ]
      repeat (first | (refine lexG_take _ ?_ rfl rfl rfl rfl (fun _ => ?_) ?_; rotate_left; (focus (go_simp; with_reducible rfl)); try simp only [Act.put, List.setIfInBounds_toArray, List.set_cons_zero, List.set_cons_succ]) | (refine lexG_held _ ?_ rfl rfl rfl rfl (by assumption) (fun _ hSw => ?_) ?_; rotate_left; (focus (have h1 := (hbg.upd hSw hgA).cell 0; have h2 := (hx5.upd hSw hpA).cell 0; have h3 := (hx5.upd hSw hpA).cell 1; have h4 := (hx5.upd hSw hpA).cell 2; clear hSw; go_simp; with_reducible rfl)); try simp only [Act.put, List.setIfInBounds_toArray, List.set_cons_zero, List.set_cons_succ]) | (refine lexG_skip _ rfl rfl (by assumption) ?_; try simp only [Act.put, List.setIfInBounds_toArray, List.set_cons_zero, List.set_cons_succ]))
      have ho7 := hoA5.below hS7 (Nat.le_refl _)
      refine lexG_now _ rfl rfl rfl (fun K0 hK => ?_)
      refine wp_append_mine _ _ 27 27 rfl 33 i0 _ 3 40 Try.underlying27 hi hz0 hz1 hz2 rfl rfl ho7 rfl (Src.ofReads Try.underlying27 _ hsrc (by intro u hu; simp only [List.mem_cons, List.not_mem_nil, or_false] at hu; rcases hu with rfl | rfl | rfl <;> rfl)) (by unfold maxLen; omega) (by omega) (fun A8 c8 w8 ho8 hg8 hat8 => ?_)
      have hU8 := (Upd.of_below_size (S := fun y => bOf A' = some y) hS7).grown hg8 (fun k e _ => e)
      refine hK _ _ _ (fun _ h => h) hU8 ?_
      clear hK K0
      try simp only [Act.put, List.setIfInBounds_toArray, List.set_cons_zero, List.set_cons_succ]
      repeat (first | (refine lexG_take _ ?_ rfl rfl rfl rfl (fun _ => ?_) ?_; rotate_left; (focus (go_simp; with_reducible rfl)); try simp only [Act.put, List.setIfInBounds_toArray, List.set_cons_zero, List.set_cons_succ]) | (refine lexG_held _ ?_ rfl rfl rfl rfl (by assumption) (fun _ hSw => ?_) ?_; rotate_left; (focus (have h1 := (hbg.upd hSw hgA).cell 0; have h2 := (hx5.upd hSw hpA).cell 0; have h3 := (hx5.upd hSw hpA).cell 1; have h4 := (hx5.upd hSw hpA).cell 2; clear hSw; go_simp; with_reducible rfl)); try simp only [Act.put, List.setIfInBounds_toArray, List.set_cons_zero, List.set_cons_succ]) | (refine lexG_skip _ rfl rfl (by assumption) ?_; try simp only [Act.put, List.setIfInBounds_toArray, List.set_cons_zero, List.set_cons_succ]))
      have hbg8 := hbg.upd hU8 hgA
      have k0 := hbg8.cell 0
      have f0 := hbg8.frozen 0
      have hbE : Blk (w8.setCell ⟨g, 0, none⟩ (.slice A8 (n1 + 1) c8)) g 47 #[.slice A8 (n1 + 1) c8, .int .u64 (mask : Int)] := hbg8.set_ 0 _
      have u9 : Upd (fun y => y = g) w8 (w8.setCell ⟨g, 0, none⟩ (.slice A8 (n1 + 1) c8)) := (Upd.refl (fun y => y = g) w8).setCell (p := ⟨g, 0, none⟩) (fun _ => rfl) _
      have hb07 : Below wr.heap.size wr w7 := below_then hS7 hb5
      have hB'w : ∀ y, bOf B' = some y → w5.heap.size ≤ y := fun y hy => hB' y hy
      have hld : PkHeld w7 (fun y => ¬ bOf B' = some y) ⟨pf, pt, pb⟩ #[.int .i64 pf, .int .i64 pt, .slice B' LB cB'] := by
        rw [← hLB] at hoB7 ⊢
        exact held_own hoB7 (fun y hy hP => hP hy)
      have hpush := X.out.pushX (D := fun y => bOf B' = some y) (p := ⟨pf, pt, pb⟩) (cs := #[.int .i64 pf, .int .i64 pt, .slice B' LB cB']) hb07 (by rw [hlK]; exact ho8) hg8 hat8 u9 (by rw [hlK]; exact hbE) hld (fun y hy => .inl ⟨by have := hB'w y hy; omega, hoB7.lt hy⟩) (by rw [hlK]; omega) (by rw [← hLB] at hbk; exact hbk)
      have hA8 : ∀ y, bOf A8 = some y → bOf A = some y ∨ w.heap.size ≤ y := fun y hy => by
        rcases hat8 with e | e <;> rw [e] at hy
        · exact hA' y hy
        · have h1 : w7.heap.size = y := by injection hy
          have h2 := hU.size
          have h3 := hb07.size
          exact .inr (by omega)
      have hend : SendRel b w (w8.setCell ⟨g, 0, none⟩ (.slice A8 (n1 + 1) c8)) F g mask l A (ps.take (K + 1)) :=
        ⟨⟨fun y => F' y ∨ (wr.heap.size ≤ y ∧ y < (w8.setCell ⟨g, 0, none⟩ (.slice A8 (n1 + 1) c8)).heap.size), A8, c8, _, _, _, by rw [htk.out, ← List.append_assoc]; exact hpush.2, hA8, fun y hy => hy.elim (hF' y) (fun e => .inr (by have := hU.size; omega))⟩, hU.trans hpush.1 (fun y hy e => by
          rcases e with e | e
          · exact .inl e
          · rcases hA' y e with e | e
            · exact .inr e
            · omega)⟩
      replace hend := Lib.hid hend
      clear hpush hA8
      refine lexG_nowF _ rfl rfl rfl (by kernel_rfl) (fun K0 hK => ?_)
      go_wp2_with fail
      try simp only [Act.put, List.setIfInBounds_toArray, List.set_cons_zero, List.set_cons_succ]
      refine lexG_nil ?_
      clear hsrc hoB hoB7 ho7 ho8 hg8 hat8 hU8 hS7 hbg8 k0 f0 hld hbE u9
      go_wp2_with fail
      go_roundw
      case rel => exact ⟨K + 1, by omega, by simp, hend.out⟩
      case measure => simp [intOf]; omega
    · have hk' : K = M := by omega
      have hdk : decide ((K : Int) < (M : Int)) = false := decide_eq_false (by omega)
      have hU := R.U
      obtain ⟨F', A', c', xs', css', C', X, hA', hF'⟩ := R.X
      rw [List.take_of_length_le (by rw [hM.out]; omega)] at X
      replace X := Lib.hid X
      have hfo := fun y hy => (h.out.fo y hy).1
      replace hfo := Lib.hid hfo
      clear R
      go_wp2_with fail
      (try simp only [Exit.inBlock, Exit.then])
      refine bodyPost_end (results_none rfl _ _ _) rfl ?_
      exact ⟨rfl, hU.mono (fun y _ e => hfo.out y e), F', ⟨A', c', xs', css', C', X.out⟩, hF'⟩
end Go.Proofs.Ytfhdnehheoligaa
