/- Nets: All; the document's cut and Take; packets held against one another. -/
import Derived.Test.YtfhdnehheoligaaNp5
set_option linter.unusedSimpArgs false
set_option linter.unusedVariables false
namespace Go.Proofs.Ytfhdnehheoligaa
open Go.RowKit
set_option maxRecDepth 100000

/-- A row of packets that a walk builds, in blocks from b on. -/
structure PksP (w : World) (b : Nat) (A : Option Addr) (c : Nat) (ps : List PkD) (xs : List Value) (css : Nat → Array Value) : Prop where
  ho : Own w 33 3 A ps.length c xs
  hA : ∀ y, bOf A = some y → b ≤ y
  hx : ∀ j p, ps[j]? = some p → PkHeld w (fun y => y < b ∨ bOf A = some y) p (css j)
  hxs : ∀ j p, ps[j]? = some p → (xs.drop (j * 3)).take 3 = (css j).toList
theorem PksP.nil (w : World) (b : Nat) : PksP w b none 0 [] [] (fun _ => #[]) := ⟨Own.none_, by simp [bOf], by simp, by simp⟩
theorem PksP.below {w : World} {b : Nat} {A : Option Addr} {c : Nat} {ps : List PkD} {xs : List Value} {css : Nat → Array Value} {w' : World} (h : PksP w b A c ps xs css) (hb : Below w.heap.size w w') : PksP w' b A c ps xs css :=
  ⟨h.ho.below hb (Nat.le_refl _), h.hA, fun j p hj => (h.hx j p hj).next (T := fun _ => False) (Upd.of_below_size hb) (fun _ _ hf => hf.elim) (fun _ _ e => e), h.hxs⟩
theorem PksP.push {w : World} {b : Nat} {A : Option Addr} {c : Nat} {ps : List PkD} {xs : List Value} {css : Nat → Array Value} {w7 w8 : World} {A8 : Option Addr} {c8 : Nat} {p : PkD} {cs : Array Value} (h : PksP w b A c ps xs css) (hbw : b ≤ w.heap.size) (hb7 : Below w.heap.size w w7) (ho8 : Own w8 33 3 A8 (ps.length + 1) c8 (xs ++ cs.toList)) (hg8 : w7.grownBy w8 (bOf A)) (hat : bOf A8 = bOf A ∨ bOf A8 = some w7.heap.size) (hp : PkHeld w7 (fun y => y < w.heap.size) p cs) :
    PksP w8 b A8 c8 (ps ++ [p]) (xs ++ cs.toList) (fun k => if k = ps.length then cs else css k) := by
  have hlx := h.ho.len
  have h7 := hb7.size
  have hAl : ∀ y, bOf A = some y → y < w.heap.size := fun y hy => h.ho.lt hy
  have hu8 : Upd (fun z => bOf A = some z) w7 w8 := (Upd.refl (fun z => bOf A = some z) _).grown hg8 (fun k e _ => e)
  have hu : Upd (fun z => bOf A = some z) w w8 := (Upd.of_below_size hb7).trans hu8 (fun _ _ e => e)
  have hcs : cs.toList.length = 3 := by
    obtain ⟨_, _, rfl, _⟩ := hp.reads
    rfl
  refine ⟨by rw [List.length_append]; exact ho8, fun y hy => ?_, fun j x hj => ?_, fun j x hj => ?_⟩
  · rcases hat with e | e
    · exact h.hA y (e ▸ hy)
    · have h1 : w7.heap.size = y := by rw [e] at hy; injection hy
      omega
  · rcases Nat.lt_trichotomy j ps.length with hl | hl | hl
    · rw [if_neg (by omega)]
      rw [List.getElem?_append_left hl] at hj
      refine (h.hx j x hj).next hu (fun y _ e => .inr e) (fun y hy e => ?_)
      rcases e with e | e
      · exact .inl e
      · rcases hat with e2 | e2
        · exact .inr (e2 ▸ e)
        · have h1 : w7.heap.size = y := by rw [e2] at e; injection e
          omega
    · subst hl
      rw [if_pos rfl]
      simp at hj
      subst hj
      refine hp.next hu8 (fun y _ e => hAl y e) (fun y hy e => ?_)
      rcases e with e | e
      · omega
      · rcases hat with e2 | e2
        · exact hAl y (e2 ▸ e)
        · have h1 : w7.heap.size = y := by rw [e2] at e; injection e
          omega
    · rw [List.getElem?_eq_none (by simp; omega)] at hj; cases hj
  · rcases Nat.lt_trichotomy j ps.length with hl | hl | hl
    · rw [if_neg (by omega)]
      rw [List.getElem?_append_left hl] at hj
      rw [← h.hxs j x hj, List.drop_append_of_le_length (by omega), List.take_append_of_le_length (by rw [List.length_drop]; omega)]
    · subst hl
      rw [if_pos rfl]
      simp at hj
      subst hj
      rw [List.drop_left' hlx]
      exact List.take_of_length_le (by omega)
    · rw [List.getElem?_eq_none (by simp; omega)] at hj; cases hj
set_option maxHeartbeats 3200000 in
theorem np_all {b : Nat} {w : World} {F : Nat → Prop} {g mask : Nat} {l : List PkD} (h : NetS b w F 47 g mask l) : Calls Try.prog 13 #[.pointer (some ⟨g, 0, none⟩)] w (fun e w' => ∃ A' c' xs' css', e = .returned (.slice A' l.length c') ∧ PksP w' w.heap.size A' c' l xs' css' ∧ Below w.heap.size w w') := by
  obtain ⟨i0, hi, hz0, hz1, hz2⟩ := info_parts info_pk
  obtain ⟨A, c, xs, css, C, h⟩ := h
  have hln := h.hl
  have hbp := h.hp
  obtain ⟨N, hN⟩ : ∃ q, l.length = q := ⟨_, rfl⟩
  rw [hN] at hln ⊢
  have hg0 : w.cell? ⟨g, 0, none⟩ = some (.slice A N c) := by rw [← hN]; exact h.blk.cell 0
  replace hN := Lib.hid hN
  replace h := Lib.hid h
  go_enter Try.func13, Try.ntmps13
  go_wp2_with fail
  clear hg0
  go_loopw [3, 11] (fun o z wr => ∃ (K : Nat) (A' : Option Addr) (c' : Nat) (xs' : List Value) (css' : Nat → Array Value), K ≤ N ∧ o = .slice A' K c' ∧ z = .int .i64 (K : Int) ∧ PksP wr w.heap.size A' c' (l.take K) xs' css' ∧ Below w.heap.size w wr) (fun _ z _ => N - (intOf z).toNat)
  case atStart => exact ⟨0, none, 0, [], fun _ => #[], Nat.zero_le _, rfl, rfl, PksP.nil _ _, Below.refl _ _⟩
  case round =>
    rename_i hrel
    obtain ⟨K, A', c', xs', css', hk, rfl, rfl, P, hb⟩ := hrel
    by_cases hlt : K < N
    · have hlt' : K < l.length := by rw [hN.out]; exact hlt
      have hgk : l[K]? = some l[K] := List.getElem?_eq_getElem hlt'
      have hbk := hbp _ (List.getElem_mem hlt')
      generalize l[K] = p at hgk hbk
      have htk : l.take (K + 1) = l.take K ++ [p] := by rw [List.take_add_one, hgk]; rfl
      have hlK : (l.take K).length = K := by rw [List.length_take, hN.out]; omega
      have Xr := h.out.below hb
      obtain ⟨gA, B, cB, rfl, -, g0, g1, g2, hrB⟩ := Xr.cells hgk
      have hcap : N ≤ c := by have := Xr.ho.le_cap; rw [← hN.out]; exact this
      have hd : decide ((K : Int) < (N : Int)) = true := decide_eq_true (by omega)
      have hkw : IntKind.i64.wrap ((K : Int) + 1) = (K : Int) + 1 := by rw [IntKind.wrap_i64]; omega
      obtain ⟨pf, pt, pb⟩ := p
      dsimp only at g0 g1 g2 hrB hbk
      obtain ⟨LB, hLB⟩ : ∃ q, pb.length = q := ⟨_, rfl⟩
      rw [hLB] at g2 hbk
      have hww := hb.size
      obtain ⟨w5, hw5⟩ : ∃ q, q = wr.alloc (.cells #[.int .i64 pf, .int .i64 pt, .slice B LB cB] 33) := ⟨_, rfl⟩
      have hb5 : Below wr.heap.size wr w5 := by rw [hw5]; exact (Below.refl _ _).alloc (Nat.le_refl _) _
      have hx5 : Blk w5 wr.heap.size 33 #[.int .i64 pf, .int .i64 pt, .slice B LB cB] := by rw [hw5]; exact Blk.new wr _ _
      have hs5 := hb5.size
      have hcl := np_clone (f := pf) (t := pt) (c := cB) (hrB.below hb5 |>.more hb5.size) hLB (by omega)
      obtain ⟨p5, hp5⟩ : ∃ y, wr.heap.size = y := ⟨_, rfl⟩
      rw [hp5] at hx5
      replace P := Lib.hid P
      replace htk := Lib.hid htk
      replace hlK := Lib.hid hlK
      replace hcl := Lib.hid hcl
      replace hLB := Lib.hid hLB
      clear Xr hgk hrB
      go_upto_region 5 with (fail)
      rw [← hw5]
      try rw [hp5]
      clear hw5 g0 g1 g2
      have k0 := hx5.cell 0
      have k1 := hx5.cell 1
      have k2 := hx5.cell 2
      go_wp2_with fail
      refine hcl.out.mono ?_
      clear hcl
      rintro e w6 ⟨B', cB', rfl, hoB, hB', hb6⟩
      try dsimp only
      have hsrc := Reads.lit (size := 3) w6 #[.int .i64 pf, .int .i64 pt, .slice B' LB cB'] 33 (0, 0) 1 [.int .i64 pf, .int .i64 pt, .slice B' LB cB'] rfl rfl
      have hb67 := (Below.refl w6.heap.size w6).alloc (Nat.le_refl _) (.cells #[.int .i64 pf, .int .i64 pt, .slice B' LB cB'] 33)
      have hoB7 := hoB.below hb67 (Nat.le_refl _)
      have hb07 : Below wr.heap.size wr (w6.alloc (.cells #[.int .i64 pf, .int .i64 pt, .slice B' LB cB'] 33)) := below_then hb67 (below_then hb6 hb5)
      have ho7 := P.out.ho.below hb07 (Nat.le_refl _)
      rw [hlK.out] at ho7
      have hld : PkHeld (w6.alloc (.cells #[.int .i64 pf, .int .i64 pt, .slice B' LB cB'] 33)) (fun y => y < wr.heap.size) ⟨pf, pt, pb⟩ #[.int .i64 pf, .int .i64 pt, .slice B' LB cB'] := by
        rw [← hLB.out] at hoB7 ⊢
        exact held_own hoB7 (fun y hy hP => by have := hB' y hy; omega)
      replace hld := Lib.hid hld
      replace hb07 := Lib.hid hb07
      clear hoB hoB7 k0 k1 k2 hb67
      go_wp2_with (at_builtin; go_must (refine wpList_append_mine rfl _ _ 27 27 rfl 33 i0 _ 3 40 Try.underlying27 hi hz0 hz1 hz2 rfl rfl ho7 rfl (Src.ofReads Try.underlying27 _ hsrc (by intro u hu; simp only [List.mem_cons, List.not_mem_nil, or_false] at hu; rcases hu with rfl | rfl | rfl <;> rfl)) (by unfold maxLen; omega) (by omega) (fun A8 c8 w8 ho8 hg8 hat8 => ?_)))
      have P8 := P.out.push hww hb07.out (by rw [hlK.out]; exact ho8) hg8 hat8 hld.out
      have hb8 : Below w.heap.size w w8 := (below_then hb07.out hb).grown hg8 (below_then hb07.out hb).size (fun y hy => P.out.hA y hy)
      rw [← htk.out] at P8
      replace P8 := Lib.hid P8
      replace hb8 := Lib.hid hb8
      clear ho8 hg8 hat8 hsrc
      go_roundw
      case rel => exact ⟨K + 1, A8, c8, _, _, by omega, by rfl, by simp, P8.out, hb8.out⟩
      case measure => simp [intOf]; omega
    · have hk' : K = N := by omega
      subst K
      have hd : decide ((N : Int) < (N : Int)) = false := decide_eq_false (by omega)
      rw [List.take_of_length_le (by rw [hN.out]; omega)] at P
      replace P := Lib.hid P
      go_wp2_with fail
      go_ret
      exact ⟨A', c', xs', css', rfl, P.out, hb⟩
/-- Packets that read alike. -/
theorem np_packet {w : World} {pf pt : Int} {bs : List UInt8} {B B2 : Option Addr} {c c2 n : Nat} (h1 : Reads w w.heap.size 1 B bs.length (bys bs)) (h2 : Reads w w.heap.size 1 B2 bs.length (bys bs)) (hn : bs.length = n) :
    Calls Try.prog 8 #[.agg #[.int .i64 pf, .int .i64 pt, .slice B n c], .agg #[.int .i64 pf, .int .i64 pt, .slice B2 n c2]] w (Says w (.bool true)) := by
  obtain ⟨w1, hw1⟩ : ∃ q, q = w.alloc (.cells #[.int .i64 pf, .int .i64 pt, .slice B n c] 33) := ⟨_, rfl⟩
  have hb1 : Below w.heap.size w w1 := by rw [hw1]; exact (Below.refl _ _).alloc (Nat.le_refl _) _
  have hx1 : Blk w1 w.heap.size 33 #[.int .i64 pf, .int .i64 pt, .slice B n c] := by rw [hw1]; exact Blk.new w _ _
  obtain ⟨w2, hw2⟩ : ∃ q, q = w1.alloc (.cells #[.int .i64 pf, .int .i64 pt, .slice B2 n c2] 33) := ⟨_, rfl⟩
  have hb12 : Below w1.heap.size w1 w2 := by rw [hw2]; exact (Below.refl _ _).alloc (Nat.le_refl _) _
  have hx2 : Blk w2 w1.heap.size 33 #[.int .i64 pf, .int .i64 pt, .slice B2 n c2] := by rw [hw2]; exact Blk.new w1 _ _
  have hx12 := hx1.below hb12 hx1.lt
  have hb2 := below_then hb12 hb1
  have r1 := (h1.below hb2)
  have r2 := (h2.below hb2)
  rw [hn] at r1 r2
  have hsz1 : w1.heap.size = w.heap.size + 1 := by rw [hw1]; simp
  obtain ⟨y1, hy1⟩ : ∃ y, w.heap.size = y := ⟨_, rfl⟩
  obtain ⟨y2, hy2⟩ : ∃ y, w1.heap.size = y := ⟨_, rfl⟩
  rw [hy1] at hx12
  rw [hy2] at hx2
  have hcv1 := conv_bytes (c := c) r1
  have hcv2 := conv_bytes (c := c2) r2
  go_enter Try.func8, Try.ntmps8
  go_upto_region 1 with (fail)
  rw [← hw1]
  try rw [← hw2]
  try rw [hy1]
  have hyy : y1 + 1 = y2 := by omega
  try rw [hyy]
  clear hw1 hw2 hsz1 hyy hy1 hy2
  have k0 := hx12.cell 0
  have k1 := hx12.cell 1
  have k2 := hx12.cell 2
  have j0 := hx2.cell 0
  have j1 := hx2.cell 1
  have j2 := hx2.cell 2
  go_wp2_with fail
  go_ret
  exact ⟨rfl, hb2⟩
end Go.Proofs.Ytfhdnehheoligaa
