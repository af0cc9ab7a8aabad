/- (*choirref23.Stub).Tick. -/
import Derived.Test.YtgdhiihfcngjbaaCyA
import Derived.Test.YtgdhiihfcngjbaaPvEnc
set_option linter.unusedSimpArgs false
set_option linter.unusedVariables false
set_option linter.unusedSimpArgs false
set_option linter.unusedVariables false
namespace Go.Proofs.Ytgdhiihfcngjbaa
open Go.RowKit
set_option maxRecDepth 100000

theorem StubY.setAge {w : World} {F : Nat → Prop} {g j y3 : Nat} {d : CliD} {r : RowsY} {x : OpnD} {a : Nat} (h : StubY w F g d r) (hA : r.A3 = some ⟨y3, 0, none⟩) (hj : d.op[j]? = some x) : StubY (w.setCell ⟨y3, j, none⟩ (.int .i64 (a : Int))) F g ⟨d.id, d.seq, d.op.set j ⟨x.o, a, x.now⟩, d.rp⟩ r := by
  have hjl := atLt hj
  have hU : Upd (fun z => z = y3) w (w.setCell ⟨y3, j, none⟩ (.int .i64 (a : Int))) := (Upd.refl (fun z => z = y3) w).setCell (p := ⟨y3, j, none⟩) (fun _ => rfl) _
  have hO : ∀ y, y = y3 → OwnR r g y := fun y e => (.inr (.inr (.inl (by rw [hA, e]; rfl))))
  have hmine : Own (w.setCell ⟨y3, j, none⟩ (.int .i64 (a : Int))) 3 1 r.A3 d.op.length r.c3 ((agesR d.op).set j (.int .i64 (a : Int))) := by
    have h1 := h.ha
    rw [hA] at h1
    obtain ⟨q, cur, e, hb', hle, htk, hnew⟩ := h1.open_s (by omega)
    cases e
    have h2 := hnew (w.setCell ⟨y3, j, none⟩ (.int .i64 (a : Int))) _ (hb'.set_ j (.int .i64 (a : Int))) (by simp)
    have h3 : (cur.setIfInBounds j (.int .i64 (a : Int))).toList.take (d.op.length * 1) = (agesR d.op).set j (.int .i64 (a : Int)) := by
      rw [Array.toList_setIfInBounds, ← htk, List.take_set]
    rw [h3] at h2
    rw [hA]
    exact h2
  have hl1 : agesR (d.op.set j ⟨x.o, a, x.now⟩) = (agesR d.op).set j (.int .i64 (a : Int)) := by unfold agesR; rw [List.map_set]
  have hl2 : nowsR (d.op.set j ⟨x.o, a, x.now⟩) = nowsR d.op := by
    unfold nowsR
    rw [List.map_set]
    exact set_same (by rw [List.getElem?_map, hj]; rfl)
  have hget : ∀ (i : Nat) (x' : OpnD), (d.op.set j ⟨x.o, a, x.now⟩)[i]? = some x' → ∃ x0 : OpnD, d.op[i]? = some x0 ∧ x0.o = x'.o := fun i x' hi => by
    rw [List.getElem?_set] at hi
    by_cases e : j = i
    · subst e
      rw [if_pos rfl, if_pos hjl] at hi
      cases hi
      exact ⟨x, hj, rfl⟩
    · rw [if_neg e] at hi
      exact ⟨x', hi, rfl⟩
  refine ⟨?blk, ?ho, ?ha, ?hg, ?hr, ?hx, ?hxs, ?rx, h.rxs, h.fo, fun y hy => Nat.lt_of_lt_of_le (h.ft y hy) hU.size, h.hid, h.hsq, by rw [List.length_set]; exact h.hn, h.hr4⟩
  case blk => rw [List.length_set]; exact h.blk.upd hU (fun e => h.ha.ne_b h.blk (by decide) y3 (by rw [hA]; rfl) e.symm)
  case ho => rw [List.length_set]; exact h.ho.upd hU (fun y hy e => by subst e; exact h.ho.ne_own h.ha (by decide) y hy (by rw [hA]; rfl))
  case ha => rw [List.length_set, hl1]; exact hmine
  case hg => rw [List.length_set, hl2]; exact h.hg.upd hU (fun y hy e => by subst e; exact h.ha.ne_own h.hg (by decide) y (by rw [hA]; rfl) hy)
  case hr => exact h.hr.upd hU (fun y hy e => by subst e; exact h.hr.ne_own h.ha (by decide) y hy (by rw [hA]; rfl))
  case hx =>
    intro i x' hi
    obtain ⟨x0, h0, e0⟩ := hget i x' hi
    rw [← e0]
    exact (h.hx i x0 h0).next hU (fun y _ e => .inr (hO y e)) (fun _ _ hp => hp)
  case hxs =>
    intro i x' hi
    obtain ⟨x0, h0, e0⟩ := hget i x' hi
    exact h.hxs i x0 h0
  case rx => exact fun i x' hi => (h.rx i x' hi).upd hU (fun y hy e => hy.2 (hO y e))
theorem StubY.setNow {w : World} {F : Nat → Prop} {g j y3 : Nat} {d : CliD} {r : RowsY} {x : OpnD} {a : Bool} (h : StubY w F g d r) (hA : r.A4 = some ⟨y3, 0, none⟩) (hj : d.op[j]? = some x) : StubY (w.setCell ⟨y3, j, none⟩ (.bool a)) F g ⟨d.id, d.seq, d.op.set j ⟨x.o, x.age, a⟩, d.rp⟩ r := by
  have hjl := atLt hj
  have hU : Upd (fun z => z = y3) w (w.setCell ⟨y3, j, none⟩ (.bool a)) := (Upd.refl (fun z => z = y3) w).setCell (p := ⟨y3, j, none⟩) (fun _ => rfl) _
  have hO : ∀ y, y = y3 → OwnR r g y := fun y e => (.inr (.inr (.inr (.inl (by rw [hA, e]; rfl)))))
  have hmine : Own (w.setCell ⟨y3, j, none⟩ (.bool a)) 4 1 r.A4 d.op.length r.c4 ((nowsR d.op).set j (.bool a)) := by
    have h1 := h.hg
    rw [hA] at h1
    obtain ⟨q, cur, e, hb', hle, htk, hnew⟩ := h1.open_s (by omega)
    cases e
    have h2 := hnew (w.setCell ⟨y3, j, none⟩ (.bool a)) _ (hb'.set_ j (.bool a)) (by simp)
    have h3 : (cur.setIfInBounds j (.bool a)).toList.take (d.op.length * 1) = (nowsR d.op).set j (.bool a) := by
      rw [Array.toList_setIfInBounds, ← htk, List.take_set]
    rw [h3] at h2
    rw [hA]
    exact h2
  have hl1 : nowsR (d.op.set j ⟨x.o, x.age, a⟩) = (nowsR d.op).set j (.bool a) := by unfold nowsR; rw [List.map_set]
  have hl2 : agesR (d.op.set j ⟨x.o, x.age, a⟩) = agesR d.op := by
    unfold agesR
    rw [List.map_set]
    exact set_same (by rw [List.getElem?_map, hj]; rfl)
  have hget : ∀ (i : Nat) (x' : OpnD), (d.op.set j ⟨x.o, x.age, a⟩)[i]? = some x' → ∃ x0 : OpnD, d.op[i]? = some x0 ∧ x0.o = x'.o := fun i x' hi => by
    rw [List.getElem?_set] at hi
    by_cases e : j = i
    · subst e
      rw [if_pos rfl, if_pos hjl] at hi
      cases hi
      exact ⟨x, hj, rfl⟩
    · rw [if_neg e] at hi
      exact ⟨x', hi, rfl⟩
  refine ⟨?blk, ?ho, ?ha, ?hg, ?hr, ?hx, ?hxs, ?rx, h.rxs, h.fo, fun y hy => Nat.lt_of_lt_of_le (h.ft y hy) hU.size, h.hid, h.hsq, by rw [List.length_set]; exact h.hn, h.hr4⟩
  case blk => rw [List.length_set]; exact h.blk.upd hU (fun e => h.hg.ne_b h.blk (by decide) y3 (by rw [hA]; rfl) e.symm)
  case ho => rw [List.length_set]; exact h.ho.upd hU (fun y hy e => by subst e; exact h.ho.ne_own h.hg (by decide) y hy (by rw [hA]; rfl))
  case hg => rw [List.length_set, hl1]; exact hmine
  case ha => rw [List.length_set, hl2]; exact h.ha.upd hU (fun y hy e => by subst e; exact h.ha.ne_own h.hg (by decide) y hy (by rw [hA]; rfl))
  case hr => exact h.hr.upd hU (fun y hy e => by subst e; exact h.hr.ne_own h.hg (by decide) y hy (by rw [hA]; rfl))
  case hx =>
    intro i x' hi
    obtain ⟨x0, h0, e0⟩ := hget i x' hi
    rw [← e0]
    exact (h.hx i x0 h0).next hU (fun y _ e => .inr (hO y e)) (fun _ _ hp => hp)
  case hxs =>
    intro i x' hi
    obtain ⟨x0, h0, e0⟩ := hget i x' hi
    exact h.hxs i x0 h0
  case rx => exact fun i x' hi => (h.rx i x' hi).upd hU (fun y hy e => hy.2 (hO y e))

theorem StubYS.openLen {w : World} {F : Nat → Prop} {g : Nat} {d : CliD} (h : StubYS w F g d) : openLen w g = d.op.length := by
  obtain ⟨r, h⟩ := h
  have h2 : w.cell? ⟨g, 2, none⟩ = some (.slice r.A d.op.length r.c) := h.blk.cell 2
  unfold Go.Proofs.Ytgdhiihfcngjbaa.openLen
  rw [h2]
structure TickY (w wr : World) (F : Nat → Prop) (g : Nat) (d : CliD) (k i : Nat) (F' : Nat → Prop) : Prop where
  X : StubYS wr F' g ⟨d.id, d.seq, opK d.op k, d.rp ++ rpK d.op k⟩
  hi : ixK d.op k = i
  hF : ∀ y, F' y → F y ∨ w.heap.size ≤ y
  U : Upd F w wr
set_option maxHeartbeats 6400000 in
theorem cy_tick {w : World} {F : Nat → Prop} {g : Nat} {d : CliD} (h : StubYS w F g d) (hage : ∀ x ∈ d.op, x.age < 1000000) (hr4 : d.rp.length < 900000) :
    Calls Try.prog 20 #[.pointer (some ⟨g, 0, none⟩)] w (fun e w' => e = .returned (.tuple #[]) ∧ CliY w w' F g (tickD d)) := by
  have hn : d.op.length ≤ 4 := h.hn
  obtain ⟨N, hN⟩ : ∃ N, d.op.length = N := ⟨_, rfl⟩
  rw [hN] at hn
  replace hN := Lib.hid hN
  replace hage := Lib.hid hage
  replace h := Lib.hid h
  go_enter Try.func20, Try.ntmps20
  go_wp2_with fail
  go_loopw [2] (fun i wr => ∃ (k j : Nat) (F' : Nat → Prop), k ≤ N ∧ i = .int .i64 (j : Int) ∧ TickY w wr F g d k j F') (fun i wr => openLen wr g - (intOf i).toNat)
  case atStart => exact ⟨0, 0, F, Nat.zero_le _, rfl, by have := h.out; simpa [opK, rpK] using this, by simp [ixK], fun _ hf => .inl hf, Upd.refl _ _⟩
  case round =>
    rename_i hrel
    obtain ⟨k, j, F', hk, rfl, R⟩ := hrel
    have hol := R.X.openLen
    have hlk : (opK d.op k).length = j + (N - k) := by rw [opK_len, hN.out, R.hi]
    dsimp only at hol
    rw [hlk] at hol
    have hj4 : j ≤ 4 := by have := ixK_le d.op k; rw [R.hi, hN.out] at this; omega
    have hrl : (d.rp ++ rpK d.op k).length < 1000000 := by
      have h1 := rpK_le d.op k
      have h2 := hN.out
      rw [List.length_append]
      omega
    obtain ⟨L, hL⟩ : ∃ q, j + (N - k) = q := ⟨_, rfl⟩
    rw [hL] at hol hlk
    obtain ⟨⟨A, c, A3, c3, A4, c4, A2, c2, xs, xs2, css, css2⟩, X⟩ := R.X
    have hg2 : wr.cell? ⟨g, 2, none⟩ = some (.slice A L c) := by rw [← hlk]; exact X.blk.cell 2
    have hg3 : wr.cell? ⟨g, 3, none⟩ = some (.slice A3 L c3) := by rw [← hlk]; exact X.blk.cell 3
    have hgl := X.blk.lt
    by_cases hlt : k < N
    · have hgk : d.op[k]? = some (d.op[k]'(by rw [hN.out]; exact hlt)) := List.getElem?_eq_getElem _
      have hagx := hage.out _ (List.getElem_mem (by rw [hN.out]; exact hlt : k < d.op.length))
      generalize d.op[k]'(by rw [hN.out]; exact hlt) = x at hgk hagx
      have hgk' := opK_at hgk
      rw [R.hi] at hgk'
      have hcap : L ≤ c := by have := X.ho.le_cap; rw [← hlk]; exact this
      have hcap3 : L ≤ c3 := by have := X.ha.le_cap; rw [← hlk]; exact this
      have hcap4 : L ≤ c4 := by have := X.hg.le_cap; rw [← hlk]; exact this
      obtain ⟨y3, cur3, hA3, hb3, ga⟩ := X.age hgk'
      have e3 : A3 = some ⟨y3, 0, none⟩ := hA3
      subst e3
      have hd : decide ((j : Int) < (L : Int)) = true := decide_eq_true (by omega)
      have hjw : IntKind.i64.wrap ((j : Int) + 1) = (j : Int) + 1 := by rw [IntKind.wrap_i64]; omega
      obtain ⟨xop, xage, xnow⟩ := x
      obtain ⟨a1, ha1⟩ : ∃ q, xage + 1 = q := ⟨_, rfl⟩
      have X6 := X.setAge (a := a1) rfl hgk'
      have hu6 : Upd (fun z => z = y3) wr (wr.setCell ⟨y3, j, none⟩ (.int .i64 (a1 : Int))) := (Upd.refl (fun z => z = y3) wr).setCell (p := ⟨y3, j, none⟩) (fun _ => rfl) _
      have hF3 : F' y3 := X.fo y3 (.inr (.inr (.inl rfl)))
      have hgk6 : (CliD.mk d.id d.seq ((opK d.op k).set j ⟨xop, a1, xnow⟩) (d.rp ++ rpK d.op k)).op[j]? = some ⟨xop, a1, xnow⟩ := by
        have := atLt hgk'
        show ((opK d.op k).set j ⟨xop, a1, xnow⟩)[j]? = _
        rw [List.getElem?_set_self this]
      dsimp only at hagx ga
      have haw : IntKind.i64.wrap ((xage : Int) + 1) = (a1 : Int) := by rw [IntKind.wrap_i64]; omega
      have f3 := hb3.frozen j
      obtain ⟨w6, hw6⟩ : ∃ q, wr.setCell ⟨y3, j, none⟩ (.int .i64 (a1 : Int)) = q := ⟨_, rfl⟩
      rw [hw6] at X6 hu6
      have hlk6 : (CliD.mk d.id d.seq ((opK d.op k).set j ⟨xop, a1, xnow⟩) (d.rp ++ rpK d.op k)).op.length = L := by rw [← hlk]; exact List.length_set
      have q2 : w6.cell? ⟨g, 2, none⟩ = some (.slice A L c) := by rw [← hlk6]; exact X6.blk.cell 2
      have q3 : w6.cell? ⟨g, 3, none⟩ = some (.slice (some ⟨y3, 0, none⟩) L c3) := by rw [← hlk6]; exact X6.blk.cell 3
      have q4 : w6.cell? ⟨g, 4, none⟩ = some (.slice A4 L c4) := by rw [← hlk6]; exact X6.blk.cell 4
      obtain ⟨y3', cur3', hA3', hb3', qa⟩ := X6.age hgk6
      cases hA3'
      obtain ⟨y4, cur4, hA4, hb4, qn⟩ := X6.now hgk6
      have e4 : A4 = some ⟨y4, 0, none⟩ := hA4
      subst e4
      obtain ⟨yA, A1, c1, hAA, -, i0, i1, i2, -, -, -⟩ := X6.cells hgk6
      have eA : A = some ⟨yA, 0, none⟩ := hAA
      subst eA
      dsimp only at i0 i1 i2 qa qn
      have f4 := hb4.frozen j
      by_cases h3 : 3000 ≤ a1
      · have hd3 : decide ((3000 : Int) ≤ (a1 : Int)) = true := decide_eq_true (by omega)
        have hkp : keepO ⟨xop, xage, xnow⟩ = false := decide_eq_false (by show ¬ xage + 1 < 3000; omega)
        have hjl : j < ((opK d.op k).set j ⟨xop, a1, xnow⟩).length := by rw [List.length_set, hlk]; omega
        have hans := cy_cut (rc := xop.c) (rs := xop.s) (rn := xop.n) (er := 40) X6 (zero_held w6 F') zero_ok hjl hrl
        dsimp only at hans
        rw [show cleanV zeroV = zeroV by rfl, List.eraseIdx_set_eq] at hans
        have hlx1 := opK_gone hgk hkp
        have hrx1 := rpK_gone hgk hkp
        have hix1 := ixK_gone hgk hkp
        rw [R.hi] at hlx1 hix1
        replace hans := Lib.hid hans
        replace hlx1 := Lib.hid hlx1
        replace hrx1 := Lib.hid hrx1
        replace hix1 := Lib.hid hix1
        replace R := Lib.hid R
        replace hol := Lib.hid hol
        replace hlk := Lib.hid hlk
        replace hu6 := Lib.hid hu6
        clear X X6 hgk hgk' hgk6 hkp hjl hb3 hb3' hb4 hlk6
        go_wp2_with (rw [hw6])
        refine hans.out.mono ?_
        clear hans
        rintro e w7 ⟨rfl, hu7, F7, hS7, hF7⟩
        try dsimp only
        have hs6 := hu6.out.size
        have hol7 := hS7.openLen
        have hRU : Upd F w w7 := (R.out.U.trans (hu6.out.mono (T := F') (fun y _ e => by subst e; exact hF3)) (fun y hy e => (R.out.hF y e).resolve_right (by omega))).trans hu7 (fun y hy e => (R.out.hF y e).resolve_right (by omega))
        rw [← hlx1.out, List.append_assoc] at hS7
        rw [show ([⟨xop.c, xop.s, xop.n, 40, zeroV⟩] : List RplD) = [goneO ⟨xop, xage, xnow⟩] from rfl, ← hrx1.out] at hS7
        have hwr := R.out.U.size
        have hF8 : ∀ y, F7 y → F y ∨ w.heap.size ≤ y := fun y hy => (hF7 y hy).elim (R.out.hF y) (fun e => .inr (by omega))
        have hm : openLen w7 g - j < openLen wr g - j := by
          rw [hol7, hol.out]
          show ((opK d.op k).eraseIdx j).length - j < L - j
          rw [List.length_eraseIdx, hlk.out, if_pos (by omega)]
          omega
        replace hS7 := Lib.hid hS7
        replace hm := Lib.hid hm
        replace hRU := Lib.hid hRU
        clear hol7 hu7
        go_wp2_with fail
        go_roundw
        case rel => exact ⟨k + 1, j, F7, by omega, rfl, hS7.out, hix1.out, hF8, hRU.out⟩
        case measure => exact hm.out
      · have hd3 : decide ((3000 : Int) ≤ (a1 : Int)) = false := decide_eq_false (by omega)
        have hkp : keepO ⟨xop, xage, xnow⟩ = true := decide_eq_true (by show xage + 1 < 3000; omega)
        have hlx1 := opK_keep hgk hkp
        have hrx1 := rpK_keep hgk hkp
        have hix1 := ixK_keep hgk hkp
        rw [R.hi] at hlx1 hix1
        obtain ⟨q10, hq10⟩ : ∃ q, (a1 % 10 == 0) = q := ⟨_, rfl⟩
        have hten : (Int.tmod (a1 : Int) 10 == 0) = q10 := by
          rw [← hq10, Int.tmod_eq_emod_of_nonneg (by omega)]
          by_cases h : a1 % 10 = 0
          · rw [show (a1 : Int) % 10 = 0 by omega, h]; rfl
          · rw [beq_eq_false_iff_ne.2 (show (a1 : Int) % 10 ≠ 0 by omega), beq_eq_false_iff_ne.2 h]
        have hten' : ((a1 : Int) % 10 == 0) = q10 := by rw [← hten, Int.tmod_eq_emod_of_nonneg (by omega)]
        have hF4 : F' y4 := X6.fo y4 (.inr (.inr (.inr (.inl rfl))))
        replace hol := Lib.hid hol
        cases q10
        · have hX7 := X6
          rw [show (OpnD.mk xop a1 xnow) = tickO ⟨xop, xage, xnow⟩ by unfold tickO; dsimp only; rw [ha1, hq10, Bool.or_false], ← hlx1, ← hrx1] at hX7
          have hS7 : StubYS w6 F' g ⟨d.id, d.seq, opK d.op (k + 1), d.rp ++ rpK d.op (k + 1)⟩ := ⟨_, hX7⟩
          have hol7 := hS7.openLen
          dsimp only at hol7
          rw [opK_len, hix1, hN.out, show j + 1 + (N - (k + 1)) = L by omega] at hol7
          have hRU : Upd F w w6 := R.U.trans (hu6.mono (T := F') (fun y _ e => by subst e; exact hF3)) (fun y hy e => (R.hF y e).resolve_right (by omega))
          have hm : openLen w6 g - (intOf (.int .i64 ((j : Int) + 1))).toNat < openLen wr g - (intOf (.int .i64 (j : Int))).toNat := by
            rw [hol7, hol.out]
            simp [intOf]
            omega
          have hend : TickY w w6 F g d (k + 1) (j + 1) F' := ⟨hS7, hix1, R.hF, hRU⟩
          replace hm := Lib.hid hm
          replace hend := Lib.hid hend
          replace hlk := Lib.hid hlk
          clear hX7 hS7 hol7 hRU X X6 hgk hgk' hgk6 hkp hb3 hb3' hb4 hlk6 R hu6 hlx1 hrx1 hix1
          go_wp2_with (rw [hw6])
          go_roundw
          case rel => exact ⟨k + 1, j + 1, F', by omega, rfl, hend.out⟩
          case measure => exact hm.out
        · obtain ⟨w7, hw7⟩ : ∃ q, w6.setCell ⟨y4, j, none⟩ (.bool true) = q := ⟨_, rfl⟩
          have hX7 := X6.setNow (a := true) rfl hgk6
          have hu7 : Upd (fun z => z = y4) w6 (w6.setCell ⟨y4, j, none⟩ (.bool true)) := (Upd.refl (fun z => z = y4) w6).setCell (p := ⟨y4, j, none⟩) (fun _ => rfl) _
          dsimp only at hX7
          rw [hw7] at hX7 hu7
          rw [List.set_set, show (OpnD.mk xop a1 true) = tickO ⟨xop, xage, xnow⟩ by unfold tickO; dsimp only; rw [ha1, hq10, Bool.or_true], ← hlx1, ← hrx1] at hX7
          have hS7 : StubYS w7 F' g ⟨d.id, d.seq, opK d.op (k + 1), d.rp ++ rpK d.op (k + 1)⟩ := ⟨_, hX7⟩
          have hol7 := hS7.openLen
          dsimp only at hol7
          rw [opK_len, hix1, hN.out, show j + 1 + (N - (k + 1)) = L by omega] at hol7
          have hRU : Upd F w w7 := (R.U.trans (hu6.mono (T := F') (fun y _ e => by subst e; exact hF3)) (fun y hy e => (R.hF y e).resolve_right (by omega))).trans (hu7.mono (T := F') (fun y _ e => by subst e; exact hF4)) (fun y hy e => (R.hF y e).resolve_right (by omega))
          have hm : openLen w7 g - (intOf (.int .i64 ((j : Int) + 1))).toNat < openLen wr g - (intOf (.int .i64 (j : Int))).toNat := by
            rw [hol7, hol.out]
            simp [intOf]
            omega
          have hend : TickY w w7 F g d (k + 1) (j + 1) F' := ⟨hS7, hix1, R.hF, hRU⟩
          replace hm := Lib.hid hm
          replace hend := Lib.hid hend
          replace hlk := Lib.hid hlk
          clear hX7 hS7 hol7 hRU X X6 hgk hgk' hgk6 hkp hb3 hb3' hb4 hlk6 R hu6 hlx1 hrx1 hix1 hu7
          go_wp2_with (rw [hw6])
          try rw [hw7]
          go_roundw
          case rel => exact ⟨k + 1, j + 1, F', by omega, rfl, hend.out⟩
          case measure => exact hm.out
    · have hk' : k = N := by omega
      subst hk'
      have hd : decide ((j : Int) < (L : Int)) = false := decide_eq_false (by omega)
      have e1 : opK d.op k = (d.op.filter keepO).map tickO := by unfold opK; rw [List.take_of_length_le (by rw [hN.out]; omega), List.drop_eq_nil_of_le (by rw [hN.out]; omega), List.append_nil]
      have e2 : rpK d.op k = (d.op.filter fun x => !keepO x).map goneO := by unfold rpK; rw [List.take_of_length_le (by rw [hN.out]; omega)]
      have hX := R.X
      rw [e1, e2] at hX
      have hF := R.hF
      have hU := R.U
      replace hX := Lib.hid hX
      clear R X e1 e2 hlk hol
      go_wp2_with fail
      (try simp only [Exit.inBlock, Exit.then])
      refine bodyPost_end (results_none rfl _ _ _) rfl ?_
      exact ⟨rfl, hU, F', hX.out, hF⟩
end Go.Proofs.Ytgdhiihfcngjbaa
set_option linter.unusedSimpArgs false
set_option linter.unusedVariables false
namespace Go.Proofs.Ytgdhiihfcngjbaa
open Go.RowKit
set_option maxRecDepth 100000

/-- A row of calls, that stay while blocks of P are written. -/
structure OpsF (w : World) (b : Nat) (P : Nat → Prop) (A : Option Addr) (c : Nat) (os : List OpD) (xs : List Value) (css : Nat → Array Value) : Prop where
  ho : Own w 62 6 A os.length c xs
  hA : ∀ y, bOf A = some y → b ≤ y
  hx : ∀ j x, os[j]? = some x → OpHeld w P x (css j)
  hxs : ∀ j x, os[j]? = some x → (xs.drop (j * 6)).take 6 = (css j).toList
section
variable {w w' w7 w8 W : World} {b c c8 : Nat} {P S : Nat → Prop} {A A8 : Option Addr} {os : List OpD} {xs : List Value} {css : Nat → Array Value} {o : OpD} {cs : Array Value}
theorem OpsF.nil (w : World) (b : Nat) (P : Nat → Prop) : OpsF w b P none 0 [] [] (fun _ => #[]) := ⟨Own.none_, by simp [bOf], by simp, by simp⟩
theorem OpsF.upd (h : OpsF w b P A c os xs css) (hu : Upd S w W) (hA : ∀ y, bOf A = some y → ¬ S y) (hS : ∀ y, S y → P y) : OpsF W b P A c os xs css :=
  ⟨h.ho.upd hu hA, h.hA, fun j x hj => (h.hx j x hj).next hu (fun y _ e => hS y e) (fun _ _ hp => hp), h.hxs⟩
theorem OpsF.push (h : OpsF w b P A c os xs css) (hbw : b ≤ w.heap.size) (hb : Below w.heap.size w w7) (ho8 : Own w8 62 6 A8 (os.length + 1) c8 (xs ++ cs.toList)) (hg8 : w7.grownBy w8 (bOf A)) (hat : bOf A8 = bOf A ∨ bOf A8 = some w7.heap.size) (hop : OpHeld w7 P o cs) (hP : ∀ y, b ≤ y → P y) (hcs : cs.toList.length = 6) :
    OpsF w8 b P A8 c8 (os ++ [o]) (xs ++ cs.toList) (fun k => if k = os.length then cs else css k) := by
  have hlx := h.ho.len
  have h7 := hb.size
  have hu8 : Upd (fun z => bOf A = some z) w7 w8 := (Upd.refl (fun z => bOf A = some z) _).grown hg8 (fun k e _ => e)
  have hu : Upd (fun z => bOf A = some z) w w8 := (Upd.of_below_size hb).trans hu8 (fun _ _ e => e)
  have hAP : ∀ y, bOf A = some y → P y := fun y hy => hP y (h.hA y hy)
  refine ⟨by rw [List.length_append]; exact ho8, fun y hy => ?_, fun j x hj => ?_, fun j x hj => ?_⟩
  · rcases hat with e | e
    · exact h.hA y (e ▸ hy)
    · have h1 : w7.heap.size = y := by rw [e] at hy; injection hy
      omega
  · rcases Nat.lt_trichotomy j os.length with hl | hl | hl
    · rw [if_neg (by omega)]
      rw [List.getElem?_append_left hl] at hj
      exact (h.hx j x hj).next hu (fun y _ e => hAP y e) (fun _ _ hp => hp)
    · subst hl
      rw [if_pos rfl]
      simp at hj
      subst hj
      exact hop.next hu8 (fun y _ e => hAP y e) (fun _ _ hp => hp)
    · rw [List.getElem?_eq_none (by simp; omega)] at hj; cases hj
  · rcases Nat.lt_trichotomy j os.length with hl | hl | hl
    · rw [if_neg (by omega)]
      rw [List.getElem?_append_left hl] at hj
      rw [← h.hxs j x hj, List.drop_append_of_le_length (by omega), List.take_append_of_le_length (by rw [List.length_drop]; omega)]
    · subst hl
      rw [if_pos rfl]
      simp at hj
      subst hj
      rw [List.drop_left' hlx]
      exact List.take_of_length_le (by omega)
    · rw [List.getElem?_eq_none (by simp; omega)] at hj; cases hj
end
def goR (l : List OpnD) (k : Nat) : List OpD := ((l.take k).filter (·.now)).map (·.o)
def outR (d : CliD) : List OpD := (d.op.filter (·.now)).map (·.o)
theorem goR_next {l : List OpnD} {k : Nat} {x : OpnD} (h : l[k]? = some x) : goR l (k + 1) = goR l k ++ (if x.now then [x.o] else []) := by
  unfold goR
  rw [List.take_add_one, h, List.filter_append, List.map_append]
  cases hn : x.now <;> simp [List.filter, hn]
structure OutY (w wr : World) (F : Nat → Prop) (g : Nat) (d : CliD) (k m : Nat) (r : RowsY) (Ao : Option Addr) (co : Nat) (xo : List Value) (cso : Nat → Array Value) : Prop where
  X : StubY wr F g ⟨d.id, d.seq, offK d.op k, d.rp⟩ r
  P : OpsF wr w.heap.size (fun y => ¬ F y ∨ OwnR r g y) Ao co (goR d.op k) xo cso
  lm : (goR d.op k).length = m
  km : m ≤ k
  U : Upd F w wr

set_option maxHeartbeats 6400000 in
theorem cy_out {w : World} {F : Nat → Prop} {g : Nat} {d : CliD} (h : StubYS w F g d) :
    Calls Try.prog 18 #[.pointer (some ⟨g, 0, none⟩)] w (fun e w' => ∃ (Ao : Option Addr) (co : Nat) (xo : List Value) (cso : Nat → Array Value) (P : Nat → Prop), e = .returned (.slice Ao (outR d).length co) ∧ OpsF w' w.heap.size P Ao co (outR d) xo cso ∧ CliY w w' F g (outD d)) := by
  obtain ⟨i0, hi, hz0, hz1, hz2⟩ := info_parts info_op
  obtain ⟨r, h⟩ := h
  have hn := h.hn
  obtain ⟨N, hN⟩ : ∃ N, d.op.length = N := ⟨_, rfl⟩
  rw [hN] at hn
  have hft := h.ft
  replace hN := Lib.hid hN
  replace h := Lib.hid h
  replace hft := Lib.hid hft
  go_enter Try.func18, Try.ntmps18
  go_wp2_with fail
  go_loopw [3, 4] (fun o i wr => ∃ (k m : Nat) (Ao : Option Addr) (co : Nat) (xo : List Value) (cso : Nat → Array Value), k ≤ N ∧ o = .slice Ao m co ∧ i = .int .i64 (k : Int) ∧ OutY w wr F g d k m r Ao co xo cso) (fun _ i _ => N - (intOf i).toNat)
  case atStart => exact ⟨0, 0, none, 0, [], fun _ => #[], Nat.zero_le _, rfl, rfl, by have := h.out; simpa [offK] using this, OpsF.nil _ _ _, rfl, Nat.le_refl _, Upd.refl _ _⟩
  case round =>
    rename_i hrel
    obtain ⟨k, m, Ao, co, xo, cso, hk, rfl, rfl, R⟩ := hrel
    have hX := R.X
    have hlk : (offK d.op k).length = N := by rw [offK_len, hN.out]
    have hg2 : wr.cell? ⟨g, 2, none⟩ = some (.slice r.A N r.c) := by rw [← hlk]; exact hX.blk.cell 2
    have hg4 : wr.cell? ⟨g, 4, none⟩ = some (.slice r.A4 N r.c4) := by rw [← hlk]; exact hX.blk.cell 4
    obtain ⟨A, hA⟩ : ∃ q, r.A = q := ⟨_, rfl⟩
    obtain ⟨A4, hA4⟩ : ∃ q, r.A4 = q := ⟨_, rfl⟩
    obtain ⟨c, hc⟩ : ∃ q, r.c = q := ⟨_, rfl⟩
    obtain ⟨c4, hc4⟩ : ∃ q, r.c4 = q := ⟨_, rfl⟩
    rw [hA, hc] at hg2
    rw [hA4, hc4] at hg4
    by_cases hlt : k < N
    · have hgk : d.op[k]? = some (d.op[k]'(by rw [hN.out]; exact hlt)) := List.getElem?_eq_getElem _
      generalize d.op[k]'(by rw [hN.out]; exact hlt) = x at hgk
      have hgk' := offK_at hgk
      have hkm := R.km
      obtain ⟨y4, cur4, hAy, hb4, qn⟩ := hX.now hgk'
      have e4 : A4 = some ⟨y4, 0, none⟩ := hA4.symm.trans hAy
      obtain ⟨yA, A1, c1, hAA, hcs, i0', i1', i2', i3', i4', i5'⟩ := hX.cells hgk'
      have eA : A = some ⟨yA, 0, none⟩ := hA.symm.trans hAA
      have hop := hX.hx k x hgk'
      rw [hcs] at hop
      subst e4 eA
      have hd : decide ((k : Int) < (N : Int)) = true := decide_eq_true (by omega)
      have hkw : IntKind.i64.wrap ((k : Int) + 1) = (k : Int) + 1 := by rw [IntKind.wrap_i64]; omega
      have hcap : N ≤ c := by have := hX.ho.le_cap; rw [← hlk, ← hc]; exact this
      have hcap4 : N ≤ c4 := by have := hX.hg.le_cap; rw [← hlk, ← hc4]; exact this
      have f4 := hb4.frozen k
      obtain ⟨⟨xc, xs_, xn, xg', xm', xl⟩, xage, xnow⟩ := x
      dsimp only at i0' i1' i2' i3' i4' i5' hop qn
      obtain ⟨xg, hxg⟩ : ∃ q, bstr xg' = q := ⟨_, rfl⟩
      obtain ⟨xm, hxm⟩ : ∃ q, bstr xm' = q := ⟨_, rfl⟩
      obtain ⟨L1, hL⟩ : ∃ L, xl.length = L := ⟨_, rfl⟩
      rw [hL] at i5' hop
      rw [hxg] at i3' hop
      rw [hxm] at i4' hop
      replace hX := Lib.hid hX
      replace R := Lib.hid R
      replace hgk := Lib.hid hgk
      replace hgk' := Lib.hid hgk'
      replace hop := Lib.hid hop
      replace hL := Lib.hid hL
      replace hxg := Lib.hid hxg
      replace hxm := Lib.hid hxm
      replace hA := Lib.hid hA
      replace hA4 := Lib.hid hA4
      replace hc := Lib.hid hc
      replace hc4 := Lib.hid hc4
      replace hAy := Lib.hid hAy
      clear hcs hAA
      cases xnow
      · clear hb4
        go_wp2_with fail
        go_roundw
        case rel => exact ⟨k + 1, m, Ao, co, xo, cso, by omega, by rfl, by simp, by
          have e1 : offK d.op (k + 1) = offK d.op k := by rw [offK_next hgk.out]; exact set_same hgk'.out
          have e2 : goR d.op (k + 1) = goR d.op k := by rw [goR_next hgk.out]; simp
          exact ⟨by rw [e1]; exact R.out.X, by rw [e2]; exact R.out.P, by rw [e2]; exact R.out.lm, by omega, R.out.U⟩⟩
        case measure => simp [intOf]; omega
      · have hsrc := Reads.lit (size := 6) wr #[.int .u32 (xc : Int), .int .u32 (xs_ : Int), .int .u16 (xn : Int), .string xg, .string xm, .slice A1 L1 c1] 62 (0, 0) 1 [.int .u32 (xc : Int), .int .u32 (xs_ : Int), .int .u16 (xn : Int), .string xg, .string xm, .slice A1 L1 c1] rfl rfl
        have hb7 := (Below.refl wr.heap.size wr).alloc (Nat.le_refl _) (.cells #[.int .u32 (xc : Int), .int .u32 (xs_ : Int), .int .u16 (xn : Int), .string xg, .string xm, .slice A1 L1 c1] 62)
        have H7 : OpHeld (wr.alloc (.cells #[.int .u32 (xc : Int), .int .u32 (xs_ : Int), .int .u16 (xn : Int), .string xg, .string xm, .slice A1 L1 c1] 62)) (fun y => ¬ F y ∨ OwnR r g y) ⟨xc, xs_, xn, xg', xm', xl⟩ #[.int .u32 (xc : Int), .int .u32 (xs_ : Int), .int .u16 (xn : Int), .string xg, .string xm, .slice A1 L1 c1] := hop.out.next (T := fun _ => False) ((Upd.refl _ wr).alloc _) (fun _ _ hf => hf.elim) (fun y _ hp => hp)
        have hown := R.out.P.ho
        rw [R.out.lm] at hown
        have ho7 := hown.below hb7 (Nat.le_refl _)
        have hK8 : ∀ w8 : World, Upd (fun z => some z = bOf Ao) wr w8 → StubY w8 F g ⟨d.id, d.seq, offK d.op k, d.rp⟩ r ∧ w8.cell? ⟨g, 4, none⟩ = some (.slice (some ⟨y4, 0, none⟩) N c4) ∧ w8.cell? ⟨y4, k, none⟩ = some (.bool true) ∧ w8.frozen? ⟨y4, k, none⟩ = false := fun w8 hu8 => by
          have hX8 := hX.out.keep hu8 (fun y hy e => by have h1 := R.out.P.hA y e.symm; have h2 := hft.out y hy; omega)
          have h1 := hX8.blk.cell 4
          have hl : (offK d.op k).length = N := by rw [offK_len, hN.out]
          dsimp only at h1
          rw [hA4.out, hc4.out, hl] at h1
          obtain ⟨y4', cur8, hAy8, hb8, qn8⟩ := hX8.now hgk'.out
          cases hAy8.symm.trans hAy.out
          exact ⟨hX8, h1, qn8, hb8.frozen k⟩
        replace hK8 := Lib.hid hK8
        replace H7 := Lib.hid H7
        clear hown hb4
        go_wp2_with (at_builtin; go_must (refine wpList_append_mine rfl _ _ 42 42 rfl 62 i0 _ 6 72 Try.underlying42 hi hz0 hz1 hz2 rfl rfl ho7 rfl (Src.ofReads Try.underlying42 _ hsrc (by intro u hu; simp only [List.mem_cons, List.not_mem_nil, or_false] at hu; rcases hu with rfl | rfl | rfl | rfl | rfl | rfl <;> rfl)) (by unfold maxLen; omega) (by omega) (fun A8 c8 w8 ho8 hg8 hat8 => ?_)); have hu8 : Upd (fun z => some z = bOf Ao) wr w8 := (Upd.of_below_size hb7).trans ((Upd.refl (fun z => some z = bOf Ao) _).grown hg8 (fun k e _ => e.symm)) (fun _ _ e => e); obtain ⟨hX8, k2, qn8, f8⟩ := hK8.out w8 hu8; replace hX8 := Lib.hid hX8; replace hu8 := Lib.hid hu8)
        have hF4 : F y4 := hX.out.fo y4 (.inr (.inr (.inr (.inl (by rw [hAy.out]; rfl)))))
        have hl4 := hft.out y4 hF4
        have hXn := hX8.out.setNow (a := false) hAy.out hgk'.out
        dsimp only at hXn
        have P8 := R.out.P.push R.out.U.size hb7 (by rw [R.out.lm]; exact ho8) hg8 hat8 H7.out (fun y hy => .inl (fun hf => by have := hft.out y hf; omega)) rfl
        have u1 : Upd (fun z => z = y4) w8 (w8.setCell ⟨y4, k, none⟩ (.bool false)) := (Upd.refl (fun z => z = y4) w8).setCell (p := ⟨y4, k, none⟩) (fun _ => rfl) _
        have P9 := P8.upd u1 (fun y hy e => by have h1 := P8.hA y hy; subst e; omega) (fun y e => .inr (.inr (.inr (.inr (.inl (by rw [e, hAy.out]; rfl))))))
        have U8 := (R.out.U.trans hu8.out (fun i hi e => by have := R.out.P.hA i e.symm; omega)).trans (u1.mono (T := F) (fun y _ e => by subst e; exact hF4)) (fun _ _ e => e)
        have e1 : offK d.op (k + 1) = (offK d.op k).set k ⟨⟨xc, xs_, xn, xg', xm', xl⟩, xage, false⟩ := offK_next hgk.out
        have e2 : goR d.op (k + 1) = goR d.op k ++ [⟨xc, xs_, xn, xg', xm', xl⟩] := by rw [goR_next hgk.out]; rfl
        rw [← e1] at hXn
        rw [← e2] at P9
        have e3 : (goR d.op (k + 1)).length = m + 1 := by rw [e2, List.length_append, R.out.lm]; rfl
        replace P9 := Lib.hid P9
        replace hXn := Lib.hid hXn
        replace e3 := Lib.hid e3
        clear P8 u1 e1 e2 hX8
        go_roundw
        case rel => exact ⟨k + 1, m + 1, A8, c8, _, _, by omega, by rfl, by simp, ⟨hXn.out, P9.out, e3.out, by omega, U8⟩⟩
        case measure => simp [intOf]; omega
    · have hk' : k = N := by omega
      subst k
      have hd : decide ((N : Int) < (N : Int)) = false := decide_eq_false (by omega)
      have e1 : offK d.op N = d.op.map offO := by unfold offK; rw [List.take_of_length_le (by rw [hN.out]; omega), List.drop_eq_nil_of_le (by rw [hN.out]; omega), List.append_nil]
      have e2 : goR d.op N = outR d := by unfold goR outR; rw [List.take_of_length_le (by rw [hN.out]; omega)]
      have hP := R.P
      have hlm := R.lm
      have hU := R.U
      rw [e1] at hX
      rw [e2] at hP hlm
      subst hlm
      replace hX := Lib.hid hX
      replace hP := Lib.hid hP
      clear R hA hA4 hc hc4
      go_wp2_with fail
      go_ret
      exact ⟨Ao, co, xo, cso, _, rfl, hP.out, hU, F, ⟨r, hX.out⟩, fun y hy => .inl hy⟩
end Go.Proofs.Ytgdhiihfcngjbaa
set_option linter.unusedSimpArgs false
set_option linter.unusedVariables false
namespace Go.Proofs.Ytgdhiihfcngjbaa
open Go.RowKit
set_option maxRecDepth 100000

mutual
theorem clean_idem : ∀ v : Val, cleanV (cleanV v) = cleanV v
  | .mk k i f s l => by
    by_cases h1 : k = 1
    · simp [cleanV, h1]
    · by_cases h2 : k = 2
      · simp [cleanV, h2, cb_cb]
      · by_cases h3 : k = 3
        · simp [cleanV, h3]
        · by_cases h4 : k = 4
          · simp [cleanV, h4, clean_idemL l]
          · simp [cleanV, h1, h2, h3, h4]
theorem clean_idemL : ∀ l : List Val, cleanL (cleanL l) = cleanL l
  | [] => rfl
  | v :: l => by simp [cleanL, clean_idem v, clean_idemL l]
end
structure OpsO (w : World) (A : Option Addr) (c : Nat) (os : List OpD) (xs : List Value) (css : Nat → Array Value) : Prop where
  ho : Own w 62 6 A os.length c xs
  hx : ∀ j x, os[j]? = some x → OpReads w w.heap.size x (css j)
  hxs : ∀ j x, os[j]? = some x → (xs.drop (j * 6)).take 6 = (css j).toList
structure RepsO (w : World) (A : Option Addr) (c : Nat) (rs : List RplD) (xs : List Value) (css : Nat → Array Value) : Prop where
  ho : Own w 39 9 A rs.length c xs
  hx : ∀ j x, rs[j]? = some x → VReads w w.heap.size x.v (css j)
  hxs : ∀ j x, rs[j]? = some x → (xs.drop (j * 9)).take 9 = repL x (css j)
section
variable {w w' : World} {A : Option Addr} {c : Nat} {os : List OpD} {rs : List RplD} {xs : List Value} {css : Nat → Array Value}
theorem OpsO.below {b : Nat} (h : OpsO w A c os xs css) (hb : Below b w w') (hB : w.heap.size = b) : OpsO w' A c os xs css := by
  subst hB
  exact ⟨h.ho.below hb (Nat.le_refl _), fun j x hj => ((h.hx j x hj).below hb).up hb.size, h.hxs⟩
theorem RepsO.below {b : Nat} (h : RepsO w A c rs xs css) (hb : Below b w w') (hB : w.heap.size = b) : RepsO w' A c rs xs css := by
  subst hB
  exact ⟨h.ho.below hb (Nat.le_refl _), fun j x hj => ((h.hx j x hj).under hb).up hb.size, h.hxs⟩
theorem OpsO.cells (h : OpsO w A c os xs css) {j : Nat} {x : OpD} (hj : os[j]? = some x) :
    ∃ gA A1 c1, A = some ⟨gA, 0, none⟩ ∧ css j = #[.int .u32 (x.c : Int), .int .u32 (x.s : Int), .int .u16 (x.n : Int), .string (bstr x.g), .string (bstr x.m), .slice A1 x.l.length c1] ∧
      w.cell? ⟨gA, j * 6, none⟩ = some (.int .u32 (x.c : Int)) ∧ w.cell? ⟨gA, j * 6 + 1, none⟩ = some (.int .u32 (x.s : Int)) ∧ w.cell? ⟨gA, j * 6 + 2, none⟩ = some (.int .u16 (x.n : Int)) ∧ w.cell? ⟨gA, j * 6 + 3, none⟩ = some (.string (bstr x.g)) ∧ w.cell? ⟨gA, j * 6 + 4, none⟩ = some (.string (bstr x.m)) ∧ w.cell? ⟨gA, j * 6 + 5, none⟩ = some (.slice A1 x.l.length c1) ∧ gA < w.heap.size := by
  have hjl := atLt hj
  obtain ⟨gA, cur, hA, hcur, hle, htk, -⟩ := h.ho.open_s (by omega)
  obtain ⟨A1, c1, ys, cs1, hcs, -⟩ := h.hx j x hj
  have hx := h.hxs j x hj
  rw [hcs] at hx
  have hc : ∀ t v, t < 6 → ([Value.int .u32 (x.c : Int), .int .u32 (x.s : Int), .int .u16 (x.n : Int), .string (bstr x.g), .string (bstr x.m), .slice A1 x.l.length c1] : List Value)[t]? = some v → w.cell? ⟨gA, j * 6 + t, none⟩ = some v := fun t v ht hv => by
    rw [hcur.cell]
    have h1 := window hx t ht
    rw [← htk, List.getElem?_take, if_pos (by omega)] at h1
    rw [show cur[j * 6 + t]? = cur.toList[j * 6 + t]? by simp, h1]
    exact hv
  exact ⟨gA, A1, c1, hA, hcs, hc 0 _ (by decide) rfl, hc 1 _ (by decide) rfl, hc 2 _ (by decide) rfl, hc 3 _ (by decide) rfl, hc 4 _ (by decide) rfl, hc 5 _ (by decide) rfl, hcur.lt⟩
theorem RepsO.cells (h : RepsO w A c rs xs css) {j : Nat} {x : RplD} (hj : rs[j]? = some x) :
    ∃ gB k i f s Av nv cv, A = some ⟨gB, 0, none⟩ ∧ css j = #[.int .i64 k, .int .i64 i, .float .f64 f, .string s, .slice Av nv cv] ∧
      w.cell? ⟨gB, j * 9, none⟩ = some (.int .u32 (x.c : Int)) ∧ w.cell? ⟨gB, j * 9 + 1, none⟩ = some (.int .u32 (x.s : Int)) ∧ w.cell? ⟨gB, j * 9 + 2, none⟩ = some (.int .u16 (x.n : Int)) ∧ w.cell? ⟨gB, j * 9 + 3, none⟩ = some (.int .i64 x.e) ∧ w.cell? ⟨gB, j * 9 + 4, none⟩ = some (.int .i64 k) ∧ w.cell? ⟨gB, j * 9 + 5, none⟩ = some (.int .i64 i) ∧ w.cell? ⟨gB, j * 9 + 6, none⟩ = some (.float .f64 f) ∧ w.cell? ⟨gB, j * 9 + 7, none⟩ = some (.string s) ∧ w.cell? ⟨gB, j * 9 + 8, none⟩ = some (.slice Av nv cv) ∧ gB < w.heap.size := by
  have hjl := atLt hj
  obtain ⟨gB, cur, hA, hcur, hle, htk, -⟩ := h.ho.open_s (by omega)
  obtain ⟨k, i, f, s, Av, nv, cv, hcs⟩ := (h.hx j x hj).form
  have hx := h.hxs j x hj
  rw [hcs] at hx
  have hc : ∀ t v, t < 9 → ([Value.int .u32 (x.c : Int), .int .u32 (x.s : Int), .int .u16 (x.n : Int), .int .i64 x.e, .int .i64 k, .int .i64 i, .float .f64 f, .string s, .slice Av nv cv] : List Value)[t]? = some v → w.cell? ⟨gB, j * 9 + t, none⟩ = some v := fun t v ht hv => by
    rw [hcur.cell]
    have h1 := window hx t ht
    rw [← htk, List.getElem?_take, if_pos (by omega)] at h1
    rw [show cur[j * 9 + t]? = cur.toList[j * 9 + t]? by simp, h1]
    exact hv
  exact ⟨gB, k, i, f, s, Av, nv, cv, hA, hcs, hc 0 _ (by decide) rfl, hc 1 _ (by decide) rfl, hc 2 _ (by decide) rfl, hc 3 _ (by decide) rfl, hc 4 _ (by decide) rfl, hc 5 _ (by decide) rfl, hc 6 _ (by decide) rfl, hc 7 _ (by decide) rfl, hc 8 _ (by decide) rfl, hcur.lt⟩
end
set_option maxHeartbeats 3200000 in
theorem ops_same {w : World} {A A' : Option Addr} {c c' : Nat} {os : List OpD} {xs xs' : List Value} {css css' : Nat → Array Value} (ha : OpsO w A c os xs css) (hb : OpsO w A' c' os xs' css') (hl : os.length ≤ 1000000) :
    Calls Try.prog 17 #[.slice A os.length c, .slice A' os.length c'] w (Says w (.bool true)) := by
  obtain ⟨N, hN⟩ : ∃ q, os.length = q := ⟨_, rfl⟩
  rw [hN] at hl ⊢
  replace ha := Lib.hid ha
  replace hb := Lib.hid hb
  replace hN := Lib.hid hN
  have hne : ((N : Int) == (N : Int)) = true := by simp
  go_enter Try.func17, Try.ntmps17
  go_wp2_with fail
  go_loopw [5] (fun z wr => ∃ K : Nat, K ≤ N ∧ z = .int .i64 (K : Int) ∧ Below w.heap.size w wr) (fun z _ => N - (intOf z).toNat)
  case atStart => exact ⟨0, Nat.zero_le _, rfl, Below.refl _ _⟩
  case round =>
    rename_i hrel
    obtain ⟨K, hk, rfl, hbw⟩ := hrel
    by_cases hlt : K < N
    · have hgk : os[K]? = some (os[K]'(by rw [hN.out]; exact hlt)) := List.getElem?_eq_getElem _
      generalize os[K]'(by rw [hN.out]; exact hlt) = x at hgk
      have hd : decide ((K : Int) < (N : Int)) = true := decide_eq_true (by omega)
      have hkw : IntKind.i64.wrap ((K : Int) + 1) = (K : Int) + 1 := by rw [IntKind.wrap_i64]; omega
      have hcap : N ≤ c := by have := ha.out.ho.le_cap; rw [hN.out] at this; exact this
      have hcap' : N ≤ c' := by have := hb.out.ho.le_cap; rw [hN.out] at this; exact this
      obtain ⟨gA, A1, c1, hA, hcs, g0⟩ := (ha.out.below hbw rfl).cells hgk
      obtain ⟨gB, A2, c2, hB, hcs', g1⟩ := (hb.out.below hbw rfl).cells hgk
      have h1 := (ha.out.below hbw rfl).hx K x hgk
      have h2 := (hb.out.below hbw rfl).hx K x hgk
      rw [hcs] at h1
      rw [hcs'] at h2
      have hcall := op_same h1 h2 wr.drew (Below.refl _ _).drew (Nat.le_refl _)
      subst hA hB
      obtain ⟨xc, xs_, xn, xg', xm', xl⟩ := x
      dsimp only at g0 g1 hcall
      generalize bstr xg' = xg at *
      generalize bstr xm' = xm at *
      generalize xl.length = L1 at *
      clear h1 h2 hcs hcs'
      have hSP : wr.drew.cell? ⟨gA, K * 6, none⟩ = some (.int .u32 (xc : Int)) ∧ wr.drew.cell? ⟨gA, K * 6 + 1, none⟩ = some (.int .u32 (xs_ : Int)) ∧ wr.drew.cell? ⟨gA, K * 6 + 2, none⟩ = some (.int .u16 (xn : Int)) ∧ wr.drew.cell? ⟨gA, K * 6 + 3, none⟩ = some (.string xg) ∧ wr.drew.cell? ⟨gA, K * 6 + 4, none⟩ = some (.string xm) ∧ wr.drew.cell? ⟨gA, K * 6 + 5, none⟩ = some (.slice A1 L1 c1) ∧ wr.drew.cell? ⟨gB, K * 6, none⟩ = some (.int .u32 (xc : Int)) ∧ wr.drew.cell? ⟨gB, K * 6 + 1, none⟩ = some (.int .u32 (xs_ : Int)) ∧ wr.drew.cell? ⟨gB, K * 6 + 2, none⟩ = some (.int .u16 (xn : Int)) ∧ wr.drew.cell? ⟨gB, K * 6 + 3, none⟩ = some (.string xg) ∧ wr.drew.cell? ⟨gB, K * 6 + 4, none⟩ = some (.string xm) ∧ wr.drew.cell? ⟨gB, K * 6 + 5, none⟩ = some (.slice A2 L1 c2) := ⟨g0.1, g0.2.1, g0.2.2.1, g0.2.2.2.1, g0.2.2.2.2.1, g0.2.2.2.2.2.1, g1.1, g1.2.1, g1.2.2.1, g1.2.2.2.1, g1.2.2.2.2.1, g1.2.2.2.2.2.1⟩
      have hSP2 : ∀ W : World, Below wr.drew.heap.size wr.drew W → (W.cell? ⟨gA, K * 6, none⟩ = some (.int .u32 (xc : Int)) ∧ W.cell? ⟨gA, K * 6 + 1, none⟩ = some (.int .u32 (xs_ : Int)) ∧ W.cell? ⟨gA, K * 6 + 2, none⟩ = some (.int .u16 (xn : Int)) ∧ W.cell? ⟨gA, K * 6 + 3, none⟩ = some (.string xg) ∧ W.cell? ⟨gA, K * 6 + 4, none⟩ = some (.string xm) ∧ W.cell? ⟨gA, K * 6 + 5, none⟩ = some (.slice A1 L1 c1) ∧ W.cell? ⟨gB, K * 6, none⟩ = some (.int .u32 (xc : Int)) ∧ W.cell? ⟨gB, K * 6 + 1, none⟩ = some (.int .u32 (xs_ : Int)) ∧ W.cell? ⟨gB, K * 6 + 2, none⟩ = some (.int .u16 (xn : Int)) ∧ W.cell? ⟨gB, K * 6 + 3, none⟩ = some (.string xg) ∧ W.cell? ⟨gB, K * 6 + 4, none⟩ = some (.string xm) ∧ W.cell? ⟨gB, K * 6 + 5, none⟩ = some (.slice A2 L1 c2)) := fun W hW =>
        have u1 := fun (o : Nat) (v : Value) (h : wr.cell? ⟨gA, o, none⟩ = some v) => (hW.cell (p := ⟨gA, o, none⟩) g0.2.2.2.2.2.2).trans h
        have u2 := fun (o : Nat) (v : Value) (h : wr.cell? ⟨gB, o, none⟩ = some v) => (hW.cell (p := ⟨gB, o, none⟩) g1.2.2.2.2.2.2).trans h
        ⟨u1 _ _ g0.1, u1 _ _ g0.2.1, u1 _ _ g0.2.2.1, u1 _ _ g0.2.2.2.1, u1 _ _ g0.2.2.2.2.1, u1 _ _ g0.2.2.2.2.2.1, u2 _ _ g1.1, u2 _ _ g1.2.1, u2 _ _ g1.2.2.1, u2 _ _ g1.2.2.2.1, u2 _ _ g1.2.2.2.2.1, u2 _ _ g1.2.2.2.2.2.1⟩
      replace hSP2 := Lib.hid hSP2
      replace hgk := Lib.hid hgk
      replace hcall := Lib.hid hcall
      clear hne
      go_upto_region 6 with (fail)
      refine wp_region_lex (fun W => W.cell? ⟨gA, K * 6, none⟩ = some (.int .u32 (xc : Int)) ∧ W.cell? ⟨gA, K * 6 + 1, none⟩ = some (.int .u32 (xs_ : Int)) ∧ W.cell? ⟨gA, K * 6 + 2, none⟩ = some (.int .u16 (xn : Int)) ∧ W.cell? ⟨gA, K * 6 + 3, none⟩ = some (.string xg) ∧ W.cell? ⟨gA, K * 6 + 4, none⟩ = some (.string xm) ∧ W.cell? ⟨gA, K * 6 + 5, none⟩ = some (.slice A1 L1 c1) ∧ W.cell? ⟨gB, K * 6, none⟩ = some (.int .u32 (xc : Int)) ∧ W.cell? ⟨gB, K * 6 + 1, none⟩ = some (.int .u32 (xs_ : Int)) ∧ W.cell? ⟨gB, K * 6 + 2, none⟩ = some (.int .u16 (xn : Int)) ∧ W.cell? ⟨gB, K * 6 + 3, none⟩ = some (.string xg) ∧ W.cell? ⟨gB, K * 6 + 4, none⟩ = some (.string xm) ∧ W.cell? ⟨gB, K * 6 + 5, none⟩ = some (.slice A2 L1 c2)) [3, 7] [8] [0, 1, 2, 3, 4, 5, 6, 7, 8, 9] (by kernel_rfl) rfl (by kernel_rfl) (by kernel_rfl) (fun _ _ d _ _ h => by cases d <;> exact h) ?_
      repeat (first | (refine lexG_take _ ?_ rfl rfl rfl rfl (fun _ => ?_) ?_; rotate_left; (focus (go_simp; with_reducible rfl)); try simp only [Act.put, List.setIfInBounds_toArray, List.set_cons_zero, List.set_cons_succ]) | (refine lexG_held _ ?_ rfl rfl rfl rfl (by assumption) (fun _ hSw => ?_) ?_; rotate_left; (focus (have h0 := hSw.1; have h1 := hSw.2.1; have h2 := hSw.2.2.1; have h3 := hSw.2.2.2.1; have h4 := hSw.2.2.2.2.1; have h5 := hSw.2.2.2.2.2.1; have h6 := hSw.2.2.2.2.2.2.1; have h7 := hSw.2.2.2.2.2.2.2.1; have h8 := hSw.2.2.2.2.2.2.2.2.1; have h9 := hSw.2.2.2.2.2.2.2.2.2.1; have h10 := hSw.2.2.2.2.2.2.2.2.2.2.1; have h11 := hSw.2.2.2.2.2.2.2.2.2.2.2; clear hSw; go_simp; with_reducible rfl)); try simp only [Act.put, List.setIfInBounds_toArray, List.set_cons_zero, List.set_cons_succ]) | (refine lexG_skip _ rfl rfl (by assumption) ?_; try simp only [Act.put, List.setIfInBounds_toArray, List.set_cons_zero, List.set_cons_succ]))
      refine lexG_now _ rfl rfl rfl (fun K0 hK => ?_)
      go_wp2_with fail
      refine hcall.out.mono ?_
      rintro e w5 ⟨rfl, hb5⟩
      try dsimp only
      have hb5' := below_then hb5 (below_then (Below.refl wr.heap.size wr).drew hbw)
      have hSP5 := hSP2.out w5 hb5
      refine hK _ _ _ (fun _ h => h) hSP5 ?_
      clear hK K0
      try simp only [Act.put, List.setIfInBounds_toArray, List.set_cons_zero, List.set_cons_succ]
      repeat (first | (refine lexG_take _ ?_ rfl rfl rfl rfl (fun _ => ?_) ?_; rotate_left; (focus (go_simp; with_reducible rfl)); try simp only [Act.put, List.setIfInBounds_toArray, List.set_cons_zero, List.set_cons_succ]) | (refine lexG_held _ ?_ rfl rfl rfl rfl (by assumption) (fun _ hSw => ?_) ?_; rotate_left; (focus (have h0 := hSw.1; have h1 := hSw.2.1; have h2 := hSw.2.2.1; have h3 := hSw.2.2.2.1; have h4 := hSw.2.2.2.2.1; have h5 := hSw.2.2.2.2.2.1; have h6 := hSw.2.2.2.2.2.2.1; have h7 := hSw.2.2.2.2.2.2.2.1; have h8 := hSw.2.2.2.2.2.2.2.2.1; have h9 := hSw.2.2.2.2.2.2.2.2.2.1; have h10 := hSw.2.2.2.2.2.2.2.2.2.2.1; have h11 := hSw.2.2.2.2.2.2.2.2.2.2.2; clear hSw; go_simp; with_reducible rfl)); try simp only [Act.put, List.setIfInBounds_toArray, List.set_cons_zero, List.set_cons_succ]) | (refine lexG_skip _ rfl rfl (by assumption) ?_; try simp only [Act.put, List.setIfInBounds_toArray, List.set_cons_zero, List.set_cons_succ]))
      refine lexG_nil ?_
      clear hSP hSP2 hSP5 hcall hb5 hgk
      go_wp2_with fail
      go_roundw
      case rel => exact ⟨K + 1, by omega, by simp, hb5'⟩
      case measure => simp [intOf]; omega
    · have hk' : K = N := by omega
      subst hk'
      have hd : decide ((K : Int) < (K : Int)) = false := decide_eq_false (by omega)
      go_wp2_with fail
      go_ret
      exact ⟨rfl, hbw⟩
set_option maxHeartbeats 3200000 in
theorem replies_same {w : World} {A A' : Option Addr} {c c' : Nat} {os : List RplD} {xs xs' : List Value} {css css' : Nat → Array Value} (ha : RepsO w A c os xs css) (hb : RepsO w A' c' os xs' css') (hl : os.length ≤ 1000000) :
    Calls Try.prog 21 #[.slice A os.length c, .slice A' os.length c'] w (Says w (.bool true)) := by
  obtain ⟨N, hN⟩ : ∃ q, os.length = q := ⟨_, rfl⟩
  rw [hN] at hl ⊢
  replace ha := Lib.hid ha
  replace hb := Lib.hid hb
  replace hN := Lib.hid hN
  have hne : ((N : Int) == (N : Int)) = true := by simp
  go_enter Try.func21, Try.ntmps21
  go_wp2_with fail
  go_loopw [5] (fun z wr => ∃ K : Nat, K ≤ N ∧ z = .int .i64 (K : Int) ∧ Below w.heap.size w wr) (fun z _ => N - (intOf z).toNat)
  case atStart => exact ⟨0, Nat.zero_le _, rfl, Below.refl _ _⟩
  case round =>
    rename_i hrel
    obtain ⟨K, hk, rfl, hbw⟩ := hrel
    by_cases hlt : K < N
    · have hgk : os[K]? = some (os[K]'(by rw [hN.out]; exact hlt)) := List.getElem?_eq_getElem _
      generalize os[K]'(by rw [hN.out]; exact hlt) = x at hgk
      have hd : decide ((K : Int) < (N : Int)) = true := decide_eq_true (by omega)
      have hkw : IntKind.i64.wrap ((K : Int) + 1) = (K : Int) + 1 := by rw [IntKind.wrap_i64]; omega
      have hcap : N ≤ c := by have := ha.out.ho.le_cap; rw [hN.out] at this; exact this
      have hcap' : N ≤ c' := by have := hb.out.ho.le_cap; rw [hN.out] at this; exact this
      obtain ⟨gA, k1, i1, f1, t1, A1, n1, c1, hA, hcs, g0⟩ := (ha.out.below hbw rfl).cells hgk
      obtain ⟨gB, k2, i2, f2, t2, A2, n2, c2, hB, hcs', g1⟩ := (hb.out.below hbw rfl).cells hgk
      have h1 := (ha.out.below hbw rfl).hx K x hgk
      have h2 := (hb.out.below hbw rfl).hx K x hgk
      rw [hcs] at h1
      rw [hcs'] at h2
      obtain ⟨xc, xs_, xn, xe, xv⟩ := x
      dsimp only at g0 g1 h1 h2
      have hcall := rep_same (c := (xc : Int)) (s := (xs_ : Int)) (n := (xn : Int)) (er := xe) (h1.under (Below.refl wr.heap.size wr).drew) (h2.under (Below.refl wr.heap.size wr).drew) (Nat.le_refl _)
      subst hA hB
      clear h1 h2 hcs hcs'
      have hSP : wr.drew.cell? ⟨gA, K * 9, none⟩ = some (.int .u32 (xc : Int)) ∧ wr.drew.cell? ⟨gA, K * 9 + 1, none⟩ = some (.int .u32 (xs_ : Int)) ∧ wr.drew.cell? ⟨gA, K * 9 + 2, none⟩ = some (.int .u16 (xn : Int)) ∧ wr.drew.cell? ⟨gA, K * 9 + 3, none⟩ = some (.int .i64 xe) ∧ wr.drew.cell? ⟨gA, K * 9 + 4, none⟩ = some (.int .i64 k1) ∧ wr.drew.cell? ⟨gA, K * 9 + 5, none⟩ = some (.int .i64 i1) ∧ wr.drew.cell? ⟨gA, K * 9 + 6, none⟩ = some (.float .f64 f1) ∧ wr.drew.cell? ⟨gA, K * 9 + 7, none⟩ = some (.string t1) ∧ wr.drew.cell? ⟨gA, K * 9 + 8, none⟩ = some (.slice A1 n1 c1) ∧ wr.drew.cell? ⟨gB, K * 9, none⟩ = some (.int .u32 (xc : Int)) ∧ wr.drew.cell? ⟨gB, K * 9 + 1, none⟩ = some (.int .u32 (xs_ : Int)) ∧ wr.drew.cell? ⟨gB, K * 9 + 2, none⟩ = some (.int .u16 (xn : Int)) ∧ wr.drew.cell? ⟨gB, K * 9 + 3, none⟩ = some (.int .i64 xe) ∧ wr.drew.cell? ⟨gB, K * 9 + 4, none⟩ = some (.int .i64 k2) ∧ wr.drew.cell? ⟨gB, K * 9 + 5, none⟩ = some (.int .i64 i2) ∧ wr.drew.cell? ⟨gB, K * 9 + 6, none⟩ = some (.float .f64 f2) ∧ wr.drew.cell? ⟨gB, K * 9 + 7, none⟩ = some (.string t2) ∧ wr.drew.cell? ⟨gB, K * 9 + 8, none⟩ = some (.slice A2 n2 c2) := ⟨g0.1, g0.2.1, g0.2.2.1, g0.2.2.2.1, g0.2.2.2.2.1, g0.2.2.2.2.2.1, g0.2.2.2.2.2.2.1, g0.2.2.2.2.2.2.2.1, g0.2.2.2.2.2.2.2.2.1, g1.1, g1.2.1, g1.2.2.1, g1.2.2.2.1, g1.2.2.2.2.1, g1.2.2.2.2.2.1, g1.2.2.2.2.2.2.1, g1.2.2.2.2.2.2.2.1, g1.2.2.2.2.2.2.2.2.1⟩
      have hSP2 : ∀ W : World, Below wr.drew.heap.size wr.drew W → (W.cell? ⟨gA, K * 9, none⟩ = some (.int .u32 (xc : Int)) ∧ W.cell? ⟨gA, K * 9 + 1, none⟩ = some (.int .u32 (xs_ : Int)) ∧ W.cell? ⟨gA, K * 9 + 2, none⟩ = some (.int .u16 (xn : Int)) ∧ W.cell? ⟨gA, K * 9 + 3, none⟩ = some (.int .i64 xe) ∧ W.cell? ⟨gA, K * 9 + 4, none⟩ = some (.int .i64 k1) ∧ W.cell? ⟨gA, K * 9 + 5, none⟩ = some (.int .i64 i1) ∧ W.cell? ⟨gA, K * 9 + 6, none⟩ = some (.float .f64 f1) ∧ W.cell? ⟨gA, K * 9 + 7, none⟩ = some (.string t1) ∧ W.cell? ⟨gA, K * 9 + 8, none⟩ = some (.slice A1 n1 c1) ∧ W.cell? ⟨gB, K * 9, none⟩ = some (.int .u32 (xc : Int)) ∧ W.cell? ⟨gB, K * 9 + 1, none⟩ = some (.int .u32 (xs_ : Int)) ∧ W.cell? ⟨gB, K * 9 + 2, none⟩ = some (.int .u16 (xn : Int)) ∧ W.cell? ⟨gB, K * 9 + 3, none⟩ = some (.int .i64 xe) ∧ W.cell? ⟨gB, K * 9 + 4, none⟩ = some (.int .i64 k2) ∧ W.cell? ⟨gB, K * 9 + 5, none⟩ = some (.int .i64 i2) ∧ W.cell? ⟨gB, K * 9 + 6, none⟩ = some (.float .f64 f2) ∧ W.cell? ⟨gB, K * 9 + 7, none⟩ = some (.string t2) ∧ W.cell? ⟨gB, K * 9 + 8, none⟩ = some (.slice A2 n2 c2)) := fun W hW =>
        have u1 := fun (o : Nat) (v : Value) (h : wr.cell? ⟨gA, o, none⟩ = some v) => (hW.cell (p := ⟨gA, o, none⟩) g0.2.2.2.2.2.2.2.2.2).trans h
        have u2 := fun (o : Nat) (v : Value) (h : wr.cell? ⟨gB, o, none⟩ = some v) => (hW.cell (p := ⟨gB, o, none⟩) g1.2.2.2.2.2.2.2.2.2).trans h
        ⟨u1 _ _ g0.1, u1 _ _ g0.2.1, u1 _ _ g0.2.2.1, u1 _ _ g0.2.2.2.1, u1 _ _ g0.2.2.2.2.1, u1 _ _ g0.2.2.2.2.2.1, u1 _ _ g0.2.2.2.2.2.2.1, u1 _ _ g0.2.2.2.2.2.2.2.1, u1 _ _ g0.2.2.2.2.2.2.2.2.1, u2 _ _ g1.1, u2 _ _ g1.2.1, u2 _ _ g1.2.2.1, u2 _ _ g1.2.2.2.1, u2 _ _ g1.2.2.2.2.1, u2 _ _ g1.2.2.2.2.2.1, u2 _ _ g1.2.2.2.2.2.2.1, u2 _ _ g1.2.2.2.2.2.2.2.1, u2 _ _ g1.2.2.2.2.2.2.2.2.1⟩
      replace hSP2 := Lib.hid hSP2
      replace hgk := Lib.hid hgk
      replace hcall := Lib.hid hcall
      clear hne
      go_upto_region 6 with (fail)
      refine wp_region_lex (fun W => W.cell? ⟨gA, K * 9, none⟩ = some (.int .u32 (xc : Int)) ∧ W.cell? ⟨gA, K * 9 + 1, none⟩ = some (.int .u32 (xs_ : Int)) ∧ W.cell? ⟨gA, K * 9 + 2, none⟩ = some (.int .u16 (xn : Int)) ∧ W.cell? ⟨gA, K * 9 + 3, none⟩ = some (.int .i64 xe) ∧ W.cell? ⟨gA, K * 9 + 4, none⟩ = some (.int .i64 k1) ∧ W.cell? ⟨gA, K * 9 + 5, none⟩ = some (.int .i64 i1) ∧ W.cell? ⟨gA, K * 9 + 6, none⟩ = some (.float .f64 f1) ∧ W.cell? ⟨gA, K * 9 + 7, none⟩ = some (.string t1) ∧ W.cell? ⟨gA, K * 9 + 8, none⟩ = some (.slice A1 n1 c1) ∧ W.cell? ⟨gB, K * 9, none⟩ = some (.int .u32 (xc : Int)) ∧ W.cell? ⟨gB, K * 9 + 1, none⟩ = some (.int .u32 (xs_ : Int)) ∧ W.cell? ⟨gB, K * 9 + 2, none⟩ = some (.int .u16 (xn : Int)) ∧ W.cell? ⟨gB, K * 9 + 3, none⟩ = some (.int .i64 xe) ∧ W.cell? ⟨gB, K * 9 + 4, none⟩ = some (.int .i64 k2) ∧ W.cell? ⟨gB, K * 9 + 5, none⟩ = some (.int .i64 i2) ∧ W.cell? ⟨gB, K * 9 + 6, none⟩ = some (.float .f64 f2) ∧ W.cell? ⟨gB, K * 9 + 7, none⟩ = some (.string t2) ∧ W.cell? ⟨gB, K * 9 + 8, none⟩ = some (.slice A2 n2 c2)) [3, 7] [8] [0, 1, 2, 3, 4, 5, 6, 7, 8, 9] (by kernel_rfl) rfl (by kernel_rfl) (by kernel_rfl) (fun _ _ d _ _ h => by cases d <;> exact h) ?_
      repeat (first | (refine lexG_take _ ?_ rfl rfl rfl rfl (fun _ => ?_) ?_; rotate_left; (focus (go_simp; with_reducible rfl)); try simp only [Act.put, List.setIfInBounds_toArray, List.set_cons_zero, List.set_cons_succ]) | (refine lexG_held _ ?_ rfl rfl rfl rfl (by assumption) (fun _ hSw => ?_) ?_; rotate_left; (focus (have h0 := hSw.1; have h1 := hSw.2.1; have h2 := hSw.2.2.1; have h3 := hSw.2.2.2.1; have h4 := hSw.2.2.2.2.1; have h5 := hSw.2.2.2.2.2.1; have h6 := hSw.2.2.2.2.2.2.1; have h7 := hSw.2.2.2.2.2.2.2.1; have h8 := hSw.2.2.2.2.2.2.2.2.1; have h9 := hSw.2.2.2.2.2.2.2.2.2.1; have h10 := hSw.2.2.2.2.2.2.2.2.2.2.1; have h11 := hSw.2.2.2.2.2.2.2.2.2.2.2.1; have h12 := hSw.2.2.2.2.2.2.2.2.2.2.2.2.1; have h13 := hSw.2.2.2.2.2.2.2.2.2.2.2.2.2.1; have h14 := hSw.2.2.2.2.2.2.2.2.2.2.2.2.2.2.1; have h15 := hSw.2.2.2.2.2.2.2.2.2.2.2.2.2.2.2.1; have h16 := hSw.2.2.2.2.2.2.2.2.2.2.2.2.2.2.2.2.1; have h17 := hSw.2.2.2.2.2.2.2.2.2.2.2.2.2.2.2.2.2; clear hSw; go_simp; with_reducible rfl)); try simp only [Act.put, List.setIfInBounds_toArray, List.set_cons_zero, List.set_cons_succ]) | (refine lexG_skip _ rfl rfl (by assumption) ?_; try simp only [Act.put, List.setIfInBounds_toArray, List.set_cons_zero, List.set_cons_succ]))
      refine lexG_now _ rfl rfl rfl (fun K0 hK => ?_)
      go_wp2_with fail
      refine hcall.out.mono ?_
      rintro e w5 ⟨rfl, hb5⟩
      try dsimp only
      have hb5' := below_then hb5 (below_then (Below.refl wr.heap.size wr).drew hbw)
      have hSP5 := hSP2.out w5 hb5
      refine hK _ _ _ (fun _ h => h) hSP5 ?_
      clear hK K0
      try simp only [Act.put, List.setIfInBounds_toArray, List.set_cons_zero, List.set_cons_succ]
      repeat (first | (refine lexG_take _ ?_ rfl rfl rfl rfl (fun _ => ?_) ?_; rotate_left; (focus (go_simp; with_reducible rfl)); try simp only [Act.put, List.setIfInBounds_toArray, List.set_cons_zero, List.set_cons_succ]) | (refine lexG_held _ ?_ rfl rfl rfl rfl (by assumption) (fun _ hSw => ?_) ?_; rotate_left; (focus (have h0 := hSw.1; have h1 := hSw.2.1; have h2 := hSw.2.2.1; have h3 := hSw.2.2.2.1; have h4 := hSw.2.2.2.2.1; have h5 := hSw.2.2.2.2.2.1; have h6 := hSw.2.2.2.2.2.2.1; have h7 := hSw.2.2.2.2.2.2.2.1; have h8 := hSw.2.2.2.2.2.2.2.2.1; have h9 := hSw.2.2.2.2.2.2.2.2.2.1; have h10 := hSw.2.2.2.2.2.2.2.2.2.2.1; have h11 := hSw.2.2.2.2.2.2.2.2.2.2.2.1; have h12 := hSw.2.2.2.2.2.2.2.2.2.2.2.2.1; have h13 := hSw.2.2.2.2.2.2.2.2.2.2.2.2.2.1; have h14 := hSw.2.2.2.2.2.2.2.2.2.2.2.2.2.2.1; have h15 := hSw.2.2.2.2.2.2.2.2.2.2.2.2.2.2.2.1; have h16 := hSw.2.2.2.2.2.2.2.2.2.2.2.2.2.2.2.2.1; have h17 := hSw.2.2.2.2.2.2.2.2.2.2.2.2.2.2.2.2.2; clear hSw; go_simp; with_reducible rfl)); try simp only [Act.put, List.setIfInBounds_toArray, List.set_cons_zero, List.set_cons_succ]) | (refine lexG_skip _ rfl rfl (by assumption) ?_; try simp only [Act.put, List.setIfInBounds_toArray, List.set_cons_zero, List.set_cons_succ]))
      refine lexG_nil ?_
      clear hSP hSP2 hSP5 hcall hb5 hgk
      go_wp2_with fail
      go_roundw
      case rel => exact ⟨K + 1, by omega, by simp, hb5'⟩
      case measure => simp [intOf]; omega
    · have hk' : K = N := by omega
      subst hk'
      have hd : decide ((K : Int) < (K : Int)) = false := decide_eq_false (by omega)
      go_wp2_with fail
      go_ret
      exact ⟨rfl, hbw⟩
end Go.Proofs.Ytgdhiihfcngjbaa
