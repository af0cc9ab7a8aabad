/- (*client.Stub).Out. -/
import Derived.Test.YtgdhiihfcngjbaaCl5
import Derived.Deep.CutRange
set_option linter.unusedSimpArgs false
set_option linter.unusedVariables false
namespace Go.Proofs.Ytgdhiihfcngjbaa
open Go.RowKit
set_option maxRecDepth 100000

def clO (o : OpD) : OpD := ⟨o.c, o.s, o.n, o.g, o.m, o.l.map cleanV⟩
def offO (x : OpnD) : OpnD := ⟨x.o, x.age, false⟩
def offK (l : List OpnD) (k : Nat) : List OpnD := (l.take k).map offO ++ l.drop k
def goK (l : List OpnD) (k : Nat) : List OpD := ((l.take k).filter (·.now)).map fun x => clO x.o
theorem offK_len (l : List OpnD) (k : Nat) : (offK l k).length = l.length := by simp [offK]; omega
theorem offK_at {l : List OpnD} {k : Nat} {x : OpnD} (h : l[k]? = some x) : (offK l k)[k]? = some x := by
  have hk : k < l.length := by
    rcases Nat.lt_or_ge k l.length with h' | h'
    · exact h'
    · rw [List.getElem?_eq_none h'] at h; cases h
  unfold offK
  rw [List.getElem?_append_right (by simp; omega)]
  simp [Nat.min_eq_left (Nat.le_of_lt hk), h]
theorem offK_next {l : List OpnD} {k : Nat} {x : OpnD} (h : l[k]? = some x) : offK l (k + 1) = (offK l k).set k (offO x) := by
  have hk : k < l.length := by
    rcases Nat.lt_or_ge k l.length with h' | h'
    · exact h'
    · rw [List.getElem?_eq_none h'] at h; cases h
  have hd : l.drop k = x :: l.drop (k + 1) := by
    have := List.drop_eq_getElem_cons hk
    rw [List.getElem?_eq_getElem hk] at h
    cases h
    exact this
  have hl : ((l.take k).map offO).length = k := by simp; omega
  unfold offK
  rw [hd, List.take_add_one, h, List.map_append, List.set_append, if_neg (by rw [hl]; omega), hl, Nat.sub_self]
  simp
theorem set_same {α : Type} {l : List α} {k : Nat} {x : α} (h : l[k]? = some x) : l.set k x = l := by
  refine List.ext_getElem? (fun j => ?_)
  rw [List.getElem?_set]
  by_cases e : k = j
  · subst e
    rw [if_pos rfl, h]
    have hk : k < l.length := by
      rcases Nat.lt_or_ge k l.length with h' | h'
      · exact h'
      · rw [List.getElem?_eq_none h'] at h; cases h
    rw [if_pos hk]
  · rw [if_neg e]
theorem goK_next {l : List OpnD} {k : Nat} {x : OpnD} (h : l[k]? = some x) : goK l (k + 1) = goK l k ++ (if x.now then [clO x.o] else []) := by
  unfold goK
  rw [List.take_add_one, h, List.filter_append, List.map_append]
  cases hn : x.now <;> simp [List.filter, hn]
theorem OpsP.under {w W : World} {b : Nat} {S : Nat → Prop} {A : Option Addr} {c : Nat} {os : List OpD} {xs : List Value} {css : Nat → Array Value} (h : OpsP w b A c os xs css) (hu : Upd S w W) (hS : ∀ y, S y → y < b) : OpsP W b A c os xs css :=
  ⟨h.ho.upd hu (fun y hy e => by have := h.hA y hy; have := hS y e; omega), h.hA, fun j x hj => (h.hx j x hj).next hu (fun y _ e => .inl (hS y e)) (fun _ _ hp => hp), h.hxs⟩

structure OutRel (w wr : World) (F : Nat → Prop) (g : Nat) (d : CliD) (k m : Nat) (A : Option Addr) (c : Nat) (A2 : Option Addr) (c2 : Nat) (xs xs2 : List Value) (css css2 : Nat → Array Value) (Ao : Option Addr) (co : Nat) (xo : List Value) (cso : Nat → Array Value) : Prop where
  X : StubX wr F g ⟨d.id, d.seq, offK d.op k, d.rp⟩ A c A2 c2 xs xs2 css css2
  P : OpsP wr w.heap.size Ao co (goK d.op k) xo cso
  lm : (goK d.op k).length = m
  km : m ≤ k
  U : Upd F w wr

set_option maxHeartbeats 6400000 in
theorem cl_out {w : World} {F : Nat → Prop} {g : Nat} {d : CliD} {A : Option Addr} {c : Nat} {A2 : Option Addr} {c2 : Nat} {xs xs2 : List Value} {css css2 : Nat → Array Value} (h : StubX w F g d A c A2 c2 xs xs2 css css2) :
    Calls Try.prog 11 #[.pointer (some ⟨g, 0, none⟩)] w (fun e w' => ∃ (m : Nat) (Ao : Option Addr) (co : Nat) (xo : List Value) (cso : Nat → Array Value), e = .returned (.slice Ao m co) ∧ ((d.op.filter (·.now)).map fun x => clO x.o).length = m ∧ OpsP w' w.heap.size Ao co ((d.op.filter (·.now)).map fun x => clO x.o) xo cso ∧ StubS w' F g ⟨d.id, d.seq, d.op.map offO, d.rp⟩ ∧ Upd F w w') := by
  obtain ⟨i0, hi, hz0, hz1, hz2⟩ := info_parts info_op
  have hn := h.hn
  obtain ⟨N, hN⟩ : ∃ N, d.op.length = N := ⟨_, rfl⟩
  rw [hN] at hn
  have hg2 : w.cell? ⟨g, 2, none⟩ = some (.slice A N c) := by rw [← hN]; exact h.blk.cell 2
  have hft := h.ft
  replace hN := Lib.hid hN
  replace h := Lib.hid h
  replace hft := Lib.hid hft
  go_enter Try.func11, Try.ntmps11
  go_wp2_with fail
  clear hg2
  go_loopw [3, 11] (fun o i wr => ∃ (k m : Nat) (xs : List Value) (Ao : Option Addr) (co : Nat) (xo : List Value) (cso : Nat → Array Value), k ≤ N ∧ o = .slice Ao m co ∧ i = .int .i64 (k : Int) ∧ OutRel w wr F g d k m A c A2 c2 xs xs2 css css2 Ao co xo cso) (fun _ i _ => N - (intOf i).toNat)
  case atStart => exact ⟨0, 0, xs, none, 0, [], fun _ => #[], Nat.zero_le _, rfl, rfl, by have := h.out; simpa [offK] using this, OpsP.nil _ _, rfl, Nat.le_refl _, Upd.refl _ _⟩
  case round =>
    rename_i hrel
    obtain ⟨k, m, xs, Ao, co, xo, cso, hk, rfl, rfl, R⟩ := hrel
    by_cases hlt : k < N
    · have hgk : d.op[k]? = some (d.op[k]'(by rw [hN.out]; exact hlt)) := List.getElem?_eq_getElem _
      generalize d.op[k]'(by rw [hN.out]; exact hlt) = x at hgk
      have hgk' := offK_at hgk
      have hX := R.X
      have hkm := R.km
      have hlk : (offK d.op k).length = N := by rw [offK_len, hN.out]
      have hg2 : wr.cell? ⟨g, 2, none⟩ = some (.slice A N c) := by rw [← hlk]; exact hX.blk.cell 2
      have hop := (hX.hx k x hgk').reads
      obtain ⟨gA, A1, c1, rfl, hcs, g0, g1, g2, g3, g4, g5, g6, g7, -, -, -⟩ := hX.cells hgk'
      rw [hcs] at hop
      have hd : decide ((k : Int) < (N : Int)) = true := decide_eq_true (by omega)
      have hkw : IntKind.i64.wrap ((k : Int) + 1) = (k : Int) + 1 := by rw [IntKind.wrap_i64]; omega
      have hcap : N ≤ c := by have := hX.ho.le_cap; rw [← hlk]; exact this
      obtain ⟨xop, xage, xnow⟩ := x
      obtain ⟨xc, xs_, xn, xg', xm', xl⟩ := xop
      dsimp only at g0 g1 g2 g3 g4 g5 g6 g7 hop
      have hcl := clean_own hop (Nat.le_refl _)
      obtain ⟨xg, hxg⟩ : ∃ q, bstr xg' = q := ⟨_, rfl⟩
      obtain ⟨xm, hxm⟩ : ∃ q, bstr xm' = q := ⟨_, rfl⟩
      obtain ⟨L, hL⟩ : ∃ L, xl.length = L := ⟨_, rfl⟩
      rw [hL] at g5
      rw [hL, hxg, hxm] at hcl
      rw [hxg] at g3
      rw [hxm] at g4
      replace hX := Lib.hid hX
      replace R := Lib.hid R
      replace hgk := Lib.hid hgk
      replace hgk' := Lib.hid hgk'
      replace hcl := Lib.hid hcl
      replace hop := Lib.hid hop
      replace hL := Lib.hid hL
      replace hxg := Lib.hid hxg
      replace hxm := Lib.hid hxm
      clear hcs hlk
      cases xnow
      · go_wp2_with fail
        go_roundw
        case rel => exact ⟨k + 1, m, xs, Ao, co, xo, cso, by omega, by rfl, by simp, by
          have e1 : offK d.op (k + 1) = offK d.op k := by rw [offK_next hgk.out]; exact set_same hgk'.out
          have e2 : goK d.op (k + 1) = goK d.op k := by rw [goK_next hgk.out]; simp
          exact ⟨by rw [e1]; exact R.out.X, by rw [e2]; exact R.out.P, by rw [e2]; exact R.out.lm, by omega, R.out.U⟩⟩
        case measure => simp [intOf]; omega
      · go_wp2_with fail
        refine hcl.out.mono ?_
        rintro e w6 ⟨A6, c6, xs6, css6, rfl, R6, hb6⟩
        try dsimp only
        rw [hL.out]
        obtain ⟨A0', cc0', xs0', cs0', hcs0, -, -, -, hll, hok, hc9, hs9, hn9⟩ := hop.out
        have H6 := held_of_row (w := wr) (o := ⟨xc, xs_, xn, xg', xm', xl.map cleanV⟩) (L := L) R6 (by rw [List.length_map]; exact hL.out) (by have := hL.out; have h' : xl.length ≤ _ := hll; omega) (fun u hu => by obtain ⟨v, hv, rfl⟩ := List.mem_map.1 hu; exact clean_okv (hok v hv)) hc9 hs9 hn9
        dsimp only at H6
        rw [hxg.out, hxm.out] at H6
        have hsrc := Reads.lit (size := 6) w6 #[.int .u32 (xc : Int), .int .u32 (xs_ : Int), .int .u16 (xn : Int), .string xg, .string xm, .slice A6 L c6] 62 (0, 0) 1 [.int .u32 (xc : Int), .int .u32 (xs_ : Int), .int .u16 (xn : Int), .string xg, .string xm, .slice A6 L c6] rfl rfl
        have hb7 := hb6.alloc hb6.size (.cells #[.int .u32 (xc : Int), .int .u32 (xs_ : Int), .int .u16 (xn : Int), .string xg, .string xm, .slice A6 L c6] 62)
        have H7 : OpHeld (w6.alloc (.cells #[.int .u32 (xc : Int), .int .u32 (xs_ : Int), .int .u16 (xn : Int), .string xg, .string xm, .slice A6 L c6] 62)) (fun g => g < wr.heap.size) ⟨xc, xs_, xn, xg', xm', xl.map cleanV⟩ #[.int .u32 (xc : Int), .int .u32 (xs_ : Int), .int .u16 (xn : Int), .string xg, .string xm, .slice A6 L c6] := H6.next (T := fun _ => False) ((Upd.refl _ w6).alloc _) (fun _ _ hf => hf.elim) (fun g _ hg => hg)
        have hown := R.out.P.ho
        rw [R.out.lm] at hown
        have ho7 := hown.below hb7 (Nat.le_refl _)
        replace H7 := Lib.hid H7
        clear H6 R6 hown hcs0 hll hok
        go_wp2_with (at_builtin; go_must (refine wpList_append_mine rfl _ _ 42 42 rfl 62 i0 _ 6 72 Try.underlying42 hi hz0 hz1 hz2 rfl rfl ho7 rfl (Src.ofReads Try.underlying42 _ hsrc (by intro u hu; simp only [List.mem_cons, List.not_mem_nil, or_false] at hu; rcases hu with rfl | rfl | rfl | rfl | rfl | rfl <;> rfl)) (by unfold maxLen; omega) (by omega) (fun A8 c8 w8 ho8 hg8 hat8 => ?_)); have hu8 : Upd (fun z => some z = bOf Ao) wr w8 := (Upd.of_below_size hb7).trans ((Upd.refl (fun z => some z = bOf Ao) _).grown hg8 (fun k e _ => e.symm)) (fun _ _ e => e); have hX8 := hX.out.keep hu8 (fun y hy e => by have h1 := R.out.P.hA y e.symm; have h2 := hft.out y hy; omega); obtain ⟨cur, hbA⟩ : ∃ cur, Blk w8 gA 72 cur := (by obtain ⟨g', cur, e, hb', -⟩ := hX8.ho.open_s (by have := offK_len d.op k; show 0 < (offK d.op k).length; rw [this, hN.out]; omega); cases e; exact ⟨cur, hb'⟩); have f7 := hbA.frozen (k * 8 + 7); have k7 : w8.cell? ⟨gA, k * 8 + 7, none⟩ = some (.bool true) := (by obtain ⟨gA', _, _, e, -, -, -, -, -, -, -, -, k7, -⟩ := hX8.cells hgk'.out; cases e; exact k7); clear hbA; replace hX8 := Lib.hid hX8; replace hu8 := Lib.hid hu8)
        have hFA : F gA := hX.out.fA gA rfl
        have hlA := hft.out gA hFA
        obtain ⟨xsn, hXn⟩ := hX8.out.set1 (t := 7) (age' := xage) (now' := false) (v := .bool false) hgk'.out (.inr ⟨rfl, rfl, rfl⟩)
        have P8 := R.out.P.push R.out.U.size hb7 (by rw [R.out.lm]; exact ho8) hg8 hat8 H7.out
        have u1 : Upd (fun z => z = gA) w8 (w8.setCell ⟨gA, k * 8 + 7, none⟩ (.bool false)) := (Upd.refl (fun z => z = gA) w8).setCell (p := ⟨gA, k * 8 + 7, none⟩) (fun _ => rfl) _
        have P9 := P8.under u1 (fun y e => by subst e; exact hlA)
        have U8 := (R.out.U.trans hu8.out (fun i hi e => by have := R.out.P.hA i e.symm; omega)).trans (u1.mono (T := F) (fun y _ e => by subst e; exact hFA)) (fun _ _ e => e)
        have e1 : offK d.op (k + 1) = (offK d.op k).set k ⟨⟨xc, xs_, xn, xg', xm', xl⟩, xage, false⟩ := offK_next hgk.out
        have e2 : goK d.op (k + 1) = goK d.op k ++ [⟨xc, xs_, xn, xg', xm', xl.map cleanV⟩] := by rw [goK_next hgk.out]; rfl
        rw [← e1] at hXn
        rw [← e2] at P9
        have e3 : (goK d.op (k + 1)).length = m + 1 := by rw [e2, List.length_append, R.out.lm]; rfl
        replace P9 := Lib.hid P9
        replace hXn := Lib.hid hXn
        replace e3 := Lib.hid e3
        clear P8 u1 e1 e2 hX8
        go_roundw
        case rel => exact ⟨k + 1, m + 1, xsn, A8, c8, _, _, by omega, by rfl, by simp, ⟨hXn.out, P9.out, e3.out, by omega, U8⟩⟩
        case measure => simp [intOf]; omega
    · have hk' : k = N := by omega
      subst k
      have hd : decide ((N : Int) < (N : Int)) = false := decide_eq_false (by omega)
      have e1 : offK d.op N = d.op.map offO := by unfold offK; rw [List.take_of_length_le (by rw [hN.out]; omega), List.drop_eq_nil_of_le (by rw [hN.out]; omega), List.append_nil]
      have e2 : goK d.op N = (d.op.filter (·.now)).map fun x => clO x.o := by unfold goK; rw [List.take_of_length_le (by rw [hN.out]; omega)]
      have hX := R.X
      have hP := R.P
      have hlm := R.lm
      have hU := R.U
      rw [e1] at hX
      rw [e2] at hP hlm
      replace hX := Lib.hid hX
      replace hP := Lib.hid hP
      replace hlm := Lib.hid hlm
      clear R
      go_wp2_with fail
      go_ret
      exact ⟨m, Ao, co, xo, cso, rfl, hlm.out, hP.out, ⟨_, _, _, _, _, _, _, _, hX.out⟩, hU⟩
end Go.Proofs.Ytgdhiihfcngjbaa
