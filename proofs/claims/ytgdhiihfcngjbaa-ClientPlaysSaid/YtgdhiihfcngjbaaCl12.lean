/- (*client.Stub).Tick. -/
import Derived.Test.YtgdhiihfcngjbaaCl11
set_option linter.unusedSimpArgs false
set_option linter.unusedVariables false
namespace Go.Proofs.Ytgdhiihfcngjbaa
open Go.RowKit
set_option maxRecDepth 100000

def keepO (x : OpnD) : Bool := decide (x.age + 1 < 3000)
def tickO (x : OpnD) : OpnD := ⟨x.o, x.age + 1, x.now || (x.age + 1) % 10 == 0⟩
def zeroV : Val := .mk 0 0 0 [] []
def goneO (x : OpnD) : RplD := ⟨x.o.c, x.o.s, x.o.n, 40, zeroV⟩
/-- What Tick makes of a stub. -/
def tickD (d : CliD) : CliD := ⟨d.id, d.seq, (d.op.filter keepO).map tickO, d.rp ++ (d.op.filter fun x => !keepO x).map goneO⟩
def opK (l : List OpnD) (k : Nat) : List OpnD := ((l.take k).filter keepO).map tickO ++ l.drop k
def ixK (l : List OpnD) (k : Nat) : Nat := ((l.take k).filter keepO).length
def rpK (l : List OpnD) (k : Nat) : List RplD := ((l.take k).filter fun x => !keepO x).map goneO
theorem opK_len (l : List OpnD) (k : Nat) : (opK l k).length = ixK l k + (l.length - k) := by simp [opK, ixK]
theorem ixK_le (l : List OpnD) (k : Nat) : ixK l k ≤ l.length := Nat.le_trans (List.length_filter_le _ _) (by rw [List.length_take]; omega)
theorem rpK_le (l : List OpnD) (k : Nat) : (rpK l k).length ≤ l.length := by
  unfold rpK
  rw [List.length_map]
  exact Nat.le_trans (List.length_filter_le _ _) (by rw [List.length_take]; omega)
theorem atLt {α : Type} {l : List α} {k : Nat} {x : α} (h : l[k]? = some x) : k < l.length := by
  rcases Nat.lt_or_ge k l.length with h' | h'
  · exact h'
  · rw [List.getElem?_eq_none h'] at h; cases h
theorem dropAt {α : Type} {l : List α} {k : Nat} {x : α} (h : l[k]? = some x) : l.drop k = x :: l.drop (k + 1) := by
  have hk := atLt h
  have := List.drop_eq_getElem_cons hk
  rw [List.getElem?_eq_getElem hk] at h
  cases h
  exact this
theorem opK_at {l : List OpnD} {k : Nat} {x : OpnD} (h : l[k]? = some x) : (opK l k)[ixK l k]? = some x := by
  unfold opK ixK
  rw [List.getElem?_append_right (by simp), List.length_map, Nat.sub_self, dropAt h]
  rfl
theorem ixK_keep {l : List OpnD} {k : Nat} {x : OpnD} (h : l[k]? = some x) (hx : keepO x = true) : ixK l (k + 1) = ixK l k + 1 := by
  unfold ixK
  rw [List.take_add_one, h, List.filter_append]
  simp [hx]
theorem ixK_gone {l : List OpnD} {k : Nat} {x : OpnD} (h : l[k]? = some x) (hx : keepO x = false) : ixK l (k + 1) = ixK l k := by
  unfold ixK
  rw [List.take_add_one, h, List.filter_append]
  simp [hx]
theorem rpK_keep {l : List OpnD} {k : Nat} {x : OpnD} (h : l[k]? = some x) (hx : keepO x = true) : rpK l (k + 1) = rpK l k := by
  unfold rpK
  rw [List.take_add_one, h, List.filter_append]
  simp [hx]
theorem rpK_gone {l : List OpnD} {k : Nat} {x : OpnD} (h : l[k]? = some x) (hx : keepO x = false) : rpK l (k + 1) = rpK l k ++ [goneO x] := by
  unfold rpK
  rw [List.take_add_one, h, List.filter_append]
  simp [hx]
theorem opK_keep {l : List OpnD} {k : Nat} {x : OpnD} (h : l[k]? = some x) (hx : keepO x = true) : opK l (k + 1) = (opK l k).set (ixK l k) (tickO x) := by
  unfold opK ixK
  rw [dropAt h, List.set_append, if_neg (by simp), List.length_map, Nat.sub_self, List.take_add_one, h, List.filter_append]
  simp [hx]
theorem opK_gone {l : List OpnD} {k : Nat} {x : OpnD} (h : l[k]? = some x) (hx : keepO x = false) : opK l (k + 1) = (opK l k).eraseIdx (ixK l k) := by
  unfold opK ixK
  rw [dropAt h, List.eraseIdx_append_of_length_le (by simp), List.length_map, Nat.sub_self, List.take_add_one, h, List.filter_append]
  simp [hx]
/-- How many calls are open, read from a stub's block. -/
def openLen (w : World) (g : Nat) : Nat := match w.cell? ⟨g, 2, none⟩ with
  | some (.slice _ n _) => n
  | _ => 0
theorem StubS.openLen {w : World} {F : Nat → Prop} {g : Nat} {d : CliD} (h : StubS w F g d) : openLen w g = d.op.length := by
  obtain ⟨A, c, A2, c2, xs, xs2, css, css2, h⟩ := h
  have h2 : w.cell? ⟨g, 2, none⟩ = some (.slice A d.op.length c) := h.blk.cell 2
  unfold Go.Proofs.Ytgdhiihfcngjbaa.openLen
  rw [h2]
structure TickRel (w wr : World) (F : Nat → Prop) (g : Nat) (d : CliD) (k i : Nat) (F' : Nat → Prop) : Prop where
  X : StubS wr F' g ⟨d.id, d.seq, opK d.op k, d.rp ++ rpK d.op k⟩
  hi : ixK d.op k = i
  hF : ∀ y, F' y → F y ∨ w.heap.size ≤ y
  U : Upd F w wr
theorem zero_reads (w : World) : VReads w w.heap.size zeroV #[.int .i64 0, .int .i64 0, .float .f64 0, .string ⟨#[]⟩, .slice none 0 0] :=
  VReads.mk (w := w) (B := w.heap.size) (k := 0) (i := 0) (f := 0) (s := []) (l := []) (A := none) (c := 0) (xs := []) (fun _ => #[]) (by decide) (Own.none_ (w := w) (t := 37) (size := 5)).reads_ (by simp) (by simp)
theorem zero_ok : OkV zeroV := by
  refine OkV.mk ?_ ?_ ?_ ?_ <;> simp
set_option maxHeartbeats 6400000 in
theorem cl_tick {w : World} {F : Nat → Prop} {g : Nat} {d : CliD} (h : StubS w F g d) (hage : ∀ x ∈ d.op, x.age < 1000000) (hr4 : d.rp.length < 900000) :
    Calls Try.prog 12 #[.pointer (some ⟨g, 0, none⟩)] w (fun e w' => e = .returned (.tuple #[]) ∧ Upd F w w' ∧ ∃ F', StubS w' F' g (tickD d) ∧ ∀ y, F' y → F y ∨ w.heap.size ≤ y) := by
  have hn : d.op.length ≤ 4 := by obtain ⟨_, _, _, _, _, _, _, _, h⟩ := h; exact h.hn
  obtain ⟨N, hN⟩ : ∃ N, d.op.length = N := ⟨_, rfl⟩
  rw [hN] at hn
  replace hN := Lib.hid hN
  replace hage := Lib.hid hage
  go_enter Try.func12, Try.ntmps12
  go_wp2_with fail
  go_loopw [2] (fun i wr => ∃ (k j : Nat) (F' : Nat → Prop), k ≤ N ∧ i = .int .i64 (j : Int) ∧ TickRel w wr F g d k j F') (fun i wr => openLen wr g - (intOf i).toNat)
  case atStart => exact ⟨0, 0, F, Nat.zero_le _, rfl, by have := h; simpa [opK, rpK] using this, by simp [ixK], fun _ hf => .inl hf, Upd.refl _ _⟩
  case round =>
    rename_i hrel
    obtain ⟨k, j, F', hk, rfl, R⟩ := hrel
    have hol := R.X.openLen
    have hlk : (opK d.op k).length = j + (N - k) := by rw [opK_len, hN.out, R.hi]
    dsimp only at hol
    rw [hlk] at hol
    have hj4 : j ≤ 4 := by have := ixK_le d.op k; rw [R.hi, hN.out] at this; omega
    have hrl : (d.rp ++ rpK d.op k).length < 1000000 := by
      have h1 := rpK_le d.op k
      have h2 := hN.out
      rw [List.length_append]
      omega
    obtain ⟨L, hL⟩ : ∃ q, j + (N - k) = q := ⟨_, rfl⟩
    rw [hL] at hol hlk
    obtain ⟨A, c, A2, c2, xs, xs2, css, css2, X⟩ := R.X
    have hg2 : wr.cell? ⟨g, 2, none⟩ = some (.slice A L c) := by rw [← hlk]; exact X.blk.cell 2
    have hgl := X.blk.lt
    by_cases hlt : k < N
    · have hgk : d.op[k]? = some (d.op[k]'(by rw [hN.out]; exact hlt)) := List.getElem?_eq_getElem _
      have hagx := hage.out _ (List.getElem_mem (by rw [hN.out]; exact hlt : k < d.op.length))
      generalize d.op[k]'(by rw [hN.out]; exact hlt) = x at hgk hagx
      have hgk' := opK_at hgk
      rw [R.hi] at hgk'
      have hcap : L ≤ c := by have := X.ho.le_cap; rw [← hlk]; exact this
      obtain ⟨gA, A1, c1, rfl, hcs, g0, g1, g2, g3, g4, g5, g6, g7, -, -, -⟩ := X.cells hgk'
      have hAc : A2 = A2 := rfl
      obtain ⟨cur, hbA⟩ : ∃ cur, Blk wr gA 72 cur := by
        obtain ⟨g', cur, e, hb', -⟩ := X.ho.open_s (by rw [show (CliD.mk d.id d.seq (opK d.op k) (d.rp ++ rpK d.op k)).op.length = L from hlk]; omega)
        cases e
        exact ⟨cur, hb'⟩
      have hd : decide ((j : Int) < (L : Int)) = true := decide_eq_true (by omega)
      have hjw : IntKind.i64.wrap ((j : Int) + 1) = (j : Int) + 1 := by rw [IntKind.wrap_i64]; omega
      obtain ⟨xop, xage, xnow⟩ := x
      obtain ⟨a1, ha1⟩ : ∃ q, xage + 1 = q := ⟨_, rfl⟩
      have hneA := X.neA gA rfl
      obtain ⟨xs6, X6⟩ := X.set1 (t := 6) (age' := a1) (now' := xnow) (v := .int .i64 (a1 : Int)) hgk' (.inl ⟨rfl, rfl, rfl⟩)
      have hu6 : Upd (fun z => z = gA) wr (wr.setCell ⟨gA, j * 8 + 6, none⟩ (.int .i64 (a1 : Int))) := (Upd.refl (fun z => z = gA) wr).setCell (p := ⟨gA, j * 8 + 6, none⟩) (fun _ => rfl) _
      have hb6 := hbA.set_ (j * 8 + 6) (.int .i64 (a1 : Int))
      have hFA : F' gA := X.fA gA rfl
      have hgk6 : (CliD.mk d.id d.seq ((opK d.op k).set j ⟨xop, a1, xnow⟩) (d.rp ++ rpK d.op k)).op[j]? = some ⟨xop, a1, xnow⟩ := by
        have := atLt hgk'
        show ((opK d.op k).set j ⟨xop, a1, xnow⟩)[j]? = _
        rw [List.getElem?_set_self this]
      obtain ⟨xc, xs_, xn, xg', xm', xl⟩ := xop
      dsimp only at g0 g1 g2 g3 g4 g5 g6 g7 hagx
      have haw : IntKind.i64.wrap ((xage : Int) + 1) = (a1 : Int) := by rw [IntKind.wrap_i64]; omega
      have f6 := hbA.frozen (j * 8 + 6)
      obtain ⟨cells6, hcells6⟩ : ∃ q, wr.setCell ⟨gA, j * 8 + 6, none⟩ (.int .i64 (a1 : Int)) = q := ⟨_, rfl⟩
      rw [hcells6] at X6 hu6 hb6
      have hg26 : cells6.cell? ⟨g, 2, none⟩ = some (.slice (some ⟨gA, 0, none⟩) L c) := by
        have h1 := X6.blk.cell 2
        rw [show ((CliD.mk d.id d.seq ((opK d.op k).set j ⟨⟨xc, xs_, xn, xg', xm', xl⟩, a1, xnow⟩) (d.rp ++ rpK d.op k)).op.length) = L by rw [← hlk]; exact List.length_set] at h1
        exact h1
      obtain ⟨gA', A1', c1', e', hcs', q0, q1, q2, q3, q4, q5, q6, q7, -, -, -⟩ := X6.cells hgk6
      cases e'
      have f7 := hb6.frozen (j * 8 + 7)
      by_cases h3 : 3000 ≤ a1
      · have hd3 : decide ((3000 : Int) ≤ (a1 : Int)) = true := decide_eq_true (by omega)
        have hkp : keepO ⟨⟨xc, xs_, xn, xg', xm', xl⟩, xage, xnow⟩ = false := decide_eq_false (by show ¬ xage + 1 < 3000; omega)
        have hjl : j < ((opK d.op k).set j ⟨⟨xc, xs_, xn, xg', xm', xl⟩, a1, xnow⟩).length := by rw [List.length_set, hlk]; omega
        have hans := cl_answer (rc := xc) (rs := xs_) (rn := xn) (er := 40) X6 (zero_reads cells6) (Nat.le_refl _) zero_ok hjl hrl
        dsimp only at hans
        rw [show cleanV zeroV = zeroV by rfl, List.eraseIdx_set_eq] at hans
        have hlx1 := opK_gone hgk hkp
        have hrx1 := rpK_gone hgk hkp
        have hix1 := ixK_gone hgk hkp
        rw [R.hi] at hlx1 hix1
        replace hans := Lib.hid hans
        replace hlx1 := Lib.hid hlx1
        replace hrx1 := Lib.hid hrx1
        replace hix1 := Lib.hid hix1
        replace R := Lib.hid R
        replace hol := Lib.hid hol
        replace hlk := Lib.hid hlk
        replace hu6 := Lib.hid hu6
        clear X X6 hgk hgk' hgk6 hkp hcs hcs' hjl
        go_wp2_with (rw [hcells6])
        refine hans.out.mono ?_
        clear hans
        rintro e w7 ⟨rfl, hu7, F7, hS7, hF7⟩
        try dsimp only
        have hs6 := hu6.out.size
        have hol7 := hS7.openLen
        have hRU : Upd F w w7 := (R.out.U.trans (hu6.out.mono (T := F') (fun y _ e => by subst e; exact hFA)) (fun y hy e => (R.out.hF y e).resolve_right (by omega))).trans hu7 (fun y hy e => (R.out.hF y e).resolve_right (by omega))
        rw [← hlx1.out, List.append_assoc] at hS7
        rw [show ([⟨xc, xs_, xn, 40, zeroV⟩] : List RplD) = [goneO ⟨⟨xc, xs_, xn, xg', xm', xl⟩, xage, xnow⟩] from rfl, ← hrx1.out] at hS7
        have hwr := R.out.U.size
        have hF8 : ∀ y, F7 y → F y ∨ w.heap.size ≤ y := fun y hy => (hF7 y hy).elim (R.out.hF y) (fun e => .inr (by omega))
        have hm : openLen w7 g - j < openLen wr g - j := by
          rw [hol7, hol.out]
          show ((opK d.op k).eraseIdx j).length - j < L - j
          rw [List.length_eraseIdx, hlk.out, if_pos (by omega)]
          omega
        replace hS7 := Lib.hid hS7
        replace hm := Lib.hid hm
        replace hRU := Lib.hid hRU
        clear hol7 hu7
        go_wp2_with fail
        go_roundw
        case rel => exact ⟨k + 1, j, F7, by omega, rfl, hS7.out, hix1.out, hF8, hRU.out⟩
        case measure => exact hm.out
      · have hd3 : decide ((3000 : Int) ≤ (a1 : Int)) = false := decide_eq_false (by omega)
        have hkp : keepO ⟨⟨xc, xs_, xn, xg', xm', xl⟩, xage, xnow⟩ = true := decide_eq_true (by show xage + 1 < 3000; omega)
        have hlx1 := opK_keep hgk hkp
        have hrx1 := rpK_keep hgk hkp
        have hix1 := ixK_keep hgk hkp
        rw [R.hi] at hlx1 hix1
        obtain ⟨q10, hq10⟩ : ∃ q, (a1 % 10 == 0) = q := ⟨_, rfl⟩
        have hten : (Int.tmod (a1 : Int) 10 == 0) = q10 := by
          rw [← hq10, Int.tmod_eq_emod_of_nonneg (by omega)]
          by_cases h : a1 % 10 = 0
          · rw [show (a1 : Int) % 10 = 0 by omega, h]; rfl
          · rw [beq_eq_false_iff_ne.2 (show (a1 : Int) % 10 ≠ 0 by omega), beq_eq_false_iff_ne.2 h]
        have hten' : ((a1 : Int) % 10 == 0) = q10 := by rw [← hten, Int.tmod_eq_emod_of_nonneg (by omega)]
        obtain ⟨xs7, X7⟩ := X6.set1 (t := 7) (age' := a1) (now' := xnow || q10) (v := .bool (xnow || q10)) hgk6 (.inr ⟨rfl, rfl, rfl⟩)
        have hu7 : Upd (fun z => z = gA) cells6 (cells6.setCell ⟨gA, j * 8 + 7, none⟩ (.bool (xnow || q10))) := (Upd.refl (fun z => z = gA) cells6).setCell (p := ⟨gA, j * 8 + 7, none⟩) (fun _ => rfl) _
        obtain ⟨q8, hq8⟩ : ∃ q, (xnow || q10) = q := ⟨_, rfl⟩
        rw [hq8] at X7 hu7
        dsimp only at X7
        rw [List.set_set, show (OpnD.mk ⟨xc, xs_, xn, xg', xm', xl⟩ a1 q8) = tickO ⟨⟨xc, xs_, xn, xg', xm', xl⟩, xage, xnow⟩ by unfold tickO; dsimp only; rw [ha1, hq10, hq8], ← hlx1, ← hrx1] at X7
        replace hlx1 := Lib.hid hlx1
        replace hrx1 := Lib.hid hrx1
        replace hix1 := Lib.hid hix1
        replace R := Lib.hid R
        replace hol := Lib.hid hol
        replace hlk := Lib.hid hlk
        replace hu6 := Lib.hid hu6
        replace hu7 := Lib.hid hu7
        replace X7 := Lib.hid X7
        clear X X6 hgk hgk' hgk6 hkp hcs hcs'
        cases xnow <;> cases q10
        · obtain rfl : q8 = false := by rw [← hq8]; rfl
          obtain ⟨wx, hwx⟩ : ∃ q, cells6.setCell ⟨gA, j * 8 + 7, none⟩ (.bool false) = q := ⟨_, rfl⟩
          have hX7 := X7.out
          have hU7 := hu7.out
          rw [hwx] at hX7 hU7
          have hS7 : StubS wx F' g ⟨d.id, d.seq, opK d.op (k + 1), d.rp ++ rpK d.op (k + 1)⟩ := ⟨_, _, _, _, _, _, _, _, hX7⟩
          have hol7 := hS7.openLen
          dsimp only at hol7
          rw [opK_len, hix1.out, hN.out, show j + 1 + (N - (k + 1)) = L by omega] at hol7
          have hRU : Upd F w wx := (R.out.U.trans (hu6.out.mono (T := F') (fun y _ e => by subst e; exact hFA)) (fun y hy e => (R.out.hF y e).resolve_right (by omega))).trans (hU7.mono (T := F') (fun y _ e => by subst e; exact hFA)) (fun y hy e => (R.out.hF y e).resolve_right (by omega))
          have hm : openLen wx g - (intOf (.int .i64 ((j : Int) + 1))).toNat < openLen wr g - (intOf (.int .i64 (j : Int))).toNat := by
            rw [hol7, hol.out]
            simp [intOf]
            omega
          have hend : TickRel w wx F g d (k + 1) (j + 1) F' := ⟨hS7, hix1.out, R.out.hF, hRU⟩
          replace hm := Lib.hid hm
          replace hend := Lib.hid hend
          clear hX7 hU7 hS7 hol7 hRU X7 hu7
          go_wp2_with (rw [hcells6])
          try rw [hwx]
          exact ⟨⟨k + 1, j + 1, F', by omega, rfl, hend.out⟩, hm.out⟩
        · obtain rfl : q8 = true := by rw [← hq8]; rfl
          obtain ⟨wx, hwx⟩ : ∃ q, cells6.setCell ⟨gA, j * 8 + 7, none⟩ (.bool true) = q := ⟨_, rfl⟩
          have hX7 := X7.out
          have hU7 := hu7.out
          rw [hwx] at hX7 hU7
          have hS7 : StubS wx F' g ⟨d.id, d.seq, opK d.op (k + 1), d.rp ++ rpK d.op (k + 1)⟩ := ⟨_, _, _, _, _, _, _, _, hX7⟩
          have hol7 := hS7.openLen
          dsimp only at hol7
          rw [opK_len, hix1.out, hN.out, show j + 1 + (N - (k + 1)) = L by omega] at hol7
          have hRU : Upd F w wx := (R.out.U.trans (hu6.out.mono (T := F') (fun y _ e => by subst e; exact hFA)) (fun y hy e => (R.out.hF y e).resolve_right (by omega))).trans (hU7.mono (T := F') (fun y _ e => by subst e; exact hFA)) (fun y hy e => (R.out.hF y e).resolve_right (by omega))
          have hm : openLen wx g - (intOf (.int .i64 ((j : Int) + 1))).toNat < openLen wr g - (intOf (.int .i64 (j : Int))).toNat := by
            rw [hol7, hol.out]
            simp [intOf]
            omega
          have hend : TickRel w wx F g d (k + 1) (j + 1) F' := ⟨hS7, hix1.out, R.out.hF, hRU⟩
          replace hm := Lib.hid hm
          replace hend := Lib.hid hend
          clear hX7 hU7 hS7 hol7 hRU X7 hu7
          go_wp2_with (rw [hcells6])
          try rw [hwx]
          exact ⟨⟨k + 1, j + 1, F', by omega, rfl, hend.out⟩, hm.out⟩
        · obtain rfl : q8 = true := by rw [← hq8]; rfl
          obtain ⟨wx, hwx⟩ : ∃ q, cells6.setCell ⟨gA, j * 8 + 7, none⟩ (.bool true) = q := ⟨_, rfl⟩
          have hX7 := X7.out
          have hU7 := hu7.out
          rw [hwx] at hX7 hU7
          have hS7 : StubS wx F' g ⟨d.id, d.seq, opK d.op (k + 1), d.rp ++ rpK d.op (k + 1)⟩ := ⟨_, _, _, _, _, _, _, _, hX7⟩
          have hol7 := hS7.openLen
          dsimp only at hol7
          rw [opK_len, hix1.out, hN.out, show j + 1 + (N - (k + 1)) = L by omega] at hol7
          have hRU : Upd F w wx := (R.out.U.trans (hu6.out.mono (T := F') (fun y _ e => by subst e; exact hFA)) (fun y hy e => (R.out.hF y e).resolve_right (by omega))).trans (hU7.mono (T := F') (fun y _ e => by subst e; exact hFA)) (fun y hy e => (R.out.hF y e).resolve_right (by omega))
          have hm : openLen wx g - (intOf (.int .i64 ((j : Int) + 1))).toNat < openLen wr g - (intOf (.int .i64 (j : Int))).toNat := by
            rw [hol7, hol.out]
            simp [intOf]
            omega
          have hend : TickRel w wx F g d (k + 1) (j + 1) F' := ⟨hS7, hix1.out, R.out.hF, hRU⟩
          replace hm := Lib.hid hm
          replace hend := Lib.hid hend
          clear hX7 hU7 hS7 hol7 hRU X7 hu7
          go_wp2_with (rw [hcells6])
          try rw [hwx]
          exact ⟨⟨k + 1, j + 1, F', by omega, rfl, hend.out⟩, hm.out⟩
        · obtain rfl : q8 = true := by rw [← hq8]; rfl
          obtain ⟨wx, hwx⟩ : ∃ q, cells6.setCell ⟨gA, j * 8 + 7, none⟩ (.bool true) = q := ⟨_, rfl⟩
          have hX7 := X7.out
          have hU7 := hu7.out
          rw [hwx] at hX7 hU7
          have hS7 : StubS wx F' g ⟨d.id, d.seq, opK d.op (k + 1), d.rp ++ rpK d.op (k + 1)⟩ := ⟨_, _, _, _, _, _, _, _, hX7⟩
          have hol7 := hS7.openLen
          dsimp only at hol7
          rw [opK_len, hix1.out, hN.out, show j + 1 + (N - (k + 1)) = L by omega] at hol7
          have hRU : Upd F w wx := (R.out.U.trans (hu6.out.mono (T := F') (fun y _ e => by subst e; exact hFA)) (fun y hy e => (R.out.hF y e).resolve_right (by omega))).trans (hU7.mono (T := F') (fun y _ e => by subst e; exact hFA)) (fun y hy e => (R.out.hF y e).resolve_right (by omega))
          have hm : openLen wx g - (intOf (.int .i64 ((j : Int) + 1))).toNat < openLen wr g - (intOf (.int .i64 (j : Int))).toNat := by
            rw [hol7, hol.out]
            simp [intOf]
            omega
          have hend : TickRel w wx F g d (k + 1) (j + 1) F' := ⟨hS7, hix1.out, R.out.hF, hRU⟩
          replace hm := Lib.hid hm
          replace hend := Lib.hid hend
          clear hX7 hU7 hS7 hol7 hRU X7 hu7
          go_wp2_with (rw [hcells6])
          try rw [hwx]
          exact ⟨⟨k + 1, j + 1, F', by omega, rfl, hend.out⟩, hm.out⟩
    · have hk' : k = N := by omega
      subst hk'
      have hd : decide ((j : Int) < (L : Int)) = false := decide_eq_false (by omega)
      have e1 : opK d.op k = (d.op.filter keepO).map tickO := by unfold opK; rw [List.take_of_length_le (by rw [hN.out]; omega), List.drop_eq_nil_of_le (by rw [hN.out]; omega), List.append_nil]
      have e2 : rpK d.op k = (d.op.filter fun x => !keepO x).map goneO := by unfold rpK; rw [List.take_of_length_le (by rw [hN.out]; omega)]
      have hX := R.X
      rw [e1, e2] at hX
      have hF := R.hF
      have hU := R.U
      replace hX := Lib.hid hX
      clear R X e1 e2 hlk hol
      go_wp2_with fail
      (try simp only [Exit.inBlock, Exit.then])
      refine bodyPost_end (results_none rfl _ _ _) rfl ?_
      exact ⟨rfl, hU, F', hX.out, hF⟩
end Go.Proofs.Ytgdhiihfcngjbaa
