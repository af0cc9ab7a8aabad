/- Both links and the four rows of LinkInOrder, in memory. -/
import Derived.Test.YtflgmphghmkciaaLk12
set_option linter.unusedSimpArgs false
set_option linter.unusedVariables false
namespace Go.Proofs.Ytflgmphghmkciaa
open Go.RowKit
set_option maxRecDepth 100000

structure Mem (w0 w : World) (col : Nat → Nat) (ga gb : Nat) (a b : LkD) (T K : List (List UInt8)) (At : Option Addr) (ct : Nat) (Ak : Option Addr) (ck : Nat) (Sn Gt : List (List UInt8)) (As : Option Addr) (cs : Nat) (Ag : Option Addr) (cg : Nat) : Prop where
  cx : Cx w col
  bas : Bas w0.heap.size w0 w col
  n7 : ∀ y, col y ≠ 7
  la : LinkC col 1 w ga a
  lb : LinkC col 2 w gb b
  pt : PksC col 3 w At ct T
  pk : PksC col 4 w Ak ck K
  ss : StrC col 5 w As cs Sn
  sg : StrC col 6 w Ag cg Gt
section
variable {w0 w w' : World} {col col' : Nat → Nat} {ga gb : Nat} {a b a' b' : LkD} {T K T' K' : List (List UInt8)} {At At' : Option Addr} {ct ct' : Nat} {Ak Ak' : Option Addr} {ck ck' : Nat} {Sn Gt Sn' Gt' : List (List UInt8)} {As As' : Option Addr} {cs cs' : Nat} {Ag Ag' : Option Addr} {cg cg' : Nat}
theorem Mem.below (h : Mem w0 w col ga gb a b T K At ct Ak ck Sn Gt As cs Ag cg) (hb : Below w.heap.size w w') : Mem w0 w' col ga gb a b T K At ct Ak ck Sn Gt As cs Ag cg :=
  ⟨h.cx.below hb, h.bas.below hb, h.n7, h.la.below h.cx hb, h.lb.below h.cx hb, h.pt.below h.cx hb, h.pk.below h.cx hb, h.ss.below h.cx hb, h.sg.below h.cx hb⟩
theorem Mem.goA (h : Mem w0 w col ga gb a b T K At ct Ak ck Sn Gt As cs Ag cg) (hs : Stp col 1 w col' w') (hl : LinkC col' 1 w' ga a') : Mem w0 w' col' ga gb a' b T K At ct Ak ck Sn Gt As cs Ag cg :=
  ⟨hs.cx, h.bas.go hs (by decide), hs.no7 (by decide) h.n7, hl, h.lb.keep hs (by decide) (by decide), h.pt.keep hs (by decide) (by decide), h.pk.keep hs (by decide) (by decide), h.ss.keep hs (by decide) (by decide), h.sg.keep hs (by decide) (by decide)⟩
theorem Mem.goB (h : Mem w0 w col ga gb a b T K At ct Ak ck Sn Gt As cs Ag cg) (hs : Stp col 2 w col' w') (hl : LinkC col' 2 w' gb b') : Mem w0 w' col' ga gb a b' T K At ct Ak ck Sn Gt As cs Ag cg :=
  ⟨hs.cx, h.bas.go hs (by decide), hs.no7 (by decide) h.n7, h.la.keep hs (by decide) (by decide), hl, h.pt.keep hs (by decide) (by decide), h.pk.keep hs (by decide) (by decide), h.ss.keep hs (by decide) (by decide), h.sg.keep hs (by decide) (by decide)⟩
theorem Mem.goT (h : Mem w0 w col ga gb a b T K At ct Ak ck Sn Gt As cs Ag cg) (hs : Stp col 3 w col' w') (hl : PksC col' 3 w' At' ct' T') : Mem w0 w' col' ga gb a b T' K At' ct' Ak ck Sn Gt As cs Ag cg :=
  ⟨hs.cx, h.bas.go hs (by decide), hs.no7 (by decide) h.n7, h.la.keep hs (by decide) (by decide), h.lb.keep hs (by decide) (by decide), hl, h.pk.keep hs (by decide) (by decide), h.ss.keep hs (by decide) (by decide), h.sg.keep hs (by decide) (by decide)⟩
theorem Mem.goK (h : Mem w0 w col ga gb a b T K At ct Ak ck Sn Gt As cs Ag cg) (hs : Stp col 4 w col' w') (hl : PksC col' 4 w' Ak' ck' K') : Mem w0 w' col' ga gb a b T K' At ct Ak' ck' Sn Gt As cs Ag cg :=
  ⟨hs.cx, h.bas.go hs (by decide), hs.no7 (by decide) h.n7, h.la.keep hs (by decide) (by decide), h.lb.keep hs (by decide) (by decide), h.pt.keep hs (by decide) (by decide), hl, h.ss.keep hs (by decide) (by decide), h.sg.keep hs (by decide) (by decide)⟩
theorem Mem.goS (h : Mem w0 w col ga gb a b T K At ct Ak ck Sn Gt As cs Ag cg) (hs : Stp col 5 w col' w') (hl : StrC col' 5 w' As' cs' Sn') : Mem w0 w' col' ga gb a b T K At ct Ak ck Sn' Gt As' cs' Ag cg :=
  ⟨hs.cx, h.bas.go hs (by decide), hs.no7 (by decide) h.n7, h.la.keep hs (by decide) (by decide), h.lb.keep hs (by decide) (by decide), h.pt.keep hs (by decide) (by decide), h.pk.keep hs (by decide) (by decide), hl, h.sg.keep hs (by decide) (by decide)⟩
theorem Mem.goG (h : Mem w0 w col ga gb a b T K At ct Ak ck Sn Gt As cs Ag cg) (hs : Stp col 6 w col' w') (hl : StrC col' 6 w' Ag' cg' Gt') : Mem w0 w' col' ga gb a b T K At ct Ak ck Sn Gt' As cs Ag' cg' :=
  ⟨hs.cx, h.bas.go hs (by decide), hs.no7 (by decide) h.n7, h.la.keep hs (by decide) (by decide), h.lb.keep hs (by decide) (by decide), h.pt.keep hs (by decide) (by decide), h.pk.keep hs (by decide) (by decide), h.ss.keep hs (by decide) (by decide), hl⟩
end

/-- Lengths. -/
structure Lens (i : Nat) (sent : List (List UInt8)) (b : LkD) (tos back : List Pk) (nt nk ns ng : Nat) : Prop where
  t : tos.length = nt
  k : back.length = nk
  s : sent.length = ns
  g : b.came = ng
  tb : nt ≤ 9 * i
  kb : nk ≤ 9 * i
  sb : ns ≤ i
/-- What holds ahead of each act of the script. -/
def RelA (w0 : World) (ga gb i : Nat) (t5 t6 t7 t8 : Value) (w : World) : Prop :=
  ∃ (col : Nat → Nat) (a b : LkD) (tos back : List Pk) (sent : List (List UInt8)) (At : Option Addr) (nt ct : Nat) (Ak : Option Addr) (nk ck : Nat) (As : Option Addr) (ns cs : Nat) (Ag : Option Addr) (ng cg : Nat),
    t5 = .slice At nt ct ∧ t6 = .slice Ak nk ck ∧ t7 = .slice As ns cs ∧ t8 = .slice Ag ng cg ∧
    Mem w0 w col ga gb a b (tos.map Pk.enc) (back.map Pk.enc) At ct Ak ck sent (sent.take b.came) As cs Ag cg ∧ Inv sent a b tos back ∧ Lens i sent b tos back nt nk ns ng
theorem take_len {sent : List (List UInt8)} {a b : LkD} {tos back : List Pk} (h : Inv sent a b tos back) : (sent.take b.came).length = b.came := by
  rw [List.length_take]; have := h.bc; omega
theorem outsP_len (d : LkD) (h : d.l.length ≤ 8) : (outsP d).length ≤ 8 := by
  have h1 := outFrom_len d.own d.other d.came d.l d.first
  rw [← outFromP_enc, List.length_map] at h1
  unfold outsP
  split
  · simp
  · unfold outP; omega
/-- The act's cells. -/
theorem act_cells {w : World} {B n k0 : Nat} {ad : Addr} {xs : List Value} {a0 a1 a2 a3 : Value} (h : Reads w B 4 (some ad) n xs) (hk : k0 < n) (hxs : (xs.drop (k0 * 4)).take 4 = [a0, a1, a2, a3]) :
    w.cell? (ad.add (k0 * 4)) = some a0 ∧ w.cell? ⟨(ad.add (k0 * 4)).block, (ad.add (k0 * 4)).off + 1, none⟩ = some a1 ∧ w.cell? ⟨(ad.add (k0 * 4)).block, (ad.add (k0 * 4)).off + 2, none⟩ = some a2 ∧ w.cell? ⟨(ad.add (k0 * 4)).block, (ad.add (k0 * 4)).off + 3, none⟩ = some a3 := by
  obtain ⟨ad', e, hb, hc⟩ := h.2 (by omega)
  cases e
  have hg : ∀ i u, i < 4 → [a0, a1, a2, a3][i]? = some u → xs[k0 * 4 + i]? = some u := by
    intro i u hi hu
    rw [← hxs, List.getElem?_take, if_pos hi, List.getElem?_drop] at hu
    exact hu
  have g0 := hc (k0 * 4 + 0) a0 (hg 0 a0 (by omega) rfl)
  have g1 := hc (k0 * 4 + (0 + 1)) a1 (hg 1 a1 (by omega) rfl)
  have g2 := hc (k0 * 4 + (1 + 1)) a2 (hg 2 a2 (by omega) rfl)
  have g3 := hc (k0 * 4 + (2 + 1)) a3 (hg 3 a3 (by omega) rfl)
  rw [add_pos] at g1 g2 g3
  exact ⟨g0, g1, g2, g3⟩
/-- A row of packets without one, as an append onto its first ones leaves it. -/
theorem PksX.cutd {col : Nat → Nat} {k : Nat} {w w' : World} {A A' : Option Addr} {c c' j : Nat} {L : List (List UInt8)} {xs : List Value} (h : PksX col k w A c L xs) (hk : k ≠ 0) (hc : Cx w col) (hj : j < L.length) (ho : Own w' 29 1 A' (L.length - 1) c' (xs.take j ++ xs.drop (j + 1))) (hg : w.grownBy w' (bOf A)) (hat : bOf A' = bOf A ∨ bOf A' = some w.heap.size) :
    ∃ col', Stp col k w col' w' ∧ PksC col' k w' A' c' (L.eraseIdx j) := by
  have hlx := h.ho.len
  have hle : (L.eraseIdx j).length = L.length - 1 := by rw [List.length_eraseIdx, if_pos hj]
  obtain ⟨col', hs, hA'⟩ := Stp.grown hc hg h.cA (fun y hy => ho.lt hy) hat
  refine ⟨col', hs, _, by rw [hle]; exact ho, fun i b hi => ?_, hA'⟩
  rw [List.getElem?_eraseIdx] at hi
  split at hi
  · rename_i hij
    obtain ⟨B, cB, h1, h2, h3⟩ := h.hx i b hi
    refine ⟨B, cB, ?_, h2, h3.keep hs hk⟩
    rw [List.getElem?_append_left (by rw [List.length_take]; omega), List.getElem?_take, if_pos hij]
    exact h1
  · rename_i hij
    obtain ⟨B, cB, h1, h2, h3⟩ := h.hx (i + 1) b hi
    refine ⟨B, cB, ?_, h2, h3.keep hs hk⟩
    rw [List.getElem?_append_right (by rw [List.length_take]; omega), List.length_take, Nat.min_eq_left (by omega), List.getElem?_drop, ← h1]
    congr 1
    omega
theorem PksX.below_ {col : Nat → Nat} {k : Nat} {w w' : World} {A : Option Addr} {c : Nat} {L : List (List UInt8)} {xs : List Value} (h : PksX col k w A c L xs) (hc : Cx w col) (hb : Below w.heap.size w w') : PksX col k w' A c L xs := h.keep (Stp.below (k := k + 1) hc hb) (by omega) (by omega)
theorem map_erase (l : List Pk) (j : Nat) : (l.eraseIdx j).map Pk.enc = (l.map Pk.enc).eraseIdx j := by
  induction l generalizing j with
  | nil => rfl
  | cons x r ih => cases j with
    | zero => rfl
    | succ j => simp [ih]
end Go.Proofs.Ytflgmphghmkciaa
