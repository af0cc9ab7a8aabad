/- The link: New, Open, Lives, anew, acked, Tick. -/
import Derived.Test.YtflgmphghmkciaaLk1
import Derived.Test.YtflgmphghmkciaaRegion
import Derived.BigQuiet
set_option linter.unusedSimpArgs false
set_option linter.unusedVariables false
namespace Go.Proofs.Ytflgmphghmkciaa
open Go.RowKit
set_option maxRecDepth 100000

def lnk (g : Nat) : Value := .pointer (some ⟨g, 0, none⟩)
section
variable {col : Nat → Nat} {k : Nat} {w w' : World} {g : Nat} {d : LkD} {A : Option Addr} {c : Nat} {xs : List Value}
theorem LinkX.c0 (h : LinkX col k w g d A c xs) : w.cell? ⟨g, 0, none⟩ = some (.int .u64 (d.own : Int)) := h.blk.cell 0
theorem LinkX.c1 (h : LinkX col k w g d A c xs) : w.cell? ⟨g, 1, none⟩ = some (.int .u64 (d.other : Int)) := h.blk.cell 1
theorem LinkX.c2 (h : LinkX col k w g d A c xs) : w.cell? ⟨g, 2, none⟩ = some (.slice A d.l.length c) := h.blk.cell 2
theorem LinkX.c3 (h : LinkX col k w g d A c xs) : w.cell? ⟨g, 3, none⟩ = some (.int .u64 (d.first : Int)) := h.blk.cell 3
theorem LinkX.c4 (h : LinkX col k w g d A c xs) : w.cell? ⟨g, 4, none⟩ = some (.int .u64 (d.came : Int)) := h.blk.cell 4
theorem LinkX.c5 (h : LinkX col k w g d A c xs) : w.cell? ⟨g, 5, none⟩ = some (.bool d.heard) := h.blk.cell 5
theorem LinkX.c6 (h : LinkX col k w g d A c xs) : w.cell? ⟨g, 6, none⟩ = some (.int .i64 (d.ticks : Int)) := h.blk.cell 6
/-- One cell of the block set. -/
theorem LinkX.put {d' : LkD} {i : Nat} {v : Value} (h : LinkX col k w g d A c xs) (hc : Cx w col) (hl : d'.l = d.l) (he : (d.cells A c).setIfInBounds i v = d'.cells A c) : LinkX col k (w.setCell ⟨g, i, none⟩ v) g d' A c xs ∧ Stp col k w col (w.setCell ⟨g, i, none⟩ v) :=
  h.turn ((Upd.refl (fun y => y = g) w).setCell (p := ⟨g, i, none⟩) (fun _ => rfl) _) (fun y hy => hc y (by have := hy; simp [World.setCell] at this; exact this)) (by rw [← he]; exact h.blk.set_ i v) hl
/-- A message's mark set. -/
theorem LinkX.mark {gA o K : Nat} {m : List UInt8 × Bool} {f : Bool} (h : LinkX col k w g d (some ⟨gA, o, none⟩) c xs) (hc : Cx w col) (hm : d.l[K]? = some m) :
    (∃ xs', LinkX col k (w.setCell ⟨gA, o + K * 2 + 1, none⟩ (.bool f)) g { d with l := d.l.set K (m.1, f) } (some ⟨gA, o, none⟩) c xs') ∧ Stp col k w col (w.setCell ⟨gA, o + K * 2 + 1, none⟩ (.bool f)) := by
  have hK := lt_at hm
  have hs : Stp col k w col (w.setCell ⟨gA, o + K * 2 + 1, none⟩ (.bool f)) := Stp.cell hc (h.cA gA rfl) _
  have hlx := h.ho.len
  refine ⟨⟨xs.set (K * 2 + 1) (.bool f), ?_⟩, hs⟩
  have hne : g ≠ gA := fun e => h.neA gA rfl e.symm
  refine ⟨?_, ?_, fun j q hj => ?_, h.cg, h.cA, h.k0⟩
  · have := h.blk.far (p := ⟨gA, o + K * 2 + 1, none⟩) hne (.bool f)
    unfold LkD.cells at this ⊢
    simpa using this
  · rw [List.length_set]
    have := h.ho.set_ (K * 2 + 1) (by omega) (.bool f)
    rwa [← Nat.add_assoc] at this
  · dsimp only at hj
    rw [List.getElem?_set] at hj
    by_cases hjk : K = j
    · subst hjk
      rw [if_pos rfl, if_pos hK] at hj
      cases hj
      obtain ⟨B, cB, h1, h2, h3⟩ := h.hx K m hm
      refine ⟨B, cB, by rw [List.getElem?_set_ne (by omega)]; exact h1, by rw [List.getElem?_set_self (by omega)], h3.keep hs h.k0⟩
    · rw [if_neg hjk] at hj
      obtain ⟨B, cB, h1, h2, h3⟩ := h.hx j q hj
      exact ⟨B, cB, by rw [List.getElem?_set_ne (by omega)]; exact h1, by rw [List.getElem?_set_ne (by omega)]; exact h2, h3.keep hs h.k0⟩
/-- A message's two cells. -/
theorem LinkX.msg {K : Nat} {m : List UInt8 × Bool} (h : LinkX col k w g d A c xs) (hm : d.l[K]? = some m) : ∃ gA o B cB, A = some ⟨gA, o, none⟩ ∧ w.cell? ⟨gA, o + K * 2, none⟩ = some (.slice B m.1.length cB) ∧ w.cell? ⟨gA, o + K * 2 + 1, none⟩ = some (.bool m.2) ∧ w.frozen? ⟨gA, o + K * 2 + 1, none⟩ = false ∧ FrB col w B m.1 := by
  have hK := lt_at hm
  obtain ⟨B, cB, h1, h2, h3⟩ := h.hx K m hm
  obtain ⟨gA, o, rfl, -, hc⟩ := h.ho.cells (by omega)
  have e1 := hc (K * 2) (by omega)
  have e2 := hc (K * 2 + 1) (by omega)
  rw [← Nat.add_assoc] at e2
  exact ⟨gA, o, B, cB, rfl, by rw [e1.1, h1], by rw [e2.1, h2], e2.2, h3⟩
end

theorem lk_new {col : Nat → Nat} {w : World} {k life : Nat} (hc : Cx w col) (hk : k ≠ 0) (hl : life < 1000000) : Calls Try.prog 5 #[.int .u64 (life : Int)] w (fun e w' => ∃ g col', e = .returned (lnk g) ∧ Stp col k w col' w' ∧ LinkC col' k w' g ⟨life, 0, [], 1, 0, false, 0⟩) := by
  go_enter Try.func5, Try.ntmps5
  go_wp2_with fail
  go_ret
  have hx := Blk.new w 44 #[.int .u64 (life : Int), .int .u64 0, .slice none 0 0, .int .u64 1, .int .u64 0, .bool false, .int .i64 0]
  obtain ⟨col', h1, h2⟩ := link_new hc ((Below.refl _ _).alloc (Nat.le_refl _) _) (Nat.le_refl _) hx hk
  exact ⟨_, col', rfl, h1, h2⟩
theorem lk_open {col : Nat → Nat} {k : Nat} {w : World} {g : Nat} {d : LkD} (h : LinkC col k w g d) : Calls Try.prog 11 #[lnk g] w (Says w (.int .i64 (d.l.length : Int))) := by
  obtain ⟨A, c, xs, h⟩ := h
  have h2 := h.c2
  unfold lnk
  go_enter Try.func11, Try.ntmps11
  go_wp2_with fail
  go_ret
  exact ⟨rfl, Below.refl _ _⟩
theorem lk_lives {col : Nat → Nat} {k : Nat} {w : World} {g : Nat} {d : LkD} (h : LinkC col k w g d) : Calls Try.prog 12 #[lnk g] w (Says w (.tuple #[.int .u64 (d.own : Int), .int .u64 (d.other : Int)])) := by
  obtain ⟨A, c, xs, h⟩ := h
  have h0 := h.c0
  have h1 := h.c1
  unfold lnk
  go_enter Try.func12, Try.ntmps12
  go_wp2_with (go_quiet (fail))
  go_ret2
  exact ⟨rfl, by repeat (first | exact Below.refl _ _ | exact (Below.refl _ _).drew | exact below_drewN (Below.refl _ _) _)⟩

def setNow (l : List (List UInt8 × Bool)) (K : Nat) (f : Bool) : List (List UInt8 × Bool) := (l.take K).map (fun m => (m.1, f)) ++ l.drop K
theorem setNow_len (l : List (List UInt8 × Bool)) (K : Nat) (f : Bool) : (setNow l K f).length = l.length := by
  unfold setNow
  rw [List.length_append, List.length_map, ← List.length_append, List.take_append_drop]
theorem setNow_at {l : List (List UInt8 × Bool)} {K j : Nat} (f : Bool) (hj : K ≤ j) : (setNow l K f)[j]? = l[j]? := by
  unfold setNow
  rcases Nat.lt_or_ge l.length K with h | h
  · rw [List.getElem?_eq_none (by rw [List.length_append, List.length_map, ← List.length_append, List.take_append_drop]; omega), List.getElem?_eq_none (by omega)]
  · rw [List.getElem?_append_right (by rw [List.length_map, List.length_take]; omega), List.length_map, List.length_take, List.getElem?_drop]
    congr 1
    omega
theorem setNow_succ {l : List (List UInt8 × Bool)} {K : Nat} {m : List UInt8 × Bool} (f : Bool) (hm : l[K]? = some m) : (setNow l K f).set K (m.1, f) = setNow l (K + 1) f := by
  have hK := lt_at hm
  have ht : ((l.take K).map (fun m => (m.1, f))).length = K := by rw [List.length_map, List.length_take]; omega
  unfold setNow
  rw [List.take_add_one, hm, List.map_append, List.set_append, if_neg (by omega), ht, Nat.sub_self, List.append_assoc]
  congr 1
  rw [List.drop_eq_getElem_cons hK, List.set_cons_zero]
  rfl
theorem setNow_all (l : List (List UInt8 × Bool)) (f : Bool) : setNow l l.length f = l.map (fun m => (m.1, f)) := by
  unfold setNow
  rw [List.take_length, List.drop_length, List.append_nil]
theorem setNow_zero (l : List (List UInt8 × Bool)) (f : Bool) : setNow l 0 f = l := by simp [setNow]

/-- What a call of the link leaves: the link in a new plain state, and what else was there. -/
def Lnk (col : Nat → Nat) (k : Nat) (w : World) (g : Nat) (d' : LkD) (v : Value) (e : Ending) (w' : World) : Prop := e = .returned v ∧ ∃ col', Stp col k w col' w' ∧ LinkC col' k w' g d'
def nil_ : Value := .tuple #[]
def anewD (d : LkD) : LkD := { d with l := d.l.map (fun m => (m.1, true)) }
set_option maxHeartbeats 1600000 in
theorem lk_anew {col : Nat → Nat} {k : Nat} {w : World} {g : Nat} {d : LkD} (hc : Cx w col) (h : LinkC col k w g d) (hd : d.l.length ≤ 8) : Calls Try.prog 17 #[lnk g] w (Lnk col k w g (anewD d) nil_) := by
  obtain ⟨A, c, xs, h⟩ := h
  have h2 := h.c2
  obtain ⟨own, other, l, first, came, heard, ticks⟩ := d
  dsimp only at h2 hd
  obtain ⟨N, hN⟩ : ∃ q, l.length = q := ⟨_, rfl⟩
  rw [hN] at h2 hd
  replace h := Lib.hid h
  unfold lnk
  go_enter Try.func17, Try.ntmps17
  go_wp2_with fail
  go_loopw [8] (fun z wr => ∃ K : Nat, K ≤ N ∧ z = .int .i64 (K : Int) ∧ (∃ xs', LinkX col k wr g ⟨own, other, setNow l K true, first, came, heard, ticks⟩ A c xs') ∧ Stp col k w col wr) (fun z _ => N - (intOf z).toNat)
  case atStart => exact ⟨0, Nat.zero_le _, rfl, ⟨xs, by rw [setNow_zero]; exact h.out⟩, Stp.refl hc⟩
  case round =>
    obtain ⟨K, hk, rfl, ⟨xr, X⟩, hS⟩ := hrel
    by_cases hlt : K < N
    · have hm : l[K]? = some (l[K]'(by omega)) := List.getElem?_eq_getElem _
      generalize l[K]'(by omega) = m at hm
      have hm' : (setNow l K true)[K]? = some m := by rw [setNow_at true (Nat.le_refl _)]; exact hm
      obtain ⟨gA, o, B, cB, rfl, m0, m1, mf, -⟩ := X.msg hm'
      obtain ⟨⟨xs2, X2⟩, hS2⟩ := X.mark (f := true) hS.cx hm'
      dsimp only at X2
      rw [setNow_succ true hm] at X2
      have hr2 := X.c2
      dsimp only at hr2
      rw [setNow_len, hN] at hr2
      have hX2 := Lib.hid X2
      have hS3 := Lib.hid (hS.trans hS2)
      have hdk : decide ((K : Int) < (N : Int)) = true := decide_eq_true (by omega)
      have hkw : IntKind.i64.wrap ((K : Int) + 1) = (K : Int) + 1 := by rw [IntKind.wrap_i64]; omega
      clear X X2 hS2 m0 hm'
      go_wp2_with fail
      go_roundw
      case rel => exact ⟨K + 1, by omega, by simp, ⟨xs2, hX2.out⟩, hS3.out⟩
      case measure => simp [intOf]; omega
    · have hk' : K = N := by omega
      have hdk : decide ((K : Int) < (N : Int)) = false := decide_eq_false (by omega)
      rw [hk', ← hN, setNow_all] at X
      replace X := Lib.hid X
      go_wp2_with fail
      (try simp only [Exit.inBlock, Exit.then])
      refine bodyPost_end (results_none rfl _ _ _) rfl ?_
      exact ⟨rfl, col, hS, A, c, xr, X.out⟩
end Go.Proofs.Ytflgmphghmkciaa
