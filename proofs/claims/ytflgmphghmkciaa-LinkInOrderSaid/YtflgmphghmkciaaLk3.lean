/- The link: acked, Tick. -/
import Derived.Test.YtflgmphghmkciaaLk2
import Derived.Deep.CutRange
set_option linter.unusedSimpArgs false
set_option linter.unusedVariables false
namespace Go.Proofs.Ytflgmphghmkciaa
open Go.RowKit
set_option maxRecDepth 100000

def ackedD (d : LkD) (n : Nat) : LkD := if n < d.first then d else { d with l := d.l.drop (n + 1 - d.first), first := n + 1 }
theorem u64_lt {n : Nat} (h : n < 18446744073709551616) : IntKind.u64.wrap (n : Int) = (n : Int) := by
  simp [IntKind.wrap, IntKind.bits, IntKind.signed]; omega
/-- The messages without their first k, the number behind. -/
theorem LinkX.cutM {col : Nat → Nat} {k : Nat} {w : World} {g : Nat} {own other : Nat} {l : List (List UInt8 × Bool)} {first came : Nat} {heard : Bool} {ticks : Nat} {A : Option Addr} {c : Nat} {xs : List Value} {q : Nat} (h : LinkX col k w g ⟨own, other, l, first, came, heard, ticks⟩ A c xs) (hc : Cx w col) (hq : q ≤ l.length) {A' : Option Addr} (hA : A' = if c = q then A else A.map (·.add (q * 2))) {f' : Nat} :
    (∃ xs', LinkX col k ((w.setCell ⟨g, 2, none⟩ (.slice A' (l.length - q) (c - q))).setCell ⟨g, 3, none⟩ (.int .u64 (f' : Int))) g ⟨own, other, l.drop q, f', came, heard, ticks⟩ A' (c - q) xs') ∧ Stp col k w col ((w.setCell ⟨g, 2, none⟩ (.slice A' (l.length - q) (c - q))).setCell ⟨g, 3, none⟩ (.int .u64 (f' : Int))) := by
  have hu : Upd (fun y => y = g) w ((w.setCell ⟨g, 2, none⟩ (.slice A' (l.length - q) (c - q))).setCell ⟨g, 3, none⟩ (.int .u64 (f' : Int))) := ((Upd.refl (fun y => y = g) w).setCell (p := ⟨g, 2, none⟩) (fun _ => rfl) _).setCell (p := ⟨g, 3, none⟩) (fun _ => rfl) _
  have hs : Stp col k w col ((w.setCell ⟨g, 2, none⟩ (.slice A' (l.length - q) (c - q))).setCell ⟨g, 3, none⟩ (.int .u64 (f' : Int))) := ⟨fun _ _ => rfl, hu.mono (fun y _ e => by rw [e]; exact h.cg), fun y hy => hc y (Nat.le_trans hu.size hy), fun _ => .inr (.inl rfl)⟩
  have hbA : ∀ y, bOf A' = some y → bOf A = some y := fun y hy => by
    rw [hA] at hy
    split at hy
    · exact hy
    · cases A with
      | none => cases hy
      | some a => simpa [bOf, block_of_add] using hy
  refine ⟨⟨xs.drop (q * 2), ?_, ?_, fun j m hj => ?_, h.cg, fun y hy => h.cA y (hbA y hy), h.k0⟩, hs⟩
  · have := (h.blk.set_ 2 (.slice A' (l.length - q) (c - q))).set_ 3 (.int .u64 (f' : Int))
    unfold LkD.cells at this ⊢
    simpa using this
  · have := (h.ho.cut (k := q) hq).upd hu (fun y hy e => h.neA y (hbA y (by rw [hA]; exact hy)) e)
    rw [← hA] at this
    simpa using this
  · dsimp only at hj
    rw [List.getElem?_drop] at hj
    obtain ⟨B, cB, h1, h2, h3⟩ := h.hx _ m hj
    exact ⟨B, cB, by rw [List.getElem?_drop, ← h1]; congr 1; omega, by rw [List.getElem?_drop, ← h2]; congr 1; omega, h3.keep hs h.k0⟩
set_option maxHeartbeats 1600000 in
theorem lk_acked {col : Nat → Nat} {k : Nat} {w : World} {g : Nat} {d : LkD} {n : Nat} (hc : Cx w col) (h : LinkC col k w g d) (hd : LkOk d) (hn : n < 1000000) (hf : n + 1 ≤ d.first + d.l.length) : Calls Try.prog 18 #[lnk g, .int .u64 (n : Int)] w (Lnk col k w g (ackedD d n) nil_) := by
  obtain ⟨A, c, xs, h⟩ := h
  have h2 := h.c2
  have h3 := h.c3
  have f2 := h.blk.frozen 2
  have f3 := h.blk.frozen 3
  obtain ⟨own, other, l, first, came, heard, ticks⟩ := d
  have hl8 := hd.l
  have hfl := hd.first
  have hcap := h.ho.le_cap
  have hcm := h.ho.cap_le
  dsimp only at h2 h3 hl8 hfl hf hcap
  unfold lnk ackedD
  dsimp only
  go_enter Try.func18, Try.ntmps18
  by_cases hlt : n < first
  · rw [if_pos hlt]
    have dl : decide ((n : Int) < (first : Int)) = true := decide_eq_true (by omega)
    replace h := Lib.hid h
    go_wp2_with fail
    (try simp only [Exit.inBlock, Exit.then])
    refine bodyPost_end (results_none rfl _ _ _) rfl ?_
    exact ⟨rfl, col, Stp.refl hc, A, c, xs, h.out⟩
  · rw [if_neg hlt]
    have dl : decide ((n : Int) < (first : Int)) = false := decide_eq_false (by omega)
    obtain ⟨q, hq⟩ : ∃ q, n + 1 - first = q := ⟨_, rfl⟩
    have hq1 : q ≤ l.length := by omega
    have hq0 : 1 ≤ q := by omega
    obtain ⟨gA, o, rfl, -, -⟩ := h.ho.cells (by show 0 < l.length; omega)
    have hXa : c = q → ∀ m, LinkC col k (((w.drewN m).setCell ⟨g, 2, none⟩ (.slice (some ⟨gA, o, none⟩) (l.length - q) 0)).setCell ⟨g, 3, none⟩ (.int .u64 ((n : Int) + 1))) g ⟨own, other, l.drop q, n + 1, came, heard, ticks⟩ ∧ Stp col k w col (((w.drewN m).setCell ⟨g, 2, none⟩ (.slice (some ⟨gA, o, none⟩) (l.length - q) 0)).setCell ⟨g, 3, none⟩ (.int .u64 ((n : Int) + 1))) := fun e m => by
      have hb := below_drewN (Below.refl w.heap.size w) m
      obtain ⟨⟨xs', hX⟩, hS⟩ := (h.below hc hb).cutM (f' := n + 1) (hc.below hb) hq1 (A' := some ⟨gA, o, none⟩) (by rw [if_pos e])
      rw [show c - q = 0 from by omega, Int.natCast_add] at hX hS
      exact ⟨⟨_, _, xs', hX⟩, (Stp.below hc hb).trans hS⟩
    have hXb : ¬ c = q → ∀ m, LinkC col k (((w.drewN m).setCell ⟨g, 2, none⟩ (.slice (some ⟨gA, o + q * 2, none⟩) (l.length - q) (c - q))).setCell ⟨g, 3, none⟩ (.int .u64 ((n : Int) + 1))) g ⟨own, other, l.drop q, n + 1, came, heard, ticks⟩ ∧ Stp col k w col (((w.drewN m).setCell ⟨g, 2, none⟩ (.slice (some ⟨gA, o + q * 2, none⟩) (l.length - q) (c - q))).setCell ⟨g, 3, none⟩ (.int .u64 ((n : Int) + 1))) := fun e m => by
      have hb := below_drewN (Below.refl w.heap.size w) m
      obtain ⟨⟨xs', hX⟩, hS⟩ := (h.below hc hb).cutM (f' := n + 1) (hc.below hb) hq1 (A' := some ⟨gA, o + q * 2, none⟩) (by rw [if_neg e]; simp [add_off])
      rw [Int.natCast_add] at hX hS
      exact ⟨⟨_, _, xs', hX⟩, (Stp.below hc hb).trans hS⟩
    obtain ⟨N, hN⟩ : ∃ N, l.length = N := ⟨_, rfl⟩
    have e1 : IntKind.u64.wrap ((n : Int) - (first : Int)) = ((n - first : Nat) : Int) := by rw [← u64_lt (by omega : n - first < 18446744073709551616)]; congr 1; omega
    have e2 : IntKind.u64.wrap (((n - first : Nat) : Int) + 1) = (q : Int) := by rw [← u64_lt (by omega : q < 18446744073709551616)]; congr 1; omega
    have e3 : IntKind.u64.wrap (N : Int) = (N : Int) := u64_lt (by omega)
    have e4 : (if (N : Int) < (q : Int) then (N : Int) else (q : Int)) = (q : Int) := by rw [if_neg (by omega)]
    have e5 : IntKind.u64.wrap ((first : Int) + (q : Int)) = ((n + 1 : Nat) : Int) := by rw [← u64_lt (by omega : n + 1 < 18446744073709551616)]; congr 1; omega
    rw [hq]
    rw [hN] at h2 hXa hXb hq1 hcap
    have hqN : (q : Int) ≤ (N : Int) := by omega
    have hqc : (q : Int) ≤ (c : Int) := by omega
    have hqc' : q ≤ c := by omega
    replace hXa := Lib.hid hXa
    replace hXb := Lib.hid hXb
    replace hq := Lib.hid hq
    replace hN := Lib.hid hN
    replace hd := Lib.hid hd
    clear h hf hq0 hfl hn
    have hlt' : ¬ (n : Int) < (first : Int) := by omega
    go_wp2_with (go_quiet (fail))
    all_goals
     (try simp only [Exit.inBlock, Exit.then])
     refine bodyPost_end (results_none rfl _ _ _) rfl ?_
     first
     | exact ⟨rfl, col, (hXa.out (by assumption) _).2, (hXa.out (by assumption) _).1⟩
     | exact ⟨rfl, col, (hXb.out (by assumption) _).2, (hXb.out (by assumption) _).1⟩
set_option maxHeartbeats 1600000 in
theorem lk_tick {col : Nat → Nat} {k : Nat} {w : World} {g : Nat} {d : LkD} (hc : Cx w col) (h : LinkC col k w g d) (hd : LkOk d) : Calls Try.prog 9 #[lnk g] w (Lnk col k w g (if d.ticks = 2 then anewD { d with ticks := 0 } else { d with ticks := d.ticks + 1 }) nil_) := by
  obtain ⟨A, c, xs, h⟩ := h
  have h6 := h.c6
  have f6 := h.blk.frozen 6
  obtain ⟨own, other, l, first, came, heard, ticks⟩ := d
  have ht := hd.ticks
  have hl8 := hd.l
  dsimp only at h6 ht hl8
  unfold lnk
  dsimp only
  go_enter Try.func9, Try.ntmps9
  have e1 : IntKind.i64.wrap ((ticks : Int) + 1) = (ticks : Int) + 1 := by rw [IntKind.wrap_i64]; omega
  by_cases h2 : ticks = 2
  · rw [if_pos h2]
    subst h2
    obtain ⟨hX, hS⟩ := h.put (d' := ⟨own, other, l, first, came, heard, 0⟩) (i := 6) (v := .int .i64 (0 : Nat)) hc rfl rfl
    obtain ⟨w2, hw2⟩ : ∃ w2, w.setCell ⟨g, 6, none⟩ (.int .i64 (0 : Nat)) = w2 := ⟨_, rfl⟩
    rw [hw2] at hX hS
    have k6 : w2.cell? ⟨g, 6, none⟩ = some (.int .i64 0) := hX.c6
    have ha := lk_anew (k := k) (g := g) (d := ⟨own, other, l, first, came, heard, 0⟩) hS.cx ⟨A, c, xs, hX⟩ hl8
    replace hS := Lib.hid hS
    replace ha := Lib.hid ha
    clear hX h
    go_upto_region 1 with (fail)
    have e0 : ((0 : Nat) : Int) = 0 := rfl
    rw [e0] at hw2
    try rw [hw2]
    go_wp2_with fail
    refine ha.out.mono ?_
    rintro e w3 ⟨rfl, col', hS', hL⟩
    unfold nil_
    go_wp2_with fail
    (try simp only [Exit.inBlock, Exit.then])
    refine bodyPost_end (results_none rfl _ _ _) rfl ?_
    exact ⟨rfl, col', hS.out.trans hS', hL⟩
  · rw [if_neg h2]
    have e2 : ((ticks : Int) + 1).tmod 3 = (ticks : Int) + 1 := by rcases (by omega : ticks = 0 ∨ ticks = 1) with rfl | rfl <;> rfl
    have e3 : ((ticks : Int) + 1 == 0) = false := by rw [beq_eq_false_iff_ne]; omega
    obtain ⟨hX, hS⟩ := h.put (d' := ⟨own, other, l, first, came, heard, ticks + 1⟩) (i := 6) (v := .int .i64 ((ticks : Int) + 1)) hc rfl rfl
    replace hS := Lib.hid hS
    replace hX := Lib.hid hX
    clear h
    go_wp2_with fail
    (try simp only [Exit.inBlock, Exit.then])
    refine bodyPost_end (results_none rfl _ _ _) rfl ?_
    exact ⟨rfl, col, hS.out, A, c, xs, hX.out⟩
end Go.Proofs.Ytflgmphghmkciaa
