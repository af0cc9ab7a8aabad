/- frame.Scan and the document's: the same plain function. -/
import Derived.Test.YtphbiglkkibnfaaTurned
namespace Go.Proofs.Ytphbiglkkibnfaa
open Go.RowKit

def scan (b : List UInt8) : Nat → Nat → List (List UInt8) × Nat
  | 0, at_ => ([], at_)
  | f + 1, at_ => if (opened (b.drop at_)).2.2 = 0 then ((opened (b.drop at_)).1 :: (scan b f (at_ + (opened (b.drop at_)).2.1)).1, (scan b f (at_ + (opened (b.drop at_)).2.1)).2) else ([], at_)

theorem opened_ok (b : List UInt8) (h : (opened b).2.2 = 0) : 8 ≤ (opened b).2.1 ∧ (opened b).2.1 ≤ b.length := by
  obtain ⟨o, ho⟩ : ∃ o, opened b = o := ⟨_, rfl⟩
  rw [ho] at h ⊢
  unfold opened at ho
  by_cases h1 : b.length < 8
  · rw [if_pos h1] at ho; subst ho; cases h
  rw [if_neg h1] at ho
  generalize readU (b.take 4) = n at ho
  by_cases h2 : 65536 < n
  · rw [if_pos h2] at ho; subst ho; cases h
  rw [if_neg h2] at ho
  by_cases h3 : b.length - 8 < n
  · rw [if_pos h3] at ho; subst ho; cases h
  rw [if_neg h3] at ho
  split at ho
  · subst ho; simp; omega
  · subst ho; cases h
theorem opened_nil : opened [] = ([], 0, 23) := rfl
theorem opened_e (b : List UInt8) : (opened b).2.2 ≤ 23 := by
  unfold opened
  split
  · decide
  split
  · decide
  split
  · decide
  split <;> simp

/-- A row of rows of bytes, each owned. -/
def RowsAt (w : World) (A : Option Addr) (c : Nat) (l : List (List UInt8)) : Prop :=
  ∃ xs, Own w 22 1 A l.length c xs ∧ ∀ (k : Nat) p, l[k]? = some p → ∃ A' c', xs[k]? = some (.slice A' p.length c') ∧ Own w 5 1 A' p.length c' (bys p)

theorem RowsAt.none_ {w : World} : RowsAt w none 0 [] := ⟨[], Own.none_, by simp⟩
theorem RowsAt.below {w w' : World} {A : Option Addr} {c : Nat} {l : List (List UInt8)} (h : RowsAt w A c l) (hb : Below w.heap.size w w') : RowsAt w' A c l := by
  obtain ⟨xs, h1, h2⟩ := h
  refine ⟨xs, h1.below hb (Nat.le_refl _), fun k p hp => ?_⟩
  obtain ⟨A', c', e, ho⟩ := h2 k p hp
  exact ⟨A', c', e, ho.below hb (Nat.le_refl _)⟩
theorem Own.ne_own {w : World} {t t' : TypeId} {s s' n n' c c' : Nat} {A A' : Option Addr} {xs xs' : List Value} (h : Own w t s A n c xs) (h' : Own w t' s' A' n' c' xs') (hne : t ≠ t') : ∀ g, bOf A = some g → bOf A' ≠ some g := by
  intro g hg
  rcases h.2 with ⟨rfl, _⟩ | ⟨g', cur, rfl, hb, _⟩
  · cases hg
  · have : g' = g := by simpa [bOf] using hg
    subst this
    exact h'.ne_blk hb hne.symm
theorem RowsAt.put {w w' : World} {A A1 A' : Option Addr} {c c1 c' : Nat} {l : List (List UInt8)} {p : List UInt8} {xs : List Value} (hx : Own w 22 1 A l.length c xs)
    (hr : ∀ (k : Nat) p, l[k]? = some p → ∃ A' c', xs[k]? = some (.slice A' p.length c') ∧ Own w 5 1 A' p.length c' (bys p)) (h1 : Own w 5 1 A1 p.length c1 (bys p)) (hg : w.grownBy w' (bOf A))
    (ho : Own w' 22 1 A' (l.length + 1) c' (xs ++ [.slice A1 p.length c1])) : RowsAt w' A' c' (l ++ [p]) := by
  have hxl := hx.1
  rw [Nat.mul_one] at hxl
  have hkeep : ∀ {A2 : Option Addr} {n c2 : Nat} {ys : List Value}, Own w 5 1 A2 n c2 ys → Own w' 5 1 A2 n c2 ys := by
    intro A2 n c2 ys h2
    refine h2.upd (S := fun k => some k = bOf A) ⟨hg.os, hg.tape, hg.output, hg.size, fun k hk hs => hg.block k hk hs⟩ fun g hg2 he => ?_
    exact h2.ne_own hx (by decide) g hg2 he.symm
  refine ⟨_, by rw [List.length_append]; exact ho, fun k q hq => ?_⟩
  by_cases hk : k < l.length
  · rw [List.getElem?_append_left hk] at hq
    obtain ⟨A2, c2, e, h2⟩ := hr k q hq
    exact ⟨A2, c2, by rw [List.getElem?_append_left (by omega)]; exact e, hkeep h2⟩
  · rw [List.getElem?_append_right (by omega)] at hq
    have hk0 : k = l.length := by
      have := (List.getElem?_eq_some_iff.1 hq).1
      simp at this; omega
    subst hk0
    simp at hq
    subst hq
    exact ⟨A1, c1, by rw [List.getElem?_append_right (by omega)]; simp [hxl], hkeep h1⟩

theorem info_bytes : (Try.prog.info? 22).map (fun i => (i.zero, i.size, i.bytes)) = some (some (.slice none 0 0), 1, 24) := by kernel_rfl

def ScanRes (w : World) (r : List (List UInt8) × Nat) (e : Ending) (w' : World) : Prop :=
  ∃ A' c', e = .returned (.tuple #[.slice A' r.1.length c', .int .i64 (r.2 : Nat)]) ∧ RowsAt w' A' c' r.1 ∧ Below w.heap.size w w'

def ScanRel (b : List UInt8) (R : List (List UInt8) × Nat) (w : World) (o i : Value) (wr : World) : Prop :=
  ∃ (at_ : Nat) (A4 : Option Addr) (c4 : Nat) (outs : List (List UInt8)) (f : Nat), at_ ≤ b.length ∧ b.length < at_ + f ∧ i = .int .i64 (at_ : Int) ∧ o = .slice A4 outs.length c4 ∧ RowsAt wr A4 c4 outs ∧ Below w.heap.size w wr ∧ outs ++ (scan b f at_).1 = R.1 ∧ (scan b f at_).2 = R.2 ∧ (∀ g, bOf A4 = some g → w.heap.size ≤ g) ∧ outs.length ≤ at_

set_option maxHeartbeats 800000 in
theorem scan_some {a : Addr} {c : Nat} {b : List UInt8} {w : World} (h : Reads w w.heap.size 1 (some a) b.length (bys b)) (hc : b.length ≤ c) (hl : b.length ≤ 1000000000) :
    Calls Try.prog 17 #[.slice (some a) b.length c] w (ScanRes w (scan b (b.length + 1) 0)) := by
  obtain ⟨R, hR⟩ : ∃ R, scan b (b.length + 1) 0 = R := ⟨_, rfl⟩
  rw [hR]
  replace hR := Lib.hid hR
  obtain ⟨i1, gi, gz0, gz1, gz2⟩ := info_parts info_bytes
  go_enter Try.func17, Try.ntmps17
  go_wp2_with fail
  go_loopw [4, 5] (fun o i wr => ScanRel b R w o i wr) (fun _ i _ => b.length + 1 - (intOf i).toNat)
  case atStart => exact ⟨0, none, 0, [], b.length + 1, by omega, by omega, rfl, rfl, RowsAt.none_, Below.refl _ _, by rw [hR.out]; rfl, by rw [hR.out], by simp [bOf], by simp⟩
  case round =>
    obtain ⟨at_, A4, c4, outs, f, ha, hf, rfl, rfl, hrows, hbr, hr1, hr2, hg4, hol⟩ := hrel
    obtain ⟨d, hd⟩ : ∃ d, b.drop at_ = d := ⟨_, rfl⟩
    have hdl : d.length = b.length - at_ := by rw [← hd, List.length_drop]
    have hcut := ((h.below hbr).more hbr.size).cut (k := at_) (cap := c) ha hc
    rw [Nat.mul_one, bys_drop, hd] at hcut
    by_cases hac : at_ < c
    · rw [if_neg (by omega)] at hcut
      go_wp2_with fail
      obtain ⟨o, ho⟩ : ∃ o, opened d = o := ⟨_, rfl⟩
      have hcut' := hcut
      rw [← hdl] at hcut' ⊢
      have hoo := open_walk (c := c - at_) hcut' (by omega) (by omega)
      rw [ho] at hoo
      refine hoo.mono ?_
      clear hoo hcut'
      rintro e w5 ⟨A5, c5, rfl, ho5, hb5, hg5⟩
      dsimp only
      have hb5' := below_then hb5 hbr
      have hrows5 := hrows.below hb5
      by_cases he : o.2.2 = 0
      · have h8 := opened_ok d (by rw [ho]; exact he)
        rw [ho] at h8
        obtain ⟨p, n, z⟩ := o
        dsimp only at he h8 ho5 ⊢
        subst he
        obtain ⟨xs, hxo, hxr⟩ := hrows5
        obtain ⟨f', rfl⟩ : ∃ f', f = f' + 1 := ⟨f - 1, by omega⟩
        unfold scan at hr1 hr2
        rw [hd, ho, if_pos rfl] at hr1 hr2
        dsimp only at hr1 hr2
        replace ho := Lib.hid ho
        replace hd := Lib.hid hd
        replace hr1 := Lib.hid hr1
        replace hr2 := Lib.hid hr2
        have hsrc := Reads.lit (size := 1) w5 #[.slice A5 p.length c5] 22 (0, 0) 1 [.slice A5 p.length c5] rfl rfl
        have hdb : d.length ≤ b.length := by omega
        have hnw : IntKind.i64.wrap ((at_ : Int) + (n : Int)) = ((at_ + n : Nat) : Int) := by rw [IntKind.wrap_i64]; omega
        have hnb : at_ + n ≤ b.length := by omega
        replace hdl := Lib.hid hdl
        go_wp2_with (at_builtin; go_must (refine wpList_append_mine rfl _ _ 35 35 rfl 22 i1 (.slice none 0 0) 1 24 Try.underlying35 gi gz0 gz1 gz2 rfl rfl (hxo.alloc _) rfl (Src.ofReads Try.underlying35 _ hsrc (by intro u hu; simp at hu; subst hu; rfl)) (by unfold maxLen; omega) (by omega) (fun A6 c6 w6 ho6 hg6 hat6 => ?_)))
        have hal : RowsAt w6 A6 c6 (outs ++ [p]) := by
          refine RowsAt.put (hxo.alloc _) (fun k q hq => ?_) (ho5.alloc _) hg6 ho6
          obtain ⟨A', c', e1, e2⟩ := hxr k q hq
          exact ⟨A', c', e1, e2.alloc _⟩
        have hb6 : Below w.heap.size w w6 := (hb5'.alloc hb5'.size _).grown hg6 (by have := hb5'.size; simp; omega) hg4
        refine ⟨⟨at_ + n, A6, c6, outs ++ [p], f', hnb, by omega, by simp, by simp, hal, hb6, by rw [← hr1.out]; simp, hr2.out, ?_, by simp; omega⟩, by simp [intOf]; omega⟩
        rcases hat6 with e | e
        · rw [e]; exact hg4
        · intro g hg; rw [e] at hg; simp at hg; have := hb5'.size; omega
      · have h0 : (((o.2.2 : Nat) : Int) != 0) = true := by rw [bne_iff_ne]; omega
        have h0' : (((o.2.2 : Nat) : Int) == 0) = false := by rw [beq_eq_false_iff_ne]; omega
        replace ho := Lib.hid ho
        replace hd := Lib.hid hd
        replace hdl := Lib.hid hdl
        replace hr1 := Lib.hid hr1
        replace hr2 := Lib.hid hr2
        go_wp2_with fail
        go_ret2
        have hr1 := hr1.out
        have hr2 := hr2.out
        obtain ⟨f', rfl⟩ : ∃ f', f = f' + 1 := ⟨f - 1, by omega⟩
        unfold scan at hr1 hr2
        rw [hd.out, ho.out, if_neg he] at hr1 hr2
        simp only [List.append_nil] at hr1 hr2
        have hRe : R = (outs, at_) := Prod.ext hr1.symm hr2.symm
        rw [hRe]
        exact ⟨A4, c4, rfl, hrows5, hb5'⟩
    · have hac' : c = at_ := by omega
      subst hac'
      have hbl : b.length = c := by omega
      have hd0 : d = [] := List.eq_nil_of_length_eq_zero (by omega)
      subst hd0
      rw [hbl]
      replace hbl := Lib.hid hbl
      clear hdl hac
      go_wp2_with fail
      have hoo := open_walk (A := some a) (c := 0) (b := []) (w := wr) ⟨by simp [bys], by simp⟩ (by simp) (by simp)
      rw [opened_nil] at hoo
      refine hoo.mono ?_
      clear hoo
      rintro e w5 ⟨A5, c5, rfl, ho5, hb5, hg5⟩
      dsimp only
      have hb5' := below_then hb5 hbr
      have hrows5 := hrows.below hb5
      replace hd := Lib.hid hd
      replace hr1 := Lib.hid hr1
      replace hr2 := Lib.hid hr2
      go_wp2_with fail
      go_ret2
      have hr1 := hr1.out
      have hr2 := hr2.out
      obtain ⟨f', rfl⟩ : ∃ f', f = f' + 1 := ⟨f - 1, by omega⟩
      unfold scan at hr1 hr2
      rw [hd.out, opened_nil, if_neg (by decide)] at hr1 hr2
      simp only [List.append_nil] at hr1 hr2
      have hRe : R = (outs, c) := Prod.ext hr1.symm hr2.symm
      rw [hRe]
      exact ⟨A4, c4, rfl, hrows5, hb5'⟩

theorem scan_none {w : World} : Calls Try.prog 17 #[.slice none 0 0] w (ScanRes w ([], 0)) := by
  go_enter Try.func17, Try.ntmps17
  go_wp2_with fail
  go_loopw [4, 5] (fun o i wr => o = .slice none 0 0 ∧ i = .int .i64 0 ∧ wr = w) (fun _ _ _ => 0)
  case atStart => exact ⟨rfl, rfl, rfl⟩
  case round =>
    obtain ⟨rfl, rfl, rfl⟩ := hrel
    go_wp2_with fail
    have hoo := open_walk (A := none) (c := 0) (b := []) (w := wr) Reads.none_ (by simp) (by simp)
    rw [opened_nil] at hoo
    refine hoo.mono ?_
    clear hoo
    rintro e w5 ⟨A5, c5, rfl, ho5, hb5, hg5⟩
    dsimp only
    go_wp2_with fail
    go_ret2
    exact ⟨none, 0, rfl, RowsAt.none_, hb5⟩

theorem scan_walk {A : Option Addr} {c : Nat} {b : List UInt8} {w : World} (hA : A = none → c = 0) (h : Reads w w.heap.size 1 A b.length (bys b)) (hc : b.length ≤ c) (hl : b.length ≤ 1000000000) :
    Calls Try.prog 17 #[.slice A b.length c] w (ScanRes w (scan b (b.length + 1) 0)) := by
  cases A with
  | none =>
    have h0 := hA rfl
    subst h0
    have hb : b = [] := List.eq_nil_of_length_eq_zero (by omega)
    subst hb
    exact scan_none
  | some a => exact scan_some h hc hl

set_option maxHeartbeats 800000 in
theorem ref_scan_some {a : Addr} {c : Nat} {b : List UInt8} {w : World} (h : Reads w w.heap.size 1 (some a) b.length (bys b)) (hc : b.length ≤ c) (hl : b.length ≤ 1000000000) :
    Calls Try.prog 18 #[.slice (some a) b.length c] w (ScanRes w (scan b (b.length + 1) 0)) := by
  obtain ⟨R, hR⟩ : ∃ R, scan b (b.length + 1) 0 = R := ⟨_, rfl⟩
  rw [hR]
  replace hR := Lib.hid hR
  obtain ⟨i1, gi, gz0, gz1, gz2⟩ := info_parts info_bytes
  go_enter Try.func18, Try.ntmps18
  go_wp2_with fail
  go_loopw [4, 5] (fun o i wr => ScanRel b R w o i wr) (fun _ i _ => b.length + 1 - (intOf i).toNat)
  case atStart => exact ⟨0, none, 0, [], b.length + 1, by omega, by omega, rfl, rfl, RowsAt.none_, Below.refl _ _, by rw [hR.out]; rfl, by rw [hR.out], by simp [bOf], by simp⟩
  case round =>
    obtain ⟨at_, A4, c4, outs, f, ha, hf, rfl, rfl, hrows, hbr, hr1, hr2, hg4, hol⟩ := hrel
    obtain ⟨d, hd⟩ : ∃ d, b.drop at_ = d := ⟨_, rfl⟩
    have hdl : d.length = b.length - at_ := by rw [← hd, List.length_drop]
    have hcut := ((h.below hbr).more hbr.size).cut (k := at_) (cap := c) ha hc
    rw [Nat.mul_one, bys_drop, hd] at hcut
    by_cases hac : at_ < c
    · rw [if_neg (by omega)] at hcut
      go_wp2_with fail
      obtain ⟨o, ho⟩ : ∃ o, opened d = o := ⟨_, rfl⟩
      have hcut' := hcut
      rw [← hdl] at hcut' ⊢
      have hoo := open_ref (c := c - at_) hcut' (by omega) (by omega)
      rw [ho] at hoo
      refine hoo.mono ?_
      clear hoo hcut'
      rintro e w5 ⟨A5, c5, rfl, ho5, hb5, hg5⟩
      dsimp only
      have hb5' := below_then hb5 hbr
      have hrows5 := hrows.below hb5
      by_cases he : o.2.2 = 0
      · have h8 := opened_ok d (by rw [ho]; exact he)
        rw [ho] at h8
        obtain ⟨p, n, z⟩ := o
        dsimp only at he h8 ho5 ⊢
        subst he
        obtain ⟨xs, hxo, hxr⟩ := hrows5
        obtain ⟨f', rfl⟩ : ∃ f', f = f' + 1 := ⟨f - 1, by omega⟩
        unfold scan at hr1 hr2
        rw [hd, ho, if_pos rfl] at hr1 hr2
        dsimp only at hr1 hr2
        replace ho := Lib.hid ho
        replace hd := Lib.hid hd
        replace hr1 := Lib.hid hr1
        replace hr2 := Lib.hid hr2
        have hsrc := Reads.lit (size := 1) w5 #[.slice A5 p.length c5] 22 (0, 0) 1 [.slice A5 p.length c5] rfl rfl
        have hdb : d.length ≤ b.length := by omega
        have hnw : IntKind.i64.wrap ((at_ : Int) + (n : Int)) = ((at_ + n : Nat) : Int) := by rw [IntKind.wrap_i64]; omega
        have hnb : at_ + n ≤ b.length := by omega
        replace hdl := Lib.hid hdl
        go_wp2_with (at_builtin; go_must (refine wpList_append_mine rfl _ _ 35 35 rfl 22 i1 (.slice none 0 0) 1 24 Try.underlying35 gi gz0 gz1 gz2 rfl rfl (hxo.alloc _) rfl (Src.ofReads Try.underlying35 _ hsrc (by intro u hu; simp at hu; subst hu; rfl)) (by unfold maxLen; omega) (by omega) (fun A6 c6 w6 ho6 hg6 hat6 => ?_)))
        have hal : RowsAt w6 A6 c6 (outs ++ [p]) := by
          refine RowsAt.put (hxo.alloc _) (fun k q hq => ?_) (ho5.alloc _) hg6 ho6
          obtain ⟨A', c', e1, e2⟩ := hxr k q hq
          exact ⟨A', c', e1, e2.alloc _⟩
        have hb6 : Below w.heap.size w w6 := (hb5'.alloc hb5'.size _).grown hg6 (by have := hb5'.size; simp; omega) hg4
        refine ⟨⟨at_ + n, A6, c6, outs ++ [p], f', hnb, by omega, by simp, by simp, hal, hb6, by rw [← hr1.out]; simp, hr2.out, ?_, by simp; omega⟩, by simp [intOf]; omega⟩
        rcases hat6 with e | e
        · rw [e]; exact hg4
        · intro g hg; rw [e] at hg; simp at hg; have := hb5'.size; omega
      · have h0 : (((o.2.2 : Nat) : Int) != 0) = true := by rw [bne_iff_ne]; omega
        have h0' : (((o.2.2 : Nat) : Int) == 0) = false := by rw [beq_eq_false_iff_ne]; omega
        replace ho := Lib.hid ho
        replace hd := Lib.hid hd
        replace hdl := Lib.hid hdl
        replace hr1 := Lib.hid hr1
        replace hr2 := Lib.hid hr2
        go_wp2_with fail
        go_ret2
        have hr1 := hr1.out
        have hr2 := hr2.out
        obtain ⟨f', rfl⟩ : ∃ f', f = f' + 1 := ⟨f - 1, by omega⟩
        unfold scan at hr1 hr2
        rw [hd.out, ho.out, if_neg he] at hr1 hr2
        simp only [List.append_nil] at hr1 hr2
        have hRe : R = (outs, at_) := Prod.ext hr1.symm hr2.symm
        rw [hRe]
        exact ⟨A4, c4, rfl, hrows5, hb5'⟩
    · have hac' : c = at_ := by omega
      subst hac'
      have hbl : b.length = c := by omega
      have hd0 : d = [] := List.eq_nil_of_length_eq_zero (by omega)
      subst hd0
      rw [hbl]
      replace hbl := Lib.hid hbl
      clear hdl hac
      go_wp2_with fail
      have hoo := open_ref (A := some a) (c := 0) (b := []) (w := wr) ⟨by simp [bys], by simp⟩ (by simp) (by simp)
      rw [opened_nil] at hoo
      refine hoo.mono ?_
      clear hoo
      rintro e w5 ⟨A5, c5, rfl, ho5, hb5, hg5⟩
      dsimp only
      have hb5' := below_then hb5 hbr
      have hrows5 := hrows.below hb5
      replace hd := Lib.hid hd
      replace hr1 := Lib.hid hr1
      replace hr2 := Lib.hid hr2
      go_wp2_with fail
      go_ret2
      have hr1 := hr1.out
      have hr2 := hr2.out
      obtain ⟨f', rfl⟩ : ∃ f', f = f' + 1 := ⟨f - 1, by omega⟩
      unfold scan at hr1 hr2
      rw [hd.out, opened_nil, if_neg (by decide)] at hr1 hr2
      simp only [List.append_nil] at hr1 hr2
      have hRe : R = (outs, c) := Prod.ext hr1.symm hr2.symm
      rw [hRe]
      exact ⟨A4, c4, rfl, hrows5, hb5'⟩

theorem ref_scan_none {w : World} : Calls Try.prog 18 #[.slice none 0 0] w (ScanRes w ([], 0)) := by
  go_enter Try.func18, Try.ntmps18
  go_wp2_with fail
  go_loopw [4, 5] (fun o i wr => o = .slice none 0 0 ∧ i = .int .i64 0 ∧ wr = w) (fun _ _ _ => 0)
  case atStart => exact ⟨rfl, rfl, rfl⟩
  case round =>
    obtain ⟨rfl, rfl, rfl⟩ := hrel
    go_wp2_with fail
    have hoo := open_ref (A := none) (c := 0) (b := []) (w := wr) Reads.none_ (by simp) (by simp)
    rw [opened_nil] at hoo
    refine hoo.mono ?_
    clear hoo
    rintro e w5 ⟨A5, c5, rfl, ho5, hb5, hg5⟩
    dsimp only
    go_wp2_with fail
    go_ret2
    exact ⟨none, 0, rfl, RowsAt.none_, hb5⟩

theorem ref_scan_walk {A : Option Addr} {c : Nat} {b : List UInt8} {w : World} (hA : A = none → c = 0) (h : Reads w w.heap.size 1 A b.length (bys b)) (hc : b.length ≤ c) (hl : b.length ≤ 1000000000) :
    Calls Try.prog 18 #[.slice A b.length c] w (ScanRes w (scan b (b.length + 1) 0)) := by
  cases A with
  | none =>
    have h0 := hA rfl
    subst h0
    have hb : b = [] := List.eq_nil_of_length_eq_zero (by omega)
    subst hb
    exact ref_scan_none
  | some a => exact ref_scan_some h hc hl
end Go.Proofs.Ytphbiglkkibnfaa
