/- Who is silent, who isn't; ages; two lists of numbers held against one another. -/
import Derived.Test.YteebefkojbdfjaaWatch
import Derived.Lib.SliceRun
namespace Go.Proofs.Yteebefkojbdfjaa
open Go.RowKit

def pickTo (s : Bool) (ages : List Nat) (k : Nat) : List Nat := (List.range k).filter fun i => decide (12 ≤ ages.getD i 0) == s
def pick (s : Bool) (ages : List Nat) : List Nat := pickTo s ages ages.length
theorem pickTo_len (s : Bool) (ages : List Nat) (k : Nat) : (pickTo s ages k).length ≤ k := by
  unfold pickTo
  exact Nat.le_trans (List.length_filter_le _ _) (by simp)
theorem pickTo_succ (s : Bool) (ages : List Nat) (k : Nat) : pickTo s ages (k + 1) = pickTo s ages k ++ (if (decide (12 ≤ ages.getD k 0) == s) = true then [k] else []) := by
  unfold pickTo
  rw [List.range_succ, List.filter_append]
  congr 1
  by_cases h : (decide (12 ≤ ages.getD k 0) == s) = true
  · simp only [List.filter_cons, h, if_true, List.filter_nil]
  · simp [List.filter_cons, h]

def NewInts (w : World) (l : List Nat) (e : Ending) (w' : World) : Prop :=
  ∃ A c, e = .returned (.slice A l.length c) ∧ Own w' 3 1 A l.length c (ivs l) ∧ Below w.heap.size w w'

theorem ivs_one (l : List Nat) : ∀ u ∈ ivs l, u.oneCell' = true := by
  intro u hu
  obtain ⟨b, _, rfl⟩ := List.mem_map.1 hu
  rfl

def PickRel (w : World) (ages : List Nat) (s : Bool) (out i : Value) (wr : World) : Prop :=
  ∃ (k : Nat) (A : Option Addr) (c : Nat), k ≤ ages.length ∧ i = .int .i64 k ∧ out = .slice A (pickTo s ages k).length c ∧ Own wr 3 1 A (pickTo s ages k).length c (ivs (pickTo s ages k)) ∧
    (∀ g, bOf A = some g → w.heap.size ≤ g) ∧ Below w.heap.size w wr

theorem pick_next {w wr w' : World} {ages : List Nat} {s : Bool} {k : Nat} {A A' : Option Addr} {c' : Nat} (hb : Below w.heap.size w wr) (hlt : k < ages.length) (ht : (decide (12 ≤ ages.getD k 0) == s) = true)
    (hA : ∀ g, bOf A = some g → w.heap.size ≤ g) (o : Obj)
    (hown : Own w' 3 1 A' ((pickTo s ages k).length + 1) c' (ivs (pickTo s ages k) ++ ivs [k])) (hg : (wr.alloc o).grownBy w' (bOf A)) (hat : bOf A' = bOf A ∨ bOf A' = some (wr.heap.size + 1)) :
    PickRel w ages s (.slice A' ((pickTo s ages k).length + 1) c') (.int .i64 ((k + 1 : Nat) : Int)) w' := by
  have e : pickTo s ages (k + 1) = pickTo s ages k ++ [k] := by rw [pickTo_succ, if_pos ht]
  refine ⟨k + 1, A', c', by omega, rfl, by rw [e]; simp, ?_, ?_, (hb.alloc hb.size _).grown hg (by have := hb.size; simp; omega) fun g h => hA g h⟩
  · rw [e]
    simpa [ivs] using hown
  · intro g h
    rcases hat with h1 | h1
    · exact hA g (by rw [← h1]; exact h)
    · rw [h1] at h
      have := hb.size
      simp at h
      omega


set_option maxHeartbeats 800000 in
theorem watch_which {w : World} {p q me ticks : Nat} {ages : List Nat} (h : WatchAt w 44 p q me ages ticks) (s : Bool) :
    Calls Try.prog 21 #[.pointer (some ⟨p, 0, none⟩), .bool s] w (NewInts w (pick s ages)) := by
  obtain ⟨i0, hi, hz0, hz1, hz2⟩ := info_parts info_int
  have h1 := h.o.cell 1
  have h7 := h.n7
  have H := Lib.hid h; clear h
  go_enter Try.func21, Try.ntmps21
  go_wp2
  go_loopw [5, 12] (fun out i wr => PickRel w ages s out i wr) (fun _ i _ => ages.length - (intOf i).toNat)
  case atStart => exact ⟨0, none, 0, Nat.zero_le _, rfl, rfl, Own.none_, by simp [bOf], Below.refl _ _⟩
  case round =>
    obtain ⟨k, A, c, hk, rfl, rfl, hown, hA, hb⟩ := hrel
    have hpl := pickTo_len s ages k
    by_cases hlt : k < ages.length
    · have hwr := H.out.below hb (Nat.le_refl _)
      have g1 := hwr.o.cell 1
      have ga := hwr.age k hlt
      have hsil := Lib.hid (watch_silent hwr k hlt)
      clear g1 ga hwr
      by_cases ht : (decide (12 ≤ ages.getD k 0) == s) = true
      · have HA := Lib.hid hA; have HB := Lib.hid hb; have HO := Lib.hid hown; have HT := Lib.hid ht; clear hA hb hown
        go_wp2_with fail
        refine hsil.out.mono ?_
        rintro e w' ⟨rfl, rfl⟩
        generalize decide (12 ≤ ages.getD k 0) = sb at ht
        go_wp2_with (at_builtin; go_must (refine wpList_append_mine rfl _ _ 33 33 rfl 3 i0 (.int .i64 0) 1 8 Try.underlying33 hi hz0 hz1 hz2 rfl rfl (HO.out.alloc _) rfl (Src.ofReads Try.underlying33 _ (Reads.lit wr _ _ _ 1 (ivs [k]) rfl rfl) (ivs_one [k])) ?b1 ?b2 ?grow))
        case b1 => unfold maxLen; omega
        case b2 => omega
        case grow =>
          intro A' c' w' hown hg hat
          have hnext := Lib.hid (pick_next HB.out hlt HT.out HA.out _ hown hg hat)
          clear hown hg hat
          go_wp2
          go_roundw
          case rel => exact hnext.out
          case measure => simp [intOf]; omega
      · have ht' : (decide (12 ≤ ages.getD k 0) == s) = false := by simpa using ht
        have hsame : pickTo s ages (k + 1) = pickTo s ages k := by rw [pickTo_succ, if_neg ht]; simp
        have HA := Lib.hid hA; have HB := Lib.hid hb; have HO := Lib.hid hown; have HS := Lib.hid hsame; clear hA hb hown ht hsame
        go_wp2_with fail
        refine hsil.out.mono ?_
        rintro e w' ⟨rfl, rfl⟩
        generalize decide (12 ≤ ages.getD k 0) = sb at ht'
        go_wp2
        go_roundw
        case rel => exact ⟨k + 1, A, c, by omega, by go_num, by rw [HS.out], by rw [HS.out]; exact HO.out, HA.out, HB.out⟩
        case measure => simp [intOf]; omega
    · have g1 := (H.out.below hb (Nat.le_refl _)).o.cell 1
      obtain rfl : k = ages.length := by omega
      go_wp2
      go_ret
      exact ⟨A, c, rfl, hown, hb⟩

set_option maxHeartbeats 800000 in
theorem ref_split {w : World} {p q me ticks : Nat} {ages : List Nat} (h : WatchAt w 40 p q me ages ticks) (s : Bool) :
    Calls Try.prog 14 #[.pointer (some ⟨p, 0, none⟩), .bool s] w (NewInts w (pick s ages)) := by
  obtain ⟨i0, hi, hz0, hz1, hz2⟩ := info_parts info_int
  have h1 := h.o.cell 1
  have h7 := h.n7
  have H := Lib.hid h; clear h
  go_enter Try.func14, Try.ntmps14
  go_wp2
  go_loopw [5, 6] (fun out i wr => PickRel w ages s out i wr) (fun _ i _ => ages.length - (intOf i).toNat)
  case atStart => exact ⟨0, none, 0, Nat.zero_le _, rfl, rfl, Own.none_, by simp [bOf], Below.refl _ _⟩
  case round =>
    obtain ⟨k, A, c, hk, rfl, rfl, hown, hA, hb⟩ := hrel
    have hpl := pickTo_len s ages k
    by_cases hlt : k < ages.length
    · have hwr := H.out.below hb (Nat.le_refl _)
      have g1 := hwr.o.cell 1
      have ga := hwr.age k hlt
      clear hwr
      by_cases ht : (decide (12 ≤ ages.getD k 0) == s) = true
      · have HA := Lib.hid hA; have HB := Lib.hid hb; have HO := Lib.hid hown; have HT := Lib.hid ht; clear hA hb hown
        generalize ages.getD k 0 = a0 at ga ht
        rw [show decide (12 ≤ a0) = decide ((12 : Int) ≤ (a0 : Int)) from by rw [decide_eq_decide]; omega] at ht
        go_wp2_with (at_builtin; go_must (refine wpList_append_mine rfl _ _ 33 33 rfl 3 i0 (.int .i64 0) 1 8 Try.underlying33 hi hz0 hz1 hz2 rfl rfl (HO.out.alloc _) rfl (Src.ofReads Try.underlying33 _ (Reads.lit wr _ _ _ 1 (ivs [k]) rfl rfl) (ivs_one [k])) ?b1 ?b2 ?grow))
        case b1 => unfold maxLen; omega
        case b2 => omega
        case grow =>
          intro A' c' w' hown hg hat
          have hnext := Lib.hid (pick_next HB.out hlt HT.out HA.out _ hown hg hat)
          clear hown hg hat
          go_wp2
          go_roundw
          case rel => exact hnext.out
          case measure => simp [intOf]; omega
      · have ht' : (decide (12 ≤ ages.getD k 0) == s) = false := by simpa using ht
        have hsame : pickTo s ages (k + 1) = pickTo s ages k := by rw [pickTo_succ, if_neg ht]; simp
        have HA := Lib.hid hA; have HB := Lib.hid hb; have HO := Lib.hid hown; have HS := Lib.hid hsame; clear hA hb hown ht hsame
        generalize ages.getD k 0 = a0 at ga ht'
        rw [show decide (12 ≤ a0) = decide ((12 : Int) ≤ (a0 : Int)) from by rw [decide_eq_decide]; omega] at ht'
        go_wp2
        go_roundw
        case rel => exact ⟨k + 1, A, c, by omega, by go_num, by rw [HS.out], by rw [HS.out]; exact HO.out, HA.out, HB.out⟩
        case measure => simp [intOf]; omega
    · have g1 := (H.out.below hb (Nat.le_refl _)).o.cell 1
      obtain rfl : k = ages.length := by omega
      go_wp2
      go_ret
      exact ⟨A, c, rfl, hown, hb⟩

theorem watch_suspects {w : World} {p q me ticks : Nat} {ages : List Nat} (h : WatchAt w 44 p q me ages ticks) :
    Calls Try.prog 13 #[.pointer (some ⟨p, 0, none⟩)] w (NewInts w (pick true ages)) := by
  have H := Lib.hid (watch_which h true); clear h
  go_enter Try.func13, Try.ntmps13
  go_wp2_with fail
  refine H.out.mono ?_
  rintro e w' ⟨A, c, rfl, ho, hb⟩
  go_wp2
  go_ret
  exact ⟨A, c, rfl, ho, hb⟩

theorem watch_alive {w : World} {p q me ticks : Nat} {ages : List Nat} (h : WatchAt w 44 p q me ages ticks) :
    Calls Try.prog 15 #[.pointer (some ⟨p, 0, none⟩)] w (NewInts w (pick false ages)) := by
  have H := Lib.hid (watch_which h false); clear h
  go_enter Try.func15, Try.ntmps15
  go_wp2_with fail
  refine H.out.mono ?_
  rintro e w' ⟨A, c, rfl, ho, hb⟩
  go_wp2
  go_ret
  exact ⟨A, c, rfl, ho, hb⟩

/-! ### Age -/
def ageOf (me : Nat) (ages : List Nat) (k : Int) : Nat := if 0 ≤ k ∧ k < ages.length then ages.getD k.toNat 0 else 0
def ageIs (ages : List Nat) (k : Int) : Bool := decide (0 ≤ k ∧ k < ages.length)

theorem watch_age {w : World} {p q me ticks : Nat} {ages : List Nat} (h : WatchAt w 44 p q me ages ticks) (k : Int) :
    Calls Try.prog 17 #[.pointer (some ⟨p, 0, none⟩), .int .i64 k] w fun e w' => e = .returned (.tuple #[.int .i64 (ageOf me ages k : Int), .bool (ageIs ages k)]) ∧ w = w' := by
  have h0 := h.o.cell 0
  have h1 := h.o.cell 1
  have hoth := Lib.hid (watch_other h k)
  have h7 := h.n7
  have hs := h.hs
  by_cases hin : 0 ≤ k ∧ k < ages.length
  · obtain ⟨k0, k1⟩ := hin
    obtain ⟨j, rfl⟩ := Int.eq_ofNat_of_zero_le k0
    have hj : j < ages.length := by omega
    have ga := h.age j hj
    have e1 : ageOf me ages (j : Int) = ages.getD j 0 := by simp [ageOf, hj]
    have e2 : ageIs ages (j : Int) = true := by simp [ageIs, hj]
    rw [e1, e2]
    clear e1 e2 h
    generalize ages.getD j 0 = a at *
    by_cases hm : j = me
    · subst hm
      go_enter Try.func17, Try.ntmps17
      go_wp2
      go_ret2
      exact ⟨rfl, rfl⟩
    · have kne : ((j : Int) != (me : Int)) = true := by rw [bne_iff_ne]; omega
      have hr : isOther me ages.length (j : Int) = true := by simp [isOther, hj]; omega
      rw [hr] at hoth
      go_enter Try.func17, Try.ntmps17
      go_wp2_with fail
      refine hoth.out.mono ?_
      rintro e w' ⟨rfl, rfl⟩
      go_wp2
      go_ret2
      exact ⟨rfl, rfl⟩
  · have e1 : ageOf me ages k = 0 := by simp only [ageOf, if_neg hin]
    have e2 : ageIs ages k = false := by simp only [ageIs, decide_eq_false hin]
    have kne : (k != (me : Int)) = true := by rw [bne_iff_ne]; omega
    have hr : isOther me ages.length k = false := by simp [isOther]; omega
    rw [hr] at hoth
    rw [e1, e2]
    clear e1 e2 hr h hin
    go_enter Try.func17, Try.ntmps17
    go_wp2_with fail
    refine hoth.out.mono ?_
    rintro e w' ⟨rfl, rfl⟩
    go_wp2
    go_ret2
    exact ⟨rfl, rfl⟩

/-! ### two lists of numbers -/
set_option maxHeartbeats 800000 in
theorem ints_same {w : World} {A B : Option Addr} {ca cb BA BB : Nat} {xs ys : List Nat} (ha : Reads w BA 1 A xs.length (ivs xs)) (hb : Reads w BB 1 B ys.length (ivs ys)) (hl : xs.length ≤ 1000000) (hl2 : ys.length ≤ 1000000) :
    Calls Try.prog 12 #[.slice A xs.length ca, .slice B ys.length cb] w fun e w' => e = .returned (.bool (decide (xs = ys))) ∧ ∃ n, w' = w.drewN n := by
  by_cases hlen : xs.length = ys.length
  · go_enter Try.func12, Try.ntmps12
    have HL := Lib.hid hlen
    rw [← hlen] at hb hl2 ⊢
    clear hlen
    go_wp2
    go_loopw [5] (fun i wr => ∃ k n : Nat, k ≤ xs.length ∧ i = .int .i64 k ∧ xs.take k = ys.take k ∧ wr = w.drewN n) (fun i _ => xs.length - (intOf i).toNat)
    case atStart => exact ⟨0, 0, Nat.zero_le _, rfl, by simp, rfl⟩
    case round =>
      obtain ⟨k, n, hk, rfl, htk, rfl⟩ := hrel
      by_cases hlt : k < xs.length
      · obtain ⟨a1, u1, rfl, _, e1, c1⟩ := ha.at_ hlt
        obtain ⟨a2, u2, rfl, _, e2, c2⟩ := hb.at_ hlt
        have hlt2 : k < ys.length := by have := HL.out; omega
        simp only [ivs, iv, List.getElem?_map, List.getElem?_eq_getElem hlt, List.getElem?_eq_getElem hlt2, Option.map_some, Option.some.injEq] at e1 e2
        subst e1 e2
        have ht1 : xs.take (k + 1) = xs.take k ++ [xs[k]] := by rw [List.take_succ_eq_append_getElem hlt]
        have ht2 : ys.take (k + 1) = ys.take k ++ [ys[k]] := by rw [List.take_succ_eq_append_getElem hlt2]
        have hg1 : xs[k]? = some xs[k] := List.getElem?_eq_getElem hlt
        have hg2 : ys[k]? = some ys[k] := List.getElem?_eq_getElem hlt2
        generalize xs[k] = x at *
        generalize ys[k] = y at *
        have HT := Lib.hid htk; have H1 := Lib.hid ht1; have H2 := Lib.hid ht2; have G1 := Lib.hid hg1; have G2 := Lib.hid hg2
        clear htk ht1 ht2 hg1 hg2 ha hb
        by_cases hxy : x = y
        · have hne : ((x : Int) != (y : Int)) = false := by simp [hxy]
          have HX := Lib.hid hxy; clear hxy
          go_wp2_with fail
          refine wp_region_lex (fun W => W.cell? (a1.add k) = some (.int .i64 (x : Int)) ∧ W.cell? (a2.add k) = some (.int .i64 (y : Int))) [3, 7] [] [0, 1, 2, 3, 4, 5, 6, 7, 8] (by kernel_rfl) rfl (by kernel_rfl) (by kernel_rfl) (fun _ _ d _ _ h => by cases d <;> exact h) ?_
          have hS : (w.drewN n).drew.cell? (a1.add k) = some (.int .i64 (x : Int)) ∧ (w.drewN n).drew.cell? (a2.add k) = some (.int .i64 (y : Int)) := ⟨c1, c2⟩
          repeat (first | (refine lexG_take _ ?_ rfl rfl rfl rfl (fun _ => ?_) ?_; rotate_left; (focus (go_simp; with_reducible rfl)); try simp only [Act.put, List.setIfInBounds_toArray, List.set_cons_zero, List.set_cons_succ]) | (refine lexG_held _ ?_ rfl rfl rfl rfl (by assumption) (fun _ hSw => ?_) ?_; rotate_left; (focus ((try dsimp only at hSw); go_simp; with_reducible rfl)); try simp only [Act.put, List.setIfInBounds_toArray, List.set_cons_zero, List.set_cons_succ]) | (refine lexG_skip _ rfl rfl (by assumption) ?_; try simp only [Act.put, List.setIfInBounds_toArray, List.set_cons_zero, List.set_cons_succ]))
          refine lexG_nil ?_
          clear hS
          go_wp2
          go_roundw
          case rel => exact ⟨k + 1, n + 1, by omega, by go_num, by rw [H1.out, H2.out, HT.out, HX.out], rfl⟩
          case measure => simp [intOf]; omega
        · have hne : ((x : Int) != (y : Int)) = true := by rw [bne_iff_ne]; omega
          have HX := Lib.hid hxy; clear hxy
          go_wp2_with fail
          refine wp_region_lex (fun W => W.cell? (a1.add k) = some (.int .i64 (x : Int)) ∧ W.cell? (a2.add k) = some (.int .i64 (y : Int))) [3, 7] [] [0, 1, 2, 3, 4, 5, 6, 7, 8] (by kernel_rfl) rfl (by kernel_rfl) (by kernel_rfl) (fun _ _ d _ _ h => by cases d <;> exact h) ?_
          have hS : (w.drewN n).drew.cell? (a1.add k) = some (.int .i64 (x : Int)) ∧ (w.drewN n).drew.cell? (a2.add k) = some (.int .i64 (y : Int)) := ⟨c1, c2⟩
          repeat (first | (refine lexG_take _ ?_ rfl rfl rfl rfl (fun _ => ?_) ?_; rotate_left; (focus (go_simp; with_reducible rfl)); try simp only [Act.put, List.setIfInBounds_toArray, List.set_cons_zero, List.set_cons_succ]) | (refine lexG_held _ ?_ rfl rfl rfl rfl (by assumption) (fun _ hSw => ?_) ?_; rotate_left; (focus ((try dsimp only at hSw); go_simp; with_reducible rfl)); try simp only [Act.put, List.setIfInBounds_toArray, List.set_cons_zero, List.set_cons_succ]) | (refine lexG_skip _ rfl rfl (by assumption) ?_; try simp only [Act.put, List.setIfInBounds_toArray, List.set_cons_zero, List.set_cons_succ]))
          refine lexG_nil ?_
          clear hS
          go_wp2
          go_ret
          have hd : xs ≠ ys := fun e => HX.out (by have h1 := G1.out; have h2 := G2.out; rw [e, h2] at h1; simpa using h1.symm)
          refine ⟨by rw [decide_eq_false hd]; rfl, n + 1, rfl⟩
      · obtain rfl : k = xs.length := by omega
        go_wp2
        go_ret
        have hd : xs = ys := by
          have h1 := htk
          rw [List.take_of_length_le (Nat.le_refl _), List.take_of_length_le (by have := HL.out; omega)] at h1
          exact h1
        refine ⟨by rw [decide_eq_true hd]; rfl, n, rfl⟩
  · have hd : xs ≠ ys := fun e => hlen (by rw [e])
    rw [decide_eq_false hd]
    have hne : ((xs.length : Int) != (ys.length : Int)) = true := by rw [bne_iff_ne]; omega
    clear hd ha hb
    go_enter Try.func12, Try.ntmps12
    go_wp2
    go_ret
    exact ⟨rfl, 0, rfl⟩
end Go.Proofs.Yteebefkojbdfjaa
