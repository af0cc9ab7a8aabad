/- The walks of package suspect and of its reference: a watch, its ages, said of plain lists of numbers. -/
import Derived.Test.YteebefkojbdfjaaRows
import Derived.Test.YteebefkojbdfjaaKit
import Derived.Test.YteebefkojbdfjaaRegion
namespace Go.Proofs.Yteebefkojbdfjaa
open Go.RowKit

theorem info_int : (Try.prog.info? 3).map (fun i => (i.zero, i.size, i.bytes)) = some (some (.int .i64 0), 1, 8) := by kernel_rfl

def iv (a : Nat) : Value := .int .i64 (a : Int)
def ivs (l : List Nat) : List Value := l.map iv
theorem ivs_len (l : List Nat) : (ivs l).length = l.length := by simp [ivs]

structure WatchAt (w : World) (T : TypeId) (p q : Nat) (me : Nat) (ages : List Nat) (ticks : Nat) : Prop where
  o : Blk w p T #[.int .i64 (me : Int), .slice (some ⟨q, 0, none⟩) ages.length ages.length, .int .i64 (ticks : Int)]
  a : Blk w q 3 (ivs ages).toArray
  n1 : 1 ≤ ages.length
  n7 : ages.length ≤ 7
  hs : me < ages.length
  hb : ∀ a ∈ ages, a ≤ 1073741824
  ht : ticks ≤ 1000000

section
variable {w w' : World} {T : TypeId} {p q me ticks : Nat} {ages : List Nat}
theorem WatchAt.below {B : Nat} (h : WatchAt w T p q me ages ticks) (hb : Below B w w') (hB : w.heap.size ≤ B) : WatchAt w' T p q me ages ticks :=
  ⟨h.o.below hb (Nat.lt_of_lt_of_le h.o.lt hB), h.a.below hb (Nat.lt_of_lt_of_le h.a.lt hB), h.n1, h.n7, h.hs, h.hb, h.ht⟩
theorem WatchAt.upd {S : Nat → Prop} (h : WatchAt w T p q me ages ticks) (hu : Upd S w w') (hp : ¬ S p) (hq : ¬ S q) : WatchAt w' T p q me ages ticks :=
  ⟨h.o.upd hu hp, h.a.upd hu hq, h.n1, h.n7, h.hs, h.hb, h.ht⟩
theorem WatchAt.age (h : WatchAt w T p q me ages ticks) (k : Nat) (hk : k < ages.length) : w.cell? ⟨q, k, none⟩ = some (.int .i64 ((ages.getD k 0 : Nat) : Int)) := by
  rw [h.a.cell k]
  simp [ivs, iv, hk, List.getD]
end

/-! ### numbers of nodes -/
def nn (n : Int) : Nat := if n < 1 then 1 else if 7 < n then 7 else n.toNat
theorem nn_bd (n : Int) : 1 ≤ nn n ∧ nn n ≤ 7 := by unfold nn; split <;> (try split) <;> omega
theorem nn_if (n : Int) : ∃ m : Int, (if n < 1 then 1 else n) = m ∧ (if 7 < m then 7 else m) = (nn n : Int) := by
  refine ⟨_, rfl, ?_⟩
  unfold nn; split <;> split <;> (try split) <;> omega
def selfOf (s : Int) (n : Nat) : Nat := min s.toNat (n - 1)
theorem self_if (s : Int) (n : Nat) (hn : 1 ≤ n) : ∃ m : Int, (if s < 0 then 0 else s) = m ∧ ((if (n : Int) - 1 < m then (n : Int) - 1 else m) = (selfOf s n : Int)) := by
  refine ⟨_, rfl, ?_⟩
  unfold selfOf; split <;> split <;> omega

def NewWatch (T : TypeId) (w : World) (s n : Int) (e : Ending) (w' : World) : Prop :=
  ∃ p q, e = .returned (.pointer (some ⟨p, 0, none⟩)) ∧ WatchAt w' T p q (selfOf s (nn n)) (List.replicate (nn n) 0) 0 ∧ Below w.heap.size w w' ∧ w.heap.size ≤ p ∧ w.heap.size ≤ q

theorem new_at (w : World) (T : TypeId) (hT : T ≠ 3) (s n : Int) :
    WatchAt ((w.alloc (.cells (Array.replicate (nn n) (.int .i64 0)) 3)).alloc (.cells #[.int .i64 (selfOf s (nn n) : Int), .slice (some ⟨w.heap.size, 0, none⟩) (nn n) (nn n), .int .i64 0] T)) T (w.heap.size + 1) w.heap.size (selfOf s (nn n)) (List.replicate (nn n) 0) 0 := by
  obtain ⟨h1, h7⟩ := nn_bd n
  refine ⟨?_, ?_, by simpa using h1, by simpa using h7, by unfold selfOf; simp; omega, by simp, by omega⟩
  · have := Blk.new (w.alloc (.cells (Array.replicate (nn n) (.int .i64 0)) 3)) T #[.int .i64 (selfOf s (nn n) : Int), .slice (some ⟨w.heap.size, 0, none⟩) (nn n) (nn n), .int .i64 0]
    simpa using this
  · have := (Blk.new w 3 (Array.replicate (nn n) (.int .i64 0))).alloc (.cells #[.int .i64 (selfOf s (nn n) : Int), .slice (some ⟨w.heap.size, 0, none⟩) (nn n) (nn n), .int .i64 0] T)
    have e : (ivs (List.replicate (nn n) 0)).toArray = Array.replicate (nn n) (.int .i64 0) := by
      simp [ivs, iv]
    rw [e]
    exact this

theorem watch_new (s n : Int) (w : World) : Calls Try.prog 6 #[.int .i64 s, .int .i64 n] w (NewWatch 44 w s n) := by
  obtain ⟨i0, hi, hz0, hz1, hz2⟩ := info_parts info_int
  obtain ⟨m, hm, hif⟩ := nn_if n
  obtain ⟨h1, h7⟩ := nn_bd n
  obtain ⟨ms, hms, hifs⟩ := self_if s (nn n) h1
  have hnew := Lib.hid (new_at w 44 (by decide) s n)
  have hmk := fun W => run_make_nat (P := Try.prog) 33 3 i0 (.int .i64 0) Try.underlying33 hi hz0 hz1 rfl .i64 .i64 (nn n) (by rw [hz2]; omega) (by omega) W
  have hnw : (1 : Int) ≤ (nn n : Int) ∧ (nn n : Int) ≤ 7 := by omega
  generalize hN : nn n = k at *
  generalize hS : selfOf s k = sf at *
  have HN := Lib.hid hN; have HS := Lib.hid hS; clear hN hS
  go_enter Try.func6, Try.ntmps6
  go_wp2
  go_ret
  refine ⟨_, _, rfl, by rw [HN.out, HS.out]; exact hnew.out, ((Below.refl _ _).alloc (Nat.le_refl _) _).alloc (by simp) _, by simp, Nat.le_refl _⟩

theorem ref_nodes (n : Int) (w : World) : Calls Try.prog 18 #[.int .i64 n] w fun e w' => e = .returned (.int .i64 (nn n : Int)) ∧ w = w' := by
  obtain ⟨m, hm, hif⟩ := nn_if n
  generalize nn n = k at *
  go_enter Try.func18, Try.ntmps18
  go_wp2
  go_ret
  exact ⟨rfl, rfl⟩

theorem ref_new (s n : Int) (w : World) : Calls Try.prog 7 #[.int .i64 s, .int .i64 n] w (NewWatch 40 w s n) := by
  obtain ⟨i0, hi, hz0, hz1, hz2⟩ := info_parts info_int
  obtain ⟨h1, h7⟩ := nn_bd n
  obtain ⟨ms, hms, hifs⟩ := self_if s (nn n) h1
  have hnew := Lib.hid (new_at w 40 (by decide) s n)
  have hmk := fun W => run_make_nat (P := Try.prog) 33 3 i0 (.int .i64 0) Try.underlying33 hi hz0 hz1 rfl .i64 .i64 (nn n) (by rw [hz2]; omega) (by omega) W
  have hnw : (1 : Int) ≤ (nn n : Int) ∧ (nn n : Int) ≤ 7 := by omega
  have hrn := Lib.hid (ref_nodes n w)
  generalize hN : nn n = k at *
  generalize hS : selfOf s k = sf at *
  have HN := Lib.hid hN; have HS := Lib.hid hS; clear hN hS
  go_enter Try.func7, Try.ntmps7
  go_wp2_with fail
  refine hrn.out.mono ?_
  rintro e w' ⟨rfl, rfl⟩
  go_wp2
  go_ret
  refine ⟨_, _, rfl, by rw [HN.out, HS.out]; exact hnew.out, ((Below.refl _ _).alloc (Nat.le_refl _) _).alloc (by simp) _, by simp, Nat.le_refl _⟩

/-! ### another node, silence -/
def isOther (me n : Nat) (k : Int) : Bool := decide (0 ≤ k ∧ k < n ∧ k ≠ me)

theorem watch_other {w : World} {p q me ticks : Nat} {ages : List Nat} (h : WatchAt w 44 p q me ages ticks) (k : Int) :
    Calls Try.prog 19 #[.pointer (some ⟨p, 0, none⟩), .int .i64 k] w fun e w' => e = .returned (.bool (isOther me ages.length k)) ∧ w = w' := by
  have h0 := h.o.cell 0
  have h1 := h.o.cell 1
  have H := Lib.hid h; clear h
  by_cases k0 : 0 ≤ k
  · obtain ⟨j, rfl⟩ := Int.eq_ofNat_of_zero_le k0
    by_cases k1 : j < ages.length
    · by_cases k2 : j = me
      · subst k2
        have hr : isOther j ages.length (j : Int) = false := by simp [isOther]
        have HR := Lib.hid hr; clear hr
        go_enter Try.func19, Try.ntmps19
        go_wp2
        go_ret
        rw [HR.out]
        exact ⟨rfl, rfl⟩
      · have kne : ((j : Int) != (me : Int)) = true := by rw [bne_iff_ne]; omega
        have hr : isOther me ages.length (j : Int) = true := by simp [isOther, k1]; omega
        have HR := Lib.hid hr; clear hr
        go_enter Try.func19, Try.ntmps19
        go_wp2
        go_ret
        rw [HR.out]
        exact ⟨rfl, rfl⟩
    · have hr : isOther me ages.length (j : Int) = false := by simp [isOther]; omega
      have HR := Lib.hid hr; clear hr
      go_enter Try.func19, Try.ntmps19
      go_wp2
      go_ret
      rw [HR.out]
      exact ⟨rfl, rfl⟩
  · have hr : isOther me ages.length k = false := by simp [isOther]; omega
    have HR := Lib.hid hr; clear hr
    go_enter Try.func19, Try.ntmps19
    go_wp2
    go_ret
    rw [HR.out]
    exact ⟨rfl, rfl⟩

theorem watch_silent {w : World} {p q me ticks : Nat} {ages : List Nat} (h : WatchAt w 44 p q me ages ticks) (k : Nat) (hk : k < ages.length) :
    Calls Try.prog 20 #[.pointer (some ⟨p, 0, none⟩), .int .i64 (k : Int)] w fun e w' => e = .returned (.bool (decide (12 ≤ ages.getD k 0))) ∧ w = w' := by
  have h1 := h.o.cell 1
  have h2 := h.age k hk
  have h7 := h.n7
  clear h
  generalize ages.getD k 0 = a at *
  go_enter Try.func20, Try.ntmps20
  go_wp2
  go_ret
  exact ⟨by simp; omega, rfl⟩

/-! ### Heard -/
def heardB (me : Nat) (ages : List Nat) (k : Int) : Bool := isOther me ages.length k && decide (12 ≤ ages.getD k.toNat 0)
def heardL (me : Nat) (ages : List Nat) (k : Int) : List Nat := if isOther me ages.length k then ages.set k.toNat 0 else ages

theorem set_at {w : World} {T : TypeId} {p q me ticks : Nat} {ages : List Nat} (hT : T ≠ 3) (h : WatchAt w T p q me ages ticks) (j v : Nat) (hv : v ≤ 1073741824) :
    WatchAt (w.setCell ⟨q, j, none⟩ (.int .i64 (v : Int))) T p q me (ages.set j v) ticks := by
  refine ⟨?_, ?_, by simpa using h.n1, by simpa using h.n7, by simpa using h.hs, fun a ha => ?_, h.ht⟩
  · rw [List.length_set]
    exact h.o.far (p := ⟨q, j, none⟩) (h.o.ne_ h.a hT) _
  · have := h.a.set_ j (.int .i64 (v : Int))
    have e : (ivs (ages.set j v)).toArray = (ivs ages).toArray.setIfInBounds j (.int .i64 (v : Int)) := by
      simp [ivs, iv, List.map_set]
    rw [e]
    exact this
  · rcases List.mem_or_eq_of_mem_set ha with h1 | rfl
    · exact h.hb a h1
    · exact hv

def HeardDone (T : TypeId) (w : World) (p q me ticks : Nat) (ages : List Nat) (k : Int) (e : Ending) (w' : World) : Prop :=
  e = .returned (.bool (heardB me ages k)) ∧ WatchAt w' T p q me (heardL me ages k) ticks ∧ Upd (fun x => x = q) w w'

theorem watch_heard {w : World} {p q me ticks : Nat} {ages : List Nat} (h : WatchAt w 44 p q me ages ticks) (k : Int) :
    Calls Try.prog 10 #[.pointer (some ⟨p, 0, none⟩), .int .i64 k] w (HeardDone 44 w p q me ticks ages k) := by
  have h1 := h.o.cell 1
  have ho := Lib.hid (watch_other h k)
  by_cases hk : isOther me ages.length k = true
  · obtain ⟨k0, k1, k2⟩ : 0 ≤ k ∧ k < ages.length ∧ k ≠ me := by simpa [isOther] using hk
    obtain ⟨j, rfl⟩ := Int.eq_ofNat_of_zero_le k0
    have hj : j < ages.length := by omega
    have hsil := Lib.hid (watch_silent h j hj)
    have h2 := h.age j hj
    have f2 := h.a.frozen j
    have h7 := h.n7
    have hset := Lib.hid (set_at (by decide) h j 0 (by omega))
    have hB : heardB me ages (j : Int) = decide (12 ≤ ages.getD j 0) := by simp [heardB, hk]
    have hL : heardL me ages (j : Int) = ages.set j 0 := by simp [heardL, hk]
    have HB := Lib.hid hB; have HL := Lib.hid hL; have HK := Lib.hid hk; clear hB hL hk h
    go_enter Try.func10, Try.ntmps10
    go_wp2_with fail
    refine ho.out.mono ?_
    rintro e w' ⟨rfl, rfl⟩
    rw [HK.out]
    go_wp2_with fail
    refine hsil.out.mono ?_
    rintro e w' ⟨rfl, rfl⟩
    generalize decide (12 ≤ ages.getD j 0) = sb at *
    go_wp2
    go_ret
    refine ⟨by rw [HB.out]; rfl, by rw [HL.out]; exact hset.out, Upd.set_ w ⟨q, j, none⟩ _⟩
  · have hk' : isOther me ages.length k = false := by simpa using hk
    have hB : heardB me ages k = false := by simp [heardB, hk']
    have hL : heardL me ages k = ages := by simp [heardL, hk']
    have HB := Lib.hid hB; have HL := Lib.hid hL; have HK := Lib.hid hk'; have H := Lib.hid h; clear hB hL hk hk' h
    go_enter Try.func10, Try.ntmps10
    go_wp2_with fail
    refine ho.out.mono ?_
    rintro e w' ⟨rfl, rfl⟩
    rw [HK.out]
    go_wp2_with fail
    go_ret
    refine ⟨by rw [HB.out]; rfl, by rw [HL.out]; exact H.out, Upd.refl _ _⟩

theorem ref_heard {w : World} {p q me ticks : Nat} {ages : List Nat} (h : WatchAt w 40 p q me ages ticks) (k : Int) :
    Calls Try.prog 11 #[.pointer (some ⟨p, 0, none⟩), .int .i64 k] w (HeardDone 40 w p q me ticks ages k) := by
  have h0 := h.o.cell 0
  have h1 := h.o.cell 1
  by_cases k0 : 0 ≤ k
  · obtain ⟨j, rfl⟩ := Int.eq_ofNat_of_zero_le k0
    by_cases hj : j < ages.length
    · by_cases k2 : j = me
      · subst k2
        have hk' : isOther j ages.length (j : Int) = false := by simp [isOther]
        have hB : heardB j ages (j : Int) = false := by simp [heardB, hk']
        have hL : heardL j ages (j : Int) = ages := by simp [heardL, hk']
        have HB := Lib.hid hB; have HL := Lib.hid hL; have H := Lib.hid h; clear hB hL hk' h
        go_enter Try.func11, Try.ntmps11
        go_wp2
        go_ret
        refine ⟨by rw [HB.out]; rfl, by rw [HL.out]; exact H.out, Upd.refl _ _⟩
      · have kne : ((j : Int) == (me : Int)) = false := by rw [beq_eq_false_iff_ne]; omega
        have hk' : isOther me ages.length (j : Int) = true := by simp [isOther, hj]; omega
        have h2 := h.age j hj
        have f2 := h.a.frozen j
        have h7 := h.n7
        have hset := Lib.hid (set_at (by decide) h j 0 (by omega))
        have hB : heardB me ages (j : Int) = decide (12 ≤ ages.getD j 0) := by simp [heardB, hk']
        have hL : heardL me ages (j : Int) = ages.set j 0 := by simp [heardL, hk']
        have HB := Lib.hid hB; have HL := Lib.hid hL; clear hB hL hk' h
        generalize ages.getD j 0 = a at *
        go_enter Try.func11, Try.ntmps11
        go_wp2
        go_ret
        refine ⟨by rw [HB.out]; simp; omega, by rw [HL.out]; exact hset.out, Upd.set_ w ⟨q, j, none⟩ _⟩
    · have hk' : isOther me ages.length (j : Int) = false := by simp [isOther]; omega
      have hB : heardB me ages (j : Int) = false := by simp [heardB, hk']
      have hL : heardL me ages (j : Int) = ages := by simp [heardL, hk']
      have HB := Lib.hid hB; have HL := Lib.hid hL; have H := Lib.hid h; clear hB hL hk' h
      go_enter Try.func11, Try.ntmps11
      go_wp2
      go_ret
      refine ⟨by rw [HB.out]; rfl, by rw [HL.out]; exact H.out, Upd.refl _ _⟩
  · have hk' : isOther me ages.length k = false := by simp [isOther]; omega
    have hB : heardB me ages k = false := by simp [heardB, hk']
    have hL : heardL me ages k = ages := by simp [heardL, hk']
    have HB := Lib.hid hB; have HL := Lib.hid hL; have H := Lib.hid h; clear hB hL hk' h
    go_enter Try.func11, Try.ntmps11
    go_wp2
    go_ret
    refine ⟨by rw [HB.out]; rfl, by rw [HL.out]; exact H.out, Upd.refl _ _⟩

/-! ### Tick -/
def upTo (me : Nat) (ages : List Nat) (k : Nat) : List Nat := ages.mapIdx fun i a => if i < k ∧ i ≠ me then min (a + 1) 1073741824 else a
def up (me : Nat) (ages : List Nat) : List Nat := ages.mapIdx fun i a => if i ≠ me then min (a + 1) 1073741824 else a
theorem upTo_zero (me : Nat) (ages : List Nat) : upTo me ages 0 = ages := by
  apply List.ext_getElem <;> simp [upTo]
theorem upTo_all (me : Nat) (ages : List Nat) : upTo me ages ages.length = up me ages := by
  apply List.ext_getElem
  · simp [upTo, up]
  · intro i h1 h2
    have : i < ages.length := by simpa [up] using h2
    simp [upTo, up, this]
theorem upTo_len (me : Nat) (ages : List Nat) (k : Nat) : (upTo me ages k).length = ages.length := by simp [upTo]
theorem upTo_at (me : Nat) (ages : List Nat) (k : Nat) (hk : k < ages.length) : (upTo me ages k).getD k 0 = ages.getD k 0 := by
  simp [upTo, List.getD, hk]
theorem upTo_me (me : Nat) (ages : List Nat) : upTo me ages (me + 1) = upTo me ages me := by
  apply List.ext_getElem
  · simp [upTo]
  · intro i h1 h2
    simp only [upTo, List.getElem_mapIdx]
    by_cases h : i = me
    · simp [h]
    · have : i < me + 1 ↔ i < me := by omega
      simp [h, this]
theorem upTo_set (me : Nat) (ages : List Nat) (k : Nat) (hk : k < ages.length) (hne : k ≠ me) : (upTo me ages k).set k (min (ages.getD k 0 + 1) 1073741824) = upTo me ages (k + 1) := by
  apply List.ext_getElem
  · simp [upTo]
  · intro i h1 h2
    have hi : i < ages.length := by simpa [upTo] using h2
    simp only [upTo, List.getElem_mapIdx, List.getElem_set]
    by_cases h : k = i
    · subst h
      simp [hne, List.getD, hk]
    · have : i < k + 1 ↔ i < k := by omega
      simp [h, this]
end Go.Proofs.Yteebefkojbdfjaa
