/- Logs of entries, as the machine holds them; the last one's view; a log clipped, cloned. -/
import Derived.Test.YtlkokkbikkbaoaaJPl
import Derived.Test.YtlkokkbikkbaoaaB5
set_option linter.unusedSimpArgs false
set_option linter.unusedVariables false
set_option linter.unusedSimpArgs false
set_option linter.unusedVariables false
namespace Go.Proofs.Ytlkokkbikkbaoaa
open Go.RowKit
set_option maxRecDepth 100000

theorem info_ent : (Try.prog.info? 42).map (fun i => (i.zero, i.size, i.bytes)) = some (some (.agg #[.int .u64 0, .int .u32 0, .int .u32 0, .int .u16 0, .string ⟨#[]⟩, .string ⟨#[]⟩, .slice none 0 0]), 7, 80) := by kernel_rfl

/-- A log that the machine reads. -/
structure LogR (w : World) (B : Nat) (A : Option Addr) (c : Nat) (l : List (Nat × OpD)) (xs : List Value) (css : Nat → Array Value) : Prop where
  r : Reads w B 7 A l.length xs
  hc : l.length ≤ c
  hA : A = none → c = 0
  hx : ∀ j x, l[j]? = some x → OpReads w B x.2 (css j)
  hxs : ∀ j x, l[j]? = some x → (xs.drop (j * 7)).take 7 = Value.int .u64 (x.1 : Int) :: (css j).toList
  hv : ∀ x ∈ l, x.1 < 18446744073709551616
  one : ∀ u ∈ xs, u.oneCell' = true

theorem LogR.nil (w : World) (B : Nat) : LogR w B none 0 [] [] (fun _ => #[]) := ⟨Reads.none_, Nat.le_refl _, fun _ => rfl, by simp, by simp, by simp, by simp⟩
theorem LogR.below {w w' : World} {B c : Nat} {A : Option Addr} {l : List (Nat × OpD)} {xs : List Value} {css : Nat → Array Value} (h : LogR w B A c l xs css) (hb : Below B w w') : LogR w' B A c l xs css :=
  ⟨h.r.below hb, h.hc, h.hA, fun j x hj => (h.hx j x hj).below hb, h.hxs, h.hv, h.one⟩
theorem LogR.up {w : World} {B B' c : Nat} {A : Option Addr} {l : List (Nat × OpD)} {xs : List Value} {css : Nat → Array Value} (h : LogR w B A c l xs css) (hB : B ≤ B') : LogR w B' A c l xs css :=
  ⟨h.r.more hB, h.hc, h.hA, fun j x hj => (h.hx j x hj).up hB, h.hxs, h.hv, h.one⟩
theorem LogR.first {w : World} {B c : Nat} {A : Option Addr} {l : List (Nat × OpD)} {xs : List Value} {css : Nat → Array Value} (h : LogR w B A c l xs css) {k : Nat} (hk : k ≤ l.length) : LogR w B A c (l.take k) (xs.take (k * 7)) css := by
  have hl : (l.take k).length = k := by rw [List.length_take]; omega
  refine ⟨by rw [hl]; exact h.r.first hk, by rw [hl]; exact Nat.le_trans hk h.hc, h.hA, fun j x hj => ?_, fun j x hj => ?_, fun x hx => h.hv x (List.mem_of_mem_take hx), fun u hu => h.one u (List.mem_of_mem_take hu)⟩
  · rw [List.getElem?_take] at hj
    split at hj
    · exact h.hx j x hj
    · cases hj
  · rw [List.getElem?_take] at hj
    split at hj
    · rename_i hjk
      rw [← h.hxs j x hj, List.drop_take, List.take_take, Nat.min_eq_left (by omega)]
    · cases hj
/-- The same cells in a row of its own. -/
theorem LogR.move {w w' : World} {B c c' : Nat} {A A' : Option Addr} {l : List (Nat × OpD)} {xs : List Value} {css : Nat → Array Value} (h : LogR w B A c l xs css) (hb : Below B w w') (hB : B ≤ w.heap.size) (ho : Own w' 42 7 A' l.length c' xs) : LogR w' w'.heap.size A' c' l xs css := by
  have h1 := (h.below hb).up (Nat.le_trans hB hb.size)
  refine ⟨ho.reads_, ho.le_cap, fun e => ?_, h1.hx, h1.hxs, h1.hv, h1.one⟩
  rcases ho.2 with ⟨_, _, hc⟩ | ⟨g, cur, hA, _⟩
  · exact hc
  · rw [e] at hA; cases hA
/-- An entry more, in a row of its own. -/
theorem LogR.push {w w' : World} {B c c' v : Nat} {A A' : Option Addr} {l : List (Nat × OpD)} {xs : List Value} {css : Nat → Array Value} {o : OpD} {cs : Array Value} (h : LogR w B A c l xs css) (hb : Below B w w') (hB : B ≤ w.heap.size)
    (ho : Own w' 42 7 A' (l.length + 1) c' (xs ++ (Value.int .u64 (v : Int) :: cs.toList))) (hop : OpReads w' w'.heap.size o cs) (hv : v < 18446744073709551616) :
    LogR w' w'.heap.size A' c' (l ++ [(v, o)]) (xs ++ (Value.int .u64 (v : Int) :: cs.toList)) (fun k => if k = l.length then cs else css k) := by
  have h1 := (h.below hb).up (Nat.le_trans hB hb.size)
  have hl : (l ++ [(v, o)]).length = l.length + 1 := by simp
  have hlx := h.r.len
  have hcs : cs.toList.length = 6 := by
    obtain ⟨_, _, _, _, rfl, _⟩ := hop
    rfl
  refine ⟨by rw [hl]; exact ho.reads_, by rw [hl]; exact ho.le_cap, fun e => ?_, fun j x hj => ?_, fun j x hj => ?_, fun x hx => ?_, fun u hu => ?_⟩
  · rcases ho.2 with ⟨_, _, hc⟩ | ⟨g, cur, hA, _⟩
    · exact hc
    · rw [e] at hA; cases hA
  · rcases Nat.lt_trichotomy j l.length with hjl | hjl | hjl
    · rw [if_neg (by omega)]
      rw [List.getElem?_append_left hjl] at hj
      exact h1.hx j x hj
    · subst hjl
      rw [if_pos rfl]
      simp at hj
      subst hj
      exact hop
    · rw [List.getElem?_eq_none (by omega)] at hj; cases hj
  · rcases Nat.lt_trichotomy j l.length with hjl | hjl | hjl
    · rw [if_neg (by omega)]
      rw [List.getElem?_append_left hjl] at hj
      rw [← h1.hxs j x hj, List.drop_append_of_le_length (by omega), List.take_append_of_le_length (by rw [List.length_drop]; omega)]
    · subst hjl
      rw [if_pos rfl]
      simp at hj
      subst hj
      rw [List.drop_left' hlx]
      exact List.take_of_length_le (by simp [hcs])
    · rw [List.getElem?_eq_none (by omega)] at hj; cases hj
  · rw [List.mem_append] at hx
    rcases hx with hx | hx
    · exact h1.hv x hx
    · simp at hx; subst hx; exact hv
  · rw [List.mem_append] at hu
    rcases hu with hu | hu
    · exact h1.one u hu
    · obtain ⟨_, _, _, _, rfl, _⟩ := hop
      simp at hu
      rcases hu with rfl | rfl | rfl | rfl | rfl | rfl | rfl <;> rfl
/-- The cells of an entry in a log's row. -/
theorem LogR.cell {w : World} {B c : Nat} {A : Option Addr} {l : List (Nat × OpD)} {xs : List Value} {css : Nat → Array Value} (h : LogR w B A c l xs css) {j : Nat} {x : Nat × OpD} (hj : l[j]? = some x) :
    ∃ ad, A = some ad ∧ ad.block < B ∧ (∀ i u, (Value.int .u64 (x.1 : Int) :: (css j).toList)[i]? = some u → w.cell? (ad.add (j * 7 + i)) = some u) := by
  have hjl : j < l.length := by
    rcases Nat.lt_or_ge j l.length with h' | h'
    · exact h'
    · rw [List.getElem?_eq_none h'] at hj; cases hj
  obtain ⟨ad, rfl, hb, hc⟩ := h.r.2 (by omega)
  refine ⟨ad, rfl, hb, fun i u hi => hc _ u ?_⟩
  rw [← h.hxs j x hj, List.getElem?_take] at hi
  split at hi
  · rw [List.getElem?_drop] at hi; exact hi
  · cases hi

theorem lastV_get {l : List (Nat × OpD)} (h : 0 < l.length) : ∃ x, l[l.length - 1]? = some x ∧ lastV l = x.1 := by
  cases hx : l[l.length - 1]? with
  | none => rw [List.getElem?_eq_none_iff] at hx; omega
  | some x =>
    refine ⟨x, rfl, ?_⟩
    unfold lastV
    rw [List.getLast?_eq_getElem?, hx]
end Go.Proofs.Ytlkokkbikkbaoaa
