/- choirseat.nested: a step. -/
import Derived.Test.YtgdhiihfcngjbaaSt4
set_option linter.unusedSimpArgs false
set_option linter.unusedVariables false
namespace Go.Proofs.Ytgdhiihfcngjbaa
open Go.RowKit
set_option maxRecDepth 100000

/-- A row of values, appended to another one. -/
theorem VRow.append {w w8 : World} {b b2 c c2 c8 : Nat} {l l2 : List Val} {A A2 A8 : Option Addr} {xs xs2 : List Value} {css css2 : Nat → Array Value} (R : VRow w b l A c xs css) (R2 : VRow w b2 l2 A2 c2 xs2 css2) (hb2 : b ≤ b2) (hlt : ∀ g, bOf A = some g → g < b2) (hbw : b2 ≤ w.heap.size)
    (ho8 : Own w8 37 5 A8 (l.length + l2.length) c8 (xs ++ xs2)) (hg8 : w.grownBy w8 (bOf A)) (hat8 : bOf A8 = bOf A ∨ bOf A8 = some w.heap.size) :
    VRow w8 b (l ++ l2) A8 c8 (xs ++ xs2) (fun k => if k < l.length then css k else css2 (k - l.length)) := by
  have hxl : xs.length = l.length * 5 := R.ho.1
  have hu8 : Upd (fun x => some x = bOf A) w w8 := (Upd.refl _ w).grown hg8 (fun k e _ => e.symm)
  have hfresh : ∀ g, g < w.heap.size → some g ≠ bOf A → some g ≠ bOf A8 := by
    intro g hg hne
    rcases hat8 with e | e
    · rw [e]; exact hne
    · rw [e]
      intro e2
      cases e2
      omega
  refine ⟨by rw [List.length_append]; exact ho8, fun g hg => ?_, fun k u hu => ?_, fun k hk => ?_⟩
  · rcases hat8 with e | e
    · rw [e] at hg; exact R.hA g hg
    · rw [e] at hg; cases hg; omega
  · try dsimp only
    rcases Nat.lt_or_ge k l.length with hk | hk
    · rw [List.getElem?_append_left hk] at hu
      rw [if_pos hk]
      refine (((R.hx k u hu).mono (Q := fun g => (b ≤ g ∧ some g ≠ bOf A) ∧ g < w.heap.size) (fun g h1 h2 => ⟨h2, h1⟩)).upd hu8 (fun g hg e => hg.1.2 e)).mono (fun g _ hg => ⟨hg.1.1, hfresh g hg.2 hg.1.2⟩)
    · rw [List.getElem?_append_right hk] at hu
      rw [if_neg (by omega)]
      have hne : ∀ g, b2 ≤ g → some g ≠ bOf A := fun g hg e => by have := hlt g e.symm; omega
      refine (((R2.hx _ u hu).mono (Q := fun g => b2 ≤ g ∧ g < w.heap.size) (fun g h1 h2 => ⟨h2.1, h1⟩)).upd hu8 (fun g hg e => hne g hg.1 e)).mono (fun g _ hg => ⟨Nat.le_trans hb2 hg.1, hfresh g hg.2 (hne g hg.1)⟩)
  · try dsimp only
    rw [List.length_append] at hk
    rcases Nat.lt_or_ge k l.length with h | h
    · rw [if_pos h, ← R.hxs k h, List.drop_append_of_le_length (by omega), List.take_append_of_le_length (by rw [List.length_drop]; omega)]
    · rw [if_neg (by omega), ← R2.hxs (k - l.length) (by omega)]
      congr 1
      rw [List.drop_append, List.drop_eq_nil_of_le (by omega), List.nil_append, hxl]
      congr 1
      omega

theorem VRow.one {w : World} {b c : Nat} {l : List Val} {A : Option Addr} {xs : List Value} {css : Nat → Array Value} (R : VRow w b l A c xs css) : ∀ u ∈ xs, u.oneCell' = true := by
  intro u hu
  obtain ⟨q, hq, rfl⟩ := List.getElem_of_mem hu
  have hxl := R.ho.1
  have hj : q / 5 < l.length := by omega
  obtain ⟨v, hv⟩ : ∃ v, l[q / 5]? = some v := ⟨_, List.getElem?_eq_getElem hj⟩
  have hone := (R.hx _ v hv).one
  rw [← R.hxs _ hj] at hone
  refine hone _ ?_
  rw [List.mem_iff_getElem?]
  refine ⟨q % 5, ?_⟩
  rw [List.getElem?_take, if_pos (by omega), List.getElem?_drop, show q / 5 * 5 + q % 5 = q by omega]
  exact List.getElem?_eq_getElem hq

end Go.Proofs.Ytgdhiihfcngjbaa
