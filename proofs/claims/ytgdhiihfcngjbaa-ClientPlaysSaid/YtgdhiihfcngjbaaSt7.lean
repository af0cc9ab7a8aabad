/- choirseat.Op. -/
import Derived.Test.YtgdhiihfcngjbaaSt6
import Derived.Deep.CutRange
set_option linter.unusedSimpArgs false
set_option linter.unusedVariables false
namespace Go.Proofs.Ytgdhiihfcngjbaa
open Go.RowKit
set_option maxRecDepth 100000

/-- A row of values all of whose memory meets P. -/
structure VRowP (w : World) (P : Nat → Prop) (l : List Val) (A : Option Addr) (c : Nat) (xs : List Value) (css : Nat → Array Value) : Prop where
  ho : Own w 37 5 A l.length c xs
  hA : ∀ g, bOf A = some g → P g
  hx : ∀ k v, l[k]? = some v → VOwn w (fun g => P g ∧ some g ≠ bOf A) v (css k)
  hxs : ∀ k, k < l.length → (xs.drop (k * 5)).take 5 = (css k).toList
theorem VRow.toP {w : World} {b : Nat} {P : Nat → Prop} {l : List Val} {A : Option Addr} {c : Nat} {xs : List Value} {css : Nat → Array Value} (R : VRow w b l A c xs css) (hP : ∀ g, b ≤ g → g < w.heap.size → P g) : VRowP w P l A c xs css :=
  ⟨R.ho, fun g hg => hP g (R.hA g hg) (R.ho.lt hg), fun k v hv => (R.hx k v hv).mono (fun g h1 h2 => ⟨hP g h2.1 h1, h2.2⟩), R.hxs⟩
theorem VRowP.toRow {w : World} {b : Nat} {P : Nat → Prop} {l : List Val} {A : Option Addr} {c : Nat} {xs : List Value} {css : Nat → Array Value} (R : VRowP w P l A c xs css) (hP : ∀ g, P g → b ≤ g) : VRow w b l A c xs css :=
  ⟨R.ho, fun g hg => hP g (R.hA g hg), fun k v hv => (R.hx k v hv).mono (fun g _ h2 => ⟨hP g h2.1, h2.2⟩), R.hxs⟩
theorem VRowP.upd {w w' : World} {P S : Nat → Prop} {l : List Val} {A : Option Addr} {c : Nat} {xs : List Value} {css : Nat → Array Value} (R : VRowP w P l A c xs css) (hu : Upd S w w') (hS : ∀ g, P g → ¬ S g) : VRowP w' P l A c xs css :=
  ⟨R.ho.upd hu (fun g hg => hS g (R.hA g hg)), R.hA, fun k v hv => (R.hx k v hv).upd hu (fun g hg => hS g hg.1), R.hxs⟩
theorem VRowP.push {w w8 : World} {P : Nat → Prop} {c8 : Nat} {A8 : Option Addr} {v : Val} {cs : Array Value} {l : List Val} {A : Option Addr} {c : Nat} {xs : List Value} {css : Nat → Array Value} (R : VRowP w P l A c xs css) (hP : ∀ g, w.heap.size ≤ g → P g) (hv : VOwn w (fun g => P g ∧ some g ≠ bOf A) v cs)
    (ho8 : Own w8 37 5 A8 (l.length + 1) c8 (xs ++ cs.toList)) (hg8 : w.grownBy w8 (bOf A)) (hat8 : bOf A8 = bOf A ∨ bOf A8 = some w.heap.size) :
    VRowP w8 P (l ++ [v]) A8 c8 (xs ++ cs.toList) (fun k => if k = l.length then cs else css k) := by
  have hxl : xs.length = l.length * 5 := R.ho.1
  have hu8 : Upd (fun x => some x = bOf A) w w8 := (Upd.refl _ w).grown hg8 (fun k e _ => e.symm)
  have hfresh : ∀ g, g < w.heap.size → some g ≠ bOf A → some g ≠ bOf A8 := by
    intro g hg hne
    rcases hat8 with e | e
    · rw [e]; exact hne
    · rw [e]
      intro e2
      cases e2
      omega
  refine ⟨by rw [List.length_append]; exact ho8, fun g hg => ?_, fun k u hu => ?_, fun k hk => ?_⟩
  · rcases hat8 with e | e
    · rw [e] at hg; exact R.hA g hg
    · rw [e] at hg; cases hg; exact hP _ (Nat.le_refl _)
  · try dsimp only
    have go : ∀ x ds, VOwn w (fun g => P g ∧ some g ≠ bOf A) x ds → VOwn w8 (fun g => P g ∧ some g ≠ bOf A8) x ds := fun x ds h =>
      ((h.mono (Q := fun g => (P g ∧ some g ≠ bOf A) ∧ g < w.heap.size) (fun g h1 h2 => ⟨h2, h1⟩)).upd hu8 (fun g hg e => hg.1.2 e)).mono (fun g _ hg => ⟨hg.1.1, hfresh g hg.2 hg.1.2⟩)
    rcases Nat.lt_trichotomy k l.length with h | h | h
    · rw [List.getElem?_append_left h] at hu
      rw [if_neg (by omega)]
      exact go _ _ (R.hx k u hu)
    · subst h
      rw [List.getElem?_append_right (by omega)] at hu
      simp at hu
      subst hu
      rw [if_pos rfl]
      exact go _ _ hv
    · rw [List.getElem?_eq_none (by simp; omega)] at hu; cases hu
  · try dsimp only
    rw [List.length_append] at hk
    rcases Nat.lt_or_ge k l.length with h | h
    · rw [if_neg (by omega), ← R.hxs k h, List.drop_append_of_le_length (by omega), List.take_append_of_le_length (by rw [List.length_drop]; omega)]
    · have : k = l.length := by simp at hk; omega
      subst this
      rw [if_pos rfl, List.drop_left' hxl]
      exact List.take_of_length_le (by have := hv.size; simp [this])

end Go.Proofs.Ytgdhiihfcngjbaa
