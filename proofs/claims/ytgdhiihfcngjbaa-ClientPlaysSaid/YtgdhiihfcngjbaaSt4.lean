/- choirseat.args. -/
import Derived.Test.YtgdhiihfcngjbaaSt3
set_option linter.unusedSimpArgs false
set_option linter.unusedVariables false
namespace Go.Proofs.Ytgdhiihfcngjbaa
open Go.RowKit
set_option maxRecDepth 100000

theorem int_any {i : Int} (w : World) (hi : -9223372036854775808 ≤ i ∧ i ≤ 9223372036854775807) : Calls Try.prog 22 #[.int .i64 i] w (ValS 0 103 w) := (int_val w hi).mono fun e w' ⟨h1, h2, h3, h4⟩ => ⟨_, _, h1, h2, h3, h4⟩
theorem float_any {f : Nat} (w : World) (hf : f < 18446744073709551616) : Calls Try.prog 51 #[.float .f64 f] w (ValS 0 103 w) := (float_val w hf).mono fun e w' ⟨h1, h2, h3, h4⟩ => ⟨_, _, h1, h2, h3, h4⟩
theorem text_any {S : ByteArray} (w : World) (h : S.size ≤ 100) : Calls Try.prog 52 #[.string S] w (ValS 0 103 w) := (text_val w h).mono fun e w' ⟨h1, h2, h3, h4⟩ => ⟨_, _, h1, h2, h3, h4⟩
theorem row_three {w : World} {b : Nat} {u v x : Val} {a0 a1 a2 a3 a4 b0 b1 b2 b3 b4 d0 d1 d2 d3 d4 : Value} (hu : VOwn w (fun g => b ≤ g) u #[a0, a1, a2, a3, a4]) (hv : VOwn w (fun g => b ≤ g) v #[b0, b1, b2, b3, b4]) (hx : VOwn w (fun g => b ≤ g) x #[d0, d1, d2, d3, d4]) (hb : b ≤ w.heap.size) :
    VRow (w.alloc (.cells #[a0, a1, a2, a3, a4, b0, b1, b2, b3, b4, d0, d1, d2, d3, d4] 37)) b [u, v, x] (some ⟨w.heap.size, 0, none⟩) 3 [a0, a1, a2, a3, a4, b0, b1, b2, b3, b4, d0, d1, d2, d3, d4] (fun k => if k = 0 then #[a0, a1, a2, a3, a4] else if k = 1 then #[b0, b1, b2, b3, b4] else #[d0, d1, d2, d3, d4]) := by
  have hk : ∀ y cs, VOwn w (fun g => b ≤ g) y cs → VOwn (w.alloc (.cells #[a0, a1, a2, a3, a4, b0, b1, b2, b3, b4, d0, d1, d2, d3, d4] 37)) (fun g => b ≤ g ∧ some g ≠ bOf (some (⟨w.heap.size, 0, none⟩ : Addr))) y cs := fun y cs h => by
    have h1 := h.mono (Q := fun g => b ≤ g ∧ some g ≠ bOf (some (⟨w.heap.size, 0, none⟩ : Addr))) (fun g hg hb => ⟨hb, fun e => by simp [bOf] at e; omega⟩)
    exact h1.upd ((Upd.refl (fun _ => False) w).alloc _) (fun _ _ h => h)
  refine ⟨Own.new w 37 5 3 _ rfl (by decide), fun g hg => by simp [bOf] at hg; omega, fun k y hy => ?_, fun k hk => ?_⟩
  · rcases k with _ | _ | _ | k
    · cases hy; exact hk _ _ hu
    · cases hy; exact hk _ _ hv
    · cases hy; exact hk _ _ hx
    · cases hy
  · have : k = 0 ∨ k = 1 ∨ k = 2 := by simp at hk; omega
    rcases this with rfl | rfl | rfl <;> rfl

theorem all_1 {P : Val → Prop} {a : Val} (h1 : P a) : ∀ u ∈ [a], P u := fun u hu => by
  simp only [List.mem_cons, List.not_mem_nil, or_false] at hu
  subst hu; exact h1
theorem all_2 {P : Val → Prop} {a b : Val} (h1 : P a) (h2 : P b) : ∀ u ∈ [a, b], P u := fun u hu => by
  simp only [List.mem_cons, List.not_mem_nil, or_false] at hu
  rcases hu with rfl | rfl
  · exact h1
  · exact h2
theorem all_3 {P : Val → Prop} {a b c : Val} (h1 : P a) (h2 : P b) (h3 : P c) : ∀ u ∈ [a, b, c], P u := fun u hu => by
  simp only [List.mem_cons, List.not_mem_nil, or_false] at hu
  rcases hu with rfl | rfl | rfl
  · exact h1
  · exact h2
  · exact h3
/-- Arguments as the seat makes them, in new memory. -/
def ArgS (w : World) (e : Ending) (w' : World) : Prop :=
  ∃ A c l xs css, e = .returned (.slice A l.length c) ∧ VRow w' w.heap.size l A c xs css ∧ (∀ v ∈ l, SeatV 1 220 v) ∧ l.length ≤ 3 ∧ Below w.heap.size w w'

end Go.Proofs.Ytgdhiihfcngjbaa
