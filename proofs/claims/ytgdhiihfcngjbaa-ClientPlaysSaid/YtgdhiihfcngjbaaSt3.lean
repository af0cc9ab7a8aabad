/- choirseat.value. -/
import Derived.Test.YtgdhiihfcngjbaaSt2
import Derived.Laws.FloatBits
import Derived.Deep.CutRange
import Derived.Test.YtgdhiihfcngjbaaReplyRef
set_option linter.unusedSimpArgs false
set_option linter.unusedVariables false
namespace Go.Proofs.Ytgdhiihfcngjbaa
open Go.RowKit
set_option maxRecDepth 100000

theorem f64_lt (d : Ieee.Datum) : FloatKind.f64.format.write d < 18446744073709551616 := by
  have := FloatKind.f64.format.write_lt d
  have h : (2 : Nat) ^ FloatKind.f64.format.width = 18446744073709551616 := by decide
  rw [h] at this
  exact this
/-- A quotient: bits, and a world that drew or did not. -/
theorem quo_any {P : Program} (t : TypeId) (x y : Nat) (w : World) : ∃ r w', (binOp .quo t (.float .f64 x) (.float .f64 y)).run P w = .ok (.float .f64 r) w' ∧ (w' = w ∨ w' = w.drew) ∧ r < 18446744073709551616 := by
  cases h : FloatKind.f64.format.div x y with
  | some r =>
    refine ⟨r, w, by simp [binOp, Op.floatArith, h], .inl rfl, ?_⟩
    have := FloatKind.f64.format.div_lt h
    have h2 : (2 : Nat) ^ FloatKind.f64.format.width = 18446744073709551616 := by decide
    rw [h2] at this
    exact this
  | none =>
    refine ⟨_, w.drew, by simp [binOp, Op.floatArith, h, choose]; rfl, .inr rfl, ?_⟩
    simp [Question.nanBits, Question.cut]
    generalize w.tape w.drawn _ = z
    have hy : z / 2 % 4503599627370495 < 4503599627370495 := Nat.mod_lt _ (by decide)
    generalize z / 2 % 4503599627370495 = y at hy ⊢
    rcases (by omega : z % 2 = 0 ∨ z % 2 = 1) with h | h <;> rw [h] <;> omega

/-- Two values in a row of their own. -/
theorem row_two {w w1 w2 : World} {b : Nat} {u v : Val} {a0 a1 a2 a3 a4 b0 b1 b2 b3 b4 : Value} (hu : VOwn w (fun g => b ≤ g) u #[a0, a1, a2, a3, a4]) (hv : VOwn w (fun g => b ≤ g) v #[b0, b1, b2, b3, b4]) (hb : b ≤ w.heap.size) :
    VRow (w.alloc (.cells #[a0, a1, a2, a3, a4, b0, b1, b2, b3, b4] 37)) b [u, v] (some ⟨w.heap.size, 0, none⟩) 2 [a0, a1, a2, a3, a4, b0, b1, b2, b3, b4] (fun k => if k = 0 then #[a0, a1, a2, a3, a4] else #[b0, b1, b2, b3, b4]) := by
  have hk : ∀ x cs, VOwn w (fun g => b ≤ g) x cs → VOwn (w.alloc (.cells #[a0, a1, a2, a3, a4, b0, b1, b2, b3, b4] 37)) (fun g => b ≤ g ∧ some g ≠ bOf (some (⟨w.heap.size, 0, none⟩ : Addr))) x cs := fun x cs h => by
    have h1 := h.mono (Q := fun g => b ≤ g ∧ some g ≠ bOf (some (⟨w.heap.size, 0, none⟩ : Addr))) (fun g hg hb => ⟨hb, fun e => by simp [bOf] at e; omega⟩)
    exact h1.upd ((Upd.refl (fun _ => False) w).alloc _) (fun _ _ h => h)
  refine ⟨Own.new w 37 5 2 _ rfl (by decide), fun g hg => by simp [bOf] at hg; omega, fun k x hx => ?_, fun k hk => ?_⟩
  · rcases k with _ | _ | k
    · cases hx; exact hk _ _ hu
    · cases hx; exact hk _ _ hv
    · cases hx
  · have : k = 0 ∨ k = 1 := by simp at hk; omega
    rcases this with rfl | rfl <;> rfl
theorem row_one {w : World} {b : Nat} {u : Val} {a0 a1 a2 a3 a4 : Value} (hu : VOwn w (fun g => b ≤ g) u #[a0, a1, a2, a3, a4]) (hb : b ≤ w.heap.size) :
    VRow (w.alloc (.cells #[a0, a1, a2, a3, a4] 37)) b [u] (some ⟨w.heap.size, 0, none⟩) 1 [a0, a1, a2, a3, a4] (fun _ => #[a0, a1, a2, a3, a4]) := by
  refine ⟨Own.new w 37 5 1 _ rfl (by decide), fun g hg => by simp [bOf] at hg; omega, fun k x hx => ?_, fun k hk => ?_⟩
  · rcases k with _ | k
    · cases hx
      have h1 := hu.mono (Q := fun g => b ≤ g ∧ some g ≠ bOf (some (⟨w.heap.size, 0, none⟩ : Addr))) (fun g hg hb => ⟨hb, fun e => by simp [bOf] at e; omega⟩)
      exact h1.upd ((Upd.refl (fun _ => False) w).alloc _) (fun _ _ h => h)
    · cases hx
  · have : k = 0 := by simp at hk; omega
    subst this; rfl
/-- A value list whose items are in a row of their own. -/
theorem own_list {w : World} {b : Nat} {l : List Val} {A : Option Addr} {c : Nat} {xs : List Value} {css : Nat → Array Value} (R : VRow w b l A c xs css) (hl : l.length ≤ 64) : VOwn w (fun g => b ≤ g) (.mk 4 0 0 [] l) #[.int .i64 4, .int .i64 0, .float .f64 0, .string ⟨#[]⟩, .slice A l.length c] :=
  .mk css (by omega) R.ho R.hA (fun j v hv => (R.hx j v hv).mono (fun g _ hg => hg.1)) R.hxs

theorem seat_two {d n : Nat} {u v : Val} (hu : SeatV d n u) (hv : SeatV d n v) : SeatV (d + 1) (2 + 2 * n) (.mk 4 0 0 [] [u, v]) :=
  seat_list (l := [u, v]) (fun x hx => by
    simp only [List.mem_cons, List.not_mem_nil, or_false] at hx
    rcases hx with rfl | rfl
    · exact hu
    · exact hv) (by simp)

end Go.Proofs.Ytgdhiihfcngjbaa
