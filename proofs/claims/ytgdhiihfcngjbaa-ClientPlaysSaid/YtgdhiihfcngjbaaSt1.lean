/- Texts of the seat: names, classes, methods. -/
import Derived.Test.YtgdhiihfcngjbaaOpCl
import Derived.Test.YtgdhiihfcngjbaaAlt
set_option linter.unusedSimpArgs false
set_option linter.unusedVariables false
namespace Go.Proofs.Ytgdhiihfcngjbaa
open Go.RowKit
set_option maxRecDepth 100000

theorem info_str : (Try.prog.info? 9).map (fun i => (i.zero, i.size, i.bytes)) = some (some (.string ⟨#[]⟩), 1, 16) := by kernel_rfl
/-- A row of short texts. -/
def Strs (w : World) (B : Nat) (A : Option Addr) (n : Nat) : Prop := ∃ xs, Reads w B 1 A n xs ∧ ∀ j, j < n → ∃ s : List UInt8, xs[j]? = some (.string (bstr s)) ∧ s.length ≤ 8
theorem Strs.below {w w' : World} {B n : Nat} {A : Option Addr} (h : Strs w B A n) (hb : Below B w w') : Strs w' B A n := by
  obtain ⟨xs, hr, hs⟩ := h
  exact ⟨xs, hr.below hb, hs⟩
theorem Strs.cell {w : World} {B n j : Nat} {A : Option Addr} (h : Strs w B A n) (hj : j < n) : ∃ ad s, A = some ad ∧ s.length ≤ 8 ∧ ∀ w', Below B w w' → w'.cell? (ad.add j) = some (.string (bstr s)) := by
  obtain ⟨xs, hr, hs⟩ := h
  obtain ⟨s, hx, hl⟩ := hs j hj
  obtain ⟨ad, rfl, -, hc⟩ := hr.2 (by omega)
  refine ⟨ad, s, rfl, hl, fun w' hb => ?_⟩
  obtain ⟨ad', e, -, hc'⟩ := (hr.below hb).2 (by omega)
  cases e
  exact hc' j _ hx
theorem Strs.lit (w : World) (l : List (List UInt8)) (t : TypeId) (cs : Array Value) (hcs : cs.toList = l.map fun s => Value.string (bstr s)) (hl : ∀ s ∈ l, s.length ≤ 8) : Strs (w.alloc (.cells cs t)) (w.heap.size + 1) (some ⟨w.heap.size, 0, none⟩) l.length := by
  refine ⟨_, Reads.lit w cs t (0, 0) l.length _ hcs (by simp), fun j hj => ⟨l[j], ?_, hl _ (List.getElem_mem hj)⟩⟩
  rw [List.getElem?_map, List.getElem?_eq_getElem hj]
  rfl

def classes : List (List UInt8) := [[99, 111, 117, 110, 116, 101, 114], [108, 101, 100, 103, 101, 114], [111, 114, 99, 104], [113, 117, 101, 117, 101], [114, 101, 103, 105, 115, 116, 101, 114], [116, 97, 98, 108, 101]]
/-- One of the six classes. -/
def IsClass (s : ByteArray) : Prop := ∃ c ∈ classes, s = bstr c
/-- A class's methods: rows of three cells, the first a short text. -/
def Meths (w : World) (B : Nat) (A : Option Addr) (n : Nat) : Prop := ∃ xs, Reads w B 3 A n xs ∧ ∀ j, j < n → ∃ s : List UInt8, xs[j * 3]? = some (.string (bstr s)) ∧ s.length ≤ 8
theorem Meths.below {w w' : World} {B n : Nat} {A : Option Addr} (h : Meths w B A n) (hb : Below B w w') : Meths w' B A n := by
  obtain ⟨xs, hr, hs⟩ := h
  exact ⟨xs, hr.below hb, hs⟩
def MethsRes (w : World) (e : Ending) (w' : World) : Prop := ∃ A n c, e = .returned (.slice A n c) ∧ 0 < n ∧ n ≤ 7 ∧ n ≤ c ∧ Meths w' w'.heap.size A n ∧ Below w.heap.size w w'

def StrsRes (w : World) (e : Ending) (w' : World) : Prop := ∃ A n c, e = .returned (.slice A n c) ∧ 0 < n ∧ n ≤ 7 ∧ n ≤ c ∧ Strs w' w'.heap.size A n ∧ Below w.heap.size w w'
structure MeRel (w w1 wr : World) (N j : Nat) (A1 : Option Addr) (c1 : Nat) (xs1 : List Value) : Prop where
  jN : j ≤ N
  ho : Own wr 9 1 A1 j c1 xs1
  hA : ∀ g, bOf A1 = some g → w1.heap.size ≤ g
  hx : ∀ i, i < j → ∃ s : List UInt8, xs1[i]? = some (.string (bstr s)) ∧ s.length ≤ 8
  hb : Below w1.heap.size w1 wr

end Go.Proofs.Ytgdhiihfcngjbaa
