/- Calls: the chapter's example. -/
import Derived.Test.YtgdhiihfcngjbaaOpEnc
import Derived.Test.YtgdhiihfcngjbaaOpB
import Derived.Test.YtgdhiihfcngjbaaMore
set_option linter.unusedSimpArgs false
set_option linter.unusedVariables false
namespace Go.Proofs.Ytgdhiihfcngjbaa
open Go.RowKit
set_option maxRecDepth 100000

def op0 : OpD := ⟨1, 2, 0, [103], [109], [.mk 1 3 0 [] []]⟩
theorem val1_reads (w : World) (B : Nat) (k i : Int) (f : Nat) : VReads w B (.mk k i f [] []) #[.int .i64 k, .int .i64 i, .float .f64 f, .string ⟨#[]⟩, .slice none 0 0] :=
  .mk (l := []) (s := []) (A := none) (c := 0) (xs := []) (fun _ => #[]) (by simp) ⟨rfl, by simp⟩ (by simp) (by simp)
theorem val1_ok (k i : Int) (f : Nat) (hf : f < 18446744073709551616) (hi : -9223372036854775808 ≤ i ∧ i ≤ 9223372036854775807) : OkV (.mk k i f [] []) := .mk hf hi (by simp) (by simp)
theorem op0_ok : ∀ v ∈ op0.l, OkV v := by
  intro v hv
  simp [op0] at hv
  subst hv
  exact val1_ok 1 3 0 (by decide) (by decide)
theorem op0_reads {w : World} {g : Nat} {t : TypeId} (h : Blk w g t #[.int .i64 1, .int .i64 3, .float .f64 0, .string ⟨#[]⟩, .slice none 0 0]) (c : Nat) :
    OpReads w w.heap.size op0 #[.int .u32 1, .int .u32 2, .int .u16 0, .string ⟨#[103]⟩, .string ⟨#[109]⟩, .slice (some ⟨g, 0, none⟩) 1 c] := by
  refine ⟨some ⟨g, 0, none⟩, c, [.int .i64 1, .int .i64 3, .float .f64 0, .string ⟨#[]⟩, .slice none 0 0], fun _ => #[.int .i64 1, .int .i64 3, .float .f64 0, .string ⟨#[]⟩, .slice none 0 0], rfl, ⟨rfl, fun _ => ⟨⟨g, 0, none⟩, rfl, h.lt, fun j u hj => by rw [add_row]; exact (h.cell j).trans (by simpa using hj)⟩⟩, ?_, ?_, by decide, op0_ok, by decide, by decide, by decide⟩
  · intro j v hv
    cases j with
    | zero =>
      simp [op0] at hv
      subst hv
      exact val1_reads w _ 1 3 0
    | succ j => simp [op0] at hv
  · intro j hj
    have : j = 0 := by simp [op0] at hj; exact hj
    subst this
    rfl
theorem Blk.op6 {w : World} {g : Nat} {t : TypeId} {a b c d e f : Value} (h : Blk w g t #[a, b, c, d, e, f]) : w.cell? ⟨g, 0, none⟩ = some a ∧ w.cell? ⟨g, 1, none⟩ = some b ∧ w.cell? ⟨g, 2, none⟩ = some c ∧ w.cell? ⟨g, 3, none⟩ = some d ∧ w.cell? ⟨g, 4, none⟩ = some e ∧ w.cell? ⟨g, 5, none⟩ = some f := ⟨h.cell 0, h.cell 1, h.cell 2, h.cell 3, h.cell 4, h.cell 5⟩

theorem VReads.up {w : World} {B B' : Nat} {v : Val} {cs : Array Value} (h : VReads w B v cs) (hB : B ≤ B') : VReads w B' v cs := by
  induction h with
  | mk css hn hr hx hxs ih => exact .mk css hn (hr.more hB) (fun j v hv => ih j v hv) hxs
theorem OpReads.up {w : World} {B B' : Nat} {o : OpD} {cs : Array Value} (h : OpReads w B o cs) (hB : B ≤ B') : OpReads w B' o cs := by
  obtain ⟨A, cc, xs, css, h1, h2, h3, h4, h5, h6⟩ := h
  exact ⟨A, cc, xs, css, h1, h2.more hB, fun j v hv => (h3 j v hv).up hB, h4, h5, h6⟩
theorem op_of_row {w : World} {b : Nat} {o : OpD} {A : Option Addr} {c : Nat} {xs : List Value} {css : Nat → Array Value} (R : VRow w b o.l A c xs css) (hn : o.l.length ≤ 2199023255488) (hok : ∀ v ∈ o.l, OkV v) (h1 : o.c < 4294967296) (h2 : o.s < 4294967296) (h3 : o.n < 65536) :
    OpReads w w.heap.size o #[.int .u32 o.c, .int .u32 o.s, .int .u16 o.n, .string (bstr o.g), .string (bstr o.m), .slice A o.l.length c] :=
  ⟨A, c, xs, css, rfl, R.ho.reads_, fun j v hv => (R.hx j v hv).reads, R.hxs, hn, hok, h1, h2, h3⟩

end Go.Proofs.Ytgdhiihfcngjbaa
