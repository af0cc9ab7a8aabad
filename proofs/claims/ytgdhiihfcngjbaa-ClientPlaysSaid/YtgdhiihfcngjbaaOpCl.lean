/- Calls cleaned, by the program and by the document, as calls that the machine reads. -/
import Derived.Test.YtgdhiihfcngjbaaCallKnown
set_option linter.unusedSimpArgs false
set_option linter.unusedVariables false
namespace Go.Proofs.Ytgdhiihfcngjbaa
open Go.RowKit
set_option maxRecDepth 100000

theorem clean_okv {v : Val} (h : OkV v) : OkV (cleanV v) := by
  induction h with
  | @mk k i f s l h1 h2 h3 h4 ih =>
    have hl : ∀ x ∈ cleanL l, OkV x := by
      intro x hx
      rw [cleanL_map, List.mem_map] at hx
      obtain ⟨v, hv, rfl⟩ := hx
      exact ih v hv
    unfold cleanV
    split
    · exact .mk (by decide) h2 (by simp) (by simp)
    split
    · exact .mk (cb_lt h1) (by decide) (by simp) (by simp)
    split
    · exact .mk (by decide) (by decide) (by simp) (by simp)
    split
    · exact .mk (by decide) (by decide) hl (by rw [cleanL_map, List.length_map]; exact h4)
    · exact .mk (by decide) (by decide) (by simp) (by simp)

def OpCl (w : World) (o : OpD) (gg mm : ByteArray) (L : Nat) (e : Ending) (w' : World) : Prop :=
  ∃ A' c', e = .returned (.agg #[.int .u32 (o.c : Int), .int .u32 (o.s : Int), .int .u16 (o.n : Int), .string gg, .string mm, .slice A' L c']) ∧ OpReads w' w'.heap.size o #[.int .u32 (o.c : Int), .int .u32 (o.s : Int), .int .u16 (o.n : Int), .string gg, .string mm, .slice A' L c'] ∧ Below w.heap.size w w'

theorem opcl_of {w : World} {c s n : Nat} {g m : List UInt8} {l : List Val} (hll : l.length ≤ 2199023255488) (hok : ∀ v ∈ l, OkV v) (hc : c < 4294967296) (hs : s < 4294967296) (hn : n < 65536) (e : Ending) (w' : World) (h : OpCleanRes w (c : Int) (s : Int) (n : Int) (bstr g) (bstr m) l e w') :
    OpCl w ⟨c, s, n, g, m, l.map cleanV⟩ (bstr g) (bstr m) l.length e w' := by
  obtain ⟨A', c', xs', css', rfl, R, hb⟩ := h
  have := op_of_row (o := ⟨c, s, n, g, m, l.map cleanV⟩) R (by simp only [List.length_map]; exact hll) (fun v hv => by
    simp only [List.mem_map] at hv
    obtain ⟨u, hu, rfl⟩ := hv
    exact clean_okv (hok u hu)) hc hs hn
  simp only [List.length_map] at this
  exact ⟨A', c', rfl, this, hb⟩

theorem op_parts {w : World} {B c s n : Nat} {g m : List UInt8} {l : List Val} {gg mm : ByteArray} {A : Option Addr} {L cc : Nat} (h : OpReads w B ⟨c, s, n, g, m, l⟩ #[.int .u32 (c : Int), .int .u32 (s : Int), .int .u16 (n : Int), .string gg, .string mm, .slice A L cc]) :
    gg = bstr g ∧ mm = bstr m ∧ L = l.length := by
  obtain ⟨A0, cc0, xs, css, hcs, -⟩ := h
  simp at hcs
  exact ⟨hcs.1, hcs.2.1, hcs.2.2.2.1⟩

theorem clean_prog {w : World} {B c s n : Nat} {g m : List UInt8} {l : List Val} {gg mm : ByteArray} {A : Option Addr} {L cc : Nat} (h : OpReads w B ⟨c, s, n, g, m, l⟩ #[.int .u32 (c : Int), .int .u32 (s : Int), .int .u16 (n : Int), .string gg, .string mm, .slice A L cc]) (hB : B ≤ w.heap.size) :
    Calls Try.prog 26 #[.agg #[.int .u32 (c : Int), .int .u32 (s : Int), .int .u16 (n : Int), .string gg, .string mm, .slice A L cc]] w (OpCl w ⟨c, s, n, g, m, l.map cleanV⟩ gg mm L) := by
  obtain ⟨rfl, rfl, rfl⟩ := op_parts h
  obtain ⟨A0, cc0, xs, css, hcs, hr, hx, hxs, hll, hok, hc, hs, hn⟩ := h
  simp at hcs
  obtain ⟨rfl, rfl⟩ := hcs
  exact (op_clean hr hB hxs hx hll (fun j v hv w1 hb1 => val_clean_s (hx j v hv) w1 (short_of_ok (hok v (List.mem_of_getElem? hv))) (hb1.mono hB) (Nat.le_trans hB hb1.size))).mono (opcl_of hll hok hc hs hn)

/-- A call's own row, read; of the length given. -/
theorem opread_reads {w w' : World} {o : OpD} {A' : Option Addr} {c' L : Nat} {xs : List Value} {css : Nat → Array Value} (R : VRow w' w.heap.size o.l A' c' xs css) (hL : o.l.length = L) (h16 : L ≤ 2199023255488) (hok : ∀ v ∈ o.l, OkV v) (h1 : o.c < 4294967296) (h2 : o.s < 4294967296) (h3 : o.n < 65536) :
    OpReads w' w'.heap.size o #[.int .u32 (o.c : Int), .int .u32 (o.s : Int), .int .u16 (o.n : Int), .string (bstr o.g), .string (bstr o.m), .slice A' L c'] := by
  subst hL
  exact op_of_row R h16 hok h1 h2 h3
end Go.Proofs.Ytgdhiihfcngjbaa
