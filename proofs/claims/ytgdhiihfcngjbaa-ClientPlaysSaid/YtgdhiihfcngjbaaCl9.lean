/- The stub's rows behind an answer: plain laws. -/
import Derived.Test.YtgdhiihfcngjbaaCl7
set_option linter.unusedSimpArgs false
set_option linter.unusedVariables false
namespace Go.Proofs.Ytgdhiihfcngjbaa
open Go.RowKit
set_option maxRecDepth 100000

/-- A row of eights without its i-th, eight by eight. -/
theorem del_window {xs : List Value} {i j : Nat} (hx : (i + 1) * 8 ≤ xs.length) : ((xs.take (i * 8) ++ xs.drop ((i + 1) * 8)).drop (j * 8)).take 8 = (xs.drop ((if j < i then j else j + 1) * 8)).take 8 := by
  have hl : (xs.take (i * 8)).length = i * 8 := by rw [List.length_take]; omega
  by_cases h : j < i
  · rw [if_pos h, List.drop_append_of_le_length (by omega), List.take_append_of_le_length (by rw [List.length_drop]; omega), List.drop_take, List.take_take, Nat.min_eq_left (by omega)]
  · rw [if_neg h, List.drop_append, hl, List.drop_eq_nil_of_le (by omega), List.nil_append, List.drop_drop]
    congr 2
    omega
theorem erase_at {α : Type} (l : List α) (i j : Nat) : (l.eraseIdx i)[j]? = l[if j < i then j else j + 1]? := by
  rw [List.getElem?_eraseIdx]
  split <;> rfl
theorem StubX.answered {w w5 w8 wE : World} {F : Nat → Prop} {g : Nat} {d : CliD} {gA c c2 c8 : Nat} {A2 A8 : Option Addr} {xs xs2 : List Value} {css css2 : Nat → Array Value} {v' : Val} {cs5 : Array Value} {rc rs rn j b : Nat} {er : Int}
    (h : StubX w F g d (some ⟨gA, 0, none⟩) c A2 c2 xs xs2 css css2) (hj : j < d.op.length) (hv5 : VOwn w5 (fun y => b ≤ y) v' cs5) (hwb : w.heap.size ≤ b) (hb5 : Below w.heap.size w w5) (hu58 : Upd (fun z => bOf A2 = some z) w5 w8) (hA8 : ∀ y, bOf A8 = some y → bOf A2 = some y ∨ w5.heap.size ≤ y)
    (hr8 : Own w8 39 9 A8 (d.rp.length + 1) c8 (xs2 ++ ([.int .u32 (rc : Int), .int .u32 (rs : Int), .int .u16 (rn : Int), .int .i64 er] ++ cs5.toList))) (huE : Upd (fun z => z = g ∨ z = gA) w8 wE)
    (hoE : Own wE 72 8 (some ⟨gA, 0, none⟩) (d.op.length - 1) c (xs.take (j * 8) ++ xs.drop ((j + 1) * 8))) (hbE : Blk wE g 67 #[.int .u32 (d.id : Int), .int .u32 (d.seq : Int), .slice (some ⟨gA, 0, none⟩) (d.op.length - 1) c, .slice A8 (d.rp.length + 1) c8]) (hr4 : d.rp.length < 1000000) :
    ∃ F', StubS wE F' g ⟨d.id, d.seq, d.op.eraseIdx j, d.rp ++ [⟨rc, rs, rn, er, v'⟩]⟩ ∧ ∀ y, F' y → F y ∨ w.heap.size ≤ y := by
  have hlx := h.ho.len
  have hlr := h.hr.len
  have hA2l : ∀ y, bOf A2 = some y → y < w.heap.size := fun y hy => h.hr.lt hy
  have hgl := h.blk.lt
  have hgAl := h.ft gA (h.fA gA rfl)
  have hgA := h.neA gA rfl
  have hAA : bOf A2 ≠ some gA := h.ho.ne_own h.hr (by decide) gA rfl
  have h5 := hb5.size
  have h58 := hu58.size
  have h8E := huE.size
  have hu5E : Upd (fun y => y = g ∨ y = gA ∨ bOf A2 = some y) w5 wE := (hu58.mono (fun _ _ e => .inr (.inr e))).trans (huE.mono (fun _ _ e => e.elim .inl (fun e => .inr (.inl e)))) (fun _ _ e => e)
  have hu : Upd (fun y => y = g ∨ y = gA ∨ bOf A2 = some y) w wE := (Upd.of_below_size hb5).trans hu5E (fun _ _ e => e)
  have hlen : (d.op.eraseIdx j).length = d.op.length - 1 := by rw [List.length_eraseIdx]; rw [if_pos hj]
  have hcs : cs5.toList.length = 5 := by
    obtain ⟨_, _, _, _, _, _, _, rfl⟩ := hv5.reads.form
    rfl
  have hr9 := hr8.upd huE (fun y hy e => by
    rcases hA8 y hy with h' | h'
    · rcases e with e | e
      · exact h.neA2 y h' e
      · subst e; exact hAA h'
    · omega)
  refine ⟨fun y => F y ∨ (w.heap.size ≤ y ∧ y < wE.heap.size), ⟨some ⟨gA, 0, none⟩, c, A8, c8, xs.take (j * 8) ++ xs.drop ((j + 1) * 8), xs2 ++ ([.int .u32 (rc : Int), .int .u32 (rs : Int), .int .u16 (rn : Int), .int .i64 er] ++ cs5.toList), fun k => css (if k < j then k else k + 1), fun k => if k = d.rp.length then cs5 else css2 k, by rw [hlen, List.length_append]; exact hbE, by rw [hlen]; exact hoE, by rw [List.length_append]; exact hr9, fun i x hi => ?_, fun i x hi => ?_, fun i x hi => ?_, fun i x hi => ?_, .inl h.fg, fun y hy => .inl (h.fA y hy), fun y hy => ?_, fun y hy => ?_, h.hid, h.hsq, by rw [hlen]; have := h.hn; show d.op.length - 1 ≤ 4; omega, by rw [List.length_append]; exact hr4⟩, fun y hy => hy.elim .inl (fun e => .inr e.1)⟩
  · rw [erase_at] at hi
    refine (h.hx _ x hi).next hu (fun y hy e => ?_) (fun y hy e => ?_)
    · rcases e with e | e | e
      · exact .inr (.inl e)
      · exact .inr (.inr (.inl (by rw [e]; rfl)))
      · exact .inr (.inr (.inr e))
    · rcases e with e | e | e | e
      · exact .inl (fun hf => e (.inl hf))
      · exact .inr (.inl e)
      · exact .inr (.inr (.inl e))
      · rcases hA8 y e with e | e
        · exact .inr (.inr (.inr e))
        · omega
  · rw [erase_at] at hi
    rw [del_window (by omega)]
    exact h.hxs _ x hi
  · rcases Nat.lt_trichotomy i d.rp.length with hil | hil | hil
    · rw [if_neg (by omega)]
      rw [List.getElem?_append_left hil] at hi
      refine ((h.rx i x hi).upd hu (fun y hy e => ?_)).mono (fun y _ hy => ⟨.inl hy.1, hy.2.1, hy.2.2.1, fun e => ?_⟩)
      · rcases e with e | e | e
        · exact hy.2.1 e
        · exact hy.2.2.1 (by rw [e]; rfl)
        · exact hy.2.2.2 e
      · rcases hA8 y e with e | e
        · exact hy.2.2.2 e
        · have := h.ft y hy.1; omega
    · subst hil
      rw [if_pos rfl]
      simp at hi
      subst hi
      have hlt5 : ∀ y, y < wE.heap.size → b ≤ y → F y ∨ (w.heap.size ≤ y ∧ y < wE.heap.size) := fun y h1 h2 => .inr ⟨by omega, h1⟩
      refine ((hv5.mono (Q := fun y => b ≤ y ∧ y < w5.heap.size) (fun y h1 h2 => ⟨h2, h1⟩)).upd hu5E (fun y hy e => ?_)).mono (fun y h1 hy => ⟨hlt5 y h1 hy.1, by omega, fun e => ?_, fun e => ?_⟩)
      · rcases e with e | e | e
        · omega
        · omega
        · have := hA2l y e; omega
      · have h2 : b ≤ y := hy.1
        have h3 : gA = y := by injection e
        omega
      · rcases hA8 y e with e | e
        · have := hA2l y e; omega
        · omega
    · rw [List.getElem?_eq_none (by simp; omega)] at hi; cases hi
  · rcases Nat.lt_trichotomy i d.rp.length with hil | hil | hil
    · rw [if_neg (by omega)]
      rw [List.getElem?_append_left hil] at hi
      rw [← h.rxs i x hi, List.drop_append_of_le_length (by omega), List.take_append_of_le_length (by rw [List.length_drop]; omega)]
    · subst hil
      rw [if_pos rfl]
      simp at hi
      subst hi
      rw [List.drop_left' hlr]
      exact List.take_of_length_le (by simp [hcs])
    · rw [List.getElem?_eq_none (by simp; omega)] at hi; cases hi
  · rcases hA8 y hy with e | e
    · exact .inl (h.fA2 y e)
    · exact .inr ⟨by omega, by have := hr8.lt hy; omega⟩
  · rcases hy with hy | hy
    · have := h.ft y hy; omega
    · exact hy.2
end Go.Proofs.Ytgdhiihfcngjbaa
