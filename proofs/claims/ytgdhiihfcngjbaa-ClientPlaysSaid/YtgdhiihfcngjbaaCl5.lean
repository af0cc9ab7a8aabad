/- The stub's open calls: one that ages, one that went. -/
import Derived.Test.YtgdhiihfcngjbaaCl4
set_option linter.unusedSimpArgs false
set_option linter.unusedVariables false
namespace Go.Proofs.Ytgdhiihfcngjbaa
open Go.RowKit
set_option maxRecDepth 100000

/-- One cell (age, or whether it is to go) of an open call set. -/
theorem StubX.set1 {w : World} {F : Nat → Prop} {g : Nat} {d : CliD} {gA : Nat} {c : Nat} {A2 : Option Addr} {c2 : Nat} {xs xs2 : List Value} {css css2 : Nat → Array Value} {j t age' : Nat} {now' : Bool} {x : OpnD} {v : Value} (h : StubX w F g d (some ⟨gA, 0, none⟩) c A2 c2 xs xs2 css css2) (hj : d.op[j]? = some x)
    (ht : (t = 6 ∧ v = .int .i64 (age' : Int) ∧ now' = x.now) ∨ (t = 7 ∧ v = .bool now' ∧ age' = x.age)) :
    ∃ xs', StubX (w.setCell ⟨gA, j * 8 + t, none⟩ v) F g ⟨d.id, d.seq, d.op.set j ⟨x.o, age', now'⟩, d.rp⟩ (some ⟨gA, 0, none⟩) c A2 c2 xs' xs2 css css2 := by
  have hjl : j < d.op.length := by
    rcases Nat.lt_or_ge j d.op.length with h' | h'
    · exact h'
    · rw [List.getElem?_eq_none h'] at hj; cases hj
  have ht8 : t < 8 := by rcases ht with h' | h' <;> omega
  obtain ⟨g', cur, e, hb', hle, htk, hnew⟩ := h.ho.open_s (by omega)
  cases e
  obtain ⟨W, hW⟩ : ∃ W, w.setCell ⟨gA, j * 8 + t, none⟩ v = W := ⟨_, rfl⟩
  have hU : Upd (fun z => z = gA) w W := by
    rw [← hW]
    exact (Upd.refl (fun z => z = gA) w).setCell (p := ⟨gA, j * 8 + t, none⟩) (fun _ => rfl) _
  have hblk : Blk W gA 72 (cur.setIfInBounds (j * 8 + t) v) := by
    rw [← hW]
    exact hb'.set_ _ _
  rw [hW]
  have hown := hnew W _ hblk (by simp)
  have hxl : xs.length = d.op.length * 8 := h.ho.len
  generalize hxs' : (cur.setIfInBounds (j * 8 + t) v).toList.take (d.op.length * 8) = xs' at hown
  have hjs : j * 8 + 8 ≤ d.op.length * 8 := by omega
  have hcs8 : d.op.length * 8 ≤ cur.size := by
    have h1 := congrArg List.length htk
    rw [List.length_take, hxl, Array.length_toList] at h1
    omega
  have hget : ∀ k, k < d.op.length * 8 → xs'[k]? = if k = j * 8 + t then some v else xs[k]? := by
    intro k hk
    rw [← hxs', ← htk, List.getElem?_take, if_pos hk, List.getElem?_take, if_pos hk]
    simp only [Array.toList_setIfInBounds, List.getElem?_set, Array.length_toList]
    by_cases e2 : j * 8 + t = k
    · rw [if_pos e2, if_pos (by omega), if_pos (show k = j * 8 + t from e2.symm)]
    · rw [if_neg e2, if_neg (show ¬ k = j * 8 + t from fun e => e2 e.symm)]
  refine ⟨xs', by rw [List.length_set]; exact h.blk.upd hU (fun e => h.neA gA rfl e.symm), by rw [List.length_set]; exact hown, h.hr.upd hU (fun y hy e => by subst e; exact h.ho.ne_own h.hr (by decide) y rfl hy), fun i x' hi => ?_, fun i x' hi => ?_, fun i x' hi => (h.rx i x' hi).upd hU (fun y hy e => by subst e; exact hy.2.2.1 rfl), h.rxs, h.fg, h.fA, h.fA2, fun y hy => Nat.lt_of_lt_of_le (h.ft y hy) hU.size, h.hid, h.hsq, by rw [List.length_set]; exact h.hn, h.hr4⟩
  · rw [List.getElem?_set] at hi
    by_cases e : j = i
    · subst e
      rw [if_pos rfl, if_pos hjl] at hi
      cases hi
      exact (h.hx j x hj).next hU (fun y _ e => .inr (.inr (.inl (by rw [e]; rfl)))) (fun _ _ hp => hp)
    · rw [if_neg e] at hi
      exact (h.hx i x' hi).next hU (fun y _ e => .inr (.inr (.inl (by rw [e]; rfl)))) (fun _ _ hp => hp)
  · have hil : i < d.op.length := by
      rcases Nat.lt_or_ge i d.op.length with h' | h'
      · exact h'
      · rw [List.getElem?_eq_none (by rw [List.length_set]; exact h')] at hi; cases hi
    have his : i * 8 + 8 ≤ d.op.length * 8 := by omega
    rw [List.getElem?_set] at hi
    by_cases e : j = i
    · subst e
      rw [if_pos rfl, if_pos hjl] at hi
      cases hi
      obtain ⟨_, A1, c1, _, hcs, -⟩ := h.cells hj
      have hold := h.hxs j x hj
      rw [hcs] at hold ⊢
      refine List.ext_getElem? (fun k => ?_)
      rcases Nat.lt_or_ge k 8 with hk | hk
      · have h1 := window hold k hk
        rw [List.getElem?_take, if_pos hk, List.getElem?_drop, hget (j * 8 + k) (by omega), h1]
        rcases ht with ⟨rfl, rfl, rfl⟩ | ⟨rfl, rfl, rfl⟩
        · rcases (show k = 0 ∨ k = 1 ∨ k = 2 ∨ k = 3 ∨ k = 4 ∨ k = 5 ∨ k = 6 ∨ k = 7 by omega) with rfl | rfl | rfl | rfl | rfl | rfl | rfl | rfl <;> first | (rw [if_neg (by omega)]; rfl) | (rw [if_pos (by omega)]; rfl)
        · rcases (show k = 0 ∨ k = 1 ∨ k = 2 ∨ k = 3 ∨ k = 4 ∨ k = 5 ∨ k = 6 ∨ k = 7 by omega) with rfl | rfl | rfl | rfl | rfl | rfl | rfl | rfl <;> first | (rw [if_neg (by omega)]; rfl) | (rw [if_pos (by omega)]; rfl)
      · rw [List.getElem?_take, if_neg (by omega), List.getElem?_eq_none (by simp; omega)]
    · rw [if_neg e] at hi
      rw [← h.hxs i x' hi]
      refine List.ext_getElem? (fun k => ?_)
      rcases Nat.lt_or_ge k 8 with hk | hk
      · rw [List.getElem?_take, if_pos hk, List.getElem?_drop, List.getElem?_take, if_pos hk, List.getElem?_drop, hget (i * 8 + k) (by omega), if_neg (by omega)]
      · rw [List.getElem?_take, if_neg (by omega), List.getElem?_take, if_neg (by omega)]
end Go.Proofs.Ytgdhiihfcngjbaa
