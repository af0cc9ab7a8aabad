/- append(xs, make([]byte, n)...) onto an owned row. -/
import Derived.Test.YtafogjonicdbmaaGrow
import Derived.Lib.AppendZeros
namespace Go.Proofs.Ytafogjonicdbmaa
open Go.RowKit

section
variable {P : Program} {w : World}
theorem zeroCells_one (z : Value) (m : Nat) : (Builtin.zeroCells #[z] m).toList = List.replicate m z := by
  apply List.ext_getElem?
  intro i
  simp only [Builtin.zeroCells, Array.toList_map, Array.toList_range, List.getElem?_map, List.getElem?_range', List.getElem?_replicate]
  by_cases h : i < m
  · simp [h, Nat.mod_one]
  · simp [h]

theorem run_append_zeros (t tn ty e : TypeId) (i : TypeInfo) (z : Value) (k kn : IntKind) (ht : P.underlying t = some (.slice e)) (htn : P.underlying tn = some (.int kn)) (hi : P.info? e = some i) (hz : i.zero = some z)
    (hsize : i.size = 1) (hby : i.bytes = 1) (hzs : z.cells = #[z]) (h1 : z.oneCell' = true) {A : Option Addr} {n c m : Nat} {xs : List Value} (hown : Own w e 1 A n c xs)
    (h0 : 0 < m) (h63 : n + m ≤ maxLen) (hbytes : n + m ≤ 140737488355328) :
    ∃ A' c' w', (Builtin.append_ #[t, tn] ty #[.slice A n c, .int k m]).run P w = .ok (.slice A' (n + m) c') w' ∧ Own w' e 1 A' (n + m) c' (xs ++ List.replicate m z) ∧ w.grownBy w' (bOf A) ∧
      (bOf A' = bOf A ∨ bOf A' = some w.heap.size) := by
  have hsmall : n + m ≤ 9223372036854775807 := by simp only [maxLen] at h63; omega
  have hm0 : m ≠ 0 := by omega
  have hw : IntKind.i64.wrap (m : Int) = m := by rw [IntKind.wrap_i64]; omega
  have h48i : ¬ (281474976710656 < (m : Int)) := by omega
  have hneg : ¬ ((m : Int) < 0) := by omega
  have hlen : (xs ++ List.replicate m z).length = (n + m) * 1 := by rw [List.length_append, hown.1, List.length_replicate]; omega
  have hzl : (Builtin.zeroCells #[z] m).toList = List.replicate m z := zeroCells_one z m
  by_cases hroom : n + m ≤ c
  · rcases hown.2 with ⟨rfl, rfl, rfl⟩ | ⟨g, cur, rfl, hg, hnc, hcm, hcs, htake⟩
    · omega
    · have hfit : n + (List.replicate m z).length ≤ cur.size := by rw [List.length_replicate]; omega
      have hst := run_storeCells_cells (P := P) g n (List.replicate m z) 0 w (by
        intro j hj
        rw [hg.cell]
        simp at hj ⊢
        omega) (fun j hj => hg.frozen _) (by
        intro u hu
        rw [List.eq_of_mem_replicate hu]
        exact h1)
      simp only [Nat.add_zero] at hst
      have hr : (Builtin.append_ #[t, tn] ty #[.slice (some ⟨g, 0, none⟩) n c, .int k m]).run P w = .ok (.slice (some ⟨g, 0, none⟩) (n + m) c) (w.setCells g n (List.replicate m z)) := by
        simp [Builtin.append_, run_underlying ht, run_underlying htn, sizeOf, typeInfo, zeroValue, hi, hz, asInt, asIntOf, hw, hm0, hneg, h48i, hby, hsize, hroom, hzs, hzl, Addr.add_lit, hst]
      obtain ⟨cur', q1, q2, q3⟩ := setCells_eq_setRow g n e (List.replicate m z) cur w hg hfit
      obtain ⟨s1, s2, s3, s4⟩ := setCells_same g n (List.replicate m z) w
      refine ⟨_, _, _, hr, ⟨hlen, .inr ⟨g, cur', rfl, q1, hroom, hcm, by omega, ?_⟩⟩, ⟨s1, s2, s3, by omega, fun k _ hk => setCells_other g _ k (fun e => hk (by simp [bOf, e])) _ w⟩, .inl rfl⟩
      rw [q3, show (n + m) * 1 = n + (List.replicate m z).length from by rw [List.length_replicate]; omega]
      rcases drop_add_len cur.toList n (List.replicate m z) with h | h
      · rw [h]
        rw [Nat.mul_one] at htake
        rw [htake]
      · simp at h; omega
  · have hfc : (Builtin.firstCells 1 n (.slice A n c)).run P w.drew = .ok xs.toArray w.drew := by
      rcases hown.2 with ⟨rfl, rfl, rfl⟩ | ⟨g, cur, rfl, hg, hnc, hcm, hcs, htake⟩
      · have hx : xs = [] := List.eq_nil_of_length_eq_zero (by simpa using hown.1)
        subst hx
        simp [Builtin.firstCells]
      · refine run_firstCells_some (P := P) w.drew 1 n ⟨g, 0, none⟩ n c xs hown.1 ?_
        rcases Nat.eq_zero_or_pos n with h0 | h0
        · subst h0
          have hx : xs = [] := List.eq_nil_of_length_eq_zero (by simpa using hown.1)
          subst hx
          simp
        · obtain ⟨ad, e1, _, hc⟩ := hown.reads_.2 h0
          injection e1 with e1
          subst e1
          exact hc
    have hge := grownCap_ge w (n + m) c e
    have hcm := grownCap_le_maxLen w (n + m) c e h63
    have h63' : ¬ (9223372036854775807 < ((n : Int) + (m : Int))) := by omega
    have hgf := growslice_fits (need := n + m) (old := c) (bytes := 1) (by omega) (by omega)
    have h48' : ¬ (281474976710656 < Builtin.nextslicecap (n + m) c) := by omega
    have hr : (Builtin.append_ #[t, tn] ty #[.slice A n c, .int k m]).run P w = .ok (.slice (some ⟨w.heap.size, 0, none⟩) (n + m) (grownCap w (n + m) c e))
        (w.drew.alloc (.cells ((xs ++ List.replicate m z).toArray ++ Builtin.zeroCells z.cells (grownCap w (n + m) c e - (n + m))) e)) := by
      simp [Builtin.append_, run_underlying ht, run_underlying htn, sizeOf, typeInfo, zeroValue, hi, hz, asInt, asIntOf, hw, hm0, hneg, h48i, hby, hsize, hroom, h63', h48', Question.forced, hfc, newRow, grownCap]
      congr 2
      apply Array.ext'
      simp [hzs, hzl, List.append_assoc]
    refine ⟨_, _, _, hr, ⟨hlen, .inr ⟨w.heap.size, _, rfl, heap_alloc_new w.drew _, hge, hcm, ?_, ?_⟩⟩, ⟨rfl, rfl, rfl, by simp, fun k hk _ => Below.heap_alloc w.drew _ k hk⟩, .inr rfl⟩
    · simp only [Array.size_append, List.size_toArray, size_zeroCells, hzs, hlen]
      show _ ≤ (n + m) * 1 + (_ - (n + m)) * 1
      omega
    · simp only [Array.toList_append]
      rw [← hlen]
      exact List.take_left
end
end Go.Proofs.Ytafogjonicdbmaa
