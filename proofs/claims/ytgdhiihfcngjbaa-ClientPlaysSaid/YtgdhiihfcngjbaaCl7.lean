/- slices.Delete of one open call. -/
import Derived.Test.YtgdhiihfcngjbaaCl6
import Derived.Test.YtgdhiihfcngjbaaDelete
set_option linter.unusedSimpArgs false
set_option linter.unusedVariables false
namespace Go.Proofs.Ytgdhiihfcngjbaa
open Go.RowKit
set_option maxRecDepth 100000

set_option maxHeartbeats 3200000 in
theorem delete_open {w : World} {gA N c i : Nat} {xs : List Value} (h : Own w 72 8 (some ⟨gA, 0, none⟩) N c xs) (hiN : i < N) (hN4 : N ≤ 4) (hone : ∀ u ∈ xs, u.oneCell' = true) :
    Calls Try.prog 41 #[.slice (some ⟨gA, 0, none⟩) N c, .int .i64 (i : Int), .int .i64 ((i : Int) + 1)] w (fun e w' => e = .returned (.slice (some ⟨gA, 0, none⟩) (N - 1) c) ∧ Own w' 72 8 (some ⟨gA, 0, none⟩) (N - 1) c (xs.take (i * 8) ++ xs.drop ((i + 1) * 8)) ∧ Upd (fun k => k = gA) w w') := by
  obtain ⟨i0, hi, hz0, hz1, hz2⟩ := info_parts info_open
  have hcap := h.le_cap
  obtain ⟨n1, hn1⟩ : ∃ n1, N - 1 = n1 := ⟨_, rfl⟩
  rw [hn1]
  replace hn1 := Lib.hid hn1
  have d1 : ((i : Int) == (i : Int) + 1) = false := by rw [beq_eq_false_iff_ne]; omega
  have b1 : (i : Int) ≤ (i : Int) + 1 := by omega
  have b2 : (i : Int) + 1 ≤ (N : Int) := by omega
  have b3 : (N : Int) ≤ (c : Int) := by omega
  have b4 : (0 : Int) ≤ (i : Int) := by omega
  have b5 : (i : Int) ≤ (c : Int) := by omega
  have b6 : i + 1 ≤ N := by omega
  have b7 : i ≤ c := by omega
  have b8 : (0 : Int) ≤ (i : Int) + 1 := by omega
  have b9 : ((i : Int) + 1).toNat = i + 1 := by omega
  have b10 : i ≤ N := by omega
  go_enter Try.func41, Try.ntmps41
  go_upto_region 5 with (fail)
  have hS0 : Below w.heap.size w w.drew := (Below.refl _ _).drew
  refine wp_region_lex (fun W => Below w.heap.size w W) [] [6] [0, 1, 2, 3, 4, 5, 6, 7] (by kernel_rfl) rfl (by kernel_rfl) (by kernel_rfl) (fun _ _ d _ _ h => by cases d <;> exact h) ?_
  repeat (first | (refine lexG_take _ ?_ rfl rfl rfl rfl (fun _ => ?_) ?_; rotate_left; (focus (go_simp; with_reducible rfl)); try simp only [Act.put, List.setIfInBounds_toArray, List.set_cons_zero, List.set_cons_succ]) | (refine lexG_held _ ?_ rfl rfl rfl rfl (by assumption) (fun _ hSw => ?_) ?_; rotate_left; (focus ((try dsimp only at hSw); go_simp; with_reducible rfl)); try simp only [Act.put, List.setIfInBounds_toArray, List.set_cons_zero, List.set_cons_succ]) | (refine lexG_skip _ rfl rfl (by assumption) ?_; try simp only [Act.put, List.setIfInBounds_toArray, List.set_cons_zero, List.set_cons_succ]))
  have hsrc := ((h.reads_.cut (k := i + 1) (cap := c) b6 hcap).drew)
  have eA : (if c = i + 1 then some (⟨gA, 0, none⟩ : Addr) else Option.map (fun x : Addr => x.add ((i + 1) * 8)) (some (⟨gA, 0, none⟩ : Addr))) = (if c = i + 1 then some (⟨gA, 0, none⟩ : Addr) else some (⟨gA, (i + 1) * 8, none⟩ : Addr)) := by
    split
    · rfl
    · simp [Addr.add]
  rw [eA] at hsrc
  generalize (if c = i + 1 then some (⟨gA, 0, none⟩ : Addr) else some (⟨gA, (i + 1) * 8, none⟩ : Addr)) = AA at *
  have hown := (h.first b10).below hS0 (Nat.le_refl _)
  refine lexG_nowF _ rfl rfl rfl (by kernel_rfl) (fun K0 hK => ?_)
  refine wp_append_room _ _ 65 65 rfl 72 i0 8 Try.underlying65 hi hz1 rfl hown rfl (Src.ofReads Try.underlying65 _ hsrc (fun u hu => hone u (List.mem_of_mem_drop hu))) (by omega) (fun w8 ho8 hu8 hs8 => ?_)
  refine hK _ _ ?_
  clear hK K0
  try simp only [Act.put, List.setIfInBounds_toArray, List.set_cons_zero, List.set_cons_succ]
  repeat (first | (refine lexG_take _ ?_ rfl rfl rfl rfl (fun _ => ?_) ?_; rotate_left; (focus (go_simp; with_reducible rfl)); try simp only [Act.put, List.setIfInBounds_toArray, List.set_cons_zero, List.set_cons_succ]) | (refine lexG_held _ ?_ rfl rfl rfl rfl (by assumption) (fun _ hSw => ?_) ?_; rotate_left; (focus ((try dsimp only at hSw); go_simp; with_reducible rfl)); try simp only [Act.put, List.setIfInBounds_toArray, List.set_cons_zero, List.set_cons_succ]) | (refine lexG_skip _ rfl rfl (by assumption) ?_; try simp only [Act.put, List.setIfInBounds_toArray, List.set_cons_zero, List.set_cons_succ]))
  refine lexG_nil ?_
  have eN : i + (N - (i + 1)) = n1 := by have := hn1.out; omega
  rw [eN] at ho8 ⊢
  go_upto_region 6 with (fail)
  obtain ⟨w9, hrun, ho9, hu9, -⟩ := run_clear_behind (P := Try.prog) 65 0 72 i0 _ 8 Try.underlying65 hi hz0 (by decide) (by intro u hu; have h' : u ∈ ([Value.int .u32 0, .int .u32 0, .int .u16 0, .string ⟨#[]⟩, .string ⟨#[]⟩, .slice none 0 0, .int .i64 0, .bool false] : List Value) := hu; simp only [List.mem_cons, List.not_mem_nil, or_false] at h'; rcases h' with rfl | rfl | rfl | rfl | rfl | rfl | rfl | rfl <;> rfl) (n := n1) (k := 1) (cc := c - n1) ho8 (by decide) (Nat.le_refl _) (by have := hn1.out; omega)
  have hn1' := hn1.out
  have m1 : (n1 : Int) ≤ (N : Int) := by omega
  have m2 : n1 ≤ N := by omega
  have m3 : ¬ c = n1 := by omega
  have m4 : N - n1 = 1 := by omega
  clear hn1'
  have hu := ((Upd.of_below_size (S := fun k => k = gA) hS0).trans hu8 (fun _ _ e => e)).trans hu9 (fun _ _ e => e)
  replace ho9 := Lib.hid ho9
  replace hu := Lib.hid hu
  clear ho8 hu8 hu9 hsrc hown eN
  go_wp2_with fail
  go_ret
  exact ⟨rfl, ho9.out, hu.out⟩
end Go.Proofs.Ytgdhiihfcngjbaa
