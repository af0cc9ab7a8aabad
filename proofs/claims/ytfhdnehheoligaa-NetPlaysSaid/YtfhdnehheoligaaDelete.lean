/- slices.Delete on an owned row: what it leaves. -/
import Derived.Test.YtfhdnehheoligaaMore
import Derived.Test.YtfhdnehheoligaaRegion
import Derived.Lib.SliceRun
namespace Go.Proofs.Ytfhdnehheoligaa
open Go.RowKit

section
variable {P : Program} {w : World}
/-- 'append' onto an owned row that has room: in place. -/
theorem run_append_room (t tx ty e : TypeId) (i : TypeInfo) (size : Nat) (ht : P.underlying t = some (.slice e)) (hi : P.info? e = some i) (hsize : i.size = size) {g n c : Nat} {xs : List Value} (hown : Own w e size (some ⟨g, 0, none⟩) n c xs)
    {x : Value} {m : Nat} {news : List Value} (hs : Src P size tx x m news w) (hroom : n + m ≤ c) :
    ∃ w', (Builtin.append_ #[t, tx] ty #[.slice (some ⟨g, 0, none⟩) n c, x]).run P w = .ok (.slice (some ⟨g, 0, none⟩) (n + m) c) w' ∧ Own w' e size (some ⟨g, 0, none⟩) (n + m) c (xs ++ news) ∧ Upd (fun k => k = g) w w' ∧ w'.heap.size = w.heap.size := by
  subst hsize
  have hlen : (xs ++ news).length = (n + m) * i.size := by rw [List.length_append, hown.1, hs.newsLen, Nat.add_mul]
  rcases hown.2 with ⟨h, _⟩ | ⟨g', cur, he, hg, hnc, hcm, hcs, htake⟩
  · cases h
  · have hgg : g' = g := by injection he with he; injection he with he; exact he.symm
    subst hgg
    have hfit : n * i.size + news.length ≤ cur.size := by rw [hs.newsLen, ← Nat.add_mul]; exact Nat.le_trans (Nat.mul_le_mul_right _ hroom) hcs
    have hr := run_append_room_src (P := P) w t tx ty e i ht hi g' 0 n c x m news hs hroom
      (fun j hj => by rw [hg.cell]; simp; omega) (fun j hj => hg.frozen _)
    simp only [Nat.zero_add] at hr
    obtain ⟨cur', q1, q2, q3⟩ := setCells_eq_setRow g' (n * i.size) e news cur w hg hfit
    obtain ⟨s1, s2, s3, s4⟩ := setCells_same g' (n * i.size) news w
    refine ⟨_, hr, ⟨hlen, .inr ⟨g', cur', rfl, q1, hroom, hcm, by omega, ?_⟩⟩, ⟨s1, s2, s3, by omega, fun k _ hk => setCells_other g' _ k hk news w⟩, s4⟩
    rw [q3, show (n + m) * i.size = n * i.size + news.length from by rw [hs.newsLen, Nat.add_mul]]
    rcases drop_add_len cur.toList (n * i.size) news with h | h
    · rw [h, htake]
    · simp at h; omega

theorem wp_append_room {o : Oper} {a : Act} {K : Act → World → Prop} {Q : Exit → Act → World → Prop} (s x : Operand) (t tx : TypeId)
    (ho : o.op = .call { callee := .builtin .append, args := #[s, x], argTypes := #[t, tx] })
    (e : TypeId) (i : TypeInfo) (size : Nat) (ht : P.underlying t = some (.slice e)) (hi : P.info? e = some i) (hsize : i.size = size) {g n c : Nat} {xs : List Value} (hs : a.eval s = .slice (some ⟨g, 0, none⟩) n c) (hown : Own w e size (some ⟨g, 0, none⟩) n c xs)
    {y : Value} {m : Nat} {news : List Value} (hx : a.eval x = y) (hsrc : Src P size tx y m news w) (hroom : n + m ≤ c)
    (h : ∀ w', Own w' e size (some ⟨g, 0, none⟩) (n + m) c (xs ++ news) → Upd (fun k => k = g) w w' → w'.heap.size = w.heap.size → K (a.put o.dst (.slice (some ⟨g, 0, none⟩) (n + m) c)) w') : o.wp P a w K Q := by
  obtain ⟨w', hrun, h2, h3, h4⟩ := run_append_room (P := P) (w := w) t tx o.type e i size ht hi hsize hown hsrc hroom
  unfold Oper.wp execOp
  simp only [ho, resolve, invoke, builtin, Sem.run_bind, Sem.run_pure, Result.andThen_ok, List.map_toArray, List.map_cons, List.map_nil, hs, hx, hrun]
  exact h w' h2 h3 h4

/-- Cells behind an owned row's length, written. -/
theorem Own.behind {e : TypeId} {size g n c o : Nat} {xs news : List Value} (h : Own w e size (some ⟨g, 0, none⟩) n c xs) (ho : n * size ≤ o) (hf : o + news.length ≤ c * size) : Own (w.setCells g o news) e size (some ⟨g, 0, none⟩) n c xs := by
  rcases h.2 with ⟨h', _⟩ | ⟨g', cur, he, hg, hnc, hcm, hcs, htake⟩
  · cases h'
  · have hgg : g' = g := by injection he with he; injection he with he; exact he.symm
    subst hgg
    obtain ⟨cur', q1, q2, q3⟩ := setCells_eq_setRow g' o e news cur w hg (by omega)
    refine ⟨h.1, .inr ⟨g', cur', rfl, q1, hnc, hcm, by omega, ?_⟩⟩
    rw [q3, List.append_assoc, List.take_append_of_le_length (by simp; omega), List.take_take, Nat.min_eq_left ho, htake]

/-- 'clear' of a part behind. -/
theorem run_clear_behind (t ty e : TypeId) (i : TypeInfo) (z : Value) (size : Nat) (ht : P.underlying t = some (.slice e)) (hi : P.info? e = some i) (hz : i.zero = some z) (hzs : z.cells.size = size) (hz1 : ∀ u ∈ z.cells.toList, u.oneCell' = true)
    {g n c n0 k cc : Nat} {xs : List Value} (h : Own w e size (some ⟨g, 0, none⟩) n0 c xs) (hk : 0 < k) (hn : n0 ≤ n) (hf : n + k ≤ c) :
    ∃ w', (Builtin.clear_ #[t] ty #[.slice (some ⟨g, n * size, none⟩) k cc]).run P w = .ok (.tuple #[]) w' ∧ Own w' e size (some ⟨g, 0, none⟩) n0 c xs ∧ Upd (fun k => k = g) w w' ∧ w'.heap.size = w.heap.size := by
  obtain ⟨news, hnews⟩ : ∃ news, (Builtin.zeroCells z.cells k).toList = news := ⟨_, rfl⟩
  have hnl : news.length = k * size := by rw [← hnews]; simp [size_zeroCells, hzs]
  have hone : ∀ u ∈ news, u.oneCell' = true := by
    intro u hu
    rw [← hnews] at hu
    simp only [Builtin.zeroCells, Array.toList_map, List.mem_map] at hu
    obtain ⟨j, hj, rfl⟩ := hu
    by_cases hsz : 0 < z.cells.size
    · have hlt := Nat.mod_lt j hsz
      rw [getElem!_pos z.cells _ hlt]
      exact hz1 _ (by simp)
    · have h0 : z.cells.size = 0 := by omega
      simp [h0] at hj
  have hfit : n * size + news.length ≤ c * size := by rw [hnl, ← Nat.add_mul]; exact Nat.mul_le_mul_right _ hf
  rcases id h.2 with ⟨h', _⟩ | ⟨g', cur, he, hg, hnc, hcm, hcs, htake⟩
  · cases h'
  have hgg : g' = g := by injection he with he; injection he with he; exact he.symm
  subst hgg
  have hst := run_storeCells_cells (P := P) g' (n * size) news 0 w (by
    intro j hj
    rw [hg.cell]
    simp
    omega) (fun j hj => hg.frozen _) hone
  simp only [Nat.add_zero] at hst
  obtain ⟨s1, s2, s3, s4⟩ := setCells_same g' (n * size) news w
  refine ⟨w.setCells g' (n * size) news, ?_, h.behind (Nat.mul_le_mul_right _ hn) hfit, ⟨s1, s2, s3, by omega, fun k _ hk => setCells_other g' _ k hk news w⟩, s4⟩
  obtain ⟨k', rfl⟩ : ∃ k', k = k' + 1 := ⟨k - 1, by omega⟩
  simp [Builtin.clear_, run_underlying ht, typeInfo, zeroValue, hi, hz, hnews, hst]
end
end Go.Proofs.Ytfhdnehheoligaa
