/- 'append' onto a row that is owned, or that is full. No program is named here. -/
import Derived.Test.YtdbmffagibnibaaGreatDoorKit
namespace Go.Proofs.YtdbmffagibnibaaGreatDoor
open Go.RowKit

/-- A row onto which bytes may be put: an owned one, or a full one. -/
def Grows (w : World) (t : TypeId) (size : Nat) (A : Option Addr) (n c : Nat) (xs : List Value) (row : Option Nat) : Prop :=
  (Own w t size A n c xs ∧ row = bOf A) ∨ (c ≤ n ∧ row = none ∧ ∃ B, B ≤ w.heap.size ∧ Reads w B size A n xs)

theorem Grows.own {w : World} {t : TypeId} {size n c : Nat} {A : Option Addr} {xs : List Value} (h : Own w t size A n c xs) : Grows w t size A n c xs (bOf A) := .inl ⟨h, rfl⟩
theorem Grows.full {w : World} {t : TypeId} {size n c B : Nat} {A : Option Addr} {xs : List Value} (h : Reads w B size A n xs) (hB : B ≤ w.heap.size) (hc : c ≤ n) : Grows w t size A n c xs none := .inr ⟨hc, rfl, B, hB, h⟩
theorem Grows.lt {w : World} {t : TypeId} {size n c : Nat} {A : Option Addr} {xs : List Value} {row : Option Nat} {g : Nat} (h : Grows w t size A n c xs row) (hg : row = some g) : g < w.heap.size := by
  rcases h with ⟨ho, rfl⟩ | ⟨_, rfl, _⟩
  · exact ho.lt hg
  · cases hg
theorem Grows.below {w w' : World} {t : TypeId} {size n c : Nat} {A : Option Addr} {xs : List Value} {row : Option Nat} (h : Grows w t size A n c xs row) (hb : Below w.heap.size w w') : Grows w' t size A n c xs row := by
  rcases h with ⟨ho, rfl⟩ | ⟨hc, rfl, B, hB, hr⟩
  · exact .inl ⟨ho.below hb (Nat.le_refl _), rfl⟩
  · exact .inr ⟨hc, rfl, B, Nat.le_trans hB hb.size, hr.below (hb.mono hB)⟩

section
variable {P : Program} {w : World}
theorem run_append_grows (t tx ty e : TypeId) (i : TypeInfo) (z : Value) (size bytes : Nat) (ht : P.underlying t = some (.slice e)) (hi : P.info? e = some i) (hz : i.zero = some z)
    (hsize : i.size = size) (hby : i.bytes = bytes) (hzs : z.cells.size = size) {A : Option Addr} {n c : Nat} {xs : List Value} {row : Option Nat} (hgr : Grows w e size A n c xs row)
    {x : Value} {m : Nat} {news : List Value} (hs : Src P size tx x m news w) (hm : 0 < m) (h63 : n + m ≤ maxLen) (hbytes : (n + m) * bytes ≤ 140737488355328) :
    ∃ A' c' w', (Builtin.append_ #[t, tx] ty #[.slice A n c, x]).run P w = .ok (.slice A' (n + m) c') w' ∧ Own w' e size A' (n + m) c' (xs ++ news) ∧ w.grownBy w' row ∧
      (bOf A' = row ∨ bOf A' = some w.heap.size) := by
  rcases hgr with ⟨ho, rfl⟩ | ⟨hcn, rfl, B, _, hr⟩
  · exact run_append_mine t tx ty e i z size bytes ht hi hz hsize hby hzs ho hs h63 hbytes
  subst hsize
  subst hby
  have hsmall : n + m ≤ 9223372036854775807 := by simp only [maxLen] at h63; omega
  have hlen : (xs ++ news).length = (n + m) * i.size := by rw [List.length_append, hr.1, hs.newsLen, Nat.add_mul]
  have hroom : ¬ n + m ≤ c := by omega
  have hfc : (Builtin.firstCells i.size n (.slice A n c)).run P w.drew = .ok xs.toArray w.drew := by
    rcases Nat.eq_zero_or_pos n with h0 | h0
    · subst h0
      have hx : xs = [] := List.eq_nil_of_length_eq_zero (by simpa using hr.1)
      subst hx
      cases A with
      | none => simp [Builtin.firstCells]
      | some a => exact run_firstCells_some (P := P) w.drew i.size 0 a 0 c [] (by simp) (by simp)
    · obtain ⟨ad, rfl, _, hc⟩ := hr.2 h0
      exact run_firstCells_some (P := P) w.drew i.size n ad n c xs hr.1 hc
  have hge := grownCap_ge w (n + m) c e
  have hcm := grownCap_le_maxLen w (n + m) c e h63
  have hrun := run_append_grow_src (P := P) w t tx ty e i z ht hi hz A n c xs hfc x m news hs (by omega) (by omega) (growslice_fits (by omega) hbytes)
  refine ⟨_, _, _, hrun, ⟨hlen, .inr ⟨w.heap.size, _, rfl, heap_alloc_new w.drew _, hge, hcm, ?_, ?_⟩⟩, ⟨rfl, rfl, rfl, by simp, fun k hk _ => Below.heap_alloc w.drew _ k hk⟩, .inr rfl⟩
  · simp only [Array.size_append, List.size_toArray, size_zeroCells, hzs, hlen, ← Nat.add_mul]
    exact Nat.mul_le_mul_right _ (by omega)
  · simp only [Array.toList_append]
    rw [← hlen]
    exact List.take_left

theorem wpList_append_grows {ops : Array Oper} {rest : List Oper} {o : Oper} {a : Act} {Q : Exit → Act → World → Prop} (hgd : o.guard = none) (s x : Operand) (t tx : TypeId)
    (ho : o.op = .call { callee := .builtin .append, args := #[s, x], argTypes := #[t, tx] })
    (e : TypeId) (i : TypeInfo) (z : Value) (size bytes : Nat) (ht : P.underlying t = some (.slice e)) (hi : P.info? e = some i) (hz : i.zero = some z)
    (hsize : i.size = size) (hby : i.bytes = bytes) (hzs : z.cells.size = size) {A : Option Addr} {n c : Nat} {xs : List Value} {row : Option Nat} (hs : a.eval s = .slice A n c) (hgr : Grows w e size A n c xs row)
    {y : Value} {m : Nat} {news : List Value} (hx : a.eval x = y) (hsrc : Src P size tx y m news w) (hm : 0 < m) (h63 : n + m ≤ maxLen) (hbytes : (n + m) * bytes ≤ 140737488355328)
    (h : ∀ A' c' w', Own w' e size A' (n + m) c' (xs ++ news) → w.grownBy w' row → (bOf A' = row ∨ bOf A' = some w.heap.size) → wpList P ops Q rest (a.put o.dst (.slice A' (n + m) c')) w') :
    wpList P ops Q (o :: rest) a w := by
  refine wpList_plain hgd fun _ hK => ?_
  obtain ⟨A', c', w', hrun, h2, h3, h4⟩ := run_append_grows (P := P) (w := w) t tx o.type e i z size bytes ht hi hz hsize hby hzs hgr hsrc hm h63 hbytes
  unfold Oper.wp execOp
  simp only [ho, resolve, invoke, builtin, Sem.run_bind, Sem.run_pure, Result.andThen_ok, List.map_toArray, List.map_cons, List.map_nil, hs, hx, hrun]
  exact hK _ _ (h A' c' w' h2 h3 h4)
end
end Go.Proofs.YtdbmffagibnibaaGreatDoor
