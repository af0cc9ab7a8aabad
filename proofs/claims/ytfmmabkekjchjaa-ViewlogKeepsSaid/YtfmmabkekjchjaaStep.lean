/- journal.Step. -/
import Derived.Test.YtfmmabkekjchjaaLogW
import Derived.Test.YtfmmabkekjchjaaGrow
set_option linter.unusedSimpArgs false
set_option linter.unusedVariables false
namespace Go.Proofs.Ytfmmabkekjchjaa
open Go.RowKit
set_option maxRecDepth 100000

theorem Blk.st4 {w : World} {g : Nat} {t : TypeId} {a b c d : Value} (x : Blk w g t #[a, b, c, d]) : w.cell? ⟨g, 0, none⟩ = some a ∧ w.cell? ⟨g, 1, none⟩ = some b ∧ w.cell? ⟨g, 2, none⟩ = some c ∧ w.cell? ⟨g, 3, none⟩ = some d := ⟨x.cell 0, x.cell 1, x.cell 2, x.cell 3⟩
theorem wp_append_grows {P : Program} {w : World} {o : Oper} {a : Act} {K : Act → World → Prop} {Q : Exit → Act → World → Prop} (s x : Operand) (t tx : TypeId)
    (ho : o.op = .call { callee := .builtin .append, args := #[s, x], argTypes := #[t, tx] })
    (e : TypeId) (i : TypeInfo) (z : Value) (size bytes : Nat) (ht : P.underlying t = some (.slice e)) (hi : P.info? e = some i) (hz : i.zero = some z)
    (hsize : i.size = size) (hby : i.bytes = bytes) (hzs : z.cells.size = size) {A : Option Addr} {n c : Nat} {xs : List Value} {row : Option Nat} (hs : a.eval s = .slice A n c) (hgr : Grows w e size A n c xs row)
    {y : Value} {m : Nat} {news : List Value} (hx : a.eval x = y) (hsrc : Src P size tx y m news w) (hm : 0 < m) (h63 : n + m ≤ maxLen) (hbytes : (n + m) * bytes ≤ 140737488355328)
    (h : ∀ A' c' w', Own w' e size A' (n + m) c' (xs ++ news) → w.grownBy w' row → (bOf A' = row ∨ bOf A' = some w.heap.size) → K (a.put o.dst (.slice A' (n + m) c')) w') : o.wp P a w K Q := by
  obtain ⟨A', c', w', hrun, h2, h3, h4⟩ := run_append_grows (P := P) (w := w) t tx o.type e i z size bytes ht hi hz hsize hby hzs hgr hsrc hm h63 hbytes
  unfold Oper.wp execOp
  simp only [ho, resolve, invoke, builtin, Sem.run_bind, Sem.run_pure, Result.andThen_ok, List.map_toArray, List.map_cons, List.map_nil, hs, hx, hrun]
  exact h A' c' w' h2 h3 h4
/-- A cleaned call whose row is its own. -/
def OpVRes (w : World) (c s n : Nat) (gg mm : ByteArray) (l : List Val) (K : Nat) (e : Ending) (w' : World) : Prop :=
  ∃ A' c' xs css, e = .returned (.agg #[.int .u32 (c : Int), .int .u32 (s : Int), .int .u16 (n : Int), .string gg, .string mm, .slice A' K c']) ∧ VRow w' w.heap.size (l.map cleanV) A' c' xs css ∧ Below w.heap.size w w'
section
variable {w : World} {B c s n : Nat} {g m : List UInt8} {l : List Val} {gg mm : ByteArray} {A : Option Addr} {K cc : Nat}
theorem clean_progV (h : OpReads w B ⟨c, s, n, g, m, l⟩ #[.int .u32 (c : Int), .int .u32 (s : Int), .int .u16 (n : Int), .string gg, .string mm, .slice A K cc]) (hB : B ≤ w.heap.size) :
    Calls Try.prog 42 #[.agg #[.int .u32 (c : Int), .int .u32 (s : Int), .int .u16 (n : Int), .string gg, .string mm, .slice A K cc]] w (OpVRes w c s n gg mm l K) := by
  obtain ⟨rfl, rfl, rfl⟩ := op_parts h
  obtain ⟨A0, cc0, xs, css, hcs, hr, hx, hxs, hll, hok, hc, hs, hn⟩ := h
  simp at hcs
  obtain ⟨rfl, rfl⟩ := hcs
  exact (op_clean hr hB hxs hx hll (fun j v hv w1 hb1 => val_clean_s (hx j v hv) w1 (short_of_ok (hok v (List.mem_of_getElem? hv))) (hb1.mono hB) (Nat.le_trans hB hb1.size)))
theorem op_of_clean {W : World} {b : Nat} {A' : Option Addr} {c' : Nat} {xs : List Value} {css : Nat → Array Value} (h : OpReads w B ⟨c, s, n, g, m, l⟩ #[.int .u32 (c : Int), .int .u32 (s : Int), .int .u16 (n : Int), .string gg, .string mm, .slice A K cc]) (R : VRow W b (l.map cleanV) A' c' xs css) :
    OpReads W W.heap.size ⟨c, s, n, g, m, l.map cleanV⟩ #[.int .u32 (c : Int), .int .u32 (s : Int), .int .u16 (n : Int), .string gg, .string mm, .slice A' K c'] := by
  obtain ⟨rfl, rfl, rfl⟩ := op_parts h
  obtain ⟨A0, cc0, xs0, css0, hcs, hr, hx, hxs, hll, hok, hc, hs, hn⟩ := h
  have := op_of_row (o := ⟨c, s, n, g, m, l.map cleanV⟩) R (by simp only [List.length_map]; exact hll) (fun v hv => by
    simp only [List.mem_map] at hv
    obtain ⟨u, hu, rfl⟩ := hv
    exact clean_okv (hok u hu)) hc hs hn
  simp only [List.length_map] at this
  exact this
end

end Go.Proofs.Ytfmmabkekjchjaa
