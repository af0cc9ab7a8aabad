/- Values: what Check says of them. -/
import Derived.Test.YtffpkencgbiafaaDoorRows
import Derived.Test.YtffpkencgbiafaaDoorNum
import Derived.Test.YtffpkencgbiafaaDoorRegion
import Derived.Test.YtffpkencgbiafaaDoorKit
import Derived.WalkLawsBesides
import Derived.Laws.Cover2
import Derived.Laws.Externs
import Derived.Lib.SlBytesConst
set_option linter.unusedSimpArgs false
set_option linter.unusedVariables false
namespace Go.Proofs.YtffpkencgbiafaaDoor
open Go.RowKit
/-- An api.Value as the machine holds it. -/
def vagg (k i : Int) (f : Nat) (s : ByteArray) (A : Option Addr) (n c : Nat) : Value :=
  .agg #[.int .i64 k, .int .i64 i, .float .f64 f, .string s, .slice A n c]
def Says (w : World) (v : Value) (e : Ending) (w' : World) : Prop := e = .returned v ∧ Below w.heap.size w w'
def kindOf (k : Int) : Int := if k < 0 ∨ 4 < k then 0 else k
/-- The cells of a value in a block of a world's own. -/
def SV (b : Nat) (k i : Int) (f : Nat) (s : ByteArray) (A : Option Addr) (n c : Nat) (w W : World) : Prop :=
  W.cell? ⟨b, 0, none⟩ = some (.int .i64 k) ∧ W.cell? ⟨b, 1, none⟩ = some (.int .i64 i) ∧ W.cell? ⟨b, 2, none⟩ = some (.float .f64 f) ∧ W.cell? ⟨b, 3, none⟩ = some (.string s) ∧ W.cell? ⟨b, 4, none⟩ = some (.slice A n c) ∧ Below w.heap.size w W ∧ b < W.heap.size
theorem SV.alloc {w0 : World} (w : World) (h : Below w0.heap.size w0 w) (k i : Int) (f : Nat) (s : ByteArray) (A : Option Addr) (n c : Nat) : SV w.heap.size k i f s A n c w0 (w.alloc (.cells #[.int .i64 k, .int .i64 i, .float .f64 f, .string s, .slice A n c] 31)) := by
  have hb := Blk.new w 31 #[.int .i64 k, .int .i64 i, .float .f64 f, .string s, .slice A n c]
  exact ⟨hb.cell 0, hb.cell 1, hb.cell 2, hb.cell 3, hb.cell 4, h.alloc h.size _, by simp⟩
theorem SV.drew {b : Nat} {k i : Int} {f : Nat} {s : ByteArray} {A : Option Addr} {n c : Nat} {w0 w : World} (h : SV b k i f s A n c w0 w) : SV b k i f s A n c w0 w.drew :=
  ⟨h.1, h.2.1, h.2.2.1, h.2.2.2.1, h.2.2.2.2.1, h.2.2.2.2.2.1.drew, h.2.2.2.2.2.2⟩
theorem SV.below {b : Nat} {k i : Int} {f : Nat} {s : ByteArray} {A : Option Addr} {n c : Nat} {w0 w w' : World} (h : SV b k i f s A n c w0 w) (hb : Below w.heap.size w w') : SV b k i f s A n c w0 w' := by
  obtain ⟨h0, h1, h2, h3, h4, h5, h6⟩ := h
  exact ⟨(hb.cell h6).trans h0, (hb.cell h6).trans h1, (hb.cell h6).trans h2, (hb.cell h6).trans h3, (hb.cell h6).trans h4, below_then hb h5, Nat.lt_of_lt_of_le h6 hb.size⟩
end Go.Proofs.YtffpkencgbiafaaDoor
namespace Go.Proofs.YtffpkencgbiafaaDoor
open Go.RowKit
theorem run_store_float {P : Program} (a : Addr) (k : FloatKind) (x : Nat) (m : Mode) (w : World) : (store a (.float k x) m).run P w = stored P w a (.float k x) m := run_store P w a _ m rfl
end Go.Proofs.YtffpkencgbiafaaDoor
namespace Go.Proofs.YtffpkencgbiafaaDoor
open Go.RowKit
theorem Blk.row {w : World} {g : Nat} {t : TypeId} {old : Array Value} (h : Blk w g t old) (cs : Array Value) : Blk (w.setRow g cs) g t cs := setRow_heap w g old cs t (0, 0) h
theorem Blk.farRow {w : World} {g k : Nat} {t : TypeId} {cur : Array Value} (h : Blk w k t cur) (hne : k ≠ g) (cs : Array Value) : Blk (w.setRow g cs) k t cur := (setRow_other w g k cs hne).trans h
theorem Upd.setRow {S : Nat → Prop} {w w' : World} (h : Upd S w w') {g : Nat} (hg : g < w.heap.size → S g) (cs : Array Value) : Upd S w (w'.setRow g cs) :=
  ⟨h.os, h.tape, h.output, by rw [size_setRow]; exact h.size, fun k hk hs => by
    by_cases hkg : k = g
    · subst hkg; exact absurd (hg hk) hs
    · rw [setRow_other _ _ _ _ hkg]; exact h.block k hk hs⟩
theorem below_row {B g : Nat} {w0 w : World} (hb : Below B w0 w) (h : B ≤ g) (cs : Array Value) : Below B w0 (w.setRow g cs) :=
  ⟨hb.os, hb.tape, hb.output, by rw [size_setRow]; exact hb.size, fun k hk => by rw [setRow_other _ _ _ _ (by omega)]; exact hb.block k hk⟩
theorem store_row_gen {P : Program} {ops : Array Oper} {rest : List Oper} {o : Oper} {a : Act} {w : World} {Q : Exit → Act → World → Prop} (hgd : o.guard = none) (ty : TypeId) (x y : Operand) (ho : o.op = .store ty x y)
    (g : Nat) (cells : Array Value) (hx : a.eval x = .pointer (some ⟨g, 0, none⟩)) (hy : a.eval y = .agg cells)
    (t : TypeId) (old : Array Value) (hg : Blk w g t old) (hi : (P.info? ty).map (·.size) = some cells.size)
    (hold : old.size = cells.size) (h1 : cells.all (·.oneCell') = true)
    (h : ∀ w2, w2 = w.setRow g cells → wpList P ops Q rest (a.put o.dst undef) w2) : wpList P ops Q (o :: rest) a w :=
  wpList_store_row hgd ty x y ho g cells hx hy t old hg hi hold h1 (h _ rfl)
end Go.Proofs.YtffpkencgbiafaaDoor
namespace Go.Proofs.YtffpkencgbiafaaDoor
open Go.RowKit
def nanB (x : Nat) : Bool := decide (9218868437227405312 < x % 9223372036854775808)
/-- The bits of a number, of any NaN the one's. -/
def cb (x : Nat) : Nat := if nanB x then 9221120237041090561 else x
theorem datum_self (d : Ieee.Datum) : (d.order d != some .eq) = d.isNaN := by
  cases d with
  | number s m e =>
    have hc : ∀ a : Int, compare a a = Ordering.eq := fun a => by simp [compare, compareOfLessAndEq]
    simp [Ieee.Datum.order, Ieee.Datum.isNaN, hc]
  | infinity s =>
    have hc : ∀ a : Nat, compare a a = Ordering.eq := fun a => by simp [compare, compareOfLessAndEq]
    simp [Ieee.Datum.order, Ieee.Datum.isNaN, hc]
  | nan s f => simp [Ieee.Datum.order, Ieee.Datum.isNaN]
theorem read_nan (x : Nat) : (Ieee.double.read x).isNaN = nanB x := by
  have hs : Ieee.double.signWeight = 9223372036854775808 := by decide
  have hb : Ieee.double.binade = 4503599627370496 := by decide
  have hi : Ieee.double.infRung = 9218868437227405312 := by decide
  unfold Ieee.Format.read nanB
  simp only [hs, hb, hi]
  generalize (x / 9223372036854775808 % 2 == 1) = neg
  generalize x % 9223372036854775808 = y
  by_cases h1 : y < 4503599627370496
  · rw [if_pos h1]
    have : ¬ 9218868437227405312 < y := by omega
    simp [Ieee.Datum.isNaN, this]
  rw [if_neg h1]
  by_cases h2 : y < 9218868437227405312
  · rw [if_pos h2]
    have : ¬ 9218868437227405312 < y := by omega
    simp [Ieee.Datum.isNaN, this]
  rw [if_neg h2]
  by_cases h3 : y = 9218868437227405312
  · rw [if_pos h3, h3]
    simp [Ieee.Datum.isNaN]
  · rw [if_neg h3]
    have : 9218868437227405312 < y := by omega
    simp [Ieee.Datum.isNaN, this]
theorem order_self (x : Nat) : (FloatKind.f64.format.order x x != some .eq) = nanB x := by
  rw [← read_nan]
  exact datum_self _
theorem run_frombits (n : Nat) (w : World) : (callFunc 41 #[.int .u64 (n : Int)]).run Tryd.prog w = .ok (.value (.float .f64 n)) w := by
  rw [run_callFunc_extern Tryd.func41 (by kernel_rfl) (by kernel_rfl) (by kernel_rfl) (e := Extern.MathFloatBits.float64frombits) (by kernel_rfl)]
  rfl
theorem run_bits (n : Nat) (w : World) : (callFunc 37 #[.float .f64 n]).run Tryd.prog w = .ok (.value (.int .u64 (n : Int))) w := by
  rw [run_callFunc_extern Tryd.func37 (by kernel_rfl) (by kernel_rfl) (by kernel_rfl) (e := Extern.MathFloatBits.float64bits) (by kernel_rfl)]
  rfl
end Go.Proofs.YtffpkencgbiafaaDoor
namespace Go.Proofs.YtffpkencgbiafaaDoor
open Go.RowKit
inductive Val where
  | mk (k i : Int) (f : Nat) (s : List UInt8) (l : List Val)
/-- A value that the machine holds: each list in a row of its own, in blocks of P. -/
inductive VOwn (w : World) (P : Nat → Prop) : Val → Array Value → Prop
  | mk {k i : Int} {f : Nat} {s : List UInt8} {l : List Val} {A : Option Addr} {c : Nat} {xs : List Value} (css : Nat → Array Value) (hn : l.length ≤ 2199023255488) (ho : Own w 31 5 A l.length c xs) (hP : ∀ g, bOf A = some g → P g)
      (hx : ∀ (j : Nat) (v : Val), l[j]? = some v → VOwn w P v (css j)) (hxs : ∀ j, j < l.length → (xs.drop (j * 5)).take 5 = (css j).toList) :
      VOwn w P (.mk k i f s l) #[.int .i64 k, .int .i64 i, .float .f64 f, .string (bstr s), .slice A l.length c]
theorem VOwn.upd {w w' : World} {P S : Nat → Prop} {v : Val} {cs : Array Value} (h : VOwn w P v cs) (hu : Upd S w w') (hs : ∀ g, P g → ¬ S g) : VOwn w' P v cs := by
  induction h with
  | mk css hn ho hP hx hxs ih => exact .mk css hn (ho.upd hu fun g hg => hs g (hP g hg)) hP (fun j v hv => ih j v hv) hxs
theorem VOwn.mono {w : World} {P Q : Nat → Prop} {v : Val} {cs : Array Value} (h : VOwn w P v cs) (hq : ∀ g, g < w.heap.size → P g → Q g) : VOwn w Q v cs := by
  induction h with
  | mk css hn ho hP hx hxs ih => exact .mk css hn ho (fun g hg => hq g (ho.lt hg) (hP g hg)) (fun j v hv => ih j v hv) hxs
theorem VOwn.size {w : World} {P : Nat → Prop} {v : Val} {cs : Array Value} (h : VOwn w P v cs) : cs.size = 5 := by
  cases h with
  | mk css hn ho hP hx hxs => rfl
theorem VOwn.one {w : World} {P : Nat → Prop} {v : Val} {cs : Array Value} (h : VOwn w P v cs) : ∀ u ∈ cs.toList, u.oneCell' = true := by
  cases h with
  | mk css hn ho hP hx hxs =>
    intro u hu
    simp at hu
    rcases hu with rfl | rfl | rfl | rfl | rfl <;> rfl
theorem VOwn.flat (w : World) (P : Nat → Prop) (k i : Int) (f : Nat) (s : List UInt8) : VOwn w P (.mk k i f s []) #[.int .i64 k, .int .i64 i, .float .f64 f, .string (bstr s), .slice none 0 0] :=
  .mk (l := []) (fun _ => #[]) (by simp) Own.none_ (by simp [bOf]) (by simp) (by simp)
end Go.Proofs.YtffpkencgbiafaaDoor
namespace Go.Proofs.YtffpkencgbiafaaDoor
open Go.RowKit
theorem info_val : (Tryd.prog.info? 31).map (fun i => (i.zero, i.size, i.bytes)) = some (some (.agg #[.int .i64 0, .int .i64 0, .float .f64 0, .string ⟨#[]⟩, .slice none 0 0]), 5, 64) := by kernel_rfl
end Go.Proofs.YtffpkencgbiafaaDoor
namespace Go.Proofs.YtffpkencgbiafaaDoor
open Go.RowKit
mutual
def sizeV : Val → Nat
  | .mk k _ _ s l => if k = 1 ∨ k = 2 then 9 else if k = 3 then 3 + s.length else if k = 4 then 2 + sizeL l else 1
def sizeL : List Val → Nat
  | [] => 0
  | v :: l => sizeV v + sizeL l
end
mutual
def strangeV : Val → Bool
  | .mk k _ _ _ l => decide (k < 0 ∨ 4 < k) || (k == 4 && strangeL l)
def strangeL : List Val → Bool
  | [] => false
  | v :: l => strangeV v || strangeL l
end
mutual
def greatV : Val → Int → Bool
  | .mk k _ _ s l, d => if k = 3 then decide (256 < s.length) else if k = 4 then decide (64 < l.length) || decide (d < 1) || greatL l (d - 1) else false
def greatL : List Val → Int → Bool
  | [], _ => false
  | v :: l, d => greatV v d || greatL l d
end
theorem strangeL_any (l : List Val) : strangeL l = l.any strangeV := by
  induction l with
  | nil => rfl
  | cons v l ih => simp [strangeL, ih]
theorem greatL_any (l : List Val) (d : Int) : greatL l d = l.any (greatV · d) := by
  induction l with
  | nil => rfl
  | cons v l ih => simp [greatL, ih]
theorem sizeL_sum (l : List Val) (k : Nat) (hk : k < l.length) : sizeL (l.take (k + 1)) = sizeL (l.take k) + sizeV l[k] := by
  induction l generalizing k with
  | nil => simp at hk
  | cons v l ih =>
    cases k with
    | zero => simp [sizeL]
    | succ k =>
      simp only [List.take_succ_cons, sizeL, List.getElem_cons_succ]
      rw [ih k (by simpa using hk)]
      omega
/-- A value that the machine reads. -/
inductive VReads (w : World) (B : Nat) : Val → Array Value → Prop
  | mk {k i : Int} {f : Nat} {s : List UInt8} {l : List Val} {A : Option Addr} {c : Nat} {xs : List Value} (css : Nat → Array Value) (hn : l.length ≤ 140737488351232) (hr : Reads w B 5 A l.length xs)
      (hx : ∀ (j : Nat) (v : Val), l[j]? = some v → VReads w B v (css j)) (hxs : ∀ j, j < l.length → (xs.drop (j * 5)).take 5 = (css j).toList) :
      VReads w B (.mk k i f s l) #[.int .i64 k, .int .i64 i, .float .f64 f, .string (bstr s), .slice A l.length c]
theorem VOwn.reads {w : World} {P : Nat → Prop} {v : Val} {cs : Array Value} (h : VOwn w P v cs) : VReads w w.heap.size v cs := by
  induction h with
  | mk css hn ho hP hx hxs ih => exact .mk css (by omega) ho.reads_ (fun j v hv => ih j v hv) hxs
/-- An element's five cells, as the walk spells their addresses. -/
theorem elem_cells {w : World} {B n k : Nat} {ad : Addr} {xs : List Value} {a0 a1 a2 a3 a4 : Value} (h : Reads w B 5 (some ad) n xs) (hk : k < n) (hxs : (xs.drop (k * 5)).take 5 = [a0, a1, a2, a3, a4]) :
    w.cell? (ad.add (k * 5)) = some a0 ∧ w.cell? ⟨(ad.add (k * 5)).block, (ad.add (k * 5)).off + 1, none⟩ = some a1 ∧ w.cell? ⟨(ad.add (k * 5)).block, (ad.add (k * 5)).off + 2, none⟩ = some a2 ∧ w.cell? ⟨(ad.add (k * 5)).block, (ad.add (k * 5)).off + 3, none⟩ = some a3 ∧ w.cell? ⟨(ad.add (k * 5)).block, (ad.add (k * 5)).off + 4, none⟩ = some a4 := by
  obtain ⟨ad', e, hb, hc⟩ := h.2 (by omega)
  cases e
  have hl : k * 5 + 5 ≤ xs.length := by rw [h.1]; omega
  have hg : ∀ i u, i < 5 → [a0, a1, a2, a3, a4][i]? = some u → xs[k * 5 + i]? = some u := by
    intro i u hi hu
    rw [← hxs, List.getElem?_take, if_pos hi, List.getElem?_drop] at hu
    exact hu
  have g0 := hc (k * 5 + 0) a0 (hg 0 a0 (by omega) rfl)
  have g1 := hc (k * 5 + (0 + 1)) a1 (hg 1 a1 (by omega) rfl)
  have g2 := hc (k * 5 + (1 + 1)) a2 (hg 2 a2 (by omega) rfl)
  have g3 := hc (k * 5 + (2 + 1)) a3 (hg 3 a3 (by omega) rfl)
  have g4 := hc (k * 5 + (3 + 1)) a4 (hg 4 a4 (by omega) rfl)
  rw [add_pos] at g1 g2 g3 g4
  exact ⟨g0, g1, g2, g3, g4⟩
theorem VReads.form {w : World} {B : Nat} {v : Val} {cs : Array Value} (h : VReads w B v cs) : ∃ k i f s A n c, cs = #[.int .i64 k, .int .i64 i, .float .f64 f, .string s, .slice A n c] := by
  cases h with
  | mk css hn hr hx hxs => exact ⟨_, _, _, _, _, _, _, rfl⟩
theorem VReads.under {w w' : World} {B : Nat} {v : Val} {cs : Array Value} (h : VReads w B v cs) (hb : Below B w w') : VReads w' B v cs := by
  induction h with
  | mk css hn hr hx hxs ih => exact .mk css hn (hr.below hb) (fun j v hv => ih j v hv) hxs
/-- What a search of a list's values tells. -/
def IdxRes (w : World) (p : Val → Bool) (l : List Val) (e : Ending) (w' : World) : Prop := ∃ z : Int, e = .returned (.int .i64 z) ∧ (decide (0 ≤ z)) = l.any p ∧ Below w.heap.size w w'
end Go.Proofs.YtffpkencgbiafaaDoor
namespace Go.Proofs.YtffpkencgbiafaaDoor
open Go.RowKit
theorem sizeL_take (l : List Val) : ∀ n, sizeL (l.take n) ≤ sizeL l := by
  induction l with
  | nil => intro n; simp
  | cons v l ih =>
    intro n
    cases n with
    | zero => simp [sizeL]
    | succ n =>
      simp only [List.take_succ_cons, sizeL]
      have := ih n
      omega
end Go.Proofs.YtffpkencgbiafaaDoor
namespace Go.Proofs.YtffpkencgbiafaaDoor
open Go.RowKit
/-- What Check says. -/
def checkV (v : Val) : Nat := if strangeV v then 31 else if greatV v 8 || decide (4096 < sizeV v) then 22 else 0
end Go.Proofs.YtffpkencgbiafaaDoor
