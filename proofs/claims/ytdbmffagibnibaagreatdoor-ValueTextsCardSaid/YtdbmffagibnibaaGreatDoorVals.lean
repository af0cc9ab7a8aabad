/- Values: what Check says of them. -/
import Derived.Test.YtdbmffagibnibaaGreatDoorRows
import Derived.Test.YtdbmffagibnibaaGreatDoorNum
import Derived.Test.YtdbmffagibnibaaGreatDoorRegion
import Derived.Test.YtdbmffagibnibaaGreatDoorKit
import Derived.WalkLawsBesides
import Derived.Laws.Cover2
import Derived.Laws.Externs
import Derived.Lib.SlBytesConst
set_option linter.unusedSimpArgs false
set_option linter.unusedVariables false
namespace Go.Proofs.YtdbmffagibnibaaGreatDoor
set_option maxRecDepth 100000
open Go.RowKit
/-- An api.Value as the machine holds it. -/
def vagg (k i : Int) (f : Nat) (s : ByteArray) (A : Option Addr) (n c : Nat) : Value :=
  .agg #[.int .i64 k, .int .i64 i, .float .f64 f, .string s, .slice A n c]
def Says (w : World) (v : Value) (e : Ending) (w' : World) : Prop := e = .returned v ∧ Below w.heap.size w w'
def kindOf (k : Int) : Int := if k < 0 ∨ 4 < k then 0 else k
theorem val_kind (k i : Int) (f : Nat) (s : ByteArray) (A : Option Addr) (n c : Nat) (w : World) :
    Calls Tryz.prog 31 #[.agg #[.int .i64 k, .int .i64 i, .float .f64 f, .string s, .slice A n c]] w (Says w (.int .i64 (kindOf k))) := by
  by_cases h0 : k < 0
  · have hk : kindOf k = 0 := by simp [kindOf, h0]
    rw [hk]
    go_enter Tryz.func31, Tryz.ntmps31
    go_wp2
    go_ret
    exact ⟨rfl, (Below.refl _ w).alloc (Nat.le_refl _) _⟩
  by_cases h4 : 4 < k
  · have hk : kindOf k = 0 := by simp [kindOf, h4]
    rw [hk]
    go_enter Tryz.func31, Tryz.ntmps31
    go_wp2
    go_ret
    exact ⟨rfl, (Below.refl _ w).alloc (Nat.le_refl _) _⟩
  · have hk : kindOf k = k := by simp [kindOf, h0, h4]
    rw [hk]
    go_enter Tryz.func31, Tryz.ntmps31
    go_wp2
    go_ret
    exact ⟨rfl, (Below.refl _ w).alloc (Nat.le_refl _) _⟩
/-- The cells of a value in a block of a world's own. -/
def SV (b : Nat) (k i : Int) (f : Nat) (s : ByteArray) (A : Option Addr) (n c : Nat) (w W : World) : Prop :=
  W.cell? ⟨b, 0, none⟩ = some (.int .i64 k) ∧ W.cell? ⟨b, 1, none⟩ = some (.int .i64 i) ∧ W.cell? ⟨b, 2, none⟩ = some (.float .f64 f) ∧ W.cell? ⟨b, 3, none⟩ = some (.string s) ∧ W.cell? ⟨b, 4, none⟩ = some (.slice A n c) ∧ Below w.heap.size w W ∧ b < W.heap.size
theorem SV.alloc {w0 : World} (w : World) (h : Below w0.heap.size w0 w) (k i : Int) (f : Nat) (s : ByteArray) (A : Option Addr) (n c : Nat) : SV w.heap.size k i f s A n c w0 (w.alloc (.cells #[.int .i64 k, .int .i64 i, .float .f64 f, .string s, .slice A n c] 25)) := by
  have hb := Blk.new w 25 #[.int .i64 k, .int .i64 i, .float .f64 f, .string s, .slice A n c]
  exact ⟨hb.cell 0, hb.cell 1, hb.cell 2, hb.cell 3, hb.cell 4, h.alloc h.size _, by simp⟩
theorem SV.drew {b : Nat} {k i : Int} {f : Nat} {s : ByteArray} {A : Option Addr} {n c : Nat} {w0 w : World} (h : SV b k i f s A n c w0 w) : SV b k i f s A n c w0 w.drew :=
  ⟨h.1, h.2.1, h.2.2.1, h.2.2.2.1, h.2.2.2.2.1, h.2.2.2.2.2.1.drew, h.2.2.2.2.2.2⟩
theorem SV.below {b : Nat} {k i : Int} {f : Nat} {s : ByteArray} {A : Option Addr} {n c : Nat} {w0 w w' : World} (h : SV b k i f s A n c w0 w) (hb : Below w.heap.size w w') : SV b k i f s A n c w0 w' := by
  obtain ⟨h0, h1, h2, h3, h4, h5, h6⟩ := h
  exact ⟨(hb.cell h6).trans h0, (hb.cell h6).trans h1, (hb.cell h6).trans h2, (hb.cell h6).trans h3, (hb.cell h6).trans h4, below_then hb h5, Nat.lt_of_lt_of_le h6 hb.size⟩
theorem val_strange_flat (k i : Int) (f : Nat) (s : ByteArray) (A : Option Addr) (n c : Nat) (w : World) (h0 : 0 ≤ k) (h4 : k < 4) :
    Calls Tryz.prog 39 #[.agg #[.int .i64 k, .int .i64 i, .float .f64 f, .string s, .slice A n c]] w (Says w (.bool false)) := by
  have hk : kindOf k = k := by simp [kindOf]; omega
  have k4 : (k == 4) = false := by rw [beq_eq_false_iff_ne]; omega
  have hS : SV w.heap.size k i f s A n c w (w.alloc (.cells #[.int .i64 k, .int .i64 i, .float .f64 f, .string s, .slice A n c] 25)) := SV.alloc w (Below.refl _ _) k i f s A n c
  go_enter Tryz.func39, Tryz.ntmps39
  go_wp2_with fail
  generalize w.alloc (.cells #[.int .i64 k, .int .i64 i, .float .f64 f, .string s, .slice A n c] 25) = w1 at hS ⊢
  generalize w.heap.size = b at hS ⊢
  have hS2 : w1.drew.cell? ⟨b, 0, none⟩ = some (.int .i64 k) ∧ w1.drew.cell? ⟨b, 1, none⟩ = some (.int .i64 i) ∧ w1.drew.cell? ⟨b, 2, none⟩ = some (.float .f64 f) ∧ w1.drew.cell? ⟨b, 3, none⟩ = some (.string s) ∧ w1.drew.cell? ⟨b, 4, none⟩ = some (.slice A n c) ∧ Below w.heap.size w w1.drew ∧ b < w1.drew.heap.size := hS.drew
  refine wp_region_lex (fun W => W.cell? ⟨b, 0, none⟩ = some (.int .i64 k) ∧ W.cell? ⟨b, 1, none⟩ = some (.int .i64 i) ∧ W.cell? ⟨b, 2, none⟩ = some (.float .f64 f) ∧ W.cell? ⟨b, 3, none⟩ = some (.string s) ∧ W.cell? ⟨b, 4, none⟩ = some (.slice A n c) ∧ Below w.heap.size w W ∧ b < W.heap.size) [1, 2, 7, 11] [3, 12] [0, 1, 2, 3, 4, 5, 6, 7, 8, 9, 10, 11, 12, 13, 14, 15] (by kernel_rfl) rfl (by kernel_rfl) (by kernel_rfl) (fun _ _ d _ _ h => by cases d <;> exact h) ?_
  repeat (first | (refine lexG_take _ ?_ rfl rfl rfl rfl (fun _ => ?_) ?_; rotate_left; (focus (go_simp; with_reducible rfl)); try simp only [Act.put, List.setIfInBounds_toArray, List.set_cons_zero, List.set_cons_succ]) | (refine lexG_held _ ?_ rfl rfl rfl rfl (by assumption) (fun _ hSw => ?_) ?_; rotate_left; (focus ((try dsimp only at hSw); go_simp; with_reducible rfl)); try simp only [Act.put, List.setIfInBounds_toArray, List.set_cons_zero, List.set_cons_succ]) | (refine lexG_skip _ rfl rfl (by assumption) ?_; try simp only [Act.put, List.setIfInBounds_toArray, List.set_cons_zero, List.set_cons_succ]))
  refine lexG_now _ rfl rfl rfl (fun K hK => ?_)
  go_wp2_with fail
  refine (val_kind _ _ _ _ _ _ _ _).mono ?_
  rintro e w2 ⟨rfl, hb2⟩
  rw [hk]
  dsimp only
  have hS3 : w2.cell? ⟨b, 0, none⟩ = some (.int .i64 k) ∧ w2.cell? ⟨b, 1, none⟩ = some (.int .i64 i) ∧ w2.cell? ⟨b, 2, none⟩ = some (.float .f64 f) ∧ w2.cell? ⟨b, 3, none⟩ = some (.string s) ∧ w2.cell? ⟨b, 4, none⟩ = some (.slice A n c) ∧ Below w.heap.size w w2 ∧ b < w2.heap.size := hS.drew.below hb2
  refine hK _ _ _ (fun _ h => h) hS3 ?_
  clear hK K hS hS2 hb2
  try simp only [Act.put, List.setIfInBounds_toArray, List.set_cons_zero, List.set_cons_succ]
  repeat (first | (refine lexG_take _ ?_ rfl rfl rfl rfl (fun _ => ?_) ?_; rotate_left; (focus (go_simp; with_reducible rfl)); try simp only [Act.put, List.setIfInBounds_toArray, List.set_cons_zero, List.set_cons_succ]) | (refine lexG_held _ ?_ rfl rfl rfl rfl (by assumption) (fun _ hSw => ?_) ?_; rotate_left; (focus ((try dsimp only at hSw); go_simp; with_reducible rfl)); try simp only [Act.put, List.setIfInBounds_toArray, List.set_cons_zero, List.set_cons_succ]) | (refine lexG_skip _ rfl rfl (by assumption) ?_; try simp only [Act.put, List.setIfInBounds_toArray, List.set_cons_zero, List.set_cons_succ]))
  refine lexG_nil ?_
  go_wp2_with fail
  go_ret
  exact ⟨rfl, hS3.2.2.2.2.2.1⟩
theorem val_great_flat (k i : Int) (f : Nat) (s : ByteArray) (A : Option Addr) (n c : Nat) (d : Int) (w : World) (h0 : 0 ≤ k) (h4 : k < 4) (hs : s.size ≤ 256) :
    Calls Tryz.prog 40 #[.agg #[.int .i64 k, .int .i64 i, .float .f64 f, .string s, .slice A n c], .int .i64 d] w (Says w (.bool false)) := by
  have k4 : (k == 4) = false := by rw [beq_eq_false_iff_ne]; omega
  have hfin : Below w.heap.size w ((w.alloc (.cells #[.int .i64 k, .int .i64 i, .float .f64 f, .string s, .slice A n c] 25)).alloc (.cells #[.int .i64 d] 3)) := ((Below.refl _ w).alloc (Nat.le_refl _) _).alloc (by simp) _
  by_cases h3 : k = 3
  · subst h3
    go_enter Tryz.func40, Tryz.ntmps40
    go_wp2
    go_ret
    refine ⟨?_, hfin⟩
    simp [go_sem]
    omega
  · have k3 : (k == 3) = false := by rw [beq_eq_false_iff_ne]; omega
    go_enter Tryz.func40, Tryz.ntmps40
    go_wp2
    go_ret
    exact ⟨rfl, hfin⟩
theorem val_size_num (k i : Int) (f : Nat) (s : ByteArray) (A : Option Addr) (n c : Nat) (w : World) (h : k = 1 ∨ k = 2) :
    Calls Tryz.prog 18 #[.agg #[.int .i64 k, .int .i64 i, .float .f64 f, .string s, .slice A n c]] w (Says w (.int .i64 9)) := by
  have hfin : Below w.heap.size w (w.alloc (.cells #[.int .i64 k, .int .i64 i, .float .f64 f, .string s, .slice A n c] 25)) := (Below.refl _ w).alloc (Nat.le_refl _) _
  rcases h with rfl | rfl
  · go_enter Tryz.func18, Tryz.ntmps18
    go_wp2
    go_ret
    exact ⟨rfl, hfin⟩
  · go_enter Tryz.func18, Tryz.ntmps18
    go_wp2
    go_ret
    exact ⟨rfl, hfin⟩
theorem val_check_num (k i : Int) (f : Nat) (s : ByteArray) (A : Option Addr) (n c : Nat) (w : World) (h : k = 1 ∨ k = 2) (hs : s.size ≤ 256) :
    Calls Tryz.prog 17 #[.agg #[.int .i64 k, .int .i64 i, .float .f64 f, .string s, .slice A n c]] w (Says w (.int .i64 0)) := by
  have h0 : 0 ≤ k := by omega
  have h4 : k < 4 := by omega
  have hS := SV.alloc w (Below.refl _ _) k i f s A n c
  go_enter Tryz.func17, Tryz.ntmps17
  go_wp2_with fail
  generalize w.alloc (.cells #[.int .i64 k, .int .i64 i, .float .f64 f, .string s, .slice A n c] 25) = w1 at hS ⊢
  generalize hb : w.heap.size = b at hS ⊢
  replace hb := Lib.hid hb
  refine (val_strange_flat k i f s A n c w1 h0 h4).mono ?_
  rintro e w2 ⟨rfl, hb2⟩
  dsimp only
  have hS2 : SV b k i f s A n c w w2 := hS.below hb2
  obtain ⟨e0, e1, e2, e3, e4, e5, e6⟩ := id hS2
  go_wp2_with fail
  refine (val_great_flat k i f s A n c 8 w2 h0 h4 hs).mono ?_
  rintro e w3 ⟨rfl, hb3⟩
  dsimp only
  clear e0 e1 e2 e3 e4 e5 e6
  have hS3 : SV b k i f s A n c w w3 := hS2.below hb3
  obtain ⟨e0, e1, e2, e3, e4, e5, e6⟩ := id hS3
  go_wp2_with fail
  refine (val_size_num k i f s A n c w3 h).mono ?_
  rintro e w4 ⟨rfl, hb4⟩
  dsimp only
  go_wp2_with fail
  go_ret
  exact ⟨rfl, below_then hb4 hS3.2.2.2.2.2.1⟩
end Go.Proofs.YtdbmffagibnibaaGreatDoor
namespace Go.Proofs.YtdbmffagibnibaaGreatDoor
set_option maxRecDepth 100000
open Go.RowKit
theorem run_store_float {P : Program} (a : Addr) (k : FloatKind) (x : Nat) (m : Mode) (w : World) : (store a (.float k x) m).run P w = stored P w a (.float k x) m := run_store P w a _ m rfl
end Go.Proofs.YtdbmffagibnibaaGreatDoor
namespace Go.Proofs.YtdbmffagibnibaaGreatDoor
set_option maxRecDepth 100000
open Go.RowKit
theorem Blk.row {w : World} {g : Nat} {t : TypeId} {old : Array Value} (h : Blk w g t old) (cs : Array Value) : Blk (w.setRow g cs) g t cs := setRow_heap w g old cs t (0, 0) h
theorem Blk.farRow {w : World} {g k : Nat} {t : TypeId} {cur : Array Value} (h : Blk w k t cur) (hne : k ≠ g) (cs : Array Value) : Blk (w.setRow g cs) k t cur := (setRow_other w g k cs hne).trans h
theorem Upd.setRow {S : Nat → Prop} {w w' : World} (h : Upd S w w') {g : Nat} (hg : g < w.heap.size → S g) (cs : Array Value) : Upd S w (w'.setRow g cs) :=
  ⟨h.os, h.tape, h.output, by rw [size_setRow]; exact h.size, fun k hk hs => by
    by_cases hkg : k = g
    · subst hkg; exact absurd (hg hk) hs
    · rw [setRow_other _ _ _ _ hkg]; exact h.block k hk hs⟩
theorem below_row {B g : Nat} {w0 w : World} (hb : Below B w0 w) (h : B ≤ g) (cs : Array Value) : Below B w0 (w.setRow g cs) :=
  ⟨hb.os, hb.tape, hb.output, by rw [size_setRow]; exact hb.size, fun k hk => by rw [setRow_other _ _ _ _ (by omega)]; exact hb.block k hk⟩
theorem store_row_gen {P : Program} {ops : Array Oper} {rest : List Oper} {o : Oper} {a : Act} {w : World} {Q : Exit → Act → World → Prop} (hgd : o.guard = none) (ty : TypeId) (x y : Operand) (ho : o.op = .store ty x y)
    (g : Nat) (cells : Array Value) (hx : a.eval x = .pointer (some ⟨g, 0, none⟩)) (hy : a.eval y = .agg cells)
    (t : TypeId) (old : Array Value) (hg : Blk w g t old) (hi : (P.info? ty).map (·.size) = some cells.size)
    (hold : old.size = cells.size) (h1 : cells.all (·.oneCell') = true)
    (h : ∀ w2, w2 = w.setRow g cells → wpList P ops Q rest (a.put o.dst undef) w2) : wpList P ops Q (o :: rest) a w :=
  wpList_store_row hgd ty x y ho g cells hx hy t old hg hi hold h1 (h _ rfl)
end Go.Proofs.YtdbmffagibnibaaGreatDoor
namespace Go.Proofs.YtdbmffagibnibaaGreatDoor
set_option maxRecDepth 100000
open Go.RowKit
def nanB (x : Nat) : Bool := decide (9218868437227405312 < x % 9223372036854775808)
/-- The bits of a number, of any NaN the one's. -/
def cb (x : Nat) : Nat := if nanB x then 9221120237041090561 else x
theorem datum_self (d : Ieee.Datum) : (d.order d != some .eq) = d.isNaN := by
  cases d with
  | number s m e =>
    have hc : ∀ a : Int, compare a a = Ordering.eq := fun a => by simp [compare, compareOfLessAndEq]
    simp [Ieee.Datum.order, Ieee.Datum.isNaN, hc]
  | infinity s =>
    have hc : ∀ a : Nat, compare a a = Ordering.eq := fun a => by simp [compare, compareOfLessAndEq]
    simp [Ieee.Datum.order, Ieee.Datum.isNaN, hc]
  | nan s f => simp [Ieee.Datum.order, Ieee.Datum.isNaN]
theorem read_nan (x : Nat) : (Ieee.double.read x).isNaN = nanB x := by
  have hs : Ieee.double.signWeight = 9223372036854775808 := by decide
  have hb : Ieee.double.binade = 4503599627370496 := by decide
  have hi : Ieee.double.infRung = 9218868437227405312 := by decide
  unfold Ieee.Format.read nanB
  simp only [hs, hb, hi]
  generalize (x / 9223372036854775808 % 2 == 1) = neg
  generalize x % 9223372036854775808 = y
  by_cases h1 : y < 4503599627370496
  · rw [if_pos h1]
    have : ¬ 9218868437227405312 < y := by omega
    simp [Ieee.Datum.isNaN, this]
  rw [if_neg h1]
  by_cases h2 : y < 9218868437227405312
  · rw [if_pos h2]
    have : ¬ 9218868437227405312 < y := by omega
    simp [Ieee.Datum.isNaN, this]
  rw [if_neg h2]
  by_cases h3 : y = 9218868437227405312
  · rw [if_pos h3, h3]
    simp [Ieee.Datum.isNaN]
  · rw [if_neg h3]
    have : 9218868437227405312 < y := by omega
    simp [Ieee.Datum.isNaN, this]
theorem order_self (x : Nat) : (FloatKind.f64.format.order x x != some .eq) = nanB x := by
  rw [← read_nan]
  exact datum_self _
theorem run_frombits (n : Nat) (w : World) : (callFunc 51 #[.int .u64 (n : Int)]).run Tryz.prog w = .ok (.value (.float .f64 n)) w := by
  rw [run_callFunc_extern Tryz.func51 (by kernel_rfl) (by kernel_rfl) (by kernel_rfl) (e := Extern.MathFloatBits.float64frombits) (by kernel_rfl)]
  rfl
theorem run_bits (n : Nat) (w : World) : (callFunc 38 #[.float .f64 n]).run Tryz.prog w = .ok (.value (.int .u64 (n : Int))) w := by
  rw [run_callFunc_extern Tryz.func38 (by kernel_rfl) (by kernel_rfl) (by kernel_rfl) (e := Extern.MathFloatBits.float64bits) (by kernel_rfl)]
  rfl
end Go.Proofs.YtdbmffagibnibaaGreatDoor
namespace Go.Proofs.YtdbmffagibnibaaGreatDoor
set_option maxRecDepth 100000
open Go.RowKit
inductive Val where
  | mk (k i : Int) (f : Nat) (s : List UInt8) (l : List Val)
/-- A value that the machine holds: each list in a row of its own, in blocks of P. -/
inductive VOwn (w : World) (P : Nat → Prop) : Val → Array Value → Prop
  | mk {k i : Int} {f : Nat} {s : List UInt8} {l : List Val} {A : Option Addr} {c : Nat} {xs : List Value} (css : Nat → Array Value) (hn : l.length ≤ 2199023255488) (ho : Own w 25 5 A l.length c xs) (hP : ∀ g, bOf A = some g → P g)
      (hx : ∀ (j : Nat) (v : Val), l[j]? = some v → VOwn w P v (css j)) (hxs : ∀ j, j < l.length → (xs.drop (j * 5)).take 5 = (css j).toList) :
      VOwn w P (.mk k i f s l) #[.int .i64 k, .int .i64 i, .float .f64 f, .string (bstr s), .slice A l.length c]
theorem VOwn.upd {w w' : World} {P S : Nat → Prop} {v : Val} {cs : Array Value} (h : VOwn w P v cs) (hu : Upd S w w') (hs : ∀ g, P g → ¬ S g) : VOwn w' P v cs := by
  induction h with
  | mk css hn ho hP hx hxs ih => exact .mk css hn (ho.upd hu fun g hg => hs g (hP g hg)) hP (fun j v hv => ih j v hv) hxs
theorem VOwn.mono {w : World} {P Q : Nat → Prop} {v : Val} {cs : Array Value} (h : VOwn w P v cs) (hq : ∀ g, g < w.heap.size → P g → Q g) : VOwn w Q v cs := by
  induction h with
  | mk css hn ho hP hx hxs ih => exact .mk css hn ho (fun g hg => hq g (ho.lt hg) (hP g hg)) (fun j v hv => ih j v hv) hxs
theorem VOwn.size {w : World} {P : Nat → Prop} {v : Val} {cs : Array Value} (h : VOwn w P v cs) : cs.size = 5 := by
  cases h with
  | mk css hn ho hP hx hxs => rfl
theorem VOwn.one {w : World} {P : Nat → Prop} {v : Val} {cs : Array Value} (h : VOwn w P v cs) : ∀ u ∈ cs.toList, u.oneCell' = true := by
  cases h with
  | mk css hn ho hP hx hxs =>
    intro u hu
    simp at hu
    rcases hu with rfl | rfl | rfl | rfl | rfl <;> rfl
theorem VOwn.flat (w : World) (P : Nat → Prop) (k i : Int) (f : Nat) (s : List UInt8) : VOwn w P (.mk k i f s []) #[.int .i64 k, .int .i64 i, .float .f64 f, .string (bstr s), .slice none 0 0] :=
  .mk (l := []) (fun _ => #[]) (by simp) Own.none_ (by simp [bOf]) (by simp) (by simp)
end Go.Proofs.YtdbmffagibnibaaGreatDoor
namespace Go.Proofs.YtdbmffagibnibaaGreatDoor
set_option maxRecDepth 100000
open Go.RowKit
theorem info_val : (Tryz.prog.info? 25).map (fun i => (i.zero, i.size, i.bytes)) = some (some (.agg #[.int .i64 0, .int .i64 0, .float .f64 0, .string ⟨#[]⟩, .slice none 0 0]), 5, 64) := by kernel_rfl
end Go.Proofs.YtdbmffagibnibaaGreatDoor
namespace Go.Proofs.YtdbmffagibnibaaGreatDoor
set_option maxRecDepth 100000
open Go.RowKit
mutual
def sizeV : Val → Nat
  | .mk k _ _ s l => if k = 1 ∨ k = 2 then 9 else if k = 3 then 3 + s.length else if k = 4 then 2 + sizeL l else 1
def sizeL : List Val → Nat
  | [] => 0
  | v :: l => sizeV v + sizeL l
end
mutual
def strangeV : Val → Bool
  | .mk k _ _ _ l => decide (k < 0 ∨ 4 < k) || (k == 4 && strangeL l)
def strangeL : List Val → Bool
  | [] => false
  | v :: l => strangeV v || strangeL l
end
mutual
def greatV : Val → Int → Bool
  | .mk k _ _ s l, d => if k = 3 then decide (256 < s.length) else if k = 4 then decide (64 < l.length) || decide (d < 1) || greatL l (d - 1) else false
def greatL : List Val → Int → Bool
  | [], _ => false
  | v :: l, d => greatV v d || greatL l d
end
theorem strangeL_any (l : List Val) : strangeL l = l.any strangeV := by
  induction l with
  | nil => rfl
  | cons v l ih => simp [strangeL, ih]
theorem greatL_any (l : List Val) (d : Int) : greatL l d = l.any (greatV · d) := by
  induction l with
  | nil => rfl
  | cons v l ih => simp [greatL, ih]
theorem sizeL_sum (l : List Val) (k : Nat) (hk : k < l.length) : sizeL (l.take (k + 1)) = sizeL (l.take k) + sizeV l[k] := by
  induction l generalizing k with
  | nil => simp at hk
  | cons v l ih =>
    cases k with
    | zero => simp [sizeL]
    | succ k =>
      simp only [List.take_succ_cons, sizeL, List.getElem_cons_succ]
      rw [ih k (by simpa using hk)]
      omega
/-- A value that the machine reads. -/
inductive VReads (w : World) (B : Nat) : Val → Array Value → Prop
  | mk {k i : Int} {f : Nat} {s : List UInt8} {l : List Val} {A : Option Addr} {c : Nat} {xs : List Value} (css : Nat → Array Value) (hn : l.length ≤ 140737488351232) (hr : Reads w B 5 A l.length xs)
      (hx : ∀ (j : Nat) (v : Val), l[j]? = some v → VReads w B v (css j)) (hxs : ∀ j, j < l.length → (xs.drop (j * 5)).take 5 = (css j).toList) :
      VReads w B (.mk k i f s l) #[.int .i64 k, .int .i64 i, .float .f64 f, .string (bstr s), .slice A l.length c]
theorem VOwn.reads {w : World} {P : Nat → Prop} {v : Val} {cs : Array Value} (h : VOwn w P v cs) : VReads w w.heap.size v cs := by
  induction h with
  | mk css hn ho hP hx hxs ih => exact .mk css (by omega) ho.reads_ (fun j v hv => ih j v hv) hxs
/-- An element's five cells, as the walk spells their addresses. -/
theorem elem_cells {w : World} {B n k : Nat} {ad : Addr} {xs : List Value} {a0 a1 a2 a3 a4 : Value} (h : Reads w B 5 (some ad) n xs) (hk : k < n) (hxs : (xs.drop (k * 5)).take 5 = [a0, a1, a2, a3, a4]) :
    w.cell? (ad.add (k * 5)) = some a0 ∧ w.cell? ⟨(ad.add (k * 5)).block, (ad.add (k * 5)).off + 1, none⟩ = some a1 ∧ w.cell? ⟨(ad.add (k * 5)).block, (ad.add (k * 5)).off + 2, none⟩ = some a2 ∧ w.cell? ⟨(ad.add (k * 5)).block, (ad.add (k * 5)).off + 3, none⟩ = some a3 ∧ w.cell? ⟨(ad.add (k * 5)).block, (ad.add (k * 5)).off + 4, none⟩ = some a4 := by
  obtain ⟨ad', e, hb, hc⟩ := h.2 (by omega)
  cases e
  have hl : k * 5 + 5 ≤ xs.length := by rw [h.1]; omega
  have hg : ∀ i u, i < 5 → [a0, a1, a2, a3, a4][i]? = some u → xs[k * 5 + i]? = some u := by
    intro i u hi hu
    rw [← hxs, List.getElem?_take, if_pos hi, List.getElem?_drop] at hu
    exact hu
  have g0 := hc (k * 5 + 0) a0 (hg 0 a0 (by omega) rfl)
  have g1 := hc (k * 5 + (0 + 1)) a1 (hg 1 a1 (by omega) rfl)
  have g2 := hc (k * 5 + (1 + 1)) a2 (hg 2 a2 (by omega) rfl)
  have g3 := hc (k * 5 + (2 + 1)) a3 (hg 3 a3 (by omega) rfl)
  have g4 := hc (k * 5 + (3 + 1)) a4 (hg 4 a4 (by omega) rfl)
  rw [add_pos] at g1 g2 g3 g4
  exact ⟨g0, g1, g2, g3, g4⟩
theorem VReads.form {w : World} {B : Nat} {v : Val} {cs : Array Value} (h : VReads w B v cs) : ∃ k i f s A n c, cs = #[.int .i64 k, .int .i64 i, .float .f64 f, .string s, .slice A n c] := by
  cases h with
  | mk css hn hr hx hxs => exact ⟨_, _, _, _, _, _, _, rfl⟩
theorem VReads.under {w w' : World} {B : Nat} {v : Val} {cs : Array Value} (h : VReads w B v cs) (hb : Below B w w') : VReads w' B v cs := by
  induction h with
  | mk css hn hr hx hxs ih => exact .mk css hn (hr.below hb) (fun j v hv => ih j v hv) hxs
/-- What a search of a list's values tells. -/
def IdxRes (w : World) (p : Val → Bool) (l : List Val) (e : Ending) (w' : World) : Prop := ∃ z : Int, e = .returned (.int .i64 z) ∧ (decide (0 ≤ z)) = l.any p ∧ Below w.heap.size w w'
set_option maxHeartbeats 800000 in
theorem index_strange {A : Option Addr} {c B : Nat} {l : List Val} {xs : List Value} {css : Nat → Array Value} {p : Val → Bool} {w : World} (hr : Reads w B 5 A l.length xs) (hB : B ≤ w.heap.size) (hxs : ∀ j, j < l.length → (xs.drop (j * 5)).take 5 = (css j).toList) (hv : ∀ j v, l[j]? = some v → VReads w B v (css j)) (hlen : l.length ≤ 140737488351232)
    (hcall : ∀ j v, l[j]? = some v → ∀ w1, Below w.heap.size w w1 → Calls Tryz.prog 39 #[.agg (css j)] w1 (Says w1 (.bool (p v)))) :
    Calls Tryz.prog 71 #[.slice A l.length c, .func (Fn.func 39) #[] #[]] w (IdxRes w p l) := by
  replace hcall := Lib.hid hcall
  go_enter Tryz.func71, Tryz.ntmps71
  go_wp2_with fail
  go_loopw [8] (fun i wr => ∃ k : Nat, k ≤ l.length ∧ i = .int .i64 (k : Int) ∧ (l.take k).any p = false ∧ Below w.heap.size w wr) (fun i _ => l.length - (intOf i).toNat)
  case atStart => exact ⟨0, Nat.zero_le _, rfl, by simp, Below.refl _ _⟩
  case round =>
    rename_i hrel
    obtain ⟨k, hk, rfl, hany, hb⟩ := hrel
    by_cases hlt : k < l.length
    · obtain ⟨ad, rfl, -, -⟩ := hr.2 (by omega)
      have hgk : l[k]? = some l[k] := List.getElem?_eq_getElem hlt
      obtain ⟨k', i', f', s', A', n', c', hform⟩ := (hv k l[k] hgk).form
      have hc5 := hxs k hlt
      rw [hform] at hc5
      obtain ⟨g0, g1, g2, g3, g4⟩ := elem_cells (hr.below (hb.mono hB)) hlt hc5
      have hcl := hcall.out k l[k] hgk wr hb
      rw [hform] at hcl
      have htk : (l.take (k + 1)).any p = ((l.take k).any p || p l[k]) := by rw [List.take_succ_eq_append_getElem hlt, List.any_append]; simp
      have hall : p l[k] = true → l.any p = true := fun hp => List.any_eq_true.2 ⟨l[k], List.getElem_mem hlt, hp⟩
      generalize p l[k] = q at hcl htk hall
      replace hany := Lib.hid hany
      replace htk := Lib.hid htk
      replace hall := Lib.hid hall
      clear hform hc5 hgk
      go_wp2_with fail
      refine hcl.mono ?_
      clear hcl
      rintro e w2 ⟨rfl, hb2⟩
      dsimp only
      have hb2' := below_then hb2 hb
      cases q
      · go_wp2_with fail
        go_roundw
        case rel => exact ⟨k + 1, by omega, by simp, by rw [htk.out, hany.out]; rfl, by assumption⟩
        case measure => simp [intOf]; omega
      · go_wp2_with fail
        go_ret
        exact ⟨_, rfl, by rw [hall.out (by trivial)]; exact decide_eq_true (by omega), hb2'⟩
    · have hk' : k = l.length := by omega
      subst hk'
      rw [List.take_length] at hany
      replace hany := Lib.hid hany
      go_wp2_with fail
      go_ret
      exact ⟨_, rfl, by rw [hany.out]; simp, hb⟩
theorem contains_strange {A : Option Addr} {c B : Nat} {l : List Val} {xs : List Value} {css : Nat → Array Value} {p : Val → Bool} {w : World} (hr : Reads w B 5 A l.length xs) (hB : B ≤ w.heap.size) (hxs : ∀ j, j < l.length → (xs.drop (j * 5)).take 5 = (css j).toList) (hv : ∀ j v, l[j]? = some v → VReads w B v (css j)) (hlen : l.length ≤ 140737488351232)
    (hcall : ∀ j v, l[j]? = some v → ∀ w1, Below w.heap.size w w1 → Calls Tryz.prog 39 #[.agg (css j)] w1 (Says w1 (.bool (p v)))) :
    Calls Tryz.prog 57 #[.slice A l.length c, .func (Fn.func 39) #[] #[]] w (Says w (.bool (l.any p))) := by
  have hidx := Lib.hid (index_strange (c := c) hr hB hxs hv hlen hcall)
  clear hr hxs hv hcall
  go_enter Tryz.func57, Tryz.ntmps57
  go_wp2_with fail
  refine hidx.out.mono ?_
  rintro e w1 ⟨z, rfl, hz, hb⟩
  dsimp only
  replace hz := Lib.hid hz
  go_wp2_with fail
  go_ret
  refine ⟨?_, hb⟩
  rw [← hz.out]
  rfl
set_option maxHeartbeats 800000 in
theorem index_great {pd : Addr} {A : Option Addr} {c B : Nat} {l : List Val} {xs : List Value} {css : Nat → Array Value} {p : Val → Bool} {w : World} (hr : Reads w B 5 A l.length xs) (hB : B ≤ w.heap.size) (hxs : ∀ j, j < l.length → (xs.drop (j * 5)).take 5 = (css j).toList) (hv : ∀ j v, l[j]? = some v → VReads w B v (css j)) (hlen : l.length ≤ 140737488351232)
    (hcall : ∀ j v, l[j]? = some v → ∀ w1, Below w.heap.size w w1 → Calls Tryz.prog 58 #[.agg (css j), .pointer (some pd)] w1 (Says w1 (.bool (p v)))) :
    Calls Tryz.prog 71 #[.slice A l.length c, .func (Fn.func 58) #[] #[.pointer (some pd)]] w (IdxRes w p l) := by
  replace hcall := Lib.hid hcall
  go_enter Tryz.func71, Tryz.ntmps71
  go_wp2_with fail
  go_loopw [8] (fun i wr => ∃ k : Nat, k ≤ l.length ∧ i = .int .i64 (k : Int) ∧ (l.take k).any p = false ∧ Below w.heap.size w wr) (fun i _ => l.length - (intOf i).toNat)
  case atStart => exact ⟨0, Nat.zero_le _, rfl, by simp, Below.refl _ _⟩
  case round =>
    rename_i hrel
    obtain ⟨k, hk, rfl, hany, hb⟩ := hrel
    by_cases hlt : k < l.length
    · obtain ⟨ad, rfl, -, -⟩ := hr.2 (by omega)
      have hgk : l[k]? = some l[k] := List.getElem?_eq_getElem hlt
      obtain ⟨k', i', f', s', A', n', c', hform⟩ := (hv k l[k] hgk).form
      have hc5 := hxs k hlt
      rw [hform] at hc5
      obtain ⟨g0, g1, g2, g3, g4⟩ := elem_cells (hr.below (hb.mono hB)) hlt hc5
      have hcl := hcall.out k l[k] hgk wr hb
      rw [hform] at hcl
      have htk : (l.take (k + 1)).any p = ((l.take k).any p || p l[k]) := by rw [List.take_succ_eq_append_getElem hlt, List.any_append]; simp
      have hall : p l[k] = true → l.any p = true := fun hp => List.any_eq_true.2 ⟨l[k], List.getElem_mem hlt, hp⟩
      generalize p l[k] = q at hcl htk hall
      replace hany := Lib.hid hany
      replace htk := Lib.hid htk
      replace hall := Lib.hid hall
      clear hform hc5 hgk
      go_wp2_with fail
      refine hcl.mono ?_
      clear hcl
      rintro e w2 ⟨rfl, hb2⟩
      dsimp only
      have hb2' := below_then hb2 hb
      cases q
      · go_wp2_with fail
        go_roundw
        case rel => exact ⟨k + 1, by omega, by simp, by rw [htk.out, hany.out]; rfl, by assumption⟩
        case measure => simp [intOf]; omega
      · go_wp2_with fail
        go_ret
        exact ⟨_, rfl, by rw [hall.out (by trivial)]; exact decide_eq_true (by omega), hb2'⟩
    · have hk' : k = l.length := by omega
      subst hk'
      rw [List.take_length] at hany
      replace hany := Lib.hid hany
      go_wp2_with fail
      go_ret
      exact ⟨_, rfl, by rw [hany.out]; simp, hb⟩
theorem contains_great {pd : Addr} {A : Option Addr} {c B : Nat} {l : List Val} {xs : List Value} {css : Nat → Array Value} {p : Val → Bool} {w : World} (hr : Reads w B 5 A l.length xs) (hB : B ≤ w.heap.size) (hxs : ∀ j, j < l.length → (xs.drop (j * 5)).take 5 = (css j).toList) (hv : ∀ j v, l[j]? = some v → VReads w B v (css j)) (hlen : l.length ≤ 140737488351232)
    (hcall : ∀ j v, l[j]? = some v → ∀ w1, Below w.heap.size w w1 → Calls Tryz.prog 58 #[.agg (css j), .pointer (some pd)] w1 (Says w1 (.bool (p v)))) :
    Calls Tryz.prog 57 #[.slice A l.length c, .func (Fn.func 58) #[] #[.pointer (some pd)]] w (Says w (.bool (l.any p))) := by
  have hidx := Lib.hid (index_great (c := c) hr hB hxs hv hlen hcall)
  clear hr hxs hv hcall
  go_enter Tryz.func57, Tryz.ntmps57
  go_wp2_with fail
  refine hidx.out.mono ?_
  rintro e w1 ⟨z, rfl, hz, hb⟩
  dsimp only
  replace hz := Lib.hid hz
  go_wp2_with fail
  go_ret
  refine ⟨?_, hb⟩
  rw [← hz.out]
  rfl
end Go.Proofs.YtdbmffagibnibaaGreatDoor
namespace Go.Proofs.YtdbmffagibnibaaGreatDoor
set_option maxRecDepth 100000
open Go.RowKit
theorem val_strange_list (k i : Int) (f : Nat) (s : ByteArray) (A : Option Addr) (n c : Nat) (q : Bool) (w : World) (hk4 : k = 4) (hidx : ∀ w2, Below w.heap.size w w2 → Calls Tryz.prog 57 #[.slice A n c, .func (Fn.func 39) #[] #[]] w2 (Says w2 (.bool q))) :
    Calls Tryz.prog 39 #[.agg #[.int .i64 k, .int .i64 i, .float .f64 f, .string s, .slice A n c]] w (Says w (.bool q)) := by
  have hk : kindOf k = k := by simp [kindOf]; omega
  have k4 : (k == 4) = true := by rw [beq_iff_eq]; exact hk4
  have hS : SV w.heap.size k i f s A n c w (w.alloc (.cells #[.int .i64 k, .int .i64 i, .float .f64 f, .string s, .slice A n c] 25)) := SV.alloc w (Below.refl _ _) k i f s A n c
  replace hidx := Lib.hid hidx
  clear hk4
  go_enter Tryz.func39, Tryz.ntmps39
  go_wp2_with fail
  generalize w.alloc (.cells #[.int .i64 k, .int .i64 i, .float .f64 f, .string s, .slice A n c] 25) = w1 at hS ⊢
  generalize hb : w.heap.size = b at hS ⊢
  replace hb := Lib.hid hb
  have hS2 : w1.drew.cell? ⟨b, 0, none⟩ = some (.int .i64 k) ∧ w1.drew.cell? ⟨b, 1, none⟩ = some (.int .i64 i) ∧ w1.drew.cell? ⟨b, 2, none⟩ = some (.float .f64 f) ∧ w1.drew.cell? ⟨b, 3, none⟩ = some (.string s) ∧ w1.drew.cell? ⟨b, 4, none⟩ = some (.slice A n c) ∧ Below w.heap.size w w1.drew ∧ b < w1.drew.heap.size := hS.drew
  refine wp_region_lex (fun W => W.cell? ⟨b, 0, none⟩ = some (.int .i64 k) ∧ W.cell? ⟨b, 1, none⟩ = some (.int .i64 i) ∧ W.cell? ⟨b, 2, none⟩ = some (.float .f64 f) ∧ W.cell? ⟨b, 3, none⟩ = some (.string s) ∧ W.cell? ⟨b, 4, none⟩ = some (.slice A n c) ∧ Below w.heap.size w W ∧ b < W.heap.size) [1, 2, 7, 11] [3, 12] [0, 1, 2, 3, 4, 5, 6, 7, 8, 9, 10, 11, 12, 13, 14, 15] (by kernel_rfl) rfl (by kernel_rfl) (by kernel_rfl) (fun _ _ d _ _ h => by cases d <;> exact h) ?_
  repeat (first | (refine lexG_take _ ?_ rfl rfl rfl rfl (fun _ => ?_) ?_; rotate_left; (focus (go_simp; with_reducible rfl)); try simp only [Act.put, List.setIfInBounds_toArray, List.set_cons_zero, List.set_cons_succ]) | (refine lexG_held _ ?_ rfl rfl rfl rfl (by assumption) (fun _ hSw => ?_) ?_; rotate_left; (focus ((try dsimp only at hSw); go_simp; with_reducible rfl)); try simp only [Act.put, List.setIfInBounds_toArray, List.set_cons_zero, List.set_cons_succ]) | (refine lexG_skip _ rfl rfl (by assumption) ?_; try simp only [Act.put, List.setIfInBounds_toArray, List.set_cons_zero, List.set_cons_succ]))
  refine lexG_now _ rfl rfl rfl (fun K hK => ?_)
  go_wp2_with fail
  refine (val_kind _ _ _ _ _ _ _ _).mono ?_
  rintro e w2 ⟨rfl, hb2⟩
  rw [hk]
  dsimp only
  have hS3 : w2.cell? ⟨b, 0, none⟩ = some (.int .i64 k) ∧ w2.cell? ⟨b, 1, none⟩ = some (.int .i64 i) ∧ w2.cell? ⟨b, 2, none⟩ = some (.float .f64 f) ∧ w2.cell? ⟨b, 3, none⟩ = some (.string s) ∧ w2.cell? ⟨b, 4, none⟩ = some (.slice A n c) ∧ Below w.heap.size w w2 ∧ b < w2.heap.size := hS.drew.below hb2
  refine hK _ _ _ (fun _ h => h) hS3 ?_
  clear hK K hS hS2 hb2
  try simp only [Act.put, List.setIfInBounds_toArray, List.set_cons_zero, List.set_cons_succ]
  repeat (first | (refine lexG_take _ ?_ rfl rfl rfl rfl (fun _ => ?_) ?_; rotate_left; (focus (go_simp; with_reducible rfl)); try simp only [Act.put, List.setIfInBounds_toArray, List.set_cons_zero, List.set_cons_succ]) | (refine lexG_held _ ?_ rfl rfl rfl rfl (by assumption) (fun _ hSw => ?_) ?_; rotate_left; (focus ((try dsimp only at hSw); go_simp; with_reducible rfl)); try simp only [Act.put, List.setIfInBounds_toArray, List.set_cons_zero, List.set_cons_succ]) | (refine lexG_skip _ rfl rfl (by assumption) ?_; try simp only [Act.put, List.setIfInBounds_toArray, List.set_cons_zero, List.set_cons_succ]))
  refine lexG_now _ rfl rfl rfl (fun K hK => ?_)
  go_wp2_with fail
  refine (hidx.out w2 hS3.2.2.2.2.2.1).mono ?_
  rintro e w3 ⟨rfl, hb3⟩
  dsimp only
  have hfin := below_then hb3 hS3.2.2.2.2.2.1
  have hS4 : w3.cell? ⟨b, 0, none⟩ = some (.int .i64 k) ∧ w3.cell? ⟨b, 1, none⟩ = some (.int .i64 i) ∧ w3.cell? ⟨b, 2, none⟩ = some (.float .f64 f) ∧ w3.cell? ⟨b, 3, none⟩ = some (.string s) ∧ w3.cell? ⟨b, 4, none⟩ = some (.slice A n c) ∧ Below w.heap.size w w3 ∧ b < w3.heap.size := SV.below hS3 hb3
  refine hK _ _ _ (fun _ h => h) hS4 ?_
  clear hK K hS3 hS4
  try simp only [Act.put, List.setIfInBounds_toArray, List.set_cons_zero, List.set_cons_succ]
  repeat (first | (refine lexG_take _ ?_ rfl rfl rfl rfl (fun _ => ?_) ?_; rotate_left; (focus (go_simp; with_reducible rfl)); try simp only [Act.put, List.setIfInBounds_toArray, List.set_cons_zero, List.set_cons_succ]) | (refine lexG_held _ ?_ rfl rfl rfl rfl (by assumption) (fun _ hSw => ?_) ?_; rotate_left; (focus ((try dsimp only at hSw); go_simp; with_reducible rfl)); try simp only [Act.put, List.setIfInBounds_toArray, List.set_cons_zero, List.set_cons_succ]) | (refine lexG_skip _ rfl rfl (by assumption) ?_; try simp only [Act.put, List.setIfInBounds_toArray, List.set_cons_zero, List.set_cons_succ]))
  refine lexG_nil ?_
  go_wp2_with fail
  go_ret
  exact ⟨rfl, hfin⟩
theorem val_strange_out (k i : Int) (f : Nat) (s : ByteArray) (A : Option Addr) (n c : Nat) (w : World) (hk4 : k < 0 ∨ 4 < k) :
    Calls Tryz.prog 39 #[.agg #[.int .i64 k, .int .i64 i, .float .f64 f, .string s, .slice A n c]] w (Says w (.bool true)) := by
  have hk : kindOf k = 0 := by simp [kindOf, hk4]
  have k0 : (k != 0) = true := by rw [bne_iff_ne]; omega
  have hS : SV w.heap.size k i f s A n c w (w.alloc (.cells #[.int .i64 k, .int .i64 i, .float .f64 f, .string s, .slice A n c] 25)) := SV.alloc w (Below.refl _ _) k i f s A n c
  clear hk4
  go_enter Tryz.func39, Tryz.ntmps39
  go_wp2_with fail
  generalize w.alloc (.cells #[.int .i64 k, .int .i64 i, .float .f64 f, .string s, .slice A n c] 25) = w1 at hS ⊢
  generalize hb : w.heap.size = b at hS ⊢
  replace hb := Lib.hid hb
  have hS2 : w1.drew.cell? ⟨b, 0, none⟩ = some (.int .i64 k) ∧ w1.drew.cell? ⟨b, 1, none⟩ = some (.int .i64 i) ∧ w1.drew.cell? ⟨b, 2, none⟩ = some (.float .f64 f) ∧ w1.drew.cell? ⟨b, 3, none⟩ = some (.string s) ∧ w1.drew.cell? ⟨b, 4, none⟩ = some (.slice A n c) ∧ Below w.heap.size w w1.drew ∧ b < w1.drew.heap.size := hS.drew
  refine wp_region_lex (fun W => W.cell? ⟨b, 0, none⟩ = some (.int .i64 k) ∧ W.cell? ⟨b, 1, none⟩ = some (.int .i64 i) ∧ W.cell? ⟨b, 2, none⟩ = some (.float .f64 f) ∧ W.cell? ⟨b, 3, none⟩ = some (.string s) ∧ W.cell? ⟨b, 4, none⟩ = some (.slice A n c) ∧ Below w.heap.size w W ∧ b < W.heap.size) [1, 2, 7, 11] [3, 12] [0, 1, 2, 3, 4, 5, 6, 7, 8, 9, 10, 11, 12, 13, 14, 15] (by kernel_rfl) rfl (by kernel_rfl) (by kernel_rfl) (fun _ _ d _ _ h => by cases d <;> exact h) ?_
  repeat (first | (refine lexG_take _ ?_ rfl rfl rfl rfl (fun _ => ?_) ?_; rotate_left; (focus (go_simp; with_reducible rfl)); try simp only [Act.put, List.setIfInBounds_toArray, List.set_cons_zero, List.set_cons_succ]) | (refine lexG_held _ ?_ rfl rfl rfl rfl (by assumption) (fun _ hSw => ?_) ?_; rotate_left; (focus ((try dsimp only at hSw); go_simp; with_reducible rfl)); try simp only [Act.put, List.setIfInBounds_toArray, List.set_cons_zero, List.set_cons_succ]) | (refine lexG_skip _ rfl rfl (by assumption) ?_; try simp only [Act.put, List.setIfInBounds_toArray, List.set_cons_zero, List.set_cons_succ]))
  refine lexG_now _ rfl rfl rfl (fun K hK => ?_)
  go_wp2_with fail
  refine (val_kind _ _ _ _ _ _ _ _).mono ?_
  rintro e w2 ⟨rfl, hb2⟩
  rw [hk]
  dsimp only
  have hS3 : w2.cell? ⟨b, 0, none⟩ = some (.int .i64 k) ∧ w2.cell? ⟨b, 1, none⟩ = some (.int .i64 i) ∧ w2.cell? ⟨b, 2, none⟩ = some (.float .f64 f) ∧ w2.cell? ⟨b, 3, none⟩ = some (.string s) ∧ w2.cell? ⟨b, 4, none⟩ = some (.slice A n c) ∧ Below w.heap.size w w2 ∧ b < w2.heap.size := hS.drew.below hb2
  refine hK _ _ _ (fun _ h => h) hS3 ?_
  clear hK K hS hS2 hb2
  try simp only [Act.put, List.setIfInBounds_toArray, List.set_cons_zero, List.set_cons_succ]
  repeat (first | (refine lexG_take _ ?_ rfl rfl rfl rfl (fun _ => ?_) ?_; rotate_left; (focus (go_simp; with_reducible rfl)); try simp only [Act.put, List.setIfInBounds_toArray, List.set_cons_zero, List.set_cons_succ]) | (refine lexG_held _ ?_ rfl rfl rfl rfl (by assumption) (fun _ hSw => ?_) ?_; rotate_left; (focus ((try dsimp only at hSw); go_simp; with_reducible rfl)); try simp only [Act.put, List.setIfInBounds_toArray, List.set_cons_zero, List.set_cons_succ]) | (refine lexG_skip _ rfl rfl (by assumption) ?_; try simp only [Act.put, List.setIfInBounds_toArray, List.set_cons_zero, List.set_cons_succ]))
  refine lexG_nil ?_
  go_wp2_with fail
  go_ret
  exact ⟨rfl, hS3.2.2.2.2.2.1⟩
theorem val_great_list (k i : Int) (f : Nat) (s : ByteArray) (A : Option Addr) (n c : Nat) (d : Int) (q : Bool) (w : World) (hk4 : k = 4) (hd0 : -9223372036854775808 ≤ d) (hd1 : d ≤ 9223372036854775807)
    (hidx : 1 ≤ d → ∀ w2 pd, Below w.heap.size w w2 → w2.cell? pd = some (.int .i64 d) → pd.block < w2.heap.size → Calls Tryz.prog 57 #[.slice A n c, .func (Fn.func 58) #[] #[.pointer (some pd)]] w2 (Says w2 (.bool q))) :
    Calls Tryz.prog 40 #[.agg #[.int .i64 k, .int .i64 i, .float .f64 f, .string s, .slice A n c], .int .i64 d] w (Says w (.bool (decide (64 < n) || decide (d < 1) || q))) := by
  have k4 : (k == 4) = true := by rw [beq_iff_eq]; exact hk4
  have k3 : (k == 3) = false := by rw [beq_eq_false_iff_ne]; omega
  have hmf : ∀ (fn : Fn) (first cap : Array Value) (w : World), (Instr.makeFunc fn first cap).run Tryz.prog w = .ok (.func fn first cap) w := fun _ _ _ _ => rfl
  have hv := (Blk.new w 25 #[.int .i64 k, .int .i64 i, .float .f64 f, .string s, .slice A n c]).alloc (.cells #[.int .i64 d] 3)
  have hi := Blk.new (w.alloc (.cells #[.int .i64 k, .int .i64 i, .float .f64 f, .string s, .slice A n c] 25)) 3 #[.int .i64 d]
  have hfin : Below w.heap.size w ((w.alloc (.cells #[.int .i64 k, .int .i64 i, .float .f64 f, .string s, .slice A n c] 25)).alloc (.cells #[.int .i64 d] 3)) := ((Below.refl _ w).alloc (Nat.le_refl _) _).alloc (by simp) _
  have he : (w.alloc (.cells #[.int .i64 k, .int .i64 i, .float .f64 f, .string s, .slice A n c] 25)).heap.size = w.heap.size + 1 := by simp
  rw [he] at hi
  have hcl := fun h1 : 1 ≤ d => hidx h1 _ ⟨w.heap.size + 1, 0, none⟩ hfin (hi.cell 0) hi.lt
  clear hk4 hidx he hi hd0 hd1
  replace hcl := Lib.hid hcl
  replace hv := Lib.hid hv
  replace hfin := Lib.hid hfin
  by_cases h64 : 64 < n
  · have e : (decide (64 < n) || decide (d < 1) || q) = true := by simp [h64]
    rw [e]
    have h64i : (64 : Int) < (n : Int) := by omega
    go_enter Tryz.func40, Tryz.ntmps40
    go_wp2_with fail
    go_ret
    exact ⟨rfl, hfin.out⟩
  have h64i : (n : Int) ≤ 64 := by omega
  by_cases hd : d < 1
  · have e : (decide (64 < n) || decide (d < 1) || q) = true := by simp [hd]
    rw [e]
    go_enter Tryz.func40, Tryz.ntmps40
    go_wp2_with fail
    go_ret
    exact ⟨rfl, hfin.out⟩
  · have e : (decide (64 < n) || decide (d < 1) || q) = q := by simp [h64, hd]
    rw [e]
    go_enter Tryz.func40, Tryz.ntmps40
    go_wp2_with fail
    refine (hcl.out (by omega)).mono ?_
    rintro e w3 ⟨rfl, hb3⟩
    dsimp only
    go_wp2_with fail
    go_ret
    refine ⟨?_, below_then hb3 hfin.out⟩
    show Ending.returned (.bool (decide ((64 : Int) < (n : Int)) || q)) = _
    rw [decide_eq_false (show ¬ (64 : Int) < (n : Int) by omega)]
    rfl
set_option maxHeartbeats 800000 in
theorem val_strange {w : World} {B : Nat} {v : Val} {cs : Array Value} (h : VReads w B v cs) : ∀ w1, Below B w w1 → B ≤ w1.heap.size → Calls Tryz.prog 39 #[.agg cs] w1 (Says w1 (.bool (strangeV v))) := by
  induction h with
  | @mk k i f s l A c xs css hn hr hx hxs ih =>
    intro w1 hb1 hB1
    have hidx : ∀ w2, Below w1.heap.size w1 w2 → Calls Tryz.prog 57 #[.slice A l.length c, .func (Fn.func 39) #[] #[]] w2 (Says w2 (.bool (l.any strangeV))) := by
      intro w2 hb2
      have hb12 : Below B w w2 := hb1.trans (hb2.mono hB1)
      have hB2 : B ≤ w2.heap.size := Nat.le_trans hB1 hb2.size
      exact contains_strange (hr.below hb12) hB2 hxs (fun j v hv => (hx j v hv).under hb12) hn (fun j v hv w3 hb3 => ih j v hv w3 (hb12.trans (hb3.mono hB2)) (Nat.le_trans hB2 hb3.size))
    have hst : strangeV (.mk k i f s l) = (decide (k < 0 ∨ 4 < k) || (k == 4 && l.any strangeV)) := by rw [← strangeL_any]; rfl
    obtain ⟨sb, hsb⟩ : ∃ sb, bstr s = sb := ⟨_, rfl⟩
    rw [hst, hsb]
    obtain ⟨q, hq⟩ : ∃ q, l.any strangeV = q := ⟨_, rfl⟩
    rw [hq] at hidx ⊢
    obtain ⟨n, hln⟩ : ∃ n, l.length = n := ⟨_, rfl⟩
    rw [hln] at hidx ⊢
    clear ih hx hxs hr hst hq hln hsb hn
    by_cases hflat : 0 ≤ k ∧ k < 4
    · have e : (decide (k < 0 ∨ 4 < k) || (k == 4 && q)) = false := by
        rw [decide_eq_false (by omega), show (k == 4) = false from by rw [beq_eq_false_iff_ne]; omega]
        rfl
      rw [e]
      exact val_strange_flat k i f sb A n c w1 hflat.1 hflat.2
    by_cases hk4 : k = 4
    · have e : (decide (k < 0 ∨ 4 < k) || (k == 4 && q)) = q := by rw [hk4]; simp
      rw [e]
      exact val_strange_list k i f sb A n c q w1 hk4 hidx
    · have e : (decide (k < 0 ∨ 4 < k) || (k == 4 && q)) = true := by rw [decide_eq_true (by omega)]; rfl
      rw [e]
      exact val_strange_out k i f sb A n c w1 (by omega)
theorem val_great_other (k i : Int) (f : Nat) (s : ByteArray) (A : Option Addr) (n c : Nat) (d : Int) (w : World) (hk4 : k ≠ 4) :
    Calls Tryz.prog 40 #[.agg #[.int .i64 k, .int .i64 i, .float .f64 f, .string s, .slice A n c], .int .i64 d] w (Says w (.bool (if k = 3 then decide (256 < s.size) else false))) := by
  have k4 : (k == 4) = false := by rw [beq_eq_false_iff_ne]; exact hk4
  have hfin : Below w.heap.size w ((w.alloc (.cells #[.int .i64 k, .int .i64 i, .float .f64 f, .string s, .slice A n c] 25)).alloc (.cells #[.int .i64 d] 3)) := ((Below.refl _ w).alloc (Nat.le_refl _) _).alloc (by simp) _
  by_cases h3 : k = 3
  · rw [if_pos h3]
    subst h3
    go_enter Tryz.func40, Tryz.ntmps40
    go_wp2
    go_ret
    refine ⟨?_, hfin⟩
    simp [go_sem]
    try omega
  · rw [if_neg h3]
    have k3 : (k == 3) = false := by rw [beq_eq_false_iff_ne]; exact h3
    go_enter Tryz.func40, Tryz.ntmps40
    go_wp2
    go_ret
    exact ⟨rfl, hfin⟩
theorem val_great_one (d : Int) (pd : Addr) (cs : Array Value) (q : Bool) (w : World) (hf : ∃ k i f s A n c, cs = #[.int .i64 k, .int .i64 i, .float .f64 f, .string s, .slice A n c]) (hp : w.cell? pd = some (.int .i64 d)) (hpl : pd.block < w.heap.size) (hd : 1 ≤ d) (hd1 : d ≤ 100)
    (hg : ∀ w1, Below w.heap.size w w1 → Calls Tryz.prog 40 #[.agg cs, .int .i64 (d - 1)] w1 (Says w1 (.bool q))) :
    Calls Tryz.prog 58 #[.agg cs, .pointer (some pd)] w (Says w (.bool q)) := by
  obtain ⟨k, i, f, s, A, n, c, rfl⟩ := hf
  have hfin := (Below.refl w.heap.size w).alloc (Nat.le_refl _) (.cells #[.int .i64 k, .int .i64 i, .float .f64 f, .string s, .slice A n c] 25)
  have hp1 := (hfin.cell (p := pd) hpl).trans hp
  have hcl := Lib.hid (hg _ hfin)
  replace hfin := Lib.hid hfin
  clear hg hp
  go_enter Tryz.func58, Tryz.ntmps58
  go_wp2_with fail
  refine hcl.out.mono ?_
  rintro e w3 ⟨rfl, hb3⟩
  dsimp only
  go_wp2_with fail
  go_ret
  exact ⟨rfl, below_then hb3 hfin.out⟩
set_option maxHeartbeats 800000 in
theorem val_great {w : World} {B : Nat} {v : Val} {cs : Array Value} (h : VReads w B v cs) : ∀ (d : Int) w1, 0 ≤ d → d ≤ 100 → Below B w w1 → B ≤ w1.heap.size → Calls Tryz.prog 40 #[.agg cs, .int .i64 d] w1 (Says w1 (.bool (greatV v d))) := by
  induction h with
  | @mk k i f s l A c xs css hn hr hx hxs ih =>
    intro d w1 hd0 hd1 hb1 hB1
    by_cases hk4 : k = 4
    · have hgt : greatV (.mk k i f s l) d = (decide (64 < l.length) || decide (d < 1) || l.any (greatV · (d - 1))) := by
        rw [← greatL_any, hk4]; rfl
      rw [hgt]
      refine val_great_list k i f (bstr s) A l.length c d (l.any (greatV · (d - 1))) w1 hk4 (by omega) (by omega) ?_
      · intro h1 w2 pd hb2 hpd hpl
        have hb12 : Below B w w2 := hb1.trans (hb2.mono hB1)
        have hB2 : B ≤ w2.heap.size := Nat.le_trans hB1 hb2.size
        refine contains_great (hr.below hb12) hB2 hxs (fun j v hv => (hx j v hv).under hb12) hn (fun j v hv w3 hb3 => ?_)
        exact val_great_one d pd (css j) _ w3 (hx j v hv).form ((hb3.cell hpl).trans hpd) (Nat.lt_of_lt_of_le hpl hb3.size) (by omega) hd1 (fun w4 hb4 => ih j v hv (d - 1) w4 (by omega) (by omega) ((hb12.trans (hb3.mono hB2)).trans (hb4.mono (Nat.le_trans hB2 hb3.size))) (Nat.le_trans (Nat.le_trans hB2 hb3.size) hb4.size))
    · have hgt : greatV (.mk k i f s l) d = (if k = 3 then decide (256 < s.length) else false) := by
        unfold greatV
        rw [if_neg hk4]
      rw [hgt]
      refine (val_great_other k i f (bstr s) A l.length c d w1 hk4).mono ?_
      rintro e w' ⟨rfl, hb⟩
      rw [bstr_size]
      exact ⟨rfl, hb⟩
theorem sizeL_take (l : List Val) : ∀ n, sizeL (l.take n) ≤ sizeL l := by
  induction l with
  | nil => intro n; simp
  | cons v l ih =>
    intro n
    cases n with
    | zero => simp [sizeL]
    | succ n =>
      simp only [List.take_succ_cons, sizeL]
      have := ih n
      omega
set_option maxHeartbeats 800000 in
theorem val_size {w : World} {B : Nat} {v : Val} {cs : Array Value} (h : VReads w B v cs) : ∀ w1, sizeV v ≤ 1000000000 → Below B w w1 → B ≤ w1.heap.size → Calls Tryz.prog 18 #[.agg cs] w1 (Says w1 (.int .i64 (sizeV v : Int))) := by
  induction h with
  | @mk k i f s l A c xs css hn hr hx hxs ih =>
    intro w1 hsz hb1 hB1
    have hfin := (Below.refl w1.heap.size w1).alloc (Nat.le_refl _) (.cells #[.int .i64 k, .int .i64 i, .float .f64 f, .string (bstr s), .slice A l.length c] 25)
    have hbs : (bstr s).size = s.length := bstr_size s
    by_cases hk4 : k = 4
    · have hsv : sizeV (.mk k i f s l) = 2 + sizeL l := by rw [hk4]; rfl
      rw [hsv] at hsz ⊢
      subst hk4
      have hb2 : Below B w (w1.alloc (.cells #[.int .i64 4, .int .i64 i, .float .f64 f, .string (bstr s), .slice A l.length c] 25)) := hb1.trans (hfin.mono hB1)
      have hB2 : B ≤ (w1.alloc (.cells #[.int .i64 4, .int .i64 i, .float .f64 f, .string (bstr s), .slice A l.length c] 25)).heap.size := Nat.le_trans hB1 hfin.size
      replace ih := Lib.hid ih
      go_enter Tryz.func18, Tryz.ntmps18
      go_wp2_with fail
      generalize w1.alloc (.cells #[.int .i64 4, .int .i64 i, .float .f64 f, .string (bstr s), .slice A l.length c] 25) = w2 at *
      go_loopw [3, 28] (fun n i wr => ∃ j : Nat, j ≤ l.length ∧ i = .int .i64 (j : Int) ∧ n = .int .i64 ((2 + sizeL (l.take j) : Nat) : Int) ∧ Below w2.heap.size w2 wr) (fun _ i _ => l.length - (intOf i).toNat)
      case atStart => exact ⟨0, Nat.zero_le _, rfl, rfl, Below.refl _ _⟩
      case round =>
        obtain ⟨j, hj, rfl, rfl, hb⟩ := hrel
        obtain ⟨z, hz⟩ : ∃ z, 2 + sizeL (l.take j) = z := ⟨_, rfl⟩
        have hz' : sizeL (l.take j) = z - 2 := by omega
        have hz2 : 2 ≤ z := by omega
        rw [hz]
        by_cases hlt : j < l.length
        · obtain ⟨ad, rfl, -, -⟩ := hr.2 (by omega)
          have hgk : l[j]? = some l[j] := List.getElem?_eq_getElem hlt
          obtain ⟨k', i', f', s', A', n', c', hform⟩ := (hx j l[j] hgk).form
          have hc5 := hxs j hlt
          rw [hform] at hc5
          have hbb : Below B w wr := hb2.trans (hb.mono hB2)
          obtain ⟨g0, g1, g2, g3, g4⟩ := elem_cells (hr.below hbb) hlt hc5
          have hss := sizeL_sum l j hlt
          have hsle := sizeL_take l (j + 1)
          obtain ⟨u, hu⟩ : ∃ u, sizeV l[j] = u := ⟨_, rfl⟩
          have hfin3 := (Below.refl wr.heap.size wr).alloc (Nat.le_refl _) (.cells #[.int .i64 k', .int .i64 i', .float .f64 f', .string s', .slice A' n' c'] 25)
          have hcl := ih.out j l[j] hgk _ (by omega) (hbb.trans (hfin3.mono (Nat.le_trans hB2 hb.size))) (Nat.le_trans (Nat.le_trans hB2 hb.size) hfin3.size)
          rw [hform, hu] at hcl
          rw [hu, hz'] at hss
          have hzu : ((z : Nat) : Int) + (u : Int) ≤ 1000000000 := by omega
          have hnext : z + u = 2 + sizeL (l.take (j + 1)) := by omega
          have hb3 := hb.trans (hfin3.mono hb.size)
          replace hnext := Lib.hid hnext
          replace hfin3 := Lib.hid hfin3
          clear hss hsle hform hc5 hgk hu
          have hsf := fun a k x m w => run_store_float (P := Tryz.prog) a k x m w
          go_wp2_with fail
          refine hcl.mono ?_
          clear hcl
          rintro e w4 ⟨rfl, hb4⟩
          dsimp only
          have hb4' := below_then hb4 hb3
          go_wp2_with fail
          go_roundw
          case rel => exact ⟨j + 1, by omega, by simp, by rw [← hnext.out]; simp, by assumption⟩
          case measure => simp [intOf]; omega
        · have hj' : j = l.length := by omega
          subst hj'
          rw [List.take_length] at hz
          subst hz
          go_wp2_with fail
          go_ret
          exact ⟨rfl, below_then hb hfin⟩
    · have hbs' : ((bstr s).size : Int) ≤ 1000000000 ∨ k ≠ 3 := by
        by_cases h3 : k = 3
        · left
          have : sizeV (.mk k i f s l) = 3 + s.length := by rw [h3]; rfl
          omega
        · exact .inr h3
      by_cases h12 : k = 1 ∨ k = 2
      · have : sizeV (.mk k i f s l) = 9 := by unfold sizeV; rw [if_pos h12]
        rw [this]
        exact val_size_num k i f (bstr s) A l.length c w1 h12
      by_cases h3 : k = 3
      · have hs3 : sizeV (.mk k i f s l) = 3 + s.length := by rw [h3]; rfl
        rw [hs3]
        subst h3
        have hle : (s.length : Int) ≤ 1000000000 := by omega
        have e3 : ((3 + s.length : Nat) : Int) = 1 + (2 + (s.length : Int)) := by omega
        rw [e3]
        clear hbs' h12 hk4 hs3 e3 hsz
        go_enter Tryz.func18, Tryz.ntmps18
        go_wp2
        go_ret
        exact ⟨rfl, hfin⟩
      · have hs1 : sizeV (.mk k i f s l) = 1 := by unfold sizeV; rw [if_neg h12, if_neg h3, if_neg hk4]
        rw [hs1]
        have k1 : (k == 1) = false := by rw [beq_eq_false_iff_ne]; omega
        have k2 : (k == 2) = false := by rw [beq_eq_false_iff_ne]; omega
        have k3 : (k == 3) = false := by rw [beq_eq_false_iff_ne]; omega
        have k4 : (k == 4) = false := by rw [beq_eq_false_iff_ne]; omega
        clear hbs' h12 hk4 hs1 hsz
        go_enter Tryz.func18, Tryz.ntmps18
        go_wp2
        go_ret
        exact ⟨rfl, hfin⟩
end Go.Proofs.YtdbmffagibnibaaGreatDoor
namespace Go.Proofs.YtdbmffagibnibaaGreatDoor
set_option maxRecDepth 100000
open Go.RowKit
/-- What Check says. -/
def checkV (v : Val) : Nat := if strangeV v then 31 else if greatV v 8 || decide (4096 < sizeV v) then 22 else 0
set_option maxHeartbeats 800000 in
theorem val_check {w : World} {B : Nat} {v : Val} {cs : Array Value} (h : VReads w B v cs) (w1 : World) (hsz : sizeV v ≤ 1000000000) (hb1 : Below B w w1) (hB1 : B ≤ w1.heap.size) :
    Calls Tryz.prog 17 #[.agg cs] w1 (Says w1 (.int .i64 (checkV v : Int))) := by
  have hst := fun w2 (hb : Below w1.heap.size w1 w2) => val_strange h w2 (hb1.trans (hb.mono hB1)) (Nat.le_trans hB1 hb.size)
  have hgr := fun w2 (hb : Below w1.heap.size w1 w2) => val_great h 8 w2 (by omega) (by omega) (hb1.trans (hb.mono hB1)) (Nat.le_trans hB1 hb.size)
  have hsi := fun w2 (hb : Below w1.heap.size w1 w2) => val_size h w2 hsz (hb1.trans (hb.mono hB1)) (Nat.le_trans hB1 hb.size)
  obtain ⟨k, i, f, s, A, n, c, hform⟩ := h.form
  rw [hform] at hst hgr hsi ⊢
  unfold checkV
  generalize strangeV v = b1 at *
  generalize greatV v 8 = b2 at *
  generalize sizeV v = z at *
  obtain ⟨r, hr⟩ : ∃ r, (if b1 = true then (31 : Nat) else if (b2 || decide (4096 < z)) = true then 22 else 0) = r := ⟨_, rfl⟩
  rw [hr]
  replace hr := Lib.hid hr
  clear hform h hb1 hB1
  replace hst := Lib.hid hst
  replace hgr := Lib.hid hgr
  replace hsi := Lib.hid hsi
  have hS := SV.alloc w1 (Below.refl _ _) k i f s A n c
  go_enter Tryz.func17, Tryz.ntmps17
  go_wp2_with fail
  generalize w1.alloc (.cells #[.int .i64 k, .int .i64 i, .float .f64 f, .string s, .slice A n c] 25) = w2 at hS ⊢
  generalize hb : w1.heap.size = b at hS ⊢
  replace hb := Lib.hid hb
  refine (hst.out w2 hS.2.2.2.2.2.1).mono ?_
  rintro e w3 ⟨rfl, hb3⟩
  dsimp only
  have hS3 : SV b k i f s A n c w1 w3 := hS.below hb3
  obtain ⟨e0, e1, e2, e3, e4, e5, e6⟩ := id hS3
  cases b1
  · go_wp2_with fail
    refine (hgr.out w3 e5).mono ?_
    rintro e w4 ⟨rfl, hb4⟩
    dsimp only
    have hS4 : SV b k i f s A n c w1 w4 := hS3.below hb4
    clear e0 e1 e2 e3 e4 e5 e6
    obtain ⟨e0, e1, e2, e3, e4, e5, e6⟩ := id hS4
    cases b2
    · go_wp2_with fail
      refine (hsi.out w4 e5).mono ?_
      rintro e w5 ⟨rfl, hb5⟩
      dsimp only
      have hb5' := below_then hb5 e5
      by_cases h4 : 4096 < z
      · have h4i : (4096 : Int) < (z : Int) := by omega
        have hr' : r = 22 := by rw [← hr.out]; simp [h4]
        subst hr'
        go_wp2_with fail
        go_ret
        exact ⟨rfl, hb5'⟩
      · have h4i : (z : Int) ≤ 4096 := by omega
        have hr' : r = 0 := by rw [← hr.out]; simp [h4]
        subst hr'
        go_wp2_with fail
        go_ret
        exact ⟨rfl, hb5'⟩
    · have hr' : r = 22 := by rw [← hr.out]; simp
      subst hr'
      go_wp2_with fail
      go_ret
      exact ⟨rfl, e5⟩
  · have hr' : r = 31 := by rw [← hr.out]; simp
    subst hr'
    go_wp2_with fail
    go_ret
    exact ⟨rfl, e5⟩
end Go.Proofs.YtdbmffagibnibaaGreatDoor
