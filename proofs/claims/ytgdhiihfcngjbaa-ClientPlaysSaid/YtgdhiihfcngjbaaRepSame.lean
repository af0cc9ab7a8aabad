/- choirhelp.Reply of two like replies. -/
import Derived.Test.YtgdhiihfcngjbaaCallKnown
set_option linter.unusedSimpArgs false
set_option linter.unusedVariables false
namespace Go.Proofs.Ytgdhiihfcngjbaa
open Go.RowKit
set_option maxRecDepth 100000

theorem Blk.cells9 {w : World} {g : Nat} {t : TypeId} {a b c d e f h i j : Value} (x : Blk w g t #[a, b, c, d, e, f, h, i, j]) : w.cell? ⟨g, 0, none⟩ = some a ∧ w.cell? ⟨g, 1, none⟩ = some b ∧ w.cell? ⟨g, 2, none⟩ = some c ∧ w.cell? ⟨g, 3, none⟩ = some d ∧ w.cell? ⟨g, 4, none⟩ = some e ∧ w.cell? ⟨g, 5, none⟩ = some f ∧ w.cell? ⟨g, 6, none⟩ = some h ∧ w.cell? ⟨g, 7, none⟩ = some i ∧ w.cell? ⟨g, 8, none⟩ = some j := ⟨x.cell 0, x.cell 1, x.cell 2, x.cell 3, x.cell 4, x.cell 5, x.cell 6, x.cell 7, x.cell 8⟩

theorem rep_same {w : World} {B : Nat} {v : Val} {c s n er k1 i1 k2 i2 : Int} {f1 f2 : Nat} {t1 t2 : ByteArray} {A1 A2 : Option Addr} {n1 c1 n2 c2 : Nat} (h1 : VReads w B v #[.int .i64 k1, .int .i64 i1, .float .f64 f1, .string t1, .slice A1 n1 c1]) (h2 : VReads w B v #[.int .i64 k2, .int .i64 i2, .float .f64 f2, .string t2, .slice A2 n2 c2]) (hB : B ≤ w.heap.size) :
    Calls Try.prog 37 #[.agg #[.int .u32 c, .int .u32 s, .int .u16 n, .int .i64 er, .int .i64 k1, .int .i64 i1, .float .f64 f1, .string t1, .slice A1 n1 c1], .agg #[.int .u32 c, .int .u32 s, .int .u16 n, .int .i64 er, .int .i64 k2, .int .i64 i2, .float .f64 f2, .string t2, .slice A2 n2 c2]] w (Says w (.bool true)) := by
  have hsm := fun w2 (hb : Below w.heap.size w w2) => same_true h1 _ w2 h2 (hb.mono hB) (Nat.le_trans hB hb.size)
  have b1 := (Blk.new w 39 #[.int .u32 c, .int .u32 s, .int .u16 n, .int .i64 er, .int .i64 k1, .int .i64 i1, .float .f64 f1, .string t1, .slice A1 n1 c1]).alloc (.cells #[.int .u32 c, .int .u32 s, .int .u16 n, .int .i64 er, .int .i64 k2, .int .i64 i2, .float .f64 f2, .string t2, .slice A2 n2 c2] 39)
  have b2 := Blk.new (w.alloc (.cells #[.int .u32 c, .int .u32 s, .int .u16 n, .int .i64 er, .int .i64 k1, .int .i64 i1, .float .f64 f1, .string t1, .slice A1 n1 c1] 39)) 39 #[.int .u32 c, .int .u32 s, .int .u16 n, .int .i64 er, .int .i64 k2, .int .i64 i2, .float .f64 f2, .string t2, .slice A2 n2 c2]
  have hsz : (w.alloc (.cells #[.int .u32 c, .int .u32 s, .int .u16 n, .int .i64 er, .int .i64 k1, .int .i64 i1, .float .f64 f1, .string t1, .slice A1 n1 c1] 39)).heap.size = w.heap.size + 1 := by simp
  rw [hsz] at b2
  have hbl := ((Below.refl w.heap.size w).alloc (Nat.le_refl _) (.cells #[.int .u32 c, .int .u32 s, .int .u16 n, .int .i64 er, .int .i64 k1, .int .i64 i1, .float .f64 f1, .string t1, .slice A1 n1 c1] 39)).alloc (by simp) (.cells #[.int .u32 c, .int .u32 s, .int .u16 n, .int .i64 er, .int .i64 k2, .int .i64 i2, .float .f64 f2, .string t2, .slice A2 n2 c2] 39)
  obtain ⟨p0, p1, p2, p3, p4, p5, p6, p7, p8⟩ := b1.cells9
  obtain ⟨q0, q1, q2, q3, q4, q5, q6, q7, q8⟩ := b2.cells9
  replace hsm := Lib.hid hsm
  clear h1 h2 hB hsz b1 b2
  go_enter Try.func37, Try.ntmps37
  go_wp2_with fail
  refine (hsm.out _ hbl).mono ?_
  rintro e w2 ⟨rfl, hb2⟩
  dsimp only
  have hb3 := below_then hb2 hbl
  go_wp2_with fail
  go_ret
  exact ⟨rfl, hb3⟩
end Go.Proofs.Ytgdhiihfcngjbaa
