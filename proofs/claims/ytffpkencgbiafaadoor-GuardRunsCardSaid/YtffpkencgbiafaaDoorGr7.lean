/- The chapter's closures: Int, rises, told; the chapter's example. -/
import Derived.Test.YtffpkencgbiafaaDoorGr6
set_option linter.unusedSimpArgs false
set_option linter.unusedVariables false
namespace Go.Proofs.YtffpkencgbiafaaDoor
open Go.RowKit
set_option maxRecDepth 100000

theorem int_walk (n : Int) (w : World) : Calls Tryd.prog 14 #[.int .i64 n] w (Says w (.agg (v5 1 n 0 ⟨#[]⟩ none 0 0))) := by
  have hz := Blk.new w 31 #[.int .i64 0, .int .i64 0, .float .f64 0, .string ⟨#[]⟩, .slice none 0 0]
  have hb : Below w.heap.size w (w.alloc (.cells #[.int .i64 0, .int .i64 0, .float .f64 0, .string ⟨#[]⟩, .slice none 0 0] 31)) := (Below.refl _ _).alloc (Nat.le_refl _) _
  obtain ⟨g, hg⟩ : ∃ g, w.heap.size = g := ⟨_, rfl⟩
  rw [hg] at hz hb
  go_enter Tryd.func14, Tryd.ntmps14
  go_upto_region 1 with (fail)
  try rw [hg]
  generalize w.alloc (.cells #[.int .i64 0, .int .i64 0, .float .f64 0, .string ⟨#[]⟩, .slice none 0 0] 31) = w1 at *
  have hr := hz.row (#[.int .i64 1, .int .i64 n, .float .f64 0, .string ⟨#[]⟩, .slice none 0 0])
  have hbe : Below g w (w1.setRow g #[.int .i64 1, .int .i64 n, .float .f64 0, .string ⟨#[]⟩, .slice none 0 0]) := hb.trans (((Upd.refl (fun y => y = g) w1).setRow (fun _ => rfl) _).below (Nat.le_of_lt hz.lt) (fun k hk e => by omega))
  go_wp2_with (refine store_row_gen rfl 31 _ _ rfl g #[.int .i64 1, .int .i64 n, .float .f64 0, .string ⟨#[]⟩, .slice none 0 0] rfl rfl 31 _ hz (by kernel_rfl) rfl (by simp [Value.oneCell']) (fun w6 hw6 => ?_); rw [← hw6] at hr hbe; clear hw6 hz)
  refine bodyPost_ret (v := .agg #[.int .i64 1, .int .i64 n, .float .f64 0, .string ⟨#[]⟩, .slice none 0 0]) ?hr rfl ?_
  case hr => exact results_cell_row rfl _ _ g 31 _ (0, 0) _ rfl hr Tryd.underlying31 rfl (by kernel_rfl)
  rw [← hg] at hbe
  exact ⟨rfl, hbe⟩
/-- What the closures of 'rises' hold: how, a text, a number. -/
structure Bx3 (w : World) (p q r : Nat) (how : Nat) (s : ByteArray) (n : Int) : Prop where
  b1 : Blk w p 5 #[.int .u8 (how : Int)]
  b2 : Blk w q 9 #[.string s]
  b3 : Blk w r 3 #[.int .i64 n]
theorem Bx3.below {w w' : World} {p q r how : Nat} {s : ByteArray} {n : Int} (h : Bx3 w p q r how s n) {B : Nat} (hb : Below B w w') (hp : p < B) (hq : q < B) (hr : r < B) : Bx3 w' p q r how s n := ⟨h.b1.below hb hp, h.b2.below hb hq, h.b3.below hb hr⟩
def ptr (p : Nat) : Value := .pointer (some ⟨p, 0, none⟩)
theorem rises_walk (how : Nat) (s : ByteArray) (n : Int) (w : World) : Calls Tryd.prog 13 #[.int .u8 (how : Int), .string s, .int .i64 n] w (fun e w' => ∃ p q r, e = .returned (fv 26 #[ptr p, ptr q, ptr r]) ∧ Bx3 w' p q r how s n ∧ Below w.heap.size w w' ∧ w.heap.size ≤ p ∧ w.heap.size ≤ q ∧ w.heap.size ≤ r) := by
  have hmf : ∀ (fn : Fn) (first cap : Array Value) (w : World), (Instr.makeFunc fn first cap).run Tryd.prog w = .ok (.func fn first cap) w := fun _ _ _ _ => rfl
  have b0 := Blk.new w 5 #[.int .u8 (how : Int)]
  have e0 : (w.alloc (.cells #[.int .u8 (how : Int)] 5)).heap.size = w.heap.size + 1 := by simp
  have l0 := (Below.refl w.heap.size w).alloc (Nat.le_refl _) (.cells #[.int .u8 (how : Int)] 5)
  have b1 := Blk.new (w.alloc (.cells #[.int .u8 (how : Int)] 5)) 9 #[.string s]
  have b2 := Blk.new ((w.alloc (.cells #[.int .u8 (how : Int)] 5)).alloc (.cells #[.string s] 9)) 3 #[.int .i64 n]
  have l1 := l0.alloc l0.size (.cells #[.string s] 9)
  have l2 := l1.alloc l1.size (.cells #[.int .i64 n] 3)
  have e1 : ((w.alloc (.cells #[.int .u8 (how : Int)] 5)).alloc (.cells #[.string s] 9)).heap.size = w.heap.size + 1 + 1 := by simp
  have c0 := (b0.alloc (.cells #[.string s] 9)).alloc (.cells #[.int .i64 n] 3)
  have c1 := b1.alloc (.cells #[.int .i64 n] 3)
  rw [e0] at c1
  rw [e1] at b2
  clear b0 b1 l0 l1 e0 e1
  go_enter Tryd.func13, Tryd.ntmps13
  go_wp2_with fail
  go_ret
  exact ⟨_, _, _, rfl, ⟨c0, c1, b2⟩, l2, by omega, by omega, by omega⟩
theorem rises1_pan {w : World} {p q r how : Nat} {s : ByteArray} {n : Int} (h : Bx3 w p q r how s n) (hh : how ≤ 255) (hs : s.size ≤ 40) : Calls Tryd.prog 26 #[ptr p, ptr q, ptr r] w (fun e w' => (∃ v, PanV (how % 5 == 1) v ∧ e = pan v) ∧ Below w.heap.size w w') := by
  obtain ⟨w1, hw1⟩ : ∃ q, q = w.alloc (.cells #[.int .i64 0, .int .i64 0, .float .f64 0, .string ⟨#[]⟩, .slice none 0 0] 31) := ⟨_, rfl⟩
  have hb : Below w.heap.size w w1 := by rw [hw1]; exact (Below.refl _ _).alloc (Nat.le_refl _) _
  have h1 := h.below hb h.b1.lt h.b2.lt h.b3.lt
  have k1 := h1.b1.cell 0
  have k2 := h1.b2.cell 0
  have k3 := h1.b3.cell 0
  have hrs := raise_pan how hh s hs n w1
  replace hrs := Lib.hid hrs
  unfold ptr
  go_enter Tryd.func26, Tryd.ntmps26
  go_upto_region 1 with (fail)
  rw [← hw1]
  clear hw1
  go_wp2_with fail
  refine hrs.out.mono ?_
  rintro e w5 ⟨⟨v, hv, rfl⟩, hb5⟩
  unfold pan
  try dsimp only
  go_wp2_with fail
  exact ⟨rfl, ⟨v, hv, rfl⟩, below_then hb5 hb⟩
theorem ent_rises1 : Ent 26 := fun args w => by kernel_rfl
theorem run_rises {w : World} {p q r how : Nat} {s : ByteArray} {n : Int} (h : Bx3 w p q r how s n) (hh : how ≤ 255) (hs : s.size ≤ 40) : Calls Tryd.prog 11 #[fv 26 #[ptr p, ptr q, ptr r]] w (Says w (.tuple #[.agg z5, .int .i64 34])) :=
  (run_pan (S := fun _ => False) (R := fun _ => True) ent_rises1 (fun _ h => h.elim) (fun w1 hb => (rises1_pan (h.below hb h.b1.lt h.b2.lt h.b3.lt) hh hs).mono (fun e w' ⟨h1, h2⟩ => ⟨h1, Upd.of_below_size h2, trivial⟩)) (fun _ _ _ _ _ => trivial)).mono (fun e w' ⟨h1, h2, _⟩ => ⟨h1, h2.below (Nat.le_refl _) (fun _ _ h => h)⟩)
end Go.Proofs.YtffpkencgbiafaaDoor
