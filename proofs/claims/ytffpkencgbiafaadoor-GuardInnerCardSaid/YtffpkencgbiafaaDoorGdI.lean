/- GuardInner: a panic within a guarded call within a guarded call. -/
import Derived.Test.YtffpkencgbiafaaDoorGuardTells
set_option linter.unusedSimpArgs false
set_option linter.unusedVariables false
namespace Go.Proofs.YtffpkencgbiafaaDoor
open Go.RowKit
set_option maxRecDepth 100000

structure Bi5 (w : World) (p q r u : Nat) (how : Nat) (s : ByteArray) (n : Int) (a : Bool) : Prop where
  b1 : Blk w p 5 #[.int .u8 (how : Int)]
  b2 : Blk w q 9 #[.string s]
  b3 : Blk w r 27 #[.int .i16 n]
  b4 : Blk w u 4 #[.bool a]
theorem Bi5.upd {w w' : World} {p q r u how : Nat} {s : ByteArray} {n : Int} {a : Bool} {S : Nat → Prop} (h : Bi5 w p q r u how s n a) (hu : Upd S w w') (hp : ¬ S p) (hq : ¬ S q) (hr : ¬ S r) (hU : ¬ S u) : Bi5 w' p q r u how s n a := ⟨h.b1.upd hu hp, h.b2.upd hu hq, h.b3.upd hu hr, h.b4.upd hu hU⟩
theorem Bi5.next {w w' : World} {p q r u how : Nat} {s : ByteArray} {n : Int} {a : Bool} (h : Bi5 w p q r u how s n a) (hb : Below w.heap.size w w') : Bi5 w' p q r u how s n a :=
  h.upd (S := fun _ => False) (Upd.of_below_size hb) (fun e => e) (fun e => e) (fun e => e) (fun e => e)
theorem ent_inner1 : Ent 12 := fun args w => by kernel_rfl
set_option maxHeartbeats 6400000 in
theorem inner1_pan {w : World} {p q r u g9 how : Nat} {s : ByteArray} {n x0 : Int} (h : Bi5 w p q r u how s n true) (h9 : Blk w g9 3 #[.int .i64 x0]) (hh : how ≤ 255) (hs : s.size ≤ 40) (hn : -32768 ≤ n ∧ n ≤ 32767) : Calls Tryd.prog 12 #[ptr p, ptr q, ptr r, ptr g9, ptr u] w (fun e w' => (∃ v, PanV (how % 5 == 1) v ∧ e = pan v) ∧ Upd (fun y => y = g9) w w' ∧ Blk w' g9 3 #[.int .i64 34]) := by
  have hcv : IntKind.i64.wrap n = n := by rw [IntKind.wrap_i64]; omega
  obtain ⟨w1, hw1⟩ : ∃ q, q = w.alloc (.cells #[.int .i64 0, .int .i64 0, .float .f64 0, .string ⟨#[]⟩, .slice none 0 0] 31) := ⟨_, rfl⟩
  have hb1 : Below w.heap.size w w1 := by rw [hw1]; exact (Below.refl _ _).alloc (Nat.le_refl _) _
  have hv1 : Blk w1 w.heap.size 31 #[.int .i64 0, .int .i64 0, .float .f64 0, .string ⟨#[]⟩, .slice none 0 0] := by rw [hw1]; exact Blk.new w _ _
  obtain ⟨gv, hgv⟩ : ∃ g, w.heap.size = g := ⟨_, rfl⟩
  rw [hgv] at hv1
  have h1 := h.next hb1
  have h91 := h9.below hb1 h9.lt
  have hg9 : g9 < gv := by rw [← hgv]; exact h9.lt
  have n1 : p ≠ g9 := h.b1.ne_ h9 (by decide)
  have n2 : q ≠ g9 := h.b2.ne_ h9 (by decide)
  have n3 : r ≠ g9 := h.b3.ne_ h9 (by decide)
  have n4 : u ≠ g9 := h.b4.ne_ h9 (by decide)
  have k1 := h1.b1.cell 0
  have k2 := h1.b2.cell 0
  have k3 := h1.b3.cell 0
  have hrs := rises_walk how s n w1
  replace hrs := Lib.hid hrs
  replace hgv := Lib.hid hgv
  unfold ptr
  go_enter Tryd.func12, Tryd.ntmps12
  go_upto_region 1 with (fail)
  rw [← hw1]
  try rw [hgv.out]
  clear hw1
  go_wp2_with fail
  refine hrs.out.mono ?_
  clear hrs k1 k2 k3
  rintro e w2 ⟨p', q', r', rfl, B2, hb2, -, -, -⟩
  have hrn := run_rises B2 hh hs
  unfold fv at hrn ⊢
  replace hrn := Lib.hid hrn
  try dsimp only
  go_wp2_with fail
  refine hrn.out.mono ?_
  clear hrn
  rintro e w3 ⟨rfl, hb3⟩
  unfold z5
  try dsimp only
  have hb13 := below_then hb3 hb2
  have h3 := h1.next hb13
  have h93 := h91.below hb13 h91.lt
  have hv3 := hv1.below hb13 hv1.lt
  have hb03 := below_then hb13 hb1
  clear h1 h91 hv1 hb1 hb2 hb3 hb13 B2
  have hz := Blk.new w3 31 #[.int .i64 0, .int .i64 0, .float .f64 0, .string ⟨#[]⟩, .slice none 0 0]
  have hr4 := hz.row (#[.int .i64 0, .int .i64 0, .float .f64 0, .string ⟨#[]⟩, .slice none 0 0])
  have hc4 : Below w3.heap.size w3 ((w3.alloc (.cells #[.int .i64 0, .int .i64 0, .float .f64 0, .string ⟨#[]⟩, .slice none 0 0] 31)).setRow w3.heap.size #[.int .i64 0, .int .i64 0, .float .f64 0, .string ⟨#[]⟩, .slice none 0 0]) := ((Below.refl w3.heap.size w3).alloc (Nat.le_refl _) _).trans (((Upd.refl (fun y => y = w3.heap.size) _).setRow (fun _ => rfl) _).below (by simp) (fun k hk e => by omega))
  obtain ⟨w4, hw4⟩ : ∃ q, q = (w3.alloc (.cells #[.int .i64 0, .int .i64 0, .float .f64 0, .string ⟨#[]⟩, .slice none 0 0] 31)).setRow w3.heap.size #[.int .i64 0, .int .i64 0, .float .f64 0, .string ⟨#[]⟩, .slice none 0 0] := ⟨_, rfl⟩
  rw [← hw4] at hr4 hc4
  replace hw4 := Lib.hid hw4
  go_upto_region 2 with (refine store_row_gen rfl 31 _ _ rfl w3.heap.size #[.int .i64 0, .int .i64 0, .float .f64 0, .string ⟨#[]⟩, .slice none 0 0] rfl rfl 31 _ hz (by kernel_rfl) rfl (by simp [Value.oneCell']) (fun wI hwI => ?_); rw [hwI, ← hw4.out]; clear hwI hz)
  try dsimp only [Act.put]
  clear hw4
  have h4 := h3.next hc4
  have h94 := h93.below hc4 h93.lt
  have hv4 := hv3.below hc4 hv3.lt
  have hb04 := below_then hc4 hb03
  clear h3 h93 hv3 hc4 hb03 hr4
  have f9 := h94.frozen 0
  have c9 := h94.cell 0
  have u5 : Upd (fun y => y = g9) w4 (w4.setCell ⟨g9, 0, none⟩ (.int .i64 34)) := (Upd.refl (fun y => y = g9) w4).setCell (p := ⟨g9, 0, none⟩) (fun _ => rfl) _
  have h95 : Blk (w4.setCell ⟨g9, 0, none⟩ (.int .i64 34)) g9 3 #[.int .i64 34] := h94.set_ 0 _
  have h5 := h4.upd u5 n1 n2 n3 n4
  have hv5 := hv4.far (p := ⟨g9, 0, none⟩) (by show gv ≠ g9; omega) (.int .i64 34)
  have hU5 : Upd (fun y => y = g9) w (w4.setCell ⟨g9, 0, none⟩ (.int .i64 34)) := (Upd.of_below_size hb04).trans u5 (fun _ _ e => e)
  go_upto_region 3 with (fail)
  generalize w4.setCell ⟨g9, 0, none⟩ (.int .i64 34) = w5 at *
  have k1 := h5.b1.cell 0
  have k2 := h5.b2.cell 0
  have k3 := h5.b3.cell 0
  have k4 := h5.b4.cell 0
  clear h4 h94 hv4 c9 f9 u5 hb04
  have hra := raise_pan how hh s hs n w5
  replace hra := Lib.hid hra
  go_wp2_with fail
  refine hra.out.mono ?_
  rintro e w6 ⟨⟨v, hv, rfl⟩, hb6⟩
  unfold pan
  try dsimp only
  go_wp2_with fail
  exact ⟨rfl, ⟨v, hv, rfl⟩, hU5.thenBelow hb6 hU5.size, h95.below hb6 h95.lt⟩
set_option maxHeartbeats 6400000 in
theorem inner1_ok {w : World} {p q r u g9 how : Nat} {s : ByteArray} {n x0 : Int} (h : Bi5 w p q r u how s n false) (h9 : Blk w g9 3 #[.int .i64 x0]) (hh : how ≤ 255) (hs : s.size ≤ 40) (hn : -32768 ≤ n ∧ n ≤ 32767) : Calls Tryd.prog 12 #[ptr p, ptr q, ptr r, ptr g9, ptr u] w (fun e w' => e = .returned (.tuple #[.agg (v5 1 n 0 ⟨#[]⟩ none 0 0), .int .i64 0]) ∧ Upd (fun y => y = g9) w w' ∧ Blk w' g9 3 #[.int .i64 34]) := by
  have hcv : IntKind.i64.wrap n = n := by rw [IntKind.wrap_i64]; omega
  obtain ⟨w1, hw1⟩ : ∃ q, q = w.alloc (.cells #[.int .i64 0, .int .i64 0, .float .f64 0, .string ⟨#[]⟩, .slice none 0 0] 31) := ⟨_, rfl⟩
  have hb1 : Below w.heap.size w w1 := by rw [hw1]; exact (Below.refl _ _).alloc (Nat.le_refl _) _
  have hv1 : Blk w1 w.heap.size 31 #[.int .i64 0, .int .i64 0, .float .f64 0, .string ⟨#[]⟩, .slice none 0 0] := by rw [hw1]; exact Blk.new w _ _
  obtain ⟨gv, hgv⟩ : ∃ g, w.heap.size = g := ⟨_, rfl⟩
  rw [hgv] at hv1
  have h1 := h.next hb1
  have h91 := h9.below hb1 h9.lt
  have hg9 : g9 < gv := by rw [← hgv]; exact h9.lt
  have n1 : p ≠ g9 := h.b1.ne_ h9 (by decide)
  have n2 : q ≠ g9 := h.b2.ne_ h9 (by decide)
  have n3 : r ≠ g9 := h.b3.ne_ h9 (by decide)
  have n4 : u ≠ g9 := h.b4.ne_ h9 (by decide)
  have k1 := h1.b1.cell 0
  have k2 := h1.b2.cell 0
  have k3 := h1.b3.cell 0
  have hrs := rises_walk how s n w1
  replace hrs := Lib.hid hrs
  replace hgv := Lib.hid hgv
  unfold ptr
  go_enter Tryd.func12, Tryd.ntmps12
  go_upto_region 1 with (fail)
  rw [← hw1]
  try rw [hgv.out]
  clear hw1
  go_wp2_with fail
  refine hrs.out.mono ?_
  clear hrs k1 k2 k3
  rintro e w2 ⟨p', q', r', rfl, B2, hb2, -, -, -⟩
  have hrn := run_rises B2 hh hs
  unfold fv at hrn ⊢
  replace hrn := Lib.hid hrn
  try dsimp only
  go_wp2_with fail
  refine hrn.out.mono ?_
  clear hrn
  rintro e w3 ⟨rfl, hb3⟩
  unfold z5
  try dsimp only
  have hb13 := below_then hb3 hb2
  have h3 := h1.next hb13
  have h93 := h91.below hb13 h91.lt
  have hv3 := hv1.below hb13 hv1.lt
  have hb03 := below_then hb13 hb1
  clear h1 h91 hv1 hb1 hb2 hb3 hb13 B2
  have hz := Blk.new w3 31 #[.int .i64 0, .int .i64 0, .float .f64 0, .string ⟨#[]⟩, .slice none 0 0]
  have hr4 := hz.row (#[.int .i64 0, .int .i64 0, .float .f64 0, .string ⟨#[]⟩, .slice none 0 0])
  have hc4 : Below w3.heap.size w3 ((w3.alloc (.cells #[.int .i64 0, .int .i64 0, .float .f64 0, .string ⟨#[]⟩, .slice none 0 0] 31)).setRow w3.heap.size #[.int .i64 0, .int .i64 0, .float .f64 0, .string ⟨#[]⟩, .slice none 0 0]) := ((Below.refl w3.heap.size w3).alloc (Nat.le_refl _) _).trans (((Upd.refl (fun y => y = w3.heap.size) _).setRow (fun _ => rfl) _).below (by simp) (fun k hk e => by omega))
  obtain ⟨w4, hw4⟩ : ∃ q, q = (w3.alloc (.cells #[.int .i64 0, .int .i64 0, .float .f64 0, .string ⟨#[]⟩, .slice none 0 0] 31)).setRow w3.heap.size #[.int .i64 0, .int .i64 0, .float .f64 0, .string ⟨#[]⟩, .slice none 0 0] := ⟨_, rfl⟩
  rw [← hw4] at hr4 hc4
  replace hw4 := Lib.hid hw4
  go_upto_region 2 with (refine store_row_gen rfl 31 _ _ rfl w3.heap.size #[.int .i64 0, .int .i64 0, .float .f64 0, .string ⟨#[]⟩, .slice none 0 0] rfl rfl 31 _ hz (by kernel_rfl) rfl (by simp [Value.oneCell']) (fun wI hwI => ?_); rw [hwI, ← hw4.out]; clear hwI hz)
  try dsimp only [Act.put]
  clear hw4
  have h4 := h3.next hc4
  have h94 := h93.below hc4 h93.lt
  have hv4 := hv3.below hc4 hv3.lt
  have hb04 := below_then hc4 hb03
  clear h3 h93 hv3 hc4 hb03 hr4
  have f9 := h94.frozen 0
  have c9 := h94.cell 0
  have u5 : Upd (fun y => y = g9) w4 (w4.setCell ⟨g9, 0, none⟩ (.int .i64 34)) := (Upd.refl (fun y => y = g9) w4).setCell (p := ⟨g9, 0, none⟩) (fun _ => rfl) _
  have h95 : Blk (w4.setCell ⟨g9, 0, none⟩ (.int .i64 34)) g9 3 #[.int .i64 34] := h94.set_ 0 _
  have h5 := h4.upd u5 n1 n2 n3 n4
  have hv5 := hv4.far (p := ⟨g9, 0, none⟩) (by show gv ≠ g9; omega) (.int .i64 34)
  have hU5 : Upd (fun y => y = g9) w (w4.setCell ⟨g9, 0, none⟩ (.int .i64 34)) := (Upd.of_below_size hb04).trans u5 (fun _ _ e => e)
  go_upto_region 3 with (fail)
  generalize w4.setCell ⟨g9, 0, none⟩ (.int .i64 34) = w5 at *
  have k1 := h5.b1.cell 0
  have k2 := h5.b2.cell 0
  have k3 := h5.b3.cell 0
  have k4 := h5.b4.cell 0
  clear h4 h94 hv4 c9 f9 u5 hb04
  have hin := int_walk n w5
  replace hin := Lib.hid hin
  go_wp2_with fail
  refine hin.out.mono ?_
  rintro e w6 ⟨rfl, hb6⟩
  unfold v5
  try dsimp only
  have h96 := h95.below hb6 h95.lt
  have hv6 := hv5.below hb6 hv5.lt
  have hU6 := hU5.thenBelow hb6 hU5.size
  have hr7 := hv6.row (#[.int .i64 1, .int .i64 n, .float .f64 0, .string ⟨#[]⟩, .slice none 0 0])
  have h97 := h96.farRow (g := gv) (by omega) (#[.int .i64 1, .int .i64 n, .float .f64 0, .string ⟨#[]⟩, .slice none 0 0])
  have hU7 : Upd (fun y => y = g9) w (w6.setRow gv #[.int .i64 1, .int .i64 n, .float .f64 0, .string ⟨#[]⟩, .slice none 0 0]) := hU6.thenBelow (B := gv) (((Upd.refl (fun y => y = gv) w6).setRow (fun _ => rfl) _).below (by have := hv6.lt; omega) (fun k hk e => by omega)) (by rw [hgv.out]; exact Nat.le_refl _)
  obtain ⟨w7, hw7⟩ : ∃ q, q = w6.setRow gv #[.int .i64 1, .int .i64 n, .float .f64 0, .string ⟨#[]⟩, .slice none 0 0] := ⟨_, rfl⟩
  rw [← hw7] at hr7 h97 hU7
  replace hw7 := Lib.hid hw7
  clear h5 h95 hv5 h96 hU5 hU6 hin hb6
  go_wp2_with (refine store_row_gen rfl 31 _ _ rfl gv #[.int .i64 1, .int .i64 n, .float .f64 0, .string ⟨#[]⟩, .slice none 0 0] rfl rfl 31 _ hv6 (by kernel_rfl) rfl (by simp [Value.oneCell']) (fun wI hwI => ?_); rw [hwI, ← hw7.out]; clear hwI hv6)
  refine bodyPost_ret (v := .tuple #[.agg #[.int .i64 1, .int .i64 n, .float .f64 0, .string ⟨#[]⟩, .slice none 0 0], .int .i64 0]) ?hr rfl ?_
  case hr => exact results_ct rfl _ _ gv 31 _ (0, 0) _ _ rfl rfl hr7 Tryd.underlying31 rfl (by kernel_rfl)
  exact ⟨rfl, hU7, h97⟩
end Go.Proofs.YtffpkencgbiafaaDoor
