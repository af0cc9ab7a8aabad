/- GuardInner: a panic within a guarded call within a guarded call is caught by the inner one, and the outer one goes on. -/
import Derived.Test.YtffpkencgbiafaaDoorGdI
set_option linter.unusedSimpArgs false
set_option linter.unusedVariables false
namespace Go.Proofs.YtffpkencgbiafaaDoor
open Go.RowKit
set_option maxRecDepth 100000

def InStart (w : World) (how : Nat) (s : ByteArray) (n : Int) (a : Bool) : World := ((((w.alloc (.cells #[.int .u8 (how : Int)] 5)).alloc (.cells #[.string s] 9)).alloc (.cells #[.int .i16 n] 27)).alloc (.cells #[.bool a] 4))
theorem inStart (w : World) (how : Nat) (s : ByteArray) (n : Int) (a : Bool) : Bi5 (InStart w how s n a) w.heap.size (w.heap.size + 1) (w.heap.size + 1 + 1) (w.heap.size + 1 + 1 + 1) how s n a ∧ Below w.heap.size w (InStart w how s n a) := by
  unfold InStart
  have b0 := Blk.new w 5 #[.int .u8 (how : Int)]
  have l0 := (Below.refl w.heap.size w).alloc (Nat.le_refl _) (.cells #[.int .u8 (how : Int)] 5)
  have e0 : (w.alloc (.cells #[.int .u8 (how : Int)] 5)).heap.size = w.heap.size + 1 := by simp
  generalize (w.alloc (.cells #[.int .u8 (how : Int)] 5)) = w1 at *
  have b1 := Blk.new w1 9 #[.string s]
  have l1 := l0.alloc l0.size (.cells #[.string s] 9)
  have c0 := b0.alloc (.cells #[.string s] 9)
  have e1 : (w1.alloc (.cells #[.string s] 9)).heap.size = w.heap.size + 1 + 1 := by simp [e0]
  generalize w1.alloc (.cells #[.string s] 9) = w2 at *
  have b2 := Blk.new w2 27 #[.int .i16 n]
  have l2 := l1.alloc l1.size (.cells #[.int .i16 n] 27)
  have d0 := c0.alloc (.cells #[.int .i16 n] 27)
  have d1 := b1.alloc (.cells #[.int .i16 n] 27)
  have e2 : (w2.alloc (.cells #[.int .i16 n] 27)).heap.size = w.heap.size + 1 + 1 + 1 := by simp [e1]
  generalize w2.alloc (.cells #[.int .i16 n] 27) = w3 at *
  have b3 := Blk.new w3 4 #[.bool a]
  rw [e2] at b3
  have f2 := b2.alloc (.cells #[.bool a] 4)
  rw [e1] at f2
  have f1 := d1.alloc (.cells #[.bool a] 4)
  rw [e0] at f1
  exact ⟨⟨d0.alloc _, f1, f2, b3⟩, l2.alloc l2.size _⟩
theorem i16_of {x : Int} (h : (Lit.int .i16 x).wf = true) : -32768 ≤ x ∧ x ≤ 32767 := by
  simp [Lit.wf, IntKind.min, IntKind.max, IntKind.signed, IntKind.bits] at h
  omega
set_option maxHeartbeats 6400000 in
theorem guardInner_walk (how : Nat) (x : List UInt8) (n : Int) (a : Bool) (w : World) (hh : how ≤ 255) (hx : x.length ≤ 140737488351232) (hn : -32768 ≤ n ∧ n ≤ 32767) : Calls Tryd.prog 4 #[.int .u8 (how : Int), .string (bstr x), .int .i16 n, .bool a] w (fun e w' => e = .returned (.bool true) ∧ Below w.heap.size w w') := by
  have hmf : ∀ (fn : Fn) (first cap : Array Value) (w : World), (Instr.makeFunc fn first cap).run Tryd.prog w = .ok (.func fn first cap) w := fun _ _ _ _ => rfl
  have hsz : (bstr x).size ≤ 140737488351232 := by rw [bstr_size]; exact hx
  have hcv : IntKind.i64.wrap n = n := by rw [IntKind.wrap_i64]; omega
  generalize bstr x = s at *
  clear hx x
  obtain ⟨B4, l4⟩ := inStart w how s n a
  unfold InStart at B4 l4
  have hkn := fun W => known_true W
  replace hkn := Lib.hid hkn
  go_enter Tryd.func4, Tryd.ntmps4
  go_wp2_with fail
  generalize ((((w.alloc (.cells #[.int .u8 (how : Int)] 5)).alloc (.cells #[.string s] 9)).alloc (.cells #[.int .i16 n] 27)).alloc (.cells #[.bool a] 4)) = w4 at *
  obtain ⟨p, hp⟩ : ∃ p, w.heap.size = p := ⟨_, rfl⟩
  obtain ⟨q, hq⟩ : ∃ p, w.heap.size + 1 = p := ⟨_, rfl⟩
  obtain ⟨r, hr⟩ : ∃ p, w.heap.size + 1 + 1 = p := ⟨_, rfl⟩
  obtain ⟨u, hu⟩ : ∃ p, w.heap.size + 1 + 1 + 1 = p := ⟨_, rfl⟩
  rw [hu] at B4 ⊢
  rw [hr] at B4 ⊢
  rw [hq] at B4 ⊢
  rw [hp] at B4 ⊢
  replace hp := Lib.hid hp
  clear hq hr hu
  refine (hkn.out w4).mono ?_
  rintro e w5 ⟨rfl, hb5⟩
  try dsimp only
  have B5 := B4.next hb5
  have l5 := below_then hb5 l4
  clear B4 l4 hkn
  have k2 := B5.b2.cell 0
  by_cases h40 : 40 < s.size
  · have d40 : decide ((40 : Int) < (s.size : Int)) = true := decide_eq_true (by omega)
    have d40' : decide (40 < s.size) = true := decide_eq_true (by omega)
    replace l5 := Lib.hid l5
    clear B5
    go_wp2_with fail
    go_ret
    exact ⟨rfl, l5.out⟩
  · have d40 : decide ((40 : Int) < (s.size : Int)) = false := decide_eq_false (by omega)
    have d40' : decide (40 < s.size) = false := decide_eq_false (by omega)
    have h9a := Blk.new w5 3 #[.int .i64 0]
    have hb56 : Below w5.heap.size w5 (w5.alloc (.cells #[.int .i64 0] 3)) := (Below.refl _ _).alloc (Nat.le_refl _) _
    have B6 := B5.next hb56
    have l6 := below_then hb56 l5
    have c9a := h9a.cell 0
    have f9a := h9a.frozen 0
    obtain ⟨g9, hg9⟩ : ∃ g, w5.heap.size = g := ⟨_, rfl⟩
    rw [hg9] at h9a
    have hg9b : p < g9 ∧ q < g9 ∧ r < g9 ∧ u < g9 := by rw [← hg9]; exact ⟨B5.b1.lt, B5.b2.lt, B5.b3.lt, B5.b4.lt⟩
    have hwg : w.heap.size ≤ g9 := by rw [← hg9]; exact l5.size
    go_upto_region 6 with (fail)
    have h96 := h9a
    generalize w5.alloc (.cells #[.int .i64 0] 3) = w6 at *
    clear h9a c9a f9a hb56 k2 B5 l5
    replace hg9 := Lib.hid hg9
    cases ha : a
    · as_aux_lemma =>
        subst ha
        have hrn := run_ok (k := 1) (i := n) (fl := 0) (s := ⟨#[]⟩) (A := none) (n := 0) (c := 0) (f := 12) (cap := #[ptr p, ptr q, ptr r, ptr g9, ptr u]) (w := w6) (S := fun y => y = g9) (R := fun W => Blk W g9 3 #[.int .i64 34]) ent_inner1 (fun y e => by rw [e]; exact h96.lt) (fun w1 hb => inner1_ok (B6.next hb) (h96.below hb h96.lt) hh (by omega) hn) (fun w2 w3 h hs hb => h.below hb h96.lt)
        unfold fv ptr at hrn
        replace hrn := Lib.hid hrn
        go_wp2_with fail
        refine hrn.out.mono ?_
        clear hrn
        rintro e w7 ⟨rfl, hu7, h97⟩
        unfold v5
        try dsimp only
        have B7 := B6.upd hu7 (by omega) (by omega) (by omega) (by omega)
        have l7 : Below w.heap.size w w7 := l6.trans (hu7.below l6.size (fun k hk e => by have := hp.out; omega))
        clear B6 h96 l6 hu7
        have hz := Blk.new w7 31 #[.int .i64 0, .int .i64 0, .float .f64 0, .string ⟨#[]⟩, .slice none 0 0]
        have hr8 := hz.row (#[.int .i64 1, .int .i64 n, .float .f64 0, .string ⟨#[]⟩, .slice none 0 0])
        have hc8 : Below w7.heap.size w7 ((w7.alloc (.cells #[.int .i64 0, .int .i64 0, .float .f64 0, .string ⟨#[]⟩, .slice none 0 0] 31)).setRow w7.heap.size #[.int .i64 1, .int .i64 n, .float .f64 0, .string ⟨#[]⟩, .slice none 0 0]) := ((Below.refl w7.heap.size w7).alloc (Nat.le_refl _) _).trans (((Upd.refl (fun y => y = w7.heap.size) _).setRow (fun _ => rfl) _).below (by simp) (fun k hk e => by omega))
        obtain ⟨w8, hw8⟩ : ∃ q, q = (w7.alloc (.cells #[.int .i64 0, .int .i64 0, .float .f64 0, .string ⟨#[]⟩, .slice none 0 0] 31)).setRow w7.heap.size #[.int .i64 1, .int .i64 n, .float .f64 0, .string ⟨#[]⟩, .slice none 0 0] := ⟨_, rfl⟩
        rw [← hw8] at hr8 hc8
        replace hw8 := Lib.hid hw8
        go_upto_region 7 with (refine store_row_gen rfl 31 _ _ rfl w7.heap.size #[.int .i64 1, .int .i64 n, .float .f64 0, .string ⟨#[]⟩, .slice none 0 0] rfl rfl 31 _ hz (by kernel_rfl) rfl (by simp [Value.oneCell']) (fun wI hwI => ?_); rw [hwI, ← hw8.out]; clear hwI hz)
        try dsimp only [Act.put]
        clear hw8
        have B8 := B7.next hc8
        have h98 := h97.below hc8 h97.lt
        have l8 := below_then hc8 l7
        obtain ⟨gv, hgv⟩ : ∃ g, w7.heap.size = g := ⟨_, rfl⟩
        rw [hgv] at hr8 ⊢
        clear B7 h97 l7 hc8 hgv
        have q0 := hr8.cell 0
        have q1 := hr8.cell 1
        have q9 := h98.cell 0
        have q3 := B8.b3.cell 0
        have q4 := B8.b4.cell 0
        clear B8 h98 hr8
        go_wp2_with fail
        go_ret
        exact ⟨rfl, l8⟩
    · as_aux_lemma =>
        subst ha
        have hrn := run_pan (b := how % 5 == 1) (f := 12) (cap := #[ptr p, ptr q, ptr r, ptr g9, ptr u]) (w := w6) (S := fun y => y = g9) (R := fun W => Blk W g9 3 #[.int .i64 34]) ent_inner1 (fun y e => by rw [e]; exact h96.lt) (fun w1 hb => inner1_pan (B6.next hb) (h96.below hb h96.lt) hh (by omega) hn) (fun w2 w3 h hs hb => h.below hb h96.lt)
        unfold fv ptr at hrn
        replace hrn := Lib.hid hrn
        go_wp2_with fail
        refine hrn.out.mono ?_
        clear hrn
        rintro e w7 ⟨rfl, hu7, h97⟩
        unfold z5
        try dsimp only
        have B7 := B6.upd hu7 (by omega) (by omega) (by omega) (by omega)
        have l7 : Below w.heap.size w w7 := l6.trans (hu7.below l6.size (fun k hk e => by have := hp.out; omega))
        clear B6 h96 l6 hu7
        have hz := Blk.new w7 31 #[.int .i64 0, .int .i64 0, .float .f64 0, .string ⟨#[]⟩, .slice none 0 0]
        have hr8 := hz.row (#[.int .i64 0, .int .i64 0, .float .f64 0, .string ⟨#[]⟩, .slice none 0 0])
        have hc8 : Below w7.heap.size w7 ((w7.alloc (.cells #[.int .i64 0, .int .i64 0, .float .f64 0, .string ⟨#[]⟩, .slice none 0 0] 31)).setRow w7.heap.size #[.int .i64 0, .int .i64 0, .float .f64 0, .string ⟨#[]⟩, .slice none 0 0]) := ((Below.refl w7.heap.size w7).alloc (Nat.le_refl _) _).trans (((Upd.refl (fun y => y = w7.heap.size) _).setRow (fun _ => rfl) _).below (by simp) (fun k hk e => by omega))
        obtain ⟨w8, hw8⟩ : ∃ q, q = (w7.alloc (.cells #[.int .i64 0, .int .i64 0, .float .f64 0, .string ⟨#[]⟩, .slice none 0 0] 31)).setRow w7.heap.size #[.int .i64 0, .int .i64 0, .float .f64 0, .string ⟨#[]⟩, .slice none 0 0] := ⟨_, rfl⟩
        rw [← hw8] at hr8 hc8
        replace hw8 := Lib.hid hw8
        go_upto_region 7 with (refine store_row_gen rfl 31 _ _ rfl w7.heap.size #[.int .i64 0, .int .i64 0, .float .f64 0, .string ⟨#[]⟩, .slice none 0 0] rfl rfl 31 _ hz (by kernel_rfl) rfl (by simp [Value.oneCell']) (fun wI hwI => ?_); rw [hwI, ← hw8.out]; clear hwI hz)
        try dsimp only [Act.put]
        clear hw8
        have B8 := B7.next hc8
        have h98 := h97.below hc8 h97.lt
        have l8 := below_then hc8 l7
        obtain ⟨gv, hgv⟩ : ∃ g, w7.heap.size = g := ⟨_, rfl⟩
        rw [hgv] at hr8 ⊢
        clear B7 h97 l7 hc8 hgv
        have q0 := hr8.cell 0
        have q1 := hr8.cell 1
        have q9 := h98.cell 0
        have q3 := B8.b3.cell 0
        have q4 := B8.b4.cell 0
        clear B8 h98 hr8
        go_wp2_with fail
        go_ret
        exact ⟨rfl, l8⟩
theorem guardInner_int (h : Int) (x : List UInt8) (n : Int) (a : Bool) (w : World) (wh : (Lit.int .u8 h).wf = true) (hx : x.length ≤ 140737488351232) (wn : (Lit.int .i16 n).wf = true) : Calls Tryd.prog 4 #[.int .u8 h, .string (bstr x), .int .i16 n, .bool a] w (fun e w' => e = .returned (.bool true) ∧ Below w.heap.size w w') := by
  obtain ⟨how, rfl, hh⟩ := u8_of wh
  exact guardInner_walk how x n a w hh hx (i16_of wn)
end Go.Proofs.YtffpkencgbiafaaDoor
