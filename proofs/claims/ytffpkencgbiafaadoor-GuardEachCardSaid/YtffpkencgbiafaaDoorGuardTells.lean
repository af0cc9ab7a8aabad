/- GuardTells: a panic of the language's own is told by its error's text. -/
import Derived.Test.YtffpkencgbiafaaDoorGd9
set_option linter.unusedSimpArgs false
set_option linter.unusedVariables false
namespace Go.Proofs.YtffpkencgbiafaaDoor
open Go.RowKit
set_option maxRecDepth 100000

structure Bt3 (w : World) (p q r : Nat) (how : Nat) (s : ByteArray) (n : Int) : Prop where
  b1 : Blk w p 5 #[.int .u8 (how : Int)]
  b2 : Blk w q 9 #[.string s]
  b3 : Blk w r 21 #[.int .i32 n]
theorem Bt3.below {w w' : World} {p q r how : Nat} {s : ByteArray} {n : Int} (h : Bt3 w p q r how s n) {B : Nat} (hb : Below B w w') (hp : p < B) (hq : q < B) (hr : r < B) : Bt3 w' p q r how s n := ⟨h.b1.below hb hp, h.b2.below hb hq, h.b3.below hb hr⟩
theorem Bt3.next {w w' : World} {p q r how : Nat} {s : ByteArray} {n : Int} (h : Bt3 w p q r how s n) (hb : Below w.heap.size w w') : Bt3 w' p q r how s n := h.below hb h.b1.lt h.b2.lt h.b3.lt
theorem ent_tells1 : Ent 9 := fun args w => by kernel_rfl
theorem tells1_pan {w : World} {p q r how : Nat} {s : ByteArray} {n : Int} (h : Bt3 w p q r how s n) (hh : how ≤ 255) (hs : s.size ≤ 40) (hn : -2147483648 ≤ n ∧ n ≤ 2147483647) : Calls Tryd.prog 9 #[ptr p, ptr q, ptr r] w (fun e w' => (∃ v, PanV (how % 5 == 1) v ∧ e = pan v) ∧ Below w.heap.size w w') := by
  have k1 := h.b1.cell 0
  have k2 := h.b2.cell 0
  have k3 := h.b3.cell 0
  have hcv : IntKind.i64.wrap n = n := by rw [IntKind.wrap_i64]; omega
  have hrs := raise_pan how hh s hs n w
  replace hrs := Lib.hid hrs
  unfold ptr
  go_enter Tryd.func9, Tryd.ntmps9
  go_wp2_with fail
  refine hrs.out.mono ?_
  rintro e w5 ⟨⟨v, hv, rfl⟩, hb5⟩
  unfold pan
  try dsimp only
  go_wp2_with fail
  exact ⟨rfl, ⟨v, hv, rfl⟩, hb5⟩
set_option maxHeartbeats 6400000 in
theorem guardTells_walk (how : Nat) (x : List UInt8) (n : Int) (w : World) (hh : how ≤ 255) (hx : x.length ≤ 140737488351232) (hn : -2147483648 ≤ n ∧ n ≤ 2147483647) : Calls Tryd.prog 3 #[.int .u8 (how : Int), .string (bstr x), .int .i32 n] w (fun e w' => e = .returned (.bool true) ∧ Below w.heap.size w w') := by
  have hmf : ∀ (fn : Fn) (first cap : Array Value) (w : World), (Instr.makeFunc fn first cap).run Tryd.prog w = .ok (.func fn first cap) w := fun _ _ _ _ => rfl
  have hsz : (bstr x).size = x.length := bstr_size x
  generalize bstr x = s at *
  have b0 := Blk.new w 5 #[.int .u8 (how : Int)]
  have e0 : (w.alloc (.cells #[.int .u8 (how : Int)] 5)).heap.size = w.heap.size + 1 := by simp
  have l0 := (Below.refl w.heap.size w).alloc (Nat.le_refl _) (.cells #[.int .u8 (how : Int)] 5)
  have b1 := Blk.new (w.alloc (.cells #[.int .u8 (how : Int)] 5)) 9 #[.string s]
  have b2 := Blk.new ((w.alloc (.cells #[.int .u8 (how : Int)] 5)).alloc (.cells #[.string s] 9)) 21 #[.int .i32 n]
  have l1 := l0.alloc l0.size (.cells #[.string s] 9)
  have l2 := l1.alloc l1.size (.cells #[.int .i32 n] 21)
  have e1 : ((w.alloc (.cells #[.int .u8 (how : Int)] 5)).alloc (.cells #[.string s] 9)).heap.size = w.heap.size + 1 + 1 := by simp
  have c0 := (b0.alloc (.cells #[.string s] 9)).alloc (.cells #[.int .i32 n] 21)
  have c1 := b1.alloc (.cells #[.int .i32 n] 21)
  rw [e0] at c1
  rw [e1] at b2
  have B3 : Bt3 (((w.alloc (.cells #[.int .u8 (how : Int)] 5)).alloc (.cells #[.string s] 9)).alloc (.cells #[.int .i32 n] 21)) w.heap.size (w.heap.size + 1) (w.heap.size + 1 + 1) how s n := ⟨c0, c1, b2⟩
  clear b0 b1 l0 l1 e0 e1 c0 c1 b2
  have hkn := fun W => known_true W
  replace hkn := Lib.hid hkn
  go_enter Tryd.func3, Tryd.ntmps3
  go_wp2_with fail
  generalize ((w.alloc (.cells #[.int .u8 (how : Int)] 5)).alloc (.cells #[.string s] 9)).alloc (.cells #[.int .i32 n] 21) = w3 at *
  obtain ⟨p, hp⟩ : ∃ p, w.heap.size = p := ⟨_, rfl⟩
  obtain ⟨q, hq⟩ : ∃ p, w.heap.size + 1 = p := ⟨_, rfl⟩
  obtain ⟨r, hr⟩ : ∃ p, w.heap.size + 1 + 1 = p := ⟨_, rfl⟩
  rw [hr] at B3 ⊢
  rw [hq] at B3 ⊢
  rw [hp] at B3 ⊢
  replace hp := Lib.hid hp
  clear hq hr
  refine (hkn.out w3).mono ?_
  rintro e w4 ⟨rfl, hb4⟩
  try dsimp only
  have B4 := B3.next hb4
  have l4 := below_then hb4 l2
  have k2 := B4.b2.cell 0
  by_cases h40 : 40 < s.size
  · have d40 : decide ((40 : Int) < (s.size : Int)) = true := decide_eq_true (by omega)
    have d40' : decide (40 < s.size) = true := decide_eq_true (by omega)
    clear B3 B4 hkn
    go_wp2_with fail
    go_ret
    exact ⟨rfl, by rw [hp.out] at l4; rw [hp.out]; exact l4⟩
  · have d40 : decide ((40 : Int) < (s.size : Int)) = false := decide_eq_false (by omega)
    have d40' : decide (40 < s.size) = false := decide_eq_false (by omega)
    have htl := told_pan (f := 9) (cap := #[ptr p, ptr q, ptr r]) (w := w4) (S := fun _ => False) (R := fun _ => True) (b := how % 5 == 1) ent_tells1 (fun _ h => h.elim) (fun w1 hb => (tells1_pan (B4.next hb) hh (by omega) hn).mono (fun e w' ⟨h1, h2⟩ => ⟨h1, Upd.of_below_size h2, trivial⟩)) (fun _ _ _ _ _ => trivial)
    unfold fv ptr at htl
    replace htl := Lib.hid htl
    clear hkn B3
    go_wp2_with fail
    refine htl.out.mono ?_
    clear htl
    rintro e w5 ⟨⟨t, ht, rfl⟩, hu5, -⟩
    try dsimp only
    have hb5 : Below w4.heap.size w4 w5 := hu5.below (Nat.le_refl _) (fun _ _ h => h)
    have B5 := B4.next hb5
    have l5 := below_then hb5 l4
    have k1 := B5.b1.cell 0
    obtain ⟨r5, hr5⟩ : ∃ r, how % 5 = r := ⟨_, rfl⟩
    have t5 : Int.tmod (how : Int) 5 = (r5 : Int) := by rw [Int.tmod_eq_emod_of_nonneg (by omega)]; omega
    have t5' : (how : Int) % 5 = (r5 : Int) := by omega
    have v5_ : IntKind.u8.wrap (r5 : Int) = (r5 : Int) := by unfold IntKind.wrap; simp [IntKind.bits, IntKind.signed]; omega
    rw [hr5] at ht
    by_cases h1 : r5 = 1
    · subst h1
      obtain ⟨ht1, ht2⟩ := ht
      have dt : decide ((10 : Int) < (t.size : Int)) = true := decide_eq_true (by omega)
      have dtn : decide (10 < t.size) = true := decide_eq_true (by omega)
      have dt2 : (10 : Int) ≤ (t.size : Int) := by omega
      have dt3 : 10 ≤ t.size := by omega
      clear B4 B5 hu5 hb5
      go_wp2_with fail
      go_ret
      exact ⟨rfl, l5⟩
    · have hb1 : (r5 == 1) = false := by rw [beq_eq_false_iff_ne]; exact h1
      have hb1' : ((r5 : Int) == 1) = false := by rw [beq_eq_false_iff_ne]; omega
      rw [hb1] at ht
      obtain ⟨ht1, ht2⟩ := ht
      have dt : decide ((14 : Int) < (t.size : Int)) = true := decide_eq_true (by omega)
      have dtn : decide (14 < t.size) = true := decide_eq_true (by omega)
      have dt2 : (14 : Int) ≤ (t.size : Int) := by omega
      have dt3 : 14 ≤ t.size := by omega
      clear B4 B5 hu5 hb5
      go_wp2_with fail
      go_ret
      exact ⟨rfl, l5⟩
theorem u8_of {x : Int} (h : (Lit.int .u8 x).wf = true) : ∃ n : Nat, x = (n : Int) ∧ n ≤ 255 := by
  simp [Lit.wf, IntKind.min, IntKind.max, IntKind.signed, IntKind.bits] at h
  exact ⟨x.toNat, by omega, by omega⟩
theorem i32_of {x : Int} (h : (Lit.int .i32 x).wf = true) : -2147483648 ≤ x ∧ x ≤ 2147483647 := by
  simp [Lit.wf, IntKind.min, IntKind.max, IntKind.signed, IntKind.bits] at h
  omega
theorem guardTells_int (h : Int) (x : List UInt8) (n : Int) (w : World) (wh : (Lit.int .u8 h).wf = true) (hx : x.length ≤ 140737488351232) (wn : (Lit.int .i32 n).wf = true) : Calls Tryd.prog 3 #[.int .u8 h, .string (bstr x), .int .i32 n] w (fun e w' => e = .returned (.bool true) ∧ Below w.heap.size w w') := by
  obtain ⟨how, rfl, hh⟩ := u8_of wh
  exact guardTells_walk how x n w hh hx (i32_of wn)
end Go.Proofs.YtffpkencgbiafaaDoor
