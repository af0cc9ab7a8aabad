/- CallSame's walk. -/
import Derived.Test.YtblakaddanoilaaOpCl
import Derived.Test.YtblakaddanoilaaOpenOp
import Derived.Test.YtblakaddanoilaaSameR
import Derived.Deep.CutRange
namespace Go.Proofs.Ytblakaddanoilaa
open Go.RowKit
set_option maxRecDepth 100000

mutual
theorem ordV_self : ∀ v : Val, ordV v v = 0
  | .mk k i f s l => by
    rw [ordV, ordL_self l]
    unfold ordC
    rw [if_pos rfl]
    split
    · exact cmpI_eq i
    · split
      · unfold ordFl
        cases nanB f
        · simp only [Bool.false_eq_true, if_false]
          split
          · exact cmpI_eq _
          · exact cmpI_eq _
        · rfl
      · split
        · exact (compare_eq_zero _ _).2 rfl
        · split <;> rfl
theorem ordL_self : ∀ l : List Val, ordL l l = 0
  | [] => by rw [ordL]
  | v :: l => by rw [ordL, if_pos (ordV_self v)]; exact ordL_self l
end
theorem sameO_self (o : OpD) : sameO o o = true := by simp [sameO, sameL, ordL_self]
theorem ordL_snoc : ∀ (l : List Val) (u v : Val), ordL (l ++ [u]) (l ++ [v]) = ordV u v
  | [], u, v => by
    rw [List.nil_append, List.nil_append, ordL]
    split
    · rename_i h; rw [ordL, h]
    · rfl
  | x :: l, u, v => by
    rw [List.cons_append, List.cons_append, ordL, if_pos (ordV_self x)]
    exact ordL_snoc l u v
theorem nanB_neg (x : Nat) : nanB (x ^^^ 9223372036854775808) = nanB x := by
  unfold nanB
  have h : (x ^^^ 9223372036854775808) % 9223372036854775808 = x % 9223372036854775808 := by
    have : (9223372036854775808 : Nat) = 2 ^ 63 := by decide
    rw [this, Nat.xor_mod_two_pow, Nat.mod_self, Nat.xor_zero]
  rw [h]
theorem xor_lt64 {x : Nat} (h : x < 18446744073709551616) : x ^^^ 9223372036854775808 < 18446744073709551616 :=
  Nat.xor_lt_two_pow (n := 64) h (by decide)
theorem xor_ne (x : Nat) : x ^^^ 9223372036854775808 ≠ x := by
  intro h
  have h2 : x ^^^ (x ^^^ 9223372036854775808) = x ^^^ x := by rw [h]
  rw [← Nat.xor_assoc, Nat.xor_self, Nat.zero_xor] at h2
  exact absurd h2 (by decide)
theorem cb_neg (x : Nat) : decide (cb x = cb (x ^^^ 9223372036854775808)) = nanB x := by
  unfold cb
  rw [nanB_neg]
  cases h : nanB x
  · simp only [Bool.false_eq_true, if_false]
    exact decide_eq_false (fun e => xor_ne x e.symm)
  · simp

theorem rows_one {n : Nat} {xs : List Value} {css : Nat → Array Value} (hl : xs.length = n * 5) (hxs : ∀ j, j < n → (xs.drop (j * 5)).take 5 = (css j).toList) (h1 : ∀ j, j < n → ∀ u ∈ (css j).toList, u.oneCell' = true) : ∀ u ∈ xs, u.oneCell' = true := by
  intro u hu
  obtain ⟨i, hi, rfl⟩ := List.getElem_of_mem hu
  have hj : i / 5 < n := by omega
  refine h1 (i / 5) hj _ ?_
  rw [← hxs _ hj]
  refine List.mem_of_getElem? (i := i % 5) ?_
  rw [List.getElem?_take_of_lt (by omega), List.getElem?_drop, show i / 5 * 5 + i % 5 = i by omega, List.getElem?_eq_getElem hi]
theorem form_one {w : World} {B : Nat} {v : Val} {cs : Array Value} (h : VReads w B v cs) : ∀ u ∈ cs.toList, u.oneCell' = true := by
  obtain ⟨k, i, f, s, A, n, c, rfl⟩ := h.form
  intro u hu
  simp at hu
  rcases hu with rfl | rfl | rfl | rfl | rfl <;> rfl
/-- A call's args, one more behind. -/
theorem op_snoc {w : World} {l : List Val} {v : Val} {vs : Array Value} {xs : List Value} {css : Nat → Array Value} {A : Option Addr} {K c' c s n : Nat} {g m : List UInt8} {gg mm : ByteArray} {t : TypeId} (hK : K = l.length) (hgg : gg = bstr g) (hmm : mm = bstr m) (ho : Own w t 5 A (K + 1) c' (xs ++ vs.toList)) (hxl : xs.length = K * 5) (hvs : vs.size = 5)
    (hxs : ∀ j, j < l.length → (xs.drop (j * 5)).take 5 = (css j).toList) (hx : ∀ j v, l[j]? = some v → VReads w w.heap.size v (css j)) (hv : VReads w w.heap.size v vs) (hl : l.length ≤ 40) (hok : ∀ v ∈ l, OkV v) (hokv : OkV v) (hc : c < 4294967296) (hs : s < 4294967296) (hn : n < 65536) :
    OpReads w w.heap.size ⟨c, s, n, g, m, l ++ [v]⟩ #[.int .u32 (c : Int), .int .u32 (s : Int), .int .u16 (n : Int), .string gg, .string mm, .slice A (K + 1) c'] := by
  subst hK hgg hmm
  have hll : (l ++ [v]).length = l.length + 1 := by simp
  refine ⟨A, c', xs ++ vs.toList, fun j => if j < l.length then css j else vs, by simp, by dsimp only; rw [hll]; exact ho.reads_, ?_, ?_, by dsimp only; rw [hll]; omega, ?_, hc, hs, hn⟩
  · intro j u hu
    dsimp only at hu ⊢
    by_cases hj : j < l.length
    · rw [if_pos hj]
      rw [List.getElem?_append_left hj] at hu
      exact hx j u hu
    · rw [if_neg hj]
      rw [List.getElem?_append_right (by omega)] at hu
      have : j - l.length = 0 := by
        rcases Nat.eq_zero_or_pos (j - l.length) with h | h
        · exact h
        · rw [List.getElem?_eq_none (by simp; omega)] at hu; cases hu
      rw [this] at hu
      simp at hu
      subst hu
      exact hv
  · intro j hj
    dsimp only at hj ⊢
    rw [hll] at hj
    by_cases hjl : j < l.length
    · rw [if_pos hjl, ← hxs j hjl, List.drop_append_of_le_length (by omega), List.take_append_of_le_length (by rw [List.length_drop]; omega)]
    · have : j = l.length := by omega
      subst this
      rw [if_neg hjl, ← hxl, List.drop_left, List.take_of_length_le (by simp [hvs])]
  · intro u hu
    dsimp only at hu
    simp only [List.mem_append, List.mem_singleton] at hu
    rcases hu with h | rfl
    · exact hok u h
    · exact hokv

set_option maxHeartbeats 12800000 in
theorem callSame_walk (A A2 : Option Addr) (K cc K2 cc2 c s n c2 s2 n2 f : Nat) (g m g2 m2 : List UInt8) (gg mm gg2 mm2 : ByteArray) (l l2 : List Val) (same : Bool) (w : World) (ho : OpReads w w.heap.size ⟨c, s, n, g, m, l⟩ #[.int .u32 (c : Int), .int .u32 (s : Int), .int .u16 (n : Int), .string gg, .string mm, .slice A K cc])
    (ho2 : OpReads w w.heap.size ⟨c2, s2, n2, g2, m2, l2⟩ #[.int .u32 (c2 : Int), .int .u32 (s2 : Int), .int .u16 (n2 : Int), .string gg2, .string mm2, .slice A2 K2 cc2]) (hf : f < 18446744073709551616) :
    Calls Try.prog 5 #[.agg #[.int .u32 (c : Int), .int .u32 (s : Int), .int .u16 (n : Int), .string gg, .string mm, .slice A K cc], .agg #[.int .u32 (c2 : Int), .int .u32 (s2 : Int), .int .u16 (n2 : Int), .string gg2, .string mm2, .slice A2 K2 cc2], .bool same, .float .f64 f] w (Says w (.bool true)) := by
  have hsf := fun a k x m w => run_store_float (P := Try.prog) a k x m w
  obtain ⟨i1, gi, gz0, gz1, gz2⟩ := info_parts info_val
  obtain ⟨hpg, hpm, hpK⟩ := op_parts ho
  have hok : (∀ v ∈ l, OkV v) ∧ c < 4294967296 ∧ s < 4294967296 ∧ n < 65536 := by
    obtain ⟨_, _, _, _, -, -, -, -, -, h1, h2, h3, h4⟩ := ho
    exact ⟨h1, h2, h3, h4⟩
  have hb1 := Blk.new w 29 #[.int .u32 (c : Int), .int .u32 (s : Int), .int .u16 (n : Int), .string gg, .string mm, .slice A K cc]
  have b1' := hb1.alloc (.cells #[.int .u32 (c2 : Int), .int .u32 (s2 : Int), .int .u16 (n2 : Int), .string gg2, .string mm2, .slice A2 K2 cc2] 29)
  have b2 := Blk.new (w.alloc (.cells #[.int .u32 (c : Int), .int .u32 (s : Int), .int .u16 (n : Int), .string gg, .string mm, .slice A K cc] 29)) 29 #[.int .u32 (c2 : Int), .int .u32 (s2 : Int), .int .u16 (n2 : Int), .string gg2, .string mm2, .slice A2 K2 cc2]
  have hsz : (w.alloc (.cells #[.int .u32 (c : Int), .int .u32 (s : Int), .int .u16 (n : Int), .string gg, .string mm, .slice A K cc] 29)).heap.size = w.heap.size + 1 := by simp
  rw [hsz] at b2
  have hbl := ((Below.refl w.heap.size w).alloc (Nat.le_refl _) (.cells #[.int .u32 (c : Int), .int .u32 (s : Int), .int .u16 (n : Int), .string gg, .string mm, .slice A K cc] 29)).alloc (by simp) (.cells #[.int .u32 (c2 : Int), .int .u32 (s2 : Int), .int .u16 (n2 : Int), .string gg2, .string mm2, .slice A2 K2 cc2] 29)
  replace ho := Lib.hid ho
  replace ho2 := Lib.hid ho2
  replace hok := Lib.hid hok
  replace hpg := Lib.hid hpg
  replace hpm := Lib.hid hpm
  replace hpK := Lib.hid hpK
  clear hsz hb1
  go_enter Try.func5, Try.ntmps5
  go_wp2_with fail
  refine (known_true _).mono ?_
  rintro e w1 ⟨rfl, hb1'⟩
  dsimp only
  have hB1 := below_then hb1' hbl
  have B1 := b1'.below hb1' b1'.lt
  have B2 := b2.below hb1' b2.lt
  obtain ⟨g5, hg5⟩ : ∃ g5, w.heap.size = g5 := ⟨_, rfl⟩
  have hw5 : w.heap.size ≤ g5 := by omega
  have hw6 : g5 ≤ w.heap.size := by omega
  rw [hg5] at B1 B2 ⊢
  replace hg5 := Lib.hid hg5
  clear hb1' hbl b1' b2
  have l1 := light_op ho.out
  have l2 := light_op ho2.out
  replace l1 := Lib.hid l1
  replace l2 := Lib.hid l2
  obtain ⟨E0, E1, E2, E3, E4, E5⟩ := B1.op6
  go_wp2_with fail
  refine (l1.out w1 (hB1) (hB1.size)).mono ?_
  rintro e w2 ⟨q, rfl, hq, hb2⟩
  dsimp only
  have B1' := B1.below hb2 B1.lt
  have B2' := B2.below hb2 B2.lt
  have hB2 := below_then hb2 hB1
  clear E0 E1 E2 E3 E4 E5 B1 B2 hb2 hB1
  obtain ⟨F0, F1, F2, F3, F4, F5⟩ := B2'.op6
  cases q
  · go_wp2_with fail
    go_ret
    exact ⟨rfl, hB2⟩
  obtain ⟨-, -, hll⟩ := hq rfl
  clear hq
  go_wp2_with fail
  refine (l2.out w2 (hB2) (hB2.size)).mono ?_
  rintro e w3 ⟨q, rfl, hq, hb3⟩
  dsimp only
  have B1 := B1'.below hb3 B1'.lt
  have B2 := B2'.below hb3 B2'.lt
  have hB3 := below_then hb3 hB2
  clear F0 F1 F2 F3 F4 F5 B1' B2' hb3 hB2
  cases q
  · go_wp2_with fail
    go_ret
    exact ⟨rfl, hB3⟩
  clear l1 l2 hq
  go_upto_if 21 with (fail)
  go_cut [] from 22 to 23 (fun wx => ∃ (A3 : Option Addr) (K3 cc3 c3 s3 n3 : Nat) (g3 m3 : List UInt8) (gg3 mm3 : ByteArray) (l3 : List Val), Blk wx g5 29 #[.int .u32 (c : Int), .int .u32 (s : Int), .int .u16 (n : Int), .string gg, .string mm, .slice A K cc] ∧ Blk wx (g5 + 1) 29 #[.int .u32 (c3 : Int), .int .u32 (s3 : Int), .int .u16 (n3 : Int), .string gg3, .string mm3, .slice A3 K3 cc3] ∧ OpReads wx wx.heap.size ⟨c3, s3, n3, g3, m3, l3⟩ #[.int .u32 (c3 : Int), .int .u32 (s3 : Int), .int .u16 (n3 : Int), .string gg3, .string mm3, .slice A3 K3 cc3] ∧ Below w.heap.size w wx)
  case first =>
    cases same
    · go_wp2_with fail
      go_meet
      exact ⟨A2, K2, cc2, c2, s2, n2, g2, m2, gg2, mm2, l2, B1, B2, (ho2.out.below (hB3)).up (hB3.size), hB3⟩
    · have hcl : Calls Try.prog 21 #[.agg #[.int .u32 (c : Int), .int .u32 (s : Int), .int .u16 (n : Int), .string gg, .string mm, .slice A K cc]] w3 (OpCleanRes w3 c s n gg mm l) := by
        obtain ⟨A0, cc0, xs, css, hcs, hr, hx, hxs, hll, hokk, -⟩ := ho.out
        simp at hcs
        obtain ⟨-, -, rfl, hKl, rfl⟩ := hcs
        rw [hKl]
        exact ref_clean_op ((hr.below hB3).more hB3.size) (Nat.le_refl _) hxs (fun j v hv => ((hx j v hv).under hB3).up hB3.size) hll hokk
      obtain ⟨E0, E1, E2, E3, E4, E5⟩ := B1.op6
      go_wp2_with fail
      refine hcl.mono ?_
      clear hcl
      rintro e w4 ⟨A4, c4, xs4, css4, rfl, R4, hb4⟩
      dsimp only
      have B1' := B1.below hb4 B1.lt
      have B2' := B2.below hb4 B2.lt
      have hB4 := below_then hb4 hB3
      have hl3 := B2.lt
      rw [← hpK.out] 
      clear E0 E1 E2 E3 E4 E5
      have B2r := B2'.row #[.int .u32 (c : Int), .int .u32 (s : Int), .int .u16 (n : Int), .string gg, .string mm, .slice A4 K c4]
      have B1r := B1'.farRow (g := g5 + 1) (by omega) #[.int .u32 (c : Int), .int .u32 (s : Int), .int .u16 (n : Int), .string gg, .string mm, .slice A4 K c4]
      have hBr := below_row hB4 (g := g5 + 1) (by omega) #[.int .u32 (c : Int), .int .u32 (s : Int), .int .u16 (n : Int), .string gg, .string mm, .slice A4 K c4]
      have R9 := R4.upd ((Upd.refl (fun x => x = g5 + 1) w4).setRow (g := g5 + 1) (fun _ => rfl) #[.int .u32 (c : Int), .int .u32 (s : Int), .int .u16 (n : Int), .string gg, .string mm, .slice A4 K c4]) (fun g hg e => by omega)
      go_wp2_with (refine store_row_gen rfl 29 (Operand.tmp 5) _ rfl (g5 + 1) #[.int .u32 (c : Int), .int .u32 (s : Int), .int .u16 (n : Int), .string gg, .string mm, .slice A4 K c4] (by simp [go_sem]) (by simp [go_sem]) 29 _ B2' (by kernel_rfl) rfl (by simp [Value.oneCell']) (fun w9 hw9 => ?_); rw [← hw9] at B2r B1r hBr R9; clear hw9)
      go_meet
      have h9 := op_of_row (o := ⟨c, s, n, g, m, l.map cleanV⟩) (R9.down (show 0 ≤ _ from Nat.zero_le _)) (by simp only [List.length_map]; omega) (fun v hv => by
        simp only [List.mem_map] at hv
        obtain ⟨u, hu, rfl⟩ := hv
        exact clean_okv (hok.out.1 u hu)) hok.out.2.1 hok.out.2.2.1 hok.out.2.2.2
      dsimp only at h9
      rw [List.length_map, ← hpK.out, ← hpg.out, ← hpm.out] at h9
      exact ⟨A4, K, c4, c, s, n, g, m, gg, mm, l.map cleanV, B1r, B2r, h9, hBr⟩
  case rest =>
    obtain ⟨A3, K3, cc3, c3, s3, n3, g3, m3, gg3, mm3, l3, B1, B2, ho3, hB⟩ := hcut
    generalize wc = w4 at *
    clear ho2
    go_upto_region 7 with (fail)
    go_cut [9, 10] from 24 to 25 (fun x9 x10 wx => ∃ p1 p2 : Nat, x9 = .pointer (some ⟨p1, 0, none⟩) ∧ x10 = .pointer (some ⟨p2, 0, none⟩) ∧ p1 ≠ p2 ∧ (g5 + 1 < p1 ∧ w4.heap.size ≤ p1) ∧ (g5 + 1 < p2 ∧ w4.heap.size ≤ p2) ∧ Blk wx g5 29 #[.int .u32 (c : Int), .int .u32 (s : Int), .int .u16 (n : Int), .string gg, .string mm, .slice A K cc] ∧ Blk wx (g5 + 1) 29 #[.int .u32 (c3 : Int), .int .u32 (s3 : Int), .int .u16 (n3 : Int), .string gg3, .string mm3, .slice A3 K3 cc3] ∧ Blk wx p1 29 #[.int .u32 (c : Int), .int .u32 (s : Int), .int .u16 (n : Int), .string gg, .string mm, .slice A K cc] ∧ Blk wx p2 29 #[.int .u32 (c : Int), .int .u32 (s : Int), .int .u16 (n : Int), .string gg, .string mm, .slice A K cc] ∧ Below w4.heap.size w4 wx)
    case first =>
      have hS : Blk w4.drew g5 29 #[.int .u32 (c : Int), .int .u32 (s : Int), .int .u16 (n : Int), .string gg, .string mm, .slice A K cc] := B1
      have hl4 := B2.lt
      have Z1 : Blk (((w4.alloc (.cells #[.int .u32 0, .int .u32 0, .int .u16 0, .string ⟨#[]⟩, .string ⟨#[]⟩, .slice none 0 0] 29)).alloc (.cells #[.int .u32 0, .int .u32 0, .int .u16 0, .string ⟨#[]⟩, .string ⟨#[]⟩, .slice none 0 0] 29)).drew) w4.heap.size 29 #[.int .u32 0, .int .u32 0, .int .u16 0, .string ⟨#[]⟩, .string ⟨#[]⟩, .slice none 0 0] := ((Blk.new w4 29 #[.int .u32 0, .int .u32 0, .int .u16 0, .string ⟨#[]⟩, .string ⟨#[]⟩, .slice none 0 0]).alloc (.cells #[.int .u32 0, .int .u32 0, .int .u16 0, .string ⟨#[]⟩, .string ⟨#[]⟩, .slice none 0 0] 29)).drew
      have Z2 : Blk (((w4.alloc (.cells #[.int .u32 0, .int .u32 0, .int .u16 0, .string ⟨#[]⟩, .string ⟨#[]⟩, .slice none 0 0] 29)).alloc (.cells #[.int .u32 0, .int .u32 0, .int .u16 0, .string ⟨#[]⟩, .string ⟨#[]⟩, .slice none 0 0] 29)).drew) (w4.heap.size + 1) 29 #[.int .u32 0, .int .u32 0, .int .u16 0, .string ⟨#[]⟩, .string ⟨#[]⟩, .slice none 0 0] := by
        have h := (Blk.new (w4.alloc (.cells #[.int .u32 0, .int .u32 0, .int .u16 0, .string ⟨#[]⟩, .string ⟨#[]⟩, .slice none 0 0] 29)) 29 #[.int .u32 0, .int .u32 0, .int .u16 0, .string ⟨#[]⟩, .string ⟨#[]⟩, .slice none 0 0]).drew
        rw [World.size_alloc] at h
        exact h
      have hw6 : Blk (((w4.alloc (.cells #[.int .u32 0, .int .u32 0, .int .u16 0, .string ⟨#[]⟩, .string ⟨#[]⟩, .slice none 0 0] 29)).alloc (.cells #[.int .u32 0, .int .u32 0, .int .u16 0, .string ⟨#[]⟩, .string ⟨#[]⟩, .slice none 0 0] 29)).drew) g5 29 #[.int .u32 (c : Int), .int .u32 (s : Int), .int .u16 (n : Int), .string gg, .string mm, .slice A K cc] := ((B1.alloc (.cells #[.int .u32 0, .int .u32 0, .int .u16 0, .string ⟨#[]⟩, .string ⟨#[]⟩, .slice none 0 0] 29)).alloc (.cells #[.int .u32 0, .int .u32 0, .int .u16 0, .string ⟨#[]⟩, .string ⟨#[]⟩, .slice none 0 0] 29)).drew
      have hw6b : Blk (((w4.alloc (.cells #[.int .u32 0, .int .u32 0, .int .u16 0, .string ⟨#[]⟩, .string ⟨#[]⟩, .slice none 0 0] 29)).alloc (.cells #[.int .u32 0, .int .u32 0, .int .u16 0, .string ⟨#[]⟩, .string ⟨#[]⟩, .slice none 0 0] 29)).drew) (g5 + 1) 29 #[.int .u32 (c3 : Int), .int .u32 (s3 : Int), .int .u16 (n3 : Int), .string gg3, .string mm3, .slice A3 K3 cc3] := ((B2.alloc (.cells #[.int .u32 0, .int .u32 0, .int .u16 0, .string ⟨#[]⟩, .string ⟨#[]⟩, .slice none 0 0] 29)).alloc (.cells #[.int .u32 0, .int .u32 0, .int .u16 0, .string ⟨#[]⟩, .string ⟨#[]⟩, .slice none 0 0] 29)).drew
      have hb6 : Below w4.heap.size w4 (((w4.alloc (.cells #[.int .u32 0, .int .u32 0, .int .u16 0, .string ⟨#[]⟩, .string ⟨#[]⟩, .slice none 0 0] 29)).alloc (.cells #[.int .u32 0, .int .u32 0, .int .u16 0, .string ⟨#[]⟩, .string ⟨#[]⟩, .slice none 0 0] 29)).drew) := (((Below.refl _ w4).alloc (Nat.le_refl _) (.cells #[.int .u32 0, .int .u32 0, .int .u16 0, .string ⟨#[]⟩, .string ⟨#[]⟩, .slice none 0 0] 29)).alloc (by simp) (.cells #[.int .u32 0, .int .u32 0, .int .u16 0, .string ⟨#[]⟩, .string ⟨#[]⟩, .slice none 0 0] 29)).drew
      refine wp_region_pair (fun W => Blk W g5 29 #[.int .u32 (c : Int), .int .u32 (s : Int), .int .u16 (n : Int), .string gg, .string mm, .slice A K cc]) [0, 1] [2, 3, 4, 5] [0, 1] 2 3 [3, 4, 5] [2, 4, 5] (by kernel_rfl) rfl rfl (by kernel_rfl) (by kernel_rfl) (by kernel_rfl) rfl rfl (by kernel_rfl) (by kernel_rfl) (fun _ _ d _ _ h => by cases d <;> exact h) ?_
      (refine lexG_held _ ?_ rfl rfl rfl rfl (by assumption) (fun _ hSw => ?_) ?_; rotate_left; (focus (obtain ⟨E0, E1, E2, E3, E4, E5⟩ := Blk.op6 hSw; go_simp; with_reducible rfl)); try simp only [Act.put, List.setIfInBounds_toArray, List.set_cons_zero, List.set_cons_succ])
      (refine lexG_held _ ?_ rfl rfl rfl rfl (by assumption) (fun _ hSw => ?_) ?_; rotate_left; (focus (obtain ⟨E0, E1, E2, E3, E4, E5⟩ := Blk.op6 hSw; go_simp; with_reducible rfl)); try simp only [Act.put, List.setIfInBounds_toArray, List.set_cons_zero, List.set_cons_succ])
      refine lexG_nil ?_
      refine ⟨?_, ?_⟩
      · refine lexG_now _ rfl rfl rfl (fun K0 hK => ?_)
        go_simp
        refine hK _ _ _ (fun _ h => h) (B1.alloc (.cells #[.int .u32 0, .int .u32 0, .int .u16 0, .string ⟨#[]⟩, .string ⟨#[]⟩, .slice none 0 0] 29)) ?_
        clear hK K0
        try simp only [Act.put, List.setIfInBounds_toArray, List.set_cons_zero, List.set_cons_succ]
        refine lexG_now _ rfl rfl rfl (fun K0 hK => ?_)
        go_simp
        refine hK _ _ _ (fun _ h => h) hw6 ?_
        clear hK K0
        try simp only [Act.put, List.setIfInBounds_toArray, List.set_cons_zero, List.set_cons_succ]
        generalize ((w4.alloc (.cells #[.int .u32 0, .int .u32 0, .int .u16 0, .string ⟨#[]⟩, .string ⟨#[]⟩, .slice none 0 0] 29)).alloc (.cells #[.int .u32 0, .int .u32 0, .int .u16 0, .string ⟨#[]⟩, .string ⟨#[]⟩, .slice none 0 0] 29)).drew = w6 at *
        refine lexG_now _ rfl rfl rfl (fun K0 hK => ?_)
        refine wp_store_row 29 (Operand.tmp 9) (Operand.tmp 24) rfl w4.heap.size #[.int .u32 (c : Int), .int .u32 (s : Int), .int .u16 (n : Int), .string gg, .string mm, .slice A K cc] (by simp [go_sem]) (by simp [go_sem]) 29 _ Z1 (by kernel_rfl) rfl (by simp [Value.oneCell']) ?_
        refine hK _ _ _ (fun _ h => h) (hw6.farRow (by omega) #[.int .u32 (c : Int), .int .u32 (s : Int), .int .u16 (n : Int), .string gg, .string mm, .slice A K cc]) ?_
        clear hK K0
        have Y1 := Z1.row #[.int .u32 (c : Int), .int .u32 (s : Int), .int .u16 (n : Int), .string gg, .string mm, .slice A K cc]
        have Y2 := Z2.farRow (g := w4.heap.size) (by omega) #[.int .u32 (c : Int), .int .u32 (s : Int), .int .u16 (n : Int), .string gg, .string mm, .slice A K cc]
        have hA7 := hw6.farRow (g := w4.heap.size) (by omega) #[.int .u32 (c : Int), .int .u32 (s : Int), .int .u16 (n : Int), .string gg, .string mm, .slice A K cc]
        have hB7 := hw6b.farRow (g := w4.heap.size) (by omega) #[.int .u32 (c : Int), .int .u32 (s : Int), .int .u16 (n : Int), .string gg, .string mm, .slice A K cc]
        have hb7 := below_row hb6 (g := w4.heap.size) (by omega) #[.int .u32 (c : Int), .int .u32 (s : Int), .int .u16 (n : Int), .string gg, .string mm, .slice A K cc]
        generalize w6.setRow w4.heap.size #[.int .u32 (c : Int), .int .u32 (s : Int), .int .u16 (n : Int), .string gg, .string mm, .slice A K cc] = w7 at *
        try simp only [Act.put, List.setIfInBounds_toArray, List.set_cons_zero, List.set_cons_succ]
        refine lexG_now _ rfl rfl rfl (fun K0 hK => ?_)
        refine wp_store_row 29 (Operand.tmp 10) (Operand.tmp 25) rfl (w4.heap.size + 1) #[.int .u32 (c : Int), .int .u32 (s : Int), .int .u16 (n : Int), .string gg, .string mm, .slice A K cc] (by simp [go_sem]) (by simp [go_sem]) 29 _ Y2 (by kernel_rfl) rfl (by simp [Value.oneCell']) ?_
        refine hK _ _ _ (fun _ h => h) (hA7.farRow (by omega) #[.int .u32 (c : Int), .int .u32 (s : Int), .int .u16 (n : Int), .string gg, .string mm, .slice A K cc]) ?_
        clear hK K0
        have X1 := Y1.farRow (g := (w4.heap.size + 1)) (by omega) #[.int .u32 (c : Int), .int .u32 (s : Int), .int .u16 (n : Int), .string gg, .string mm, .slice A K cc]
        have X2 := Y2.row #[.int .u32 (c : Int), .int .u32 (s : Int), .int .u16 (n : Int), .string gg, .string mm, .slice A K cc]
        have hA8 := hA7.farRow (g := (w4.heap.size + 1)) (by omega) #[.int .u32 (c : Int), .int .u32 (s : Int), .int .u16 (n : Int), .string gg, .string mm, .slice A K cc]
        have hB8 := hB7.farRow (g := (w4.heap.size + 1)) (by omega) #[.int .u32 (c : Int), .int .u32 (s : Int), .int .u16 (n : Int), .string gg, .string mm, .slice A K cc]
        have hb8 := below_row hb7 (g := (w4.heap.size + 1)) (by omega) #[.int .u32 (c : Int), .int .u32 (s : Int), .int .u16 (n : Int), .string gg, .string mm, .slice A K cc]
        generalize w7.setRow (w4.heap.size + 1) #[.int .u32 (c : Int), .int .u32 (s : Int), .int .u16 (n : Int), .string gg, .string mm, .slice A K cc] = w8 at *
        try simp only [Act.put, List.setIfInBounds_toArray, List.set_cons_zero, List.set_cons_succ]
        refine lexG_nil ?_
        go_wp2_with fail
        go_meet
        exact ⟨w4.heap.size, (w4.heap.size + 1), rfl, rfl, by omega, ⟨by omega, by omega⟩, ⟨by omega, by omega⟩, hA8, hB8, X1, X2, hb8⟩
      · refine lexG_now _ rfl rfl rfl (fun K0 hK => ?_)
        go_simp
        refine hK _ _ _ (fun _ h => h) (B1.alloc (.cells #[.int .u32 0, .int .u32 0, .int .u16 0, .string ⟨#[]⟩, .string ⟨#[]⟩, .slice none 0 0] 29)) ?_
        clear hK K0
        try simp only [Act.put, List.setIfInBounds_toArray, List.set_cons_zero, List.set_cons_succ]
        refine lexG_now _ rfl rfl rfl (fun K0 hK => ?_)
        go_simp
        refine hK _ _ _ (fun _ h => h) hw6 ?_
        clear hK K0
        try simp only [Act.put, List.setIfInBounds_toArray, List.set_cons_zero, List.set_cons_succ]
        generalize ((w4.alloc (.cells #[.int .u32 0, .int .u32 0, .int .u16 0, .string ⟨#[]⟩, .string ⟨#[]⟩, .slice none 0 0] 29)).alloc (.cells #[.int .u32 0, .int .u32 0, .int .u16 0, .string ⟨#[]⟩, .string ⟨#[]⟩, .slice none 0 0] 29)).drew = w6 at *
        refine lexG_now _ rfl rfl rfl (fun K0 hK => ?_)
        refine wp_store_row 29 (Operand.tmp 9) (Operand.tmp 24) rfl (w4.heap.size + 1) #[.int .u32 (c : Int), .int .u32 (s : Int), .int .u16 (n : Int), .string gg, .string mm, .slice A K cc] (by simp [go_sem]) (by simp [go_sem]) 29 _ Z2 (by kernel_rfl) rfl (by simp [Value.oneCell']) ?_
        refine hK _ _ _ (fun _ h => h) (hw6.farRow (by omega) #[.int .u32 (c : Int), .int .u32 (s : Int), .int .u16 (n : Int), .string gg, .string mm, .slice A K cc]) ?_
        clear hK K0
        have Y1 := Z2.row #[.int .u32 (c : Int), .int .u32 (s : Int), .int .u16 (n : Int), .string gg, .string mm, .slice A K cc]
        have Y2 := Z1.farRow (g := (w4.heap.size + 1)) (by omega) #[.int .u32 (c : Int), .int .u32 (s : Int), .int .u16 (n : Int), .string gg, .string mm, .slice A K cc]
        have hA7 := hw6.farRow (g := (w4.heap.size + 1)) (by omega) #[.int .u32 (c : Int), .int .u32 (s : Int), .int .u16 (n : Int), .string gg, .string mm, .slice A K cc]
        have hB7 := hw6b.farRow (g := (w4.heap.size + 1)) (by omega) #[.int .u32 (c : Int), .int .u32 (s : Int), .int .u16 (n : Int), .string gg, .string mm, .slice A K cc]
        have hb7 := below_row hb6 (g := (w4.heap.size + 1)) (by omega) #[.int .u32 (c : Int), .int .u32 (s : Int), .int .u16 (n : Int), .string gg, .string mm, .slice A K cc]
        generalize w6.setRow (w4.heap.size + 1) #[.int .u32 (c : Int), .int .u32 (s : Int), .int .u16 (n : Int), .string gg, .string mm, .slice A K cc] = w7 at *
        try simp only [Act.put, List.setIfInBounds_toArray, List.set_cons_zero, List.set_cons_succ]
        refine lexG_now _ rfl rfl rfl (fun K0 hK => ?_)
        refine wp_store_row 29 (Operand.tmp 10) (Operand.tmp 25) rfl w4.heap.size #[.int .u32 (c : Int), .int .u32 (s : Int), .int .u16 (n : Int), .string gg, .string mm, .slice A K cc] (by simp [go_sem]) (by simp [go_sem]) 29 _ Y2 (by kernel_rfl) rfl (by simp [Value.oneCell']) ?_
        refine hK _ _ _ (fun _ h => h) (hA7.farRow (by omega) #[.int .u32 (c : Int), .int .u32 (s : Int), .int .u16 (n : Int), .string gg, .string mm, .slice A K cc]) ?_
        clear hK K0
        have X1 := Y1.farRow (g := w4.heap.size) (by omega) #[.int .u32 (c : Int), .int .u32 (s : Int), .int .u16 (n : Int), .string gg, .string mm, .slice A K cc]
        have X2 := Y2.row #[.int .u32 (c : Int), .int .u32 (s : Int), .int .u16 (n : Int), .string gg, .string mm, .slice A K cc]
        have hA8 := hA7.farRow (g := w4.heap.size) (by omega) #[.int .u32 (c : Int), .int .u32 (s : Int), .int .u16 (n : Int), .string gg, .string mm, .slice A K cc]
        have hB8 := hB7.farRow (g := w4.heap.size) (by omega) #[.int .u32 (c : Int), .int .u32 (s : Int), .int .u16 (n : Int), .string gg, .string mm, .slice A K cc]
        have hb8 := below_row hb7 (g := w4.heap.size) (by omega) #[.int .u32 (c : Int), .int .u32 (s : Int), .int .u16 (n : Int), .string gg, .string mm, .slice A K cc]
        generalize w7.setRow w4.heap.size #[.int .u32 (c : Int), .int .u32 (s : Int), .int .u16 (n : Int), .string gg, .string mm, .slice A K cc] = w8 at *
        try simp only [Act.put, List.setIfInBounds_toArray, List.set_cons_zero, List.set_cons_succ]
        refine lexG_nil ?_
        go_wp2_with fail
        go_meet
        exact ⟨(w4.heap.size + 1), w4.heap.size, rfl, rfl, by omega, ⟨by omega, by omega⟩, ⟨by omega, by omega⟩, hA8, hB8, X1, X2, hb8⟩
    case rest =>
      obtain ⟨p1, p2, rfl, rfl, hne, ⟨hp1, hp1l⟩, ⟨hp2, hp2l⟩, B1, B2, X1, X2, hbx⟩ := hcut
      have hne' : p2 ≠ p1 := fun e => hne e.symm
      generalize wc = w5 at *
      obtain ⟨A0, cc0, xs, css, hcs, hr0, hx0, hxs0, -, -, -⟩ := ho.out
      simp at hcs
      obtain ⟨-, -, rfl, -, rfl⟩ := hcs
      have hBx : Below w.heap.size w w5 := hB.trans (hbx.mono hB.size)
      have hone : ∀ u ∈ xs, u.oneCell' = true := rows_one hr0.1 hxs0 (fun j hj => form_one (hx0 j l[j] (List.getElem?_eq_getElem hj)))
      have hr5 := (hr0.below hBx).more hBx.size
      rw [← hpK.out] at hr5
      have hK40 : K ≤ 40 := by rw [hpK.out]; exact hll
      obtain ⟨xf, hxf⟩ : ∃ xf, cb f = xf := ⟨_, rfl⟩
      have hff := fun w => float_ref f w
      rw [hxf] at hff
      have hl1 := X1.lt
      have hl2 := X2.lt
      replace hxf := Lib.hid hxf
      replace hff := Lib.hid hff
      replace hx0 := Lib.hid hx0
      replace hxs0 := Lib.hid hxs0
      replace hr0 := Lib.hid hr0
      have hcB1 := B1.op6
      go_wp2_with (at_builtin; go_must (refine wpList_append_mine rfl _ _ 27 27 rfl 43 i1 (.agg #[.int .i64 0, .int .i64 0, .float .f64 0, .string ⟨#[]⟩, .slice none 0 0]) 5 64 Try.underlying27 gi gz0 gz1 gz2 rfl rfl (Own.none_ (w := w5) (t := 43) (size := 5)) rfl (Src.ofReads Try.underlying27 _ hr5 hone) ?b1 ?b2 ?grow))
      case b1 => unfold maxLen; omega
      case b2 => omega
      case grow =>
        intro A6 c6 w6 ho6 hg6 hat6
        have hb6 : Below w5.heap.size w5 w6 := (Below.refl _ w5).grown hg6 (Nat.le_refl _) (fun k hk => by simp [bOf] at hk)
        have hat6' : ∀ g, bOf A6 = some g → w5.heap.size ≤ g := by
          intro g hg
          rcases hat6 with e | e
          · rw [e] at hg; simp [bOf] at hg
          · rw [e] at hg; cases hg; exact Nat.le_refl _
        clear hg6 hat6
        have B1' := B1.below hb6 B1.lt
        have B2' := B2.below hb6 B2.lt
        have X1' := X1.below hb6 hl1
        have X2' := X2.below hb6 hl2
        have hbx6 := below_then hb6 hbx
        clear B1 B2 X1 X2 hcB1
        go_wp2_with fail
        refine (hff.out _).mono ?_
        rintro e w7 ⟨rfl, hb7⟩
        dsimp only
        have B1 := B1'.below hb7 B1'.lt
        have B2 := B2'.below hb7 B2'.lt
        have X1 := X1'.below hb7 X1'.lt
        have X2 := X2'.below hb7 X2'.lt
        have hbx7 := below_then hb7 hbx6
        have ho7 := ho6.below hb7 (Nat.le_refl _)
        have hs67 := hb7.size
        have hs56 := hb6.size
        clear B1' B2' X1' X2' hb6 ho6 
        have hsrc := Reads.lit (size := 5) w7 #[.int .i64 2, .int .i64 0, .float .f64 xf, .string ⟨#[]⟩, .slice none 0 0] 43 (0, 0) 1 [.int .i64 2, .int .i64 0, .float .f64 xf, .string ⟨#[]⟩, .slice none 0 0] rfl rfl
        have X1c := X1.op6
        have ho7' := ho7.alloc (.cells #[.int .i64 2, .int .i64 0, .float .f64 xf, .string ⟨#[]⟩, .slice none 0 0] 43)
        go_wp2_with (at_builtin; go_must (refine wpList_append_mine rfl _ _ 27 27 rfl 43 i1 (.agg #[.int .i64 0, .int .i64 0, .float .f64 0, .string ⟨#[]⟩, .slice none 0 0]) 5 64 Try.underlying27 gi gz0 gz1 gz2 rfl rfl ho7' rfl (Src.ofReads Try.underlying27 _ hsrc (by intro u hu; simp at hu; rcases hu with rfl | rfl | rfl | rfl | rfl <;> rfl)) ?b1 ?b2 ?grow))
        case b1 => unfold maxLen; omega
        case b2 => omega
        case grow =>
          intro A8 c8 w8 ho8 hg8 hat8
          have hX : ∀ {g t cs}, g < w5.heap.size → Blk w7 g t cs → Blk w8 g t cs := fun hl hB => (hB.alloc _).grown hg8 (fun e => by have := hat6' _ e.symm; omega)
          have B1' := hX (by omega) B1
          have B2' := hX (by omega) B2
          have X1' := hX (by omega) X1
          have X2' := hX (by omega) X2
          have hbx8 : Below w4.heap.size w4 w8 := ((hbx7.alloc hbx7.size (.cells #[.int .i64 2, .int .i64 0, .float .f64 xf, .string ⟨#[]⟩, .slice none 0 0] 43))).grown hg8 (by rw [World.size_alloc]; have := hbx7.size; omega) (fun k e => by have := hat6' k e; have := hbx.size; omega)
          have hA8 : ∀ g, bOf A8 = some g → w5.heap.size ≤ g := by
            intro g hg
            rcases hat8 with e | e
            · rw [e] at hg; exact hat6' g hg
            · rw [e] at hg; cases hg; omega
          have hs8 : w5.heap.size ≤ w8.heap.size := by have := hg8.size; rw [World.size_alloc] at this; omega
          clear hX hg8 hat8 hsrc ho7 ho7' hbx7 B1 B2 X1 X2 X1c hbx6 hat6' hb7
          have y := X1'.cell 5
          have yf := X1'.frozen 5
          go_upto_region 9 with (fail)
          have B1 := B1'.far (p := ⟨p1, 5, none⟩) (show g5 ≠ p1 by omega) (.slice A8 (K + 1) c8)
          have B2 := B2'.far (p := ⟨p1, 5, none⟩) (show g5 + 1 ≠ p1 by omega) (.slice A8 (K + 1) c8)
          have X1 := X1'.set_ 5 (.slice A8 (K + 1) c8)
          have X2 := X2'.far (p := ⟨p1, 5, none⟩) hne' (.slice A8 (K + 1) c8)
          have hby := hbx8.setCell (p := ⟨p1, 5, none⟩) hp1l (.slice A8 (K + 1) c8)
          have ho9 := ho8.setCell (p := ⟨p1, 5, none⟩) (fun e => by have := hA8 p1 e; omega) (.slice A8 (K + 1) c8)
          have hs9 : w5.heap.size ≤ (w8.setCell ⟨p1, 5, none⟩ (.slice A8 (K + 1) c8)).heap.size := by rw [World.size_setCell]; exact hs8
          clear y yf B1' B2' X1' X2' hbx8 ho8 hs8
          generalize w8.setCell ⟨p1, 5, none⟩ (.slice A8 (K + 1) c8) = w9 at *
          have hr9 := (hr0.out.below (hB.trans (hby.mono hB.size))).more (Nat.le_trans hB.size hby.size)
          rw [← hpK.out] at hr9
          obtain ⟨yf, hyf⟩ : ∃ yf, cb (f ^^^ 9223372036854775808) = yf := ⟨_, rfl⟩
          have hgf := fun w => float_ref (f ^^^ 9223372036854775808) w
          rw [hyf] at hgf
          replace hyf := Lib.hid hyf
          replace hgf := Lib.hid hgf
          have hneg : ∀ w, (Op.unary .neg (.float .f64 f)).run Try.prog w = .ok (.float .f64 (f ^^^ 9223372036854775808)) w := fun _ => rfl
          have hcB1 := B1.op6
          have hl19 := X1.lt
          have hl29 := X2.lt
          have ho9lt := fun g hg => ho9.lt (g := g) hg
          clear hr5 hs67 hs56 hff hbx hBx
          go_wp2_with (at_builtin; go_must (refine wpList_append_mine rfl _ _ 27 27 rfl 43 i1 (.agg #[.int .i64 0, .int .i64 0, .float .f64 0, .string ⟨#[]⟩, .slice none 0 0]) 5 64 Try.underlying27 gi gz0 gz1 gz2 rfl rfl (Own.none_ (w := w9) (t := 43) (size := 5)) rfl (Src.ofReads Try.underlying27 _ hr9 hone) ?b1 ?b2 ?grow))
          case b1 => unfold maxLen; omega
          case b2 => omega
          case grow =>
            intro A10 c10 w10 ho10 hg10 hat10
            have hb10 : Below w9.heap.size w9 w10 := (Below.refl _ w9).grown hg10 (Nat.le_refl _) (fun k hk => by simp [bOf] at hk)
            have hat10' : ∀ g, bOf A10 = some g → w9.heap.size ≤ g := by
              intro g hg
              rcases hat10 with e | e
              · rw [e] at hg; simp [bOf] at hg
              · rw [e] at hg; cases hg; exact Nat.le_refl _
            clear hg10 hat10
            have B1' := B1.below hb10 B1.lt
            have B2' := B2.below hb10 B2.lt
            have X1' := X1.below hb10 hl19
            have X2' := X2.below hb10 hl29
            have hbz := below_then hb10 hby
            have hox := ho9.below hb10 (Nat.le_refl _)
            clear B1 B2 X1 X2 hcB1 ho9 hby
            go_wp2_with fail
            refine (hgf.out _).mono ?_
            rintro e w11 ⟨rfl, hb11⟩
            dsimp only
            have B1 := B1'.below hb11 B1'.lt
            have B2 := B2'.below hb11 B2'.lt
            have X1 := X1'.below hb11 X1'.lt
            have X2 := X2'.below hb11 X2'.lt
            have hbv := below_then hb11 hbz
            have ho11 := ho10.below hb11 (Nat.le_refl _)
            have hox2 := hox.below hb11 (by have := hb10.size; omega)
            have hs11 := hb11.size
            have hs10 := hb10.size
            clear B1' B2' X1' X2' hb10 ho10 hox hbz
            have hsrc := Reads.lit (size := 5) w11 #[.int .i64 2, .int .i64 0, .float .f64 yf, .string ⟨#[]⟩, .slice none 0 0] 43 (0, 0) 1 [.int .i64 2, .int .i64 0, .float .f64 yf, .string ⟨#[]⟩, .slice none 0 0] rfl rfl
            have ho11' := ho11.alloc (.cells #[.int .i64 2, .int .i64 0, .float .f64 yf, .string ⟨#[]⟩, .slice none 0 0] 43)
            go_wp2_with (at_builtin; go_must (refine wpList_append_mine rfl _ _ 27 27 rfl 43 i1 (.agg #[.int .i64 0, .int .i64 0, .float .f64 0, .string ⟨#[]⟩, .slice none 0 0]) 5 64 Try.underlying27 gi gz0 gz1 gz2 rfl rfl ho11' rfl (Src.ofReads Try.underlying27 _ hsrc (by intro u hu; simp at hu; rcases hu with rfl | rfl | rfl | rfl | rfl <;> rfl)) ?b1 ?b2 ?grow))
            case b1 => unfold maxLen; omega
            case b2 => omega
            case grow =>
              intro A12 c12 w12 ho12 hg12 hat12
              have hX : ∀ {g t cs}, g < w9.heap.size → Blk w11 g t cs → Blk w12 g t cs := fun hl hB => (hB.alloc _).grown hg12 (fun e => by have := hat10' _ e.symm; omega)
              have B1' := hX (by omega) B1
              have B2' := hX (by omega) B2
              have X1' := hX (by omega) X1
              have X2' := hX (by omega) X2
              have hbx12 : Below w4.heap.size w4 w12 := ((hbv.alloc hbv.size (.cells #[.int .i64 2, .int .i64 0, .float .f64 yf, .string ⟨#[]⟩, .slice none 0 0] 43))).grown hg12 (by rw [World.size_alloc]; have := hbv.size; omega) (fun k e => by have := hat10' k e; omega)
              have hA12 : ∀ g, bOf A12 = some g → w9.heap.size ≤ g := by
                intro g hg
                rcases hat12 with e | e
                · rw [e] at hg; exact hat10' g hg
                · rw [e] at hg; cases hg; omega
              have hxlt := fun g hg => hox2.lt (g := g) hg
              have hx12 := (hox2.alloc (.cells #[.int .i64 2, .int .i64 0, .float .f64 yf, .string ⟨#[]⟩, .slice none 0 0] 43)).upd ((Upd.refl (fun k => bOf A10 = some k) _).grown hg12 (fun k hk _ => hk)) (fun g hg e => by have := hat10' _ e; have := ho9lt g hg; omega)
              clear hX hg12 hat12 hsrc ho11 ho11' hbv B1 B2 X1 X2 hat10' hb11 hox2 hxlt
              have y := X2'.cell 5
              have yf' := X2'.frozen 5
              go_upto_region 10 with (fail)
              have B1 := B1'.far (p := ⟨p2, 5, none⟩) (show g5 ≠ p2 by omega) (.slice A12 (K + 1) c12)
              have B2 := B2'.far (p := ⟨p2, 5, none⟩) (show g5 + 1 ≠ p2 by omega) (.slice A12 (K + 1) c12)
              have X2 := X2'.set_ 5 (.slice A12 (K + 1) c12)
              have X1 := X1'.far (p := ⟨p2, 5, none⟩) hne (.slice A12 (K + 1) c12)
              have hbw := hbx12.setCell (p := ⟨p2, 5, none⟩) hp2l (.slice A12 (K + 1) c12)
              have hoy := ho12.setCell (p := ⟨p2, 5, none⟩) (fun e => by have := hA12 p2 e; omega) (.slice A12 (K + 1) c12)
              have hox := hx12.setCell (p := ⟨p2, 5, none⟩) (fun e => by have := hA8 p2 e; omega) (.slice A12 (K + 1) c12)
              clear y yf' B1' B2' X1' X2' hbx12 hx12 ho12
              generalize w12.setCell ⟨p2, 5, none⟩ (.slice A12 (K + 1) c12) = w13 at *
              have hw13 : Below w.heap.size w w13 := hB.trans (hbw.mono hB.size)
              have oa := (ho.out.below hw13).up hw13.size
              have ob := (ho3.below hbw).up hbw.size
              have hxl : xs.length = K * 5 := by rw [hpK.out]; exact hr0.out.1
              have hx13 : ∀ j v, l[j]? = some v → VReads w13 w13.heap.size v (css j) := fun j v hv => ((hx0.out j v hv).under hw13).up hw13.size
              have hxf' : cb xf = xf := by rw [← hxf.out]; exact cb_cb f
              have hyf' : cb yf = yf := by rw [← hyf.out]; exact cb_cb _
              have hxlt : xf < 18446744073709551616 := by rw [← hxf.out]; exact cb_lt hf
              have hylt : yf < 18446744073709551616 := by rw [← hyf.out]; exact cb_lt (xor_lt64 hf)
              have ox := op_snoc (v := .mk 2 0 xf [] []) (vs := #[.int .i64 2, .int .i64 0, .float .f64 xf, .string ⟨#[]⟩, .slice none 0 0]) (g := g) (m := m) hpK.out hpg.out hpm.out hox hxl rfl hxs0.out hx13 (val1_reads _ _ 2 0 xf) hll hok.out.1 (val1_ok 2 0 xf hxlt (by decide)) hok.out.2.1 hok.out.2.2.1 hok.out.2.2.2
              have oy := op_snoc (v := .mk 2 0 yf [] []) (vs := #[.int .i64 2, .int .i64 0, .float .f64 yf, .string ⟨#[]⟩, .slice none 0 0]) (g := g) (m := m) hpK.out hpg.out hpm.out hoy hxl rfl hxs0.out hx13 (val1_reads _ _ 2 0 yf) hll hok.out.1 (val1_ok 2 0 yf hylt (by decide)) hok.out.2.1 hok.out.2.2.1 hok.out.2.2.2
              have hxy : sameO ⟨c, s, n, g, m, l ++ [.mk 2 0 xf [] []]⟩ ⟨c, s, n, g, m, l ++ [.mk 2 0 yf [] []]⟩ = nanB f := by
                have h1 := ordFl_zero xf yf hxlt hylt
                rw [hxf', hyf', ← hxf.out, ← hyf.out] at h1
                rw [← cb_neg f]
                simp only [sameO, sameL, ordL_snoc, List.length_append, List.length_cons, List.length_nil, decide_true, Bool.true_and]
                rw [ordV, ordL]
                rw [← hxf.out, ← hyf.out]
                exact decide_eq_decide.2 h1
              have hax : sameO ⟨c, s, n, g, m, l⟩ ⟨c, s, n, g, m, l ++ [.mk 2 0 xf [] []]⟩ = false := by
                simp [sameO, sameL]
              have k1 := fun W (hW : Below w13.heap.size w13 W) => call_same oa ob W hW hW.size
              have k2 := fun W (hW : Below w13.heap.size w13 W) => ref_same oa ob W hW hW.size
              have k3 := fun W (hW : Below w13.heap.size w13 W) => call_same oa oa W hW hW.size
              have k4 := fun W (hW : Below w13.heap.size w13 W) => call_same ox ox W hW hW.size
              have k5 := fun W (hW : Below w13.heap.size w13 W) => call_same ox oy W hW hW.size
              have k6 := fun W (hW : Below w13.heap.size w13 W) => call_same oa ox W hW hW.size
              rw [sameO_self] at k3 k4
              rw [hxy] at k5
              rw [hax] at k6
              have hord := order_self f
              generalize nanB f = q at *
              generalize sameO ⟨c, s, n, g, m, l⟩ ⟨c3, s3, n3, g3, m3, l3⟩ = r at *
              replace k1 := Lib.hid k1
              replace k2 := Lib.hid k2
              replace k3 := Lib.hid k3
              replace k4 := Lib.hid k4
              replace k5 := Lib.hid k5
              replace k6 := Lib.hid k6
              have hS0 : Below w13.heap.size w13 w13.drew := (Below.refl _ _).drew
              have hq : (q == q) = true := by simp
              have hr : (r == r) = true := by simp
              clear hneg oa ob ox oy hxl hx13 hxf' hyf' hxlt hylt hxy hax hox hoy hone hr9 hgf hl19 hl29 hs9 hs10 hs11 hA12 hA8 ho3 hbw hB hl1 hl2 hne hne' hp1 hp1l hp2 hp2l hw5 hw6 hll hf gi gz0 gz1 gz2 hK40
              refine wp_region_lex (fun W => Below w13.heap.size w13 W) [0, 1, 3, 4, 8, 9, 13, 14, 18, 19, 27, 28] [2, 5, 10, 15, 20, 29] [0, 1, 3, 4, 2, 5, 6, 7, 8, 9, 10, 11, 12, 13, 14, 15, 16, 17, 18, 19, 21, 22, 23, 20, 24, 25, 26, 27, 28, 29, 30, 31, 32] (by kernel_rfl) rfl (by kernel_rfl) (by kernel_rfl) (fun _ _ d _ _ h => by cases d <;> exact h) ?_
              repeat (first | (refine lexG_take _ ?_ rfl rfl rfl rfl (fun _ => ?_) ?_; rotate_left; (focus (go_simp; with_reducible rfl)); try simp only [Act.put, List.setIfInBounds_toArray, List.set_cons_zero, List.set_cons_succ]) | (refine lexG_held _ ?_ rfl rfl rfl rfl (by assumption) (fun _ hSw => ?_) ?_; rotate_left; (focus (have h1 := (B1.below hSw B1.lt).op6; have h2 := (B2.below hSw B2.lt).op6; have h3 := (X1.below hSw X1.lt).op6; have h4 := (X2.below hSw X2.lt).op6; clear hSw; go_simp; with_reducible rfl)); try simp only [Act.put, List.setIfInBounds_toArray, List.set_cons_zero, List.set_cons_succ]) | (refine lexG_skip _ rfl rfl (by assumption) ?_; try simp only [Act.put, List.setIfInBounds_toArray, List.set_cons_zero, List.set_cons_succ]))
              refine lexG_now _ rfl rfl rfl (fun K0 hK => ?_)
              go_wp2_with fail
              refine (k1.out _ hS0).mono ?_
              rintro e w21 ⟨rfl, hbn⟩
              dsimp only
              have hS1 := below_then hbn hS0
              refine hK _ _ _ (fun _ h => h) hS1 ?_
              clear hK K0 hbn
              try simp only [Act.put, List.setIfInBounds_toArray, List.set_cons_zero, List.set_cons_succ]
              repeat (first | (refine lexG_take _ ?_ rfl rfl rfl rfl (fun _ => ?_) ?_; rotate_left; (focus (go_simp; with_reducible rfl)); try simp only [Act.put, List.setIfInBounds_toArray, List.set_cons_zero, List.set_cons_succ]) | (refine lexG_held _ ?_ rfl rfl rfl rfl (by assumption) (fun _ hSw => ?_) ?_; rotate_left; (focus (have h1 := (B1.below hSw B1.lt).op6; have h2 := (B2.below hSw B2.lt).op6; have h3 := (X1.below hSw X1.lt).op6; have h4 := (X2.below hSw X2.lt).op6; clear hSw; go_simp; with_reducible rfl)); try simp only [Act.put, List.setIfInBounds_toArray, List.set_cons_zero, List.set_cons_succ]) | (refine lexG_skip _ rfl rfl (by assumption) ?_; try simp only [Act.put, List.setIfInBounds_toArray, List.set_cons_zero, List.set_cons_succ]))
              refine lexG_now _ rfl rfl rfl (fun K0 hK => ?_)
              go_wp2_with fail
              refine (k2.out _ hS1).mono ?_
              rintro e w22 ⟨rfl, hbn⟩
              dsimp only
              have hS2 := below_then hbn hS1
              refine hK _ _ _ (fun _ h => h) hS2 ?_
              clear hK K0 hbn
              try simp only [Act.put, List.setIfInBounds_toArray, List.set_cons_zero, List.set_cons_succ]
              repeat (first | (refine lexG_take _ ?_ rfl rfl rfl rfl (fun _ => ?_) ?_; rotate_left; (focus (go_simp; with_reducible rfl)); try simp only [Act.put, List.setIfInBounds_toArray, List.set_cons_zero, List.set_cons_succ]) | (refine lexG_held _ ?_ rfl rfl rfl rfl (by assumption) (fun _ hSw => ?_) ?_; rotate_left; (focus (have h1 := (B1.below hSw B1.lt).op6; have h2 := (B2.below hSw B2.lt).op6; have h3 := (X1.below hSw X1.lt).op6; have h4 := (X2.below hSw X2.lt).op6; clear hSw; go_simp; with_reducible rfl)); try simp only [Act.put, List.setIfInBounds_toArray, List.set_cons_zero, List.set_cons_succ]) | (refine lexG_skip _ rfl rfl (by assumption) ?_; try simp only [Act.put, List.setIfInBounds_toArray, List.set_cons_zero, List.set_cons_succ]))
              refine lexG_now _ rfl rfl rfl (fun K0 hK => ?_)
              go_wp2_with fail
              refine (k3.out _ hS2).mono ?_
              rintro e w23 ⟨rfl, hbn⟩
              dsimp only
              have hS3 := below_then hbn hS2
              refine hK _ _ _ (fun _ h => h) hS3 ?_
              clear hK K0 hbn
              try simp only [Act.put, List.setIfInBounds_toArray, List.set_cons_zero, List.set_cons_succ]
              repeat (first | (refine lexG_take _ ?_ rfl rfl rfl rfl (fun _ => ?_) ?_; rotate_left; (focus (go_simp; with_reducible rfl)); try simp only [Act.put, List.setIfInBounds_toArray, List.set_cons_zero, List.set_cons_succ]) | (refine lexG_held _ ?_ rfl rfl rfl rfl (by assumption) (fun _ hSw => ?_) ?_; rotate_left; (focus (have h1 := (B1.below hSw B1.lt).op6; have h2 := (B2.below hSw B2.lt).op6; have h3 := (X1.below hSw X1.lt).op6; have h4 := (X2.below hSw X2.lt).op6; clear hSw; go_simp; with_reducible rfl)); try simp only [Act.put, List.setIfInBounds_toArray, List.set_cons_zero, List.set_cons_succ]) | (refine lexG_skip _ rfl rfl (by assumption) ?_; try simp only [Act.put, List.setIfInBounds_toArray, List.set_cons_zero, List.set_cons_succ]))
              refine lexG_now _ rfl rfl rfl (fun K0 hK => ?_)
              go_wp2_with fail
              refine (k4.out _ hS3).mono ?_
              rintro e w24 ⟨rfl, hbn⟩
              dsimp only
              have hS4 := below_then hbn hS3
              refine hK _ _ _ (fun _ h => h) hS4 ?_
              clear hK K0 hbn
              try simp only [Act.put, List.setIfInBounds_toArray, List.set_cons_zero, List.set_cons_succ]
              repeat (first | (refine lexG_take _ ?_ rfl rfl rfl rfl (fun _ => ?_) ?_; rotate_left; (focus (go_simp; with_reducible rfl)); try simp only [Act.put, List.setIfInBounds_toArray, List.set_cons_zero, List.set_cons_succ]) | (refine lexG_held _ ?_ rfl rfl rfl rfl (by assumption) (fun _ hSw => ?_) ?_; rotate_left; (focus (have h1 := (B1.below hSw B1.lt).op6; have h2 := (B2.below hSw B2.lt).op6; have h3 := (X1.below hSw X1.lt).op6; have h4 := (X2.below hSw X2.lt).op6; clear hSw; go_simp; with_reducible rfl)); try simp only [Act.put, List.setIfInBounds_toArray, List.set_cons_zero, List.set_cons_succ]) | (refine lexG_skip _ rfl rfl (by assumption) ?_; try simp only [Act.put, List.setIfInBounds_toArray, List.set_cons_zero, List.set_cons_succ]))
              refine lexG_now _ rfl rfl rfl (fun K0 hK => ?_)
              go_wp2_with fail
              refine (k5.out _ hS4).mono ?_
              rintro e w25 ⟨rfl, hbn⟩
              dsimp only
              have hS5 := below_then hbn hS4
              refine hK _ _ _ (fun _ h => h) hS5 ?_
              clear hK K0 hbn
              try simp only [Act.put, List.setIfInBounds_toArray, List.set_cons_zero, List.set_cons_succ]
              repeat (first | (refine lexG_take _ ?_ rfl rfl rfl rfl (fun _ => ?_) ?_; rotate_left; (focus (go_simp; with_reducible rfl)); try simp only [Act.put, List.setIfInBounds_toArray, List.set_cons_zero, List.set_cons_succ]) | (refine lexG_held _ ?_ rfl rfl rfl rfl (by assumption) (fun _ hSw => ?_) ?_; rotate_left; (focus (have h1 := (B1.below hSw B1.lt).op6; have h2 := (B2.below hSw B2.lt).op6; have h3 := (X1.below hSw X1.lt).op6; have h4 := (X2.below hSw X2.lt).op6; clear hSw; go_simp; with_reducible rfl)); try simp only [Act.put, List.setIfInBounds_toArray, List.set_cons_zero, List.set_cons_succ]) | (refine lexG_skip _ rfl rfl (by assumption) ?_; try simp only [Act.put, List.setIfInBounds_toArray, List.set_cons_zero, List.set_cons_succ]))
              refine lexG_now _ rfl rfl rfl (fun K0 hK => ?_)
              go_wp2_with fail
              refine (k6.out _ hS5).mono ?_
              rintro e w26 ⟨rfl, hbn⟩
              dsimp only
              have hSL := below_then hbn hS5
              refine hK _ _ _ (fun _ h => h) hSL ?_
              clear hK K0 hbn
              try simp only [Act.put, List.setIfInBounds_toArray, List.set_cons_zero, List.set_cons_succ]
              repeat (first | (refine lexG_take _ ?_ rfl rfl rfl rfl (fun _ => ?_) ?_; rotate_left; (focus (go_simp; with_reducible rfl)); try simp only [Act.put, List.setIfInBounds_toArray, List.set_cons_zero, List.set_cons_succ]) | (refine lexG_held _ ?_ rfl rfl rfl rfl (by assumption) (fun _ hSw => ?_) ?_; rotate_left; (focus (have h1 := (B1.below hSw B1.lt).op6; have h2 := (B2.below hSw B2.lt).op6; have h3 := (X1.below hSw X1.lt).op6; have h4 := (X2.below hSw X2.lt).op6; clear hSw; go_simp; with_reducible rfl)); try simp only [Act.put, List.setIfInBounds_toArray, List.set_cons_zero, List.set_cons_succ]) | (refine lexG_skip _ rfl rfl (by assumption) ?_; try simp only [Act.put, List.setIfInBounds_toArray, List.set_cons_zero, List.set_cons_succ]))
              clear k1 k2 k3 k4 k5 k6
              refine lexG_nil ?_
              have hfin := below_then hSL hw13
              go_wp2_with fail
              go_ret
              exact ⟨by simp, hfin⟩
end Go.Proofs.Ytblakaddanoilaa
