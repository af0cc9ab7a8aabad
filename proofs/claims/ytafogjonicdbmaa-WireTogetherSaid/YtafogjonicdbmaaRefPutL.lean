/- choirref3.put's list arm, and the whole; wire.Put, choirref3.Put. -/
import Derived.Test.YtafogjonicdbmaaRefPut
namespace Go.Proofs.Ytafogjonicdbmaa
open Go.RowKit

def RPutItem (w : World) (B : Nat) (v : Val) (cs : Array Value) (f : FuncId) : Prop :=
  ∀ (w1 : World) (A1 : Option Addr) (c1 : Nat) (row : Option Nat) (q : List UInt8), Below B w w1 → B ≤ w1.heap.size → Grows w1 5 1 A1 q.length c1 (bys q) row → (∀ g, row = some g → B ≤ g) → q.length + sizeV v ≤ 1000000000 →
    Calls Try.prog f #[.slice A1 q.length c1, .agg cs] w1 (PutRow w1 row (q ++ encV v))

set_option maxHeartbeats 3200000 in
theorem refput_list {w w1 : World} {B : Nat} {A : Option Addr} {c : Nat} {row : Option Nat} {bs : List UInt8} {k i : Int} {f : Nat} {s : ByteArray} {l : List Val} {A' : Option Addr} {c' : Nat} {xs : List Value} {css : Nat → Array Value} (hk : k = 4) (hr : Reads w B 5 A' l.length xs) (hx : ∀ (j : Nat) (v : Val), l[j]? = some v → VReads w B v (css j)) (hxs : ∀ j, j < l.length → (xs.drop (j * 5)).take 5 = (css j).toList)
    (hB1w : Below B w w1) (hB1 : B ≤ w1.heap.size) (h : Grows w1 5 1 A bs.length c (bys bs) row) (hA : ∀ g, row = some g → B ≤ g) (hl : bs.length + 2 + sizeL l ≤ 1000000000) (h64 : l.length ≤ 64) (hcall : ∀ j v, l[j]? = some v → RPutItem w B v (css j) 33) :
    Calls Try.prog 33 #[.slice A bs.length c, .agg #[.int .i64 k, .int .i64 i, .float .f64 f, .string s, .slice A' l.length c']] w1 (PutRow w1 row (bs ++ (4 :: UInt8.ofNat l.length :: encL l))) := by
  subst hk
  obtain ⟨i0, hi, hz0, hz1, hz2⟩ := info_parts info_u8
  obtain ⟨x, hx0⟩ : ∃ x, UInt8.ofNat l.length = x := ⟨_, rfl⟩
  have hxl : (x.toNat : Int) = (l.length : Int) := by rw [← hx0, UInt8.toNat_ofNat']; omega
  have hcv : IntKind.u8.wrap (l.length : Int) = (x.toNat : Int) := by rw [hxl]; simp [IntKind.wrap, IntKind.bits, IntKind.signed]; omega
  obtain ⟨q, hq⟩ : ∃ q, bs ++ [4] = q := ⟨_, rfl⟩
  have hql : bs.length + 1 = q.length := by rw [← hq]; simp
  have hqb : bys bs ++ [.int .u8 4] = bys q := by rw [← hq, bys_append]; rfl
  have hqbl : q.length ≤ 1000000100 := by omega
  obtain ⟨q2, hq2⟩ : ∃ q2, q ++ [x] = q2 := ⟨_, rfl⟩
  have hql2 : q.length + 1 = q2.length := by rw [← hq2]; simp
  have hqb2 : bys q ++ [.int .u8 (x.toNat : Int)] = bys q2 := by rw [← hq2, bys_append]; rfl
  have hall : ∀ t, bs ++ (4 :: x :: t) = q2 ++ t := by intro t; rw [← hq2, ← hq]; simp
  have hqbl2 : q2.length + sizeL l ≤ 1000000000 := by omega
  have h64i : (l.length : Int) ≤ 64 := by omega
  have hbl : bs.length ≤ 1000000000 := by omega
  rw [hx0, hall]
  clear hall hx0 hxl hl
  replace hq := Lib.hid hq
  replace hq2 := Lib.hid hq2
  replace hql := Lib.hid hql
  replace hql2 := Lib.hid hql2
  replace hqb := Lib.hid hqb
  replace hqb2 := Lib.hid hqb2
  replace hcall := Lib.hid hcall
  go_enter Try.func33, Try.ntmps33
  have hb := Blk.new w1 26 #[.int .i64 4, .int .i64 i, .float .f64 f, .string s, .slice A' l.length c']
  have hsrc := Reads.lit (size := 1) (w1.alloc (.cells #[.int .i64 4, .int .i64 i, .float .f64 f, .string s, .slice A' l.length c'] 26)) #[.int .u8 4] 5 (0, 0) 1 [.int .u8 4] rfl rfl
  have hew : (w1.alloc (.cells #[.int .i64 4, .int .i64 i, .float .f64 f, .string s, .slice A' l.length c'] 26)).heap.size = w1.heap.size + 1 := by simp
  rw [hew] at hsrc
  replace hew := Lib.hid hew
  replace hb := Lib.hid hb
  go_wp2_with (at_builtin; go_must (refine wpList_append_grows rfl _ _ 22 22 rfl 5 i0 (.int .u8 0) 1 1 Try.underlying22 hi hz0 hz1 hz2 rfl rfl ((h.alloc _).alloc _) rfl (Src.ofReads Try.underlying22 _ hsrc (by intro u hu; simp at hu; subst hu; rfl)) (by omega) ?b1 ?b2 ?grow))
  case b1 => unfold maxLen; omega
  case b2 => omega
  case grow =>
    intro A3 c3 w3 ho3 hg3 hat3
    rw [hqb.out, hql.out] at ho3
    rw [hql.out]
    have hb1 := (hb.out.alloc (.cells #[.int .u8 4] 5)).grown hg3 (fun e => absurd (h.lt e.symm) (Nat.lt_irrefl _))
    have hu3 : Upd (fun x => some x = row) w1 w3 := (((Upd.refl _ w1).alloc _).alloc _).grown hg3 (fun k e _ => e.symm)
    have hf3 : bOf A3 = row ∨ ∀ g, bOf A3 = some g → w1.heap.size < g := by
      rcases hat3 with e | e
      · exact .inl e
      · right; intro g hg; rw [e] at hg; simp at hg; omega
    have hne3 : some w1.heap.size ≠ bOf A3 := by
      intro e
      rcases hf3 with e3 | e3
      · rw [e3] at e; exact absurd (h.lt e.symm) (Nat.lt_irrefl _)
      · exact absurd (e3 _ e.symm) (Nat.lt_irrefl _)
    clear hat3 hg3 hsrc
    have e0 := hb1.cell 0
    have e4 := hb1.cell 4
    have hsrc2 := Reads.lit (size := 1) w3 #[.int .u8 (x.toNat : Int)] 5 (0, 0) 1 [.int .u8 (x.toNat : Int)] rfl rfl
    go_wp2_with (at_builtin; go_must (refine wpList_append_mine rfl _ _ 22 22 rfl 5 i0 (.int .u8 0) 1 1 Try.underlying22 hi hz0 hz1 hz2 rfl rfl (ho3.alloc _) rfl (Src.ofReads Try.underlying22 _ hsrc2 (by intro u hu; simp at hu; subst hu; rfl)) ?b1 ?b2 ?grow))
    case b1 => unfold maxLen; omega
    case b2 => omega
    case grow =>
      intro A4 c4 w4 ho4 hg4 hat4
      rw [hqb2.out, hql2.out] at ho4
      rw [hql2.out]
      have hb4 := (hb1.alloc (.cells #[.int .u8 (x.toNat : Int)] 5)).grown hg4 hne3
      have hA3 : ∀ g, bOf A3 = some g → g < w1.heap.size → some g = row := by
        intro g hg hlt
        rcases hf3 with e | e
        · rw [← e]; exact hg.symm
        · have := e g hg; omega
      have hu4 : Upd (fun x => some x = row) w1 w4 := (hu3.alloc _).grown hg4 (fun k e hk => hA3 k e hk)
      have hw13 := hu3.size
      have hf4 : bOf A4 = row ∨ ∀ g, bOf A4 = some g → w1.heap.size < g := by
        rcases hat4 with e | e
        · rw [e]; exact hf3
        · right; intro g hg; rw [e] at hg; simp at hg; have := hb1.lt; omega
      clear hat4 hg4 hsrc2 hf3 hA3 hu3 hb1 ho3 e0 e4
      have e0 := hb4.cell 0
      have e4 := hb4.cell 4
      go_wp2_with fail
      go_loopw [0, 6] (fun acc ii wr => ∃ (j : Nat) (A5 : Option Addr) (c5 : Nat) (q5 : List UInt8), j ≤ l.length ∧ ii = .int .i64 (j : Int) ∧ acc = .slice A5 q5.length c5 ∧ q5 = q2 ++ encL (l.take j) ∧ Own wr 5 1 A5 q5.length c5 (bys q5) ∧ Upd (fun x => some x = row) w1 wr ∧ (bOf A5 = row ∨ ∀ g, bOf A5 = some g → w1.heap.size < g) ∧ Blk wr w1.heap.size 26 #[.int .i64 4, .int .i64 i, .float .f64 f, .string s, .slice A' l.length c']) (fun _ i _ => l.length - (intOf i).toNat)
      case atStart => exact ⟨0, A4, c4, q2, Nat.zero_le _, rfl, rfl, by simp [encL], ho4, hu4, hf4, hb4⟩
      case round =>
        rename_i hrel
        obtain ⟨j, A5, c5, q5, hj, rfl, rfl, hq5, ho5, hu5, hf5, hb5⟩ := hrel
        replace hq5 := Lib.hid hq5
        have b4 := hb5.cell 4
        by_cases hlt : j < l.length
        · have hbb : Below B w wr := hB1w.trans (hu5.below hB1 (fun k hk e => absurd (hA k e.symm) (by omega)))
          obtain ⟨ad, k', i', f', s', A'', n'', c'', rfl, hform, hgk, g0, g1, g2, g3, g4⟩ := kid hr hx hxs hbb hlt
          have hq5l : q5.length = q2.length + sizeL (l.take j) := by rw [hq5.out, List.length_append, encL_len]
          have hss := sizeL_sum l j hlt
          have hsle := sizeL_take l (j + 1)
          have hwr := hu5.size
          have hA5 : ∀ g, bOf A5 = some g → B ≤ g := by
            intro g hg
            rcases hf5 with e | e
            · exact hA g (e ▸ hg)
            · have := e g hg; omega
          have hcl := hcall.out j l[j] hgk wr A5 c5 (bOf A5) q5 hbb (Nat.le_trans hB1 hwr) (Grows.own ho5) hA5 (by omega)
          obtain ⟨q6, hq6⟩ : ∃ q6, q5 ++ encV l[j] = q6 := ⟨_, rfl⟩
          have hnext : q6 = q2 ++ encL (l.take (j + 1)) := by rw [← hq6, hq5.out, encL_next l j hlt, List.append_assoc]
          rw [hform, hq6] at hcl
          replace hnext := Lib.hid hnext
          clear hform hgk hss hsle hq6 hq5l hbb
          go_wp2_with fail
          refine hcl.mono ?_
          clear hcl
          rintro e w6 ⟨A6, c6, rfl, ho6, hu6, hf6⟩
          dsimp only
          have hne5 : some w1.heap.size ≠ bOf A5 := by
            intro e
            rcases hf5 with e3 | e3
            · rw [e3] at e; exact absurd (h.lt e.symm) (Nat.lt_irrefl _)
            · exact absurd (e3 _ e.symm) (Nat.lt_irrefl _)
          have hb6 := hb5.upd hu6 hne5
          have hu7 : Upd (fun x => some x = row) w1 w6 := hu5.trans hu6 (fun k hk e => by
            rcases hf5 with e5 | e5
            · rw [← e5]; exact e
            · have := e5 k e.symm; omega)
          have hf7 : bOf A6 = row ∨ ∀ g, bOf A6 = some g → w1.heap.size < g := by
            rcases hf6 with e | e
            · rw [e]; exact hf5
            · right; intro g hg; have := e g hg; have := hb5.lt; omega
          clear hu6 hf6 hf5 ho5 hu5 g0 g1 g2 g3 g4 b4 hb5
          go_wp2_with fail
          go_roundw
          case rel => exact ⟨j + 1, A6, c6, q6, by omega, by simp, rfl, hnext.out, ho6, hu7, hf7, hb6⟩
          case measure => simp [intOf]; omega
        · have hj' : j = l.length := by omega
          subst hj'
          rw [List.take_length] at hq5
          go_wp2_with fail
          go_ret
          rw [← hq5.out]
          exact ⟨A5, c5, rfl, ho5, hu5, hf5.imp id (fun h g hg => Nat.le_of_lt (h g hg))⟩

theorem refput_tree {w : World} {B : Nat} {v : Val} {cs : Array Value} (h : VReads w B v cs) : ∀ (d : Int), OkV v → strangeV v = false → greatV v d = false → RPutItem w B v cs 33 := by
  induction h with
  | @mk k i f s l A c xs css hn hr hx hxs ih =>
    intro d hok hst hg w1 A1 c1 row q hb1 hB1 ho hA hlen
    obtain ⟨hf, -, hkids⟩ := hok
    have hst2 : (decide (k < 0 ∨ 4 < k) || (k == 4 && strangeL l)) = false := hst
    simp only [Bool.or_eq_false_iff, decide_eq_false_iff_not] at hst2
    obtain ⟨hk, hsl⟩ := hst2
    unfold greatV at hg
    have hq : q.length ≤ 1000000000 := by omega
    by_cases h1 : k = 1
    · refine refput_int h1 ho hq ?_
      unfold encV
      rw [if_pos h1]
    by_cases h2 : k = 2
    · refine refput_float h2 ho hq (cb_lt hf) ?_
      unfold encV
      rw [if_neg h1, if_pos h2]
    by_cases h3 : k = 3
    · rw [if_pos h3] at hg
      have hs : ¬ 256 < s.length := by simpa using hg
      refine refput_txt h3 ho hq (by omega) ?_
      unfold encV
      rw [if_neg h1, if_neg h2, if_pos h3]
    by_cases h4 : k = 4
    · rw [if_neg h3, if_pos h4] at hg
      simp only [Bool.or_eq_false_iff, decide_eq_false_iff_not] at hg
      obtain ⟨⟨h64, -⟩, hgl⟩ := hg
      rw [greatL_any] at hgl
      have hsl2 : l.any strangeV = false := by
        rw [h4] at hsl
        rw [← strangeL_any]
        simpa using hsl
      have he : encV (.mk k i f s l) = 4 :: UInt8.ofNat l.length :: encL l := by unfold encV; rw [if_neg h1, if_neg h2, if_neg h3, if_pos h4]
      have hz : sizeV (.mk k i f s l) = 2 + sizeL l := by unfold sizeV; rw [if_neg (by omega), if_neg h3, if_pos h4]
      rw [hz] at hlen
      rw [he]
      refine refput_list h4 hr hx hxs hb1 hB1 ho hA (by omega) (by omega) (fun j v hv => ?_)
      have hm := List.mem_of_getElem? hv
      refine ih j v hv (d - 1) (hkids v hm) ?_ ?_
      · simpa using List.any_eq_false.1 hsl2 v hm
      · simpa using List.any_eq_false.1 hgl v hm
    · have h0 : k = 0 := by omega
      refine refput_nil h0 ho hq ?_
      unfold encV
      rw [if_neg h1, if_neg h2, if_neg h3, if_neg h4]
end Go.Proofs.Ytafogjonicdbmaa
