/- Values written. -/
import Derived.Test.YtlkokkbikkbaoaaW3
set_option linter.unusedSimpArgs false
set_option linter.unusedVariables false
set_option linter.unusedSimpArgs false
set_option linter.unusedVariables false
namespace Go.Proofs.Ytlkokkbikkbaoaa
set_option maxRecDepth 100000
open Go.RowKit
mutual
def encV : Val → List UInt8
  | .mk k i f s l => if k = 1 then 1 :: putU (u64 i) 8 else if k = 2 then 2 :: putU (cb f) 8 else if k = 3 then 3 :: (putU s.length 2 ++ s) else if k = 4 then 4 :: UInt8.ofNat l.length :: encL l else [0]
def encL : List Val → List UInt8
  | [] => []
  | v :: l => encV v ++ encL l
end
mutual
theorem encV_len : ∀ v : Val, (encV v).length = sizeV v
  | .mk k i f s l => by
    have := encL_len l
    unfold encV sizeV
    by_cases h1 : k = 1
    · rw [if_pos h1, if_pos (.inl h1)]; simp [putU_len]
    by_cases h2 : k = 2
    · rw [if_neg h1, if_pos h2, if_pos (.inr h2)]; simp [putU_len]
    by_cases h3 : k = 3
    · rw [if_neg h1, if_neg h2, if_pos h3, if_neg (by omega), if_pos h3]; simp [putU_len]; omega
    by_cases h4 : k = 4
    · rw [if_neg h1, if_neg h2, if_neg h3, if_pos h4, if_neg (by omega), if_neg h3, if_pos h4]; simp; omega
    · rw [if_neg h1, if_neg h2, if_neg h3, if_neg h4, if_neg (by omega), if_neg h3, if_neg h4]; simp
theorem encL_len : ∀ l : List Val, (encL l).length = sizeL l
  | [] => rfl
  | v :: l => by
    show (encV v ++ encL l).length = sizeV v + sizeL l
    rw [List.length_append, encV_len v, encL_len l]
end
theorem encL_next (l : List Val) : ∀ (k : Nat) (hk : k < l.length), encL (l.take (k + 1)) = encL (l.take k) ++ encV l[k] := by
  induction l with
  | nil => intro k hk; simp at hk
  | cons v l ih =>
    intro k hk
    cases k with
    | zero => show encV v ++ encL (List.take 0 l) = encL (List.take 0 (v :: l)) ++ encV v; simp [encL]
    | succ k =>
      have hk' : k < l.length := by simpa using hk
      have := ih k hk'
      show encV v ++ encL (List.take (k + 1) l) = (encV v ++ encL (List.take k l)) ++ encV l[k]
      rw [this, List.append_assoc]
/-- The value's bytes and numbers are such as the machine's are. -/
inductive OkV : Val → Prop
  | mk {k i : Int} {f : Nat} {s : List UInt8} {l : List Val} (hf : f < 18446744073709551616) (hi : -9223372036854775808 ≤ i ∧ i ≤ 9223372036854775807) (hl : ∀ v, v ∈ l → OkV v) (hs : l.length ≤ 2199023255488) : OkV (.mk k i f s l)
theorem short_of_ok {v : Val} (h : OkV v) : ShortV v := by
  induction h with
  | mk hf hi hl hs ih => exact .mk (fun _ => hs) (fun _ v hv => ih v hv)
theorem cb_lt {f : Nat} (hf : f < 18446744073709551616) : cb f < 18446744073709551616 := by
  unfold cb
  split <;> omega
/-- put's text arm. -/
theorem put_txt {A : Option Addr} {c : Nat} {bs r s : List UInt8} {k i : Int} {f : Nat} {A' : Option Addr} {n' c' : Nat} {w : World} (hk : k = 3) (h : Own w 5 1 A bs.length c (bys bs)) (hl : bs.length ≤ 1000000000) (hs : s.length ≤ 65535) (hr : bs ++ (3 :: (putU s.length 2 ++ s)) = r) :
    Calls Try.prog 53 #[.slice A bs.length c, .agg #[.int .i64 k, .int .i64 i, .float .f64 f, .string (bstr s), .slice A' n' c']] w (PutBytes w A r) := by
  subst hk
  obtain ⟨i0, hi, hz0, hz1, hz2⟩ := info_parts info_u8
  obtain ⟨q, hq⟩ : ∃ q, bs ++ [3] = q := ⟨_, rfl⟩
  have hql : bs.length + 1 = q.length := by rw [← hq]; simp
  have hqb : bys bs ++ [.int .u8 3] = bys q := by rw [← hq, bys_append]; rfl
  obtain ⟨q2, hq2⟩ : ∃ q2, q ++ putU s.length 2 = q2 := ⟨_, rfl⟩
  have hqr : bys q2 ++ bys s = bys r := by rw [← bys_append, ← hr, ← hq2, ← hq]; simp
  have hqrl : q2.length + s.length = r.length := by rw [← hr, ← hq2, ← hq]; simp; omega
  have hq2l : q2.length = q.length + 2 := by rw [← hq2]; simp [putU_len]
  have hsz : (bstr s).size = s.length := bstr_size s
  have hqbl : q.length ≤ 1000000100 := by omega
  clear hr
  replace hq := Lib.hid hq
  replace hq2 := Lib.hid hq2
  replace hql := Lib.hid hql
  replace hqr := Lib.hid hqr
  replace hqrl := Lib.hid hqrl
  replace hqb := Lib.hid hqb
  generalize hsb : bstr s = sb at *
  replace hsb := Lib.hid hsb
  go_enter Try.func53, Try.ntmps53
  have hb := Blk.new w 64 #[.int .i64 3, .int .i64 i, .float .f64 f, .string sb, .slice A' n' c']
  have hsrc := Reads.lit (size := 1) (w.alloc (.cells #[.int .i64 3, .int .i64 i, .float .f64 f, .string sb, .slice A' n' c'] 64)) #[.int .u8 3] 5 (0, 0) 1 [.int .u8 3] rfl rfl
  have hew : (w.alloc (.cells #[.int .i64 3, .int .i64 i, .float .f64 f, .string sb, .slice A' n' c'] 64)).heap.size = w.heap.size + 1 := by simp
  rw [hew] at hsrc
  replace hew := Lib.hid hew
  replace hb := Lib.hid hb
  go_wp2_with (at_builtin; go_must (refine wpList_append_mine rfl _ _ 26 26 rfl 5 i0 (.int .u8 0) 1 1 Try.underlying26 hi hz0 hz1 hz2 rfl rfl ((h.alloc _).alloc _) rfl (Src.ofReads Try.underlying26 _ hsrc (by intro u hu; simp at hu; subst hu; rfl)) ?b1 ?b2 ?grow))
  case b1 => unfold maxLen; omega
  case b2 => omega
  case grow =>
    intro A3 c3 w3 ho3 hg3 hat3
    rw [hqb.out, hql.out] at ho3
    rw [hql.out]
    have hb1 := (hb.out.alloc (.cells #[.int .u8 3] 5)).grown hg3 (fun e => absurd (h.lt e.symm) (Nat.lt_irrefl _))
    have hu3 : Upd (fun x => some x = bOf A) w w3 := (((Upd.refl _ w).alloc _).alloc _).grown hg3 (fun k e _ => e.symm)
    clear hat3 hg3 hsrc
    have e0 := hb1.cell 0
    go_wp2_with fail
    have hS : w3.drew.cell? ⟨w.heap.size, 3, none⟩ = some (.string sb) := hb1.cell 3
    have hblt := hb1.lt
    clear e0
    refine wp_region_lex (fun W => W.cell? ⟨w.heap.size, 3, none⟩ = some (.string sb)) [2, 7] [5, 8] [0, 1, 2, 3, 4, 6, 7, 5, 8, 9] (by kernel_rfl) rfl (by kernel_rfl) (by kernel_rfl) (fun _ _ d _ _ h => by cases d <;> exact h) ?_
    repeat (first | (refine lexG_take _ ?_ rfl rfl rfl rfl (fun _ => ?_) ?_; rotate_left; (focus (go_simp; with_reducible rfl)); try simp only [Act.put, List.setIfInBounds_toArray, List.set_cons_zero, List.set_cons_succ]) | (refine lexG_held _ ?_ rfl rfl rfl rfl (by assumption) (fun _ hSw => ?_) ?_; rotate_left; (focus ((try dsimp only at hSw); go_simp; with_reducible rfl)); try simp only [Act.put, List.setIfInBounds_toArray, List.set_cons_zero, List.set_cons_succ]) | (refine lexG_skip _ rfl rfl (by assumption) ?_; try simp only [Act.put, List.setIfInBounds_toArray, List.set_cons_zero, List.set_cons_succ]))
    refine lexG_now _ rfl rfl rfl (fun K hK => ?_)
    go_wp2_with fail
    refine (wire_put (m := 2) ho3.drew.reads_ (Nat.le_refl _) (by omega) (by omega)).mono ?_
    rw [show n8 2 = 2 from rfl, hq2.out]
    rintro e w4 ⟨A4, c4, rfl, ho4, hb4, hg4⟩
    dsimp only
    refine hK _ _ _ (fun _ h => h) ((hb4.cell (by simpa using hblt)).trans hS) ?_
    clear hK K
    try simp only [Act.put, List.setIfInBounds_toArray, List.set_cons_zero, List.set_cons_succ]
    repeat (first | (refine lexG_take _ ?_ rfl rfl rfl rfl (fun _ => ?_) ?_; rotate_left; (focus (go_simp; with_reducible rfl)); try simp only [Act.put, List.setIfInBounds_toArray, List.set_cons_zero, List.set_cons_succ]) | (refine lexG_held _ ?_ rfl rfl rfl rfl (by assumption) (fun _ hSw => ?_) ?_; rotate_left; (focus ((try dsimp only at hSw); go_simp; with_reducible rfl)); try simp only [Act.put, List.setIfInBounds_toArray, List.set_cons_zero, List.set_cons_succ]) | (refine lexG_skip _ rfl rfl (by assumption) ?_; try simp only [Act.put, List.setIfInBounds_toArray, List.set_cons_zero, List.set_cons_succ]))
    refine lexG_now _ rfl rfl rfl (fun K hK => ?_)
    have htx := text_src w4 s
    rw [hsb.out] at htx
    refine wp_append_mine _ _ 26 9 rfl 5 i0 (.int .u8 0) 1 1 Try.underlying26 hi hz0 hz1 hz2 rfl rfl ho4 rfl htx (by unfold maxLen; omega) (by omega) (fun A5 c5 w5 ho5 hg5 hat5 => ?_)
    rw [hqr.out, hqrl.out] at ho5
    rw [hqrl.out]
    have hbg : w.heap.size < w4.heap.size := Nat.lt_of_lt_of_le hblt (by have := hb4.size; simpa using this)
    have hu5 : Upd (fun x => some x = bOf A) w w5 := (hu3.drew.thenBelow hb4 (by have := hu3.size; simpa using this)).grown hg5 (fun k e hk => by have h1 := hg4 k e; have h2 := hu3.size; simp at h1; omega)
    have hf5 : ∀ g, bOf A5 = some g → w.heap.size ≤ g := by
      rcases hat5 with e | e
      · intro g hg; rw [e] at hg; have h1 := hg4 g hg; have h2 := hu3.size; simp at h1; omega
      · intro g hg; rw [e] at hg; cases hg; omega
    refine hK _ _ _ (fun _ h => h) ((((hb1.drew.below hb4 hb1.drew.lt).grown hg5 (fun e => by have h1 := hg4 _ e.symm; have h2 := hb1.drew.lt; omega)).cell 3)) ?_
    clear hK K
    try simp only [Act.put, List.setIfInBounds_toArray, List.set_cons_zero, List.set_cons_succ]
    repeat (first | (refine lexG_take _ ?_ rfl rfl rfl rfl (fun _ => ?_) ?_; rotate_left; (focus (go_simp; with_reducible rfl)); try simp only [Act.put, List.setIfInBounds_toArray, List.set_cons_zero, List.set_cons_succ]) | (refine lexG_held _ ?_ rfl rfl rfl rfl (by assumption) (fun _ hSw => ?_) ?_; rotate_left; (focus ((try dsimp only at hSw); go_simp; with_reducible rfl)); try simp only [Act.put, List.setIfInBounds_toArray, List.set_cons_zero, List.set_cons_succ]) | (refine lexG_skip _ rfl rfl (by assumption) ?_; try simp only [Act.put, List.setIfInBounds_toArray, List.set_cons_zero, List.set_cons_succ]))
    refine lexG_nil ?_
    go_wp2_with fail
    go_ret
    exact ⟨A5, c5, rfl, ho5, hu5, .inr hf5⟩
theorem put_nil {A : Option Addr} {c : Nat} {bs r : List UInt8} {k i : Int} {f : Nat} {s : ByteArray} {A' : Option Addr} {n' c' : Nat} {w : World} (hk : k = 0) (h : Own w 5 1 A bs.length c (bys bs)) (hl : bs.length ≤ 1000000000) (hr : bs ++ [0] = r) :
    Calls Try.prog 53 #[.slice A bs.length c, .agg #[.int .i64 k, .int .i64 i, .float .f64 f, .string s, .slice A' n' c']] w (PutBytes w A r) := by
  subst hk
  obtain ⟨i0, hi, hz0, hz1, hz2⟩ := info_parts info_u8
  have hql : bs.length + 1 = r.length := by rw [← hr]; simp
  have hqb : bys bs ++ [.int .u8 0] = bys r := by rw [← hr, bys_append]; rfl
  clear hr
  replace hql := Lib.hid hql
  replace hqb := Lib.hid hqb
  go_enter Try.func53, Try.ntmps53
  have hb := Blk.new w 64 #[.int .i64 0, .int .i64 i, .float .f64 f, .string s, .slice A' n' c']
  have hsrc := Reads.lit (size := 1) (w.alloc (.cells #[.int .i64 0, .int .i64 i, .float .f64 f, .string s, .slice A' n' c'] 64)) #[.int .u8 0] 5 (0, 0) 1 [.int .u8 0] rfl rfl
  have hew : (w.alloc (.cells #[.int .i64 0, .int .i64 i, .float .f64 f, .string s, .slice A' n' c'] 64)).heap.size = w.heap.size + 1 := by simp
  rw [hew] at hsrc
  replace hew := Lib.hid hew
  replace hb := Lib.hid hb
  go_wp2_with (at_builtin; go_must (refine wpList_append_mine rfl _ _ 26 26 rfl 5 i0 (.int .u8 0) 1 1 Try.underlying26 hi hz0 hz1 hz2 rfl rfl ((h.alloc _).alloc _) rfl (Src.ofReads Try.underlying26 _ hsrc (by intro u hu; simp at hu; subst hu; rfl)) ?b1 ?b2 ?grow))
  case b1 => unfold maxLen; omega
  case b2 => omega
  case grow =>
    intro A3 c3 w3 ho3 hg3 hat3
    rw [hqb.out, hql.out] at ho3
    rw [hql.out]
    have hb1 := (hb.out.alloc (.cells #[.int .u8 0] 5)).grown hg3 (fun e => absurd (h.lt e.symm) (Nat.lt_irrefl _))
    have hu3 : Upd (fun x => some x = bOf A) w w3 := (((Upd.refl _ w).alloc _).alloc _).grown hg3 (fun k e _ => e.symm)
    have hf3 : bOf A3 = bOf A ∨ ∀ g, bOf A3 = some g → w.heap.size ≤ g := by
      rcases hat3 with e | e
      · exact .inl e
      · right; intro g hg; rw [e] at hg; simp at hg; omega
    clear hat3 hg3 hsrc
    have e0 := hb1.cell 0
    go_wp2_with fail
    go_ret
    exact ⟨A3, c3, rfl, ho3, hu3, hf3⟩
/-- put's list arm. -/
def PutItem (w : World) (B : Nat) (v : Val) (cs : Array Value) (f : FuncId) : Prop :=
  ∀ (w1 : World) (A1 : Option Addr) (c1 : Nat) (q : List UInt8), Below B w w1 → B ≤ w1.heap.size → Own w1 5 1 A1 q.length c1 (bys q) → (∀ g, bOf A1 = some g → B ≤ g) → q.length + sizeV v ≤ 1000000000 →
    Calls Try.prog f #[.slice A1 q.length c1, .agg cs] w1 (PutBytes w1 A1 (q ++ encV v))
set_option maxHeartbeats 3200000 in
theorem put_list {w w1 : World} {B : Nat} {A : Option Addr} {c : Nat} {bs : List UInt8} {k i : Int} {f : Nat} {s : ByteArray} {l : List Val} {A' : Option Addr} {c' : Nat} {xs : List Value} {css : Nat → Array Value} (hk : k = 4) (hr : Reads w B 5 A' l.length xs) (hx : ∀ (j : Nat) (v : Val), l[j]? = some v → VReads w B v (css j)) (hxs : ∀ j, j < l.length → (xs.drop (j * 5)).take 5 = (css j).toList)
    (hb1 : Below B w w1) (hB1 : B ≤ w1.heap.size) (h : Own w1 5 1 A bs.length c (bys bs)) (hA : ∀ g, bOf A = some g → B ≤ g) (hl : bs.length + 2 + sizeL l ≤ 1000000000) (h64 : l.length ≤ 64) (hcall : ∀ j v, l[j]? = some v → PutItem w B v (css j) 53) :
    Calls Try.prog 53 #[.slice A bs.length c, .agg #[.int .i64 k, .int .i64 i, .float .f64 f, .string s, .slice A' l.length c']] w1 (PutBytes w1 A (bs ++ (4 :: UInt8.ofNat l.length :: encL l))) := by
  subst hk
  obtain ⟨i0, hi, hz0, hz1, hz2⟩ := info_parts info_u8
  obtain ⟨x, hx0⟩ : ∃ x, UInt8.ofNat l.length = x := ⟨_, rfl⟩
  have hxl : (x.toNat : Int) = (l.length : Int) := by rw [← hx0, UInt8.toNat_ofNat']; omega
  have hcv : IntKind.u8.wrap (l.length : Int) = (x.toNat : Int) := by rw [hxl]; simp [IntKind.wrap, IntKind.bits, IntKind.signed]; omega
  obtain ⟨q, hq⟩ : ∃ q, bs ++ [4] = q := ⟨_, rfl⟩
  have hql : bs.length + 1 = q.length := by rw [← hq]; simp
  have hqb : bys bs ++ [.int .u8 4] = bys q := by rw [← hq, bys_append]; rfl
  obtain ⟨q2, hq2⟩ : ∃ q2, q ++ [x] = q2 := ⟨_, rfl⟩
  have hql2 : q.length + 1 = q2.length := by rw [← hq2]; simp
  have hqb2 : bys q ++ [.int .u8 (x.toNat : Int)] = bys q2 := by rw [← hq2, bys_append]; rfl
  have hall : ∀ t, bs ++ (4 :: x :: t) = q2 ++ t := by intro t; rw [← hq2, ← hq]; simp
  have hqbl : q.length ≤ 1000000100 := by omega
  have hqbl2 : q2.length + sizeL l ≤ 1000000000 := by omega
  have h64i : (l.length : Int) ≤ 64 := by omega
  have hbl : bs.length ≤ 1000000000 := by omega
  rw [hx0, hall]
  clear hall hx0 hxl hl
  replace hq := Lib.hid hq
  replace hq2 := Lib.hid hq2
  replace hql := Lib.hid hql
  replace hql2 := Lib.hid hql2
  replace hqb := Lib.hid hqb
  replace hqb2 := Lib.hid hqb2
  replace hcall := Lib.hid hcall
  go_enter Try.func53, Try.ntmps53
  have hb := Blk.new w1 64 #[.int .i64 4, .int .i64 i, .float .f64 f, .string s, .slice A' l.length c']
  have hsrc := Reads.lit (size := 1) (w1.alloc (.cells #[.int .i64 4, .int .i64 i, .float .f64 f, .string s, .slice A' l.length c'] 64)) #[.int .u8 4] 5 (0, 0) 1 [.int .u8 4] rfl rfl
  have hew : (w1.alloc (.cells #[.int .i64 4, .int .i64 i, .float .f64 f, .string s, .slice A' l.length c'] 64)).heap.size = w1.heap.size + 1 := by simp
  rw [hew] at hsrc
  replace hew := Lib.hid hew
  replace hb := Lib.hid hb
  go_wp2_with (at_builtin; go_must (refine wpList_append_mine rfl _ _ 26 26 rfl 5 i0 (.int .u8 0) 1 1 Try.underlying26 hi hz0 hz1 hz2 rfl rfl ((h.alloc _).alloc _) rfl (Src.ofReads Try.underlying26 _ hsrc (by intro u hu; simp at hu; subst hu; rfl)) ?b1 ?b2 ?grow))
  case b1 => unfold maxLen; omega
  case b2 => omega
  case grow =>
    intro A3 c3 w3 ho3 hg3 hat3
    rw [hqb.out, hql.out] at ho3
    rw [hql.out]
    have hb3 := (hb.out.alloc (.cells #[.int .u8 4] 5)).grown hg3 (fun e => absurd (h.lt e.symm) (Nat.lt_irrefl _))
    have hu3 : Upd (fun x => some x = bOf A) w1 w3 := (((Upd.refl _ w1).alloc _).alloc _).grown hg3 (fun k e _ => e.symm)
    have hf3 : bOf A3 = bOf A ∨ ∀ g, bOf A3 = some g → w1.heap.size < g := by
      rcases hat3 with e | e
      · exact .inl e
      · right; intro g hg; rw [e] at hg; simp at hg; omega
    clear hat3 hg3 hsrc
    have e0 := hb3.cell 0
    have e4 := hb3.cell 4
    have hsrc2 := Reads.lit (size := 1) w3 #[.int .u8 (x.toNat : Int)] 5 (0, 0) 1 [.int .u8 (x.toNat : Int)] rfl rfl
    go_wp2_with (at_builtin; go_must (refine wpList_append_mine rfl _ _ 26 26 rfl 5 i0 (.int .u8 0) 1 1 Try.underlying26 hi hz0 hz1 hz2 rfl rfl (ho3.alloc _) rfl (Src.ofReads Try.underlying26 _ hsrc2 (by intro u hu; simp at hu; subst hu; rfl)) ?b1 ?b2 ?grow))
    case b1 => unfold maxLen; omega
    case b2 => omega
    case grow =>
      intro A4 c4 w4 ho4 hg4 hat4
      rw [hqb2.out, hql2.out] at ho4
      rw [hql2.out]
      have hne3 : some w1.heap.size ≠ bOf A3 := by
        intro e
        rcases hf3 with e3 | e3
        · rw [e3] at e; exact absurd (h.lt e.symm) (Nat.lt_irrefl _)
        · exact absurd (e3 _ e.symm) (Nat.lt_irrefl _)
      have hb4 := (hb3.alloc (.cells #[.int .u8 (x.toNat : Int)] 5)).grown hg4 hne3
      have hA3 : ∀ g, bOf A3 = some g → g < w1.heap.size → some g = bOf A := by
        intro g hg hlt
        rcases hf3 with e | e
        · rw [← e]; exact hg.symm
        · have := e g hg; omega
      have hu4 : Upd (fun x => some x = bOf A) w1 w4 := (hu3.alloc _).grown hg4 (fun k e hk => hA3 k e hk)
      have hw13 := hu3.size
      have hf4 : bOf A4 = bOf A ∨ ∀ g, bOf A4 = some g → w1.heap.size < g := by
        rcases hat4 with e | e
        · rw [e]; exact hf3
        · right; intro g hg; rw [e] at hg; simp at hg; have := hb3.lt; omega
      clear hat4 hg4 hsrc2 hf3 hA3 hu3 hb3 ho3 e0 e4
      have e0 := hb4.cell 0
      have e4 := hb4.cell 4
      go_wp2_with fail
      go_loopw [0, 52] (fun acc i wr => ∃ (j : Nat) (A5 : Option Addr) (c5 : Nat) (q5 : List UInt8), j ≤ l.length ∧ i = .int .i64 (j : Int) ∧ acc = .slice A5 q5.length c5 ∧ q5 = q2 ++ encL (l.take j) ∧ Own wr 5 1 A5 q5.length c5 (bys q5) ∧ Upd (fun x => some x = bOf A) w1 wr ∧ (bOf A5 = bOf A ∨ ∀ g, bOf A5 = some g → w1.heap.size < g)) (fun _ i _ => l.length - (intOf i).toNat)
      case atStart => exact ⟨0, A4, c4, q2, Nat.zero_le _, rfl, rfl, by simp [encL], ho4, hu4, hf4⟩
      case round =>
        rename_i hrel
        obtain ⟨j, A5, c5, q5, hj, rfl, rfl, hq5, ho5, hu5, hf5⟩ := hrel
        replace hq5 := Lib.hid hq5
        by_cases hlt : j < l.length
        · have hbb : Below B w wr := hb1.trans (hu5.below hB1 (fun k hk e => absurd (hA k e.symm) (by omega)))
          obtain ⟨ad, k', i', f', s', A'', n'', c'', rfl, hform, hgk, g0, g1, g2, g3, g4⟩ := kid hr hx hxs hbb hlt
          have hsf := fun a k x m w => run_store_float (P := Try.prog) a k x m w
          have hq5l : q5.length = q2.length + sizeL (l.take j) := by rw [hq5.out, List.length_append, encL_len]
          have hss := sizeL_sum l j hlt
          have hsle := sizeL_take l (j + 1)
          have hwr := hu5.size
          have hfin3 := (Below.refl wr.heap.size wr).alloc (Nat.le_refl _) (.cells #[.int .i64 k', .int .i64 i', .float .f64 f', .string s', .slice A'' n'' c''] 64)
          have hA5 : ∀ g, bOf A5 = some g → B ≤ g := by
            intro g hg
            rcases hf5 with e | e
            · exact hA g (e ▸ hg)
            · have := e g hg; omega
          have hcl := hcall.out j l[j] hgk _ A5 c5 q5 (hbb.trans (hfin3.mono (Nat.le_trans hB1 hwr))) (Nat.le_trans (Nat.le_trans hB1 hwr) hfin3.size) (ho5.alloc _) hA5 (by omega)
          obtain ⟨q6, hq6⟩ : ∃ q6, q5 ++ encV l[j] = q6 := ⟨_, rfl⟩
          have hnext : q6 = q2 ++ encL (l.take (j + 1)) := by rw [← hq6, hq5.out, encL_next l j hlt, List.append_assoc]
          rw [hform, hq6] at hcl
          replace hnext := Lib.hid hnext
          replace hfin3 := Lib.hid hfin3
          clear hform hgk hss hsle hq6 hq5l hbb
          go_wp2_with fail
          refine hcl.mono ?_
          clear hcl
          rintro e w6 ⟨A6, c6, rfl, ho6, hu6, hf6⟩
          dsimp only
          have hu7 : Upd (fun x => some x = bOf A) w1 w6 := (hu5.alloc _).trans hu6 (fun k hk e => by
            rcases hf5 with e5 | e5
            · rw [← e5]; exact e
            · have := e5 k e.symm; omega)
          have hf7 : bOf A6 = bOf A ∨ ∀ g, bOf A6 = some g → w1.heap.size < g := by
            rcases hf6 with e | e
            · rw [e]; exact hf5
            · right; intro g hg; have := e g hg; simp at this; have := hb4.lt; omega
          clear hu6 hf6 hf5 ho5 hu5 hfin3 g0 g1 g2 g3 g4
          go_wp2_with fail
          go_roundw
          case rel => exact ⟨j + 1, A6, c6, q6, by omega, by simp, rfl, hnext.out, ho6, hu7, hf7⟩
          case measure => simp [intOf]; omega
        · have hj' : j = l.length := by omega
          subst hj'
          rw [List.take_length] at hq5
          go_wp2_with fail
          go_ret
          rw [← hq5.out]
          exact ⟨A5, c5, rfl, ho5, hu5, hf5.imp id (fun h g hg => Nat.le_of_lt (h g hg))⟩
theorem put_tree {w : World} {B : Nat} {v : Val} {cs : Array Value} (h : VReads w B v cs) : ∀ (d : Int), OkV v → strangeV v = false → greatV v d = false → PutItem w B v cs 53 := by
  induction h with
  | @mk k i f s l A c xs css hn hr hx hxs ih =>
    intro d hok hst hg w1 A1 c1 q hb1 hB1 ho hA hlen
    obtain ⟨hf, -, hkids⟩ := hok
    have hst2 : (decide (k < 0 ∨ 4 < k) || (k == 4 && strangeL l)) = false := hst
    simp only [Bool.or_eq_false_iff, decide_eq_false_iff_not] at hst2
    obtain ⟨hk, hsl⟩ := hst2
    unfold greatV at hg
    have hq : q.length ≤ 1000000000 := by omega
    by_cases h1 : k = 1
    · refine put_int h1 ho hq ?_
      unfold encV
      rw [if_pos h1]
    by_cases h2 : k = 2
    · refine put_float h2 ho hq (cb_lt hf) ?_
      unfold encV
      rw [if_neg h1, if_pos h2]
    by_cases h3 : k = 3
    · rw [if_pos h3] at hg
      have hs : ¬ 256 < s.length := by simpa using hg
      refine put_txt h3 ho hq (by omega) ?_
      unfold encV
      rw [if_neg h1, if_neg h2, if_pos h3]
    by_cases h4 : k = 4
    · rw [if_neg h3, if_pos h4] at hg
      simp only [Bool.or_eq_false_iff, decide_eq_false_iff_not] at hg
      obtain ⟨⟨h64, -⟩, hgl⟩ := hg
      rw [greatL_any] at hgl
      have hsl2 : l.any strangeV = false := by
        rw [h4] at hsl
        rw [← strangeL_any]
        simpa using hsl
      have he : encV (.mk k i f s l) = 4 :: UInt8.ofNat l.length :: encL l := by unfold encV; rw [if_neg h1, if_neg h2, if_neg h3, if_pos h4]
      have hz : sizeV (.mk k i f s l) = 2 + sizeL l := by unfold sizeV; rw [if_neg (by omega), if_neg h3, if_pos h4]
      rw [hz] at hlen
      rw [he]
      refine put_list h4 hr hx hxs hb1 hB1 ho hA (by omega) (by omega) (fun j v hv => ?_)
      have hm := List.mem_of_getElem? hv
      refine ih j v hv (d - 1) (hkids v hm) ?_ ?_
      · simpa using List.any_eq_false.1 hsl2 v hm
      · simpa using List.any_eq_false.1 hgl v hm
    · have h0 : k = 0 := by omega
      refine put_nil h0 ho hq ?_
      unfold encV
      rw [if_neg h1, if_neg h2, if_neg h3, if_neg h4]
end Go.Proofs.Ytlkokkbikkbaoaa
namespace Go.Proofs.Ytlkokkbikkbaoaa
set_option maxRecDepth 100000
open Go.RowKit
end Go.Proofs.Ytlkokkbikkbaoaa
namespace Go.Proofs.Ytlkokkbikkbaoaa
set_option maxRecDepth 100000
open Go.RowKit
end Go.Proofs.Ytlkokkbikkbaoaa
namespace Go.Proofs.Ytlkokkbikkbaoaa
set_option maxRecDepth 100000
open Go.RowKit
def PutOk (w : World) (r : List UInt8) (e : Ending) (w' : World) : Prop := ∃ A2 c2, e = .returned (.tuple #[.slice A2 r.length c2, .int .i64 0]) ∧ Own w' 5 1 A2 r.length c2 (bys r) ∧ Below w.heap.size w w' ∧ ∀ g, bOf A2 = some g → w.heap.size ≤ g
def PutNo (w : World) (x : Nat) (e : Ending) (w' : World) : Prop := e = .returned (.tuple #[.slice none 0 0, .int .i64 (x : Int)]) ∧ Below w.heap.size w w'
theorem wire_put_ok {w w1 : World} {B B' : Nat} {v : Val} {cs : Array Value} {A : Option Addr} {c : Nat} {bs : List UInt8} (h : VReads w B v cs) (hok : OkV v) (hc : checkV v = 0) (hb1 : Below B w w1) (hB1 : B ≤ w1.heap.size) (hA : Reads w1 B' 1 A bs.length (bys bs)) (hB' : B' ≤ w1.heap.size) (hl : bs.length ≤ 10000000) :
    Calls Try.prog 44 #[.slice A bs.length c, .agg cs] w1 (PutOk w1 (bs ++ encV v)) := by
  obtain ⟨hst, hg, hz⟩ : strangeV v = false ∧ greatV v 8 = false ∧ sizeV v ≤ 4096 := by
    rcases checkV_cases v with ⟨_, e⟩ | ⟨_, _, e⟩ | ⟨_, _, _, e⟩ | ⟨h1, h2, h3, _⟩
    · omega
    · omega
    · omega
    · exact ⟨h1, h2, h3⟩
  have hchk := fun w2 (hb : Below w1.heap.size w1 w2) => val_check_any h w2 (hb1.trans (hb.mono hB1)) (Nat.le_trans hB1 hb.size)
  rw [hc] at hchk
  have hput := fun w2 A1 c1 (hb : Below w1.heap.size w1 w2) (ho : Own w2 5 1 A1 bs.length c1 (bys bs)) (hg1 : ∀ g, bOf A1 = some g → w1.heap.size ≤ g) =>
    put_tree h 8 hok hst hg w2 A1 c1 bs (hb1.trans (hb.mono hB1)) (Nat.le_trans hB1 hb.size) ho (fun g e => Nat.le_trans hB1 (hg1 g e)) (by omega)
  obtain ⟨r, hr⟩ : ∃ r, bs ++ encV v = r := ⟨_, rfl⟩
  rw [hr] at hput ⊢
  obtain ⟨k, i, f, s, A', n, c', hform⟩ := h.form
  rw [hform] at hchk hput ⊢
  replace hchk := Lib.hid hchk
  replace hput := Lib.hid hput
  have hS := SV.alloc w1 (Below.refl _ _) k i f s A' n c'
  clear h hok hc hst hg hz hr hform hb1 hB1
  go_enter Try.func44, Try.ntmps44
  go_wp2_with fail
  have hr1 := hA.alloc hB' (.cells #[.int .i64 k, .int .i64 i, .float .f64 f, .string s, .slice A' n c'] 64)
  generalize w1.alloc (.cells #[.int .i64 k, .int .i64 i, .float .f64 f, .string s, .slice A' n c'] 64) = w0 at hS hr1 ⊢
  obtain ⟨b, hb⟩ : ∃ b, w1.heap.size = b := ⟨_, rfl⟩
  rw [hb] at hS hB' ⊢
  replace hb := Lib.hid hb
  refine (hchk.out w0 hS.2.2.2.2.2.1).mono ?_
  rintro e w2 ⟨rfl, hb2⟩
  dsimp only
  have hS2 := hS.below hb2
  have hb1s := hS.2.2.2.2.2.2
  have hr2 := hr1.below (hb2.mono (by omega))
  clear hS hr1
  have hS3 : w2.drew.cell? ⟨b, 0, none⟩ = some (.int .i64 k) ∧ w2.drew.cell? ⟨b, 1, none⟩ = some (.int .i64 i) ∧ w2.drew.cell? ⟨b, 2, none⟩ = some (.float .f64 f) ∧ w2.drew.cell? ⟨b, 3, none⟩ = some (.string s) ∧ w2.drew.cell? ⟨b, 4, none⟩ = some (.slice A' n c') ∧ Below w1.heap.size w1 w2.drew ∧ b < w2.drew.heap.size := hS2.drew
  clear hS2
  go_wp2_with fail
  refine wp_region_lex (fun W => W.cell? ⟨b, 0, none⟩ = some (.int .i64 k) ∧ W.cell? ⟨b, 1, none⟩ = some (.int .i64 i) ∧ W.cell? ⟨b, 2, none⟩ = some (.float .f64 f) ∧ W.cell? ⟨b, 3, none⟩ = some (.string s) ∧ W.cell? ⟨b, 4, none⟩ = some (.slice A' n c') ∧ Below w1.heap.size w1 W ∧ b < W.heap.size) [2] [1, 3] [0, 2, 1, 3, 4, 5] (by kernel_rfl) rfl (by kernel_rfl) (by kernel_rfl) (fun _ _ d _ _ h => by cases d <;> exact h) ?_
  repeat (first | (refine lexG_take _ ?_ rfl rfl rfl rfl (fun _ => ?_) ?_; rotate_left; (focus (go_simp; with_reducible rfl)); try simp only [Act.put, List.setIfInBounds_toArray, List.set_cons_zero, List.set_cons_succ]) | (refine lexG_held _ ?_ rfl rfl rfl rfl (by assumption) (fun _ hSw => ?_) ?_; rotate_left; (focus ((try dsimp only at hSw); go_simp; with_reducible rfl)); try simp only [Act.put, List.setIfInBounds_toArray, List.set_cons_zero, List.set_cons_succ]) | (refine lexG_skip _ rfl rfl (by assumption) ?_; try simp only [Act.put, List.setIfInBounds_toArray, List.set_cons_zero, List.set_cons_succ]))
  refine lexG_now _ rfl rfl rfl (fun K hK => ?_)
  go_wp2_with fail
  refine (clone_bytes (B := B') (hr2.drew) (by have := hS3.2.2.2.2.2.2; omega) (by omega)).mono ?_
  rintro e w3 ⟨A3, c3, rfl, ho3, hb3, hg3⟩
  dsimp only
  have hS4 : w3.cell? ⟨b, 0, none⟩ = some (.int .i64 k) ∧ w3.cell? ⟨b, 1, none⟩ = some (.int .i64 i) ∧ w3.cell? ⟨b, 2, none⟩ = some (.float .f64 f) ∧ w3.cell? ⟨b, 3, none⟩ = some (.string s) ∧ w3.cell? ⟨b, 4, none⟩ = some (.slice A' n c') ∧ Below w1.heap.size w1 w3 ∧ b < w3.heap.size := SV.below hS3 hb3
  refine hK _ _ _ (fun _ h => h) hS4 ?_
  have hbg : ∀ g, bOf A3 = some g → w1.heap.size ≤ g := fun g hg => by rw [hb.out]; exact Nat.le_trans (Nat.le_of_lt hS3.2.2.2.2.2.2) (hg3 g hg)
  clear hK K hS3 hr2 hb2
  try simp only [Act.put, List.setIfInBounds_toArray, List.set_cons_zero, List.set_cons_succ]
  repeat (first | (refine lexG_take _ ?_ rfl rfl rfl rfl (fun _ => ?_) ?_; rotate_left; (focus (go_simp; with_reducible rfl)); try simp only [Act.put, List.setIfInBounds_toArray, List.set_cons_zero, List.set_cons_succ]) | (refine lexG_held _ ?_ rfl rfl rfl rfl (by assumption) (fun _ hSw => ?_) ?_; rotate_left; (focus ((try dsimp only at hSw); go_simp; with_reducible rfl)); try simp only [Act.put, List.setIfInBounds_toArray, List.set_cons_zero, List.set_cons_succ]) | (refine lexG_skip _ rfl rfl (by assumption) ?_; try simp only [Act.put, List.setIfInBounds_toArray, List.set_cons_zero, List.set_cons_succ]))
  refine lexG_nowF _ rfl rfl rfl (by kernel_rfl) (fun K hK => ?_)
  go_wp2_with fail
  refine (hput.out w3 A3 c3 hS4.2.2.2.2.2.1 ho3 hbg).mono ?_
  rintro e w4 ⟨A4, c4, rfl, ho4, hu4, hg4⟩
  dsimp only
  refine hK _ _ ?_
  clear hK K
  try simp only [Act.put, List.setIfInBounds_toArray, List.set_cons_zero, List.set_cons_succ]
  repeat (first | (refine lexG_take _ ?_ rfl rfl rfl rfl (fun _ => ?_) ?_; rotate_left; (focus (go_simp; with_reducible rfl)); try simp only [Act.put, List.setIfInBounds_toArray, List.set_cons_zero, List.set_cons_succ]) | (refine lexG_held _ ?_ rfl rfl rfl rfl (by assumption) (fun _ hSw => ?_) ?_; rotate_left; (focus ((try dsimp only at hSw); go_simp; with_reducible rfl)); try simp only [Act.put, List.setIfInBounds_toArray, List.set_cons_zero, List.set_cons_succ]) | (refine lexG_skip _ rfl rfl (by assumption) ?_; try simp only [Act.put, List.setIfInBounds_toArray, List.set_cons_zero, List.set_cons_succ]))
  refine lexG_nil ?_
  go_wp2_with fail
  go_ret2
  refine ⟨A4, c4, rfl, ho4, ?_, ?_⟩
  · exact hS4.2.2.2.2.2.1.trans (hu4.below hS4.2.2.2.2.2.1.size (fun k hk e => absurd (hbg k e.symm) (by omega)))
  · rcases hg4 with e | e
    · rw [e]; exact hbg
    · intro g hg; exact Nat.le_trans hS4.2.2.2.2.2.1.size (e g hg)
theorem wire_put_no {w w1 : World} {B : Nat} {v : Val} {cs : Array Value} {A : Option Addr} {m c : Nat} (h : VReads w B v cs) (hc : checkV v ≠ 0) (hb1 : Below B w w1) (hB1 : B ≤ w1.heap.size) :
    Calls Try.prog 44 #[.slice A m c, .agg cs] w1 (PutNo w1 (checkV v)) := by
  have hchk := fun w2 (hb : Below w1.heap.size w1 w2) => val_check_any h w2 (hb1.trans (hb.mono hB1)) (Nat.le_trans hB1 hb.size)
  generalize checkV v = x at *
  have hne : ((x : Int) != 0) = true := by rw [bne_iff_ne]; omega
  obtain ⟨k, i, f, s, A', n, c', hform⟩ := h.form
  rw [hform] at hchk ⊢
  replace hchk := Lib.hid hchk
  have hS := SV.alloc w1 (Below.refl _ _) k i f s A' n c'
  clear h hc hform hb1 hB1
  go_enter Try.func44, Try.ntmps44
  go_wp2_with fail
  generalize w1.alloc (.cells #[.int .i64 k, .int .i64 i, .float .f64 f, .string s, .slice A' n c'] 64) = w0 at hS ⊢
  refine (hchk.out w0 hS.2.2.2.2.2.1).mono ?_
  rintro e w2 ⟨rfl, hb2⟩
  dsimp only
  have hb3 := below_then hb2 hS.2.2.2.2.2.1
  clear hS
  go_wp2_with fail
  go_ret2
  exact ⟨rfl, hb3⟩
end Go.Proofs.Ytlkokkbikkbaoaa
