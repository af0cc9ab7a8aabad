/- ValueLists: the walk. (Printed by gen_vls.py.) -/
import Derived.Test.YtdbmffagibnibaaGreatDoorOrdR
import Derived.Test.YtdbmffagibnibaaGreatDoorOrdT
import Derived.Test.YtdbmffagibnibaaGreatDoorVLp
import Derived.Test.YtdbmffagibnibaaGreatDoorValArg
import Derived.Test.YtdbmffagibnibaaGreatDoorAlt
import Derived.Deep.CutRange
set_option linter.unusedSimpArgs false
set_option linter.unusedVariables false
namespace Go.Proofs.YtdbmffagibnibaaGreatDoor
open Go.RowKit Go.Lib
set_option maxRecDepth 100000

theorem list_val (A : Option Addr) (n c : Nat) (w : World) : Calls Tryz.prog 16 #[.slice A n c] w (Says w (.agg #[.int .i64 4, .int .i64 0, .float .f64 0, .string ⟨#[]⟩, .slice A n c])) := by
  have hsf := fun a k x m w => run_store_float (P := Tryz.prog) a k x m w
  go_enter Tryz.func16, Tryz.ntmps16
  go_wp2_with fail
  have hb := Blk.new w 25 #[.int .i64 4, .int .i64 0, .float .f64 0, .string ⟨#[]⟩, .slice A n c]
  refine bodyPost_ret ?hr rfl ⟨rfl, (Below.refl _ w).alloc (Nat.le_refl _) _⟩
  case hr => exact results_cell_row rfl _ _ w.heap.size 25 _ (0, 0) _ rfl hb Tryz.underlying25 rfl (by kernel_rfl)
theorem VReads.upB {w : World} {B B' : Nat} {v : Val} {cs : Array Value} (h : VReads w B v cs) (hB : B ≤ B') : VReads w B' v cs := by
  induction h with
  | mk css hn hr hx hxs ih => exact .mk css hn (hr.more hB) (fun j v hv => ih j v hv) hxs
theorem slice_cap {H : Type} {enc : TypeId × Value → H} {W : World} {d : DataW H} {p : List MemPlace} {A : Option Addr} {n c : Nat} (h : DataW.Trod enc Tryz.prog W 0 (fun _ => true) true 23 (.slice A n c) d p) : n ≤ c := by
  obtain ⟨fuel, hf⟩ := h
  rcases DataW.trod_slice Tryz.underlying23 hf with ⟨h0, -⟩ | ⟨a, len1, cap1, elems, rest, n', hnn, h1, hy4, -, hlc, -, hlen, hel, -, -⟩
  · simp [Value.cells] at h0
    omega
  · simp [Value.cells] at h1
    obtain ⟨rfl, rfl, rfl⟩ := h1
    exact hlc
/- The plain law. -/
theorem ordL_append (a b c : List Val) : ordL (a ++ b) (a ++ c) = ordL b c := by
  induction a with
  | nil => rfl
  | cons v a ih => rw [List.cons_append, List.cons_append, ordL, if_pos (by have := swap_v v v; omega), ih]
theorem ordL_eq (a : List Val) : ordL a a = 0 := by have := swap_l a a; omega
def wantO (l : List Val) (k : Nat) (u : Val) : Int := match l[k]? with
  | some v => ordV v u
  | none => 0
theorem ordL_set (l : List Val) (k : Nat) (u : Val) : ordL l (l.set k u) = wantO l k u := by
  unfold wantO
  induction l generalizing k with
  | nil => rw [List.set_nil]; exact ordL_eq []
  | cons v l ih =>
    cases k with
    | zero =>
      rw [List.set_cons_zero, ordL, List.getElem?_cons_zero, ordL_eq]
      show _ = ordV v u
      by_cases h : ordV v u = 0
      · rw [if_pos h, h]
      · rw [if_neg h]
    | succ k => rw [List.set_cons_succ, ordL, if_pos (by have := swap_v v v; omega), List.getElem?_cons_succ]; exact ih k
theorem ordL_take (l : List Val) (k : Nat) (hk : k < l.length) : ordL (l.take k) l = -1 := by
  have h := ordL_append (l.take k) [] (l.drop k)
  rw [List.append_nil, List.take_append_drop] at h
  rw [h]
  cases hd : l.drop k with
  | nil => have := congrArg List.length hd; rw [List.length_drop] at this; simp at this; omega
  | cons v r => rw [ordL]
theorem ordV_list (a b : List Val) : ordV (.mk 4 0 0 [] a) (.mk 4 0 0 [] b) = ordL a b := by rw [ordV]; rfl
/- An element of an owned row, set. -/
theorem get3 (a b c : List Value) (i : Nat) : (a ++ b ++ c)[i]? = if i < a.length then a[i]? else if i < a.length + b.length then b[i - a.length]? else c[i - a.length - b.length]? := by
  by_cases h1 : i < a.length
  · rw [if_pos h1, List.append_assoc, List.getElem?_append_left h1]
  · rw [if_neg h1]
    by_cases h2 : i < a.length + b.length
    · rw [if_pos h2, List.getElem?_append_left (by rw [List.length_append]; exact h2), List.getElem?_append_right (by omega)]
    · rw [if_neg h2, List.getElem?_append_right (by rw [List.length_append]; omega), List.length_append, Nat.sub_add_eq]
theorem Own.setElem {w : World} {t : TypeId} {g n c k : Nat} {xs news : List Value} (h : Own w t 5 (some ⟨g, 0, none⟩) n c xs) (hk : k < n) (hn : news.length = 5) :
    Own (w.setCells g (k * 5) news) t 5 (some ⟨g, 0, none⟩) n c (xs.take (k * 5) ++ news ++ xs.drop (k * 5 + 5)) ∧ w.there g (k * 5) 5 ∧ Upd (fun x => x = g) w (w.setCells g (k * 5) news) := by
  have hxl := h.1
  rcases h.2 with ⟨h0, -⟩ | ⟨g', cur, hg, hb, h1, h2, h3, h4⟩
  · cases h0
  obtain rfl : g = g' := by simpa using hg
  have hfit : k * 5 + news.length ≤ cur.size := by rw [hn]; omega
  obtain ⟨cur', q1, q2, q3⟩ := setCells_eq_setRow g (k * 5) t news cur w hb hfit
  obtain ⟨s1, s2, s3, s4⟩ := setCells_same g (k * 5) news w
  refine ⟨⟨by simp [hxl, hn]; omega, .inr ⟨g, cur', rfl, q1, h1, h2, by rw [q2]; exact h3, ?_⟩⟩, fun i hi => ⟨?_, hb.frozen _⟩, ⟨s1, s2, s3, by omega, fun x hx hne => setCells_other g _ x hne _ w⟩⟩
  · rw [q3, ← h4, hn]
    have hcl : cur.toList.length = cur.size := Array.length_toList
    apply List.ext_getElem?
    intro i
    have la : (cur.toList.take (k * 5)).length = k * 5 := by rw [List.length_take, hcl]; omega
    have lb : ((cur.toList.take (n * 5)).take (k * 5)).length = k * 5 := by rw [List.length_take, List.length_take, hcl]; omega
    by_cases hi : i < n * 5
    · rw [List.getElem?_take, if_pos hi, get3, get3, la, lb, hn]
      by_cases h6 : i < k * 5
      · rw [if_pos h6, if_pos h6, List.getElem?_take, List.getElem?_take, List.getElem?_take, if_pos h6, if_pos h6, if_pos hi]
      · rw [if_neg h6, if_neg h6]
        by_cases h7 : i < k * 5 + 5
        · rw [if_pos h7, if_pos h7]
        · rw [if_neg h7, if_neg h7, List.getElem?_drop, List.getElem?_drop, List.getElem?_take, if_pos (by omega)]
    · rw [List.getElem?_take, if_neg hi, get3, lb, hn, if_neg (by omega), if_neg (by omega), List.getElem?_drop, List.getElem?_take, if_neg (by omega)]
  · rw [hb.cell, Array.getElem?_eq_getElem (by omega)]
    rfl
theorem below_updg {B g : Nat} {w0 w w' : World} (h : Below B w0 w) (hu : Upd (fun x => x = g) w w') (hg : B ≤ g) (hB : B ≤ w.heap.size) : Below B w0 w' := ⟨hu.os.trans h.os, hu.tape.trans h.tape, hu.output.trans h.output, Nat.le_trans h.size hu.size, fun k hk => (hu.block k (by omega) (by omega)).trans (h.block k hk)⟩
theorem elem_set {xs news : List Value} {n k j : Nat} (hx : xs.length = n * 5) (hn : news.length = 5) (hk : k < n) (hj : j < n) : ((xs.take (k * 5) ++ news ++ xs.drop (k * 5 + 5)).drop (j * 5)).take 5 = if j = k then news else (xs.drop (j * 5)).take 5 := by
  by_cases hjk : j = k
  · subst hjk
    rw [if_pos rfl, List.append_assoc, List.drop_append_of_le_length (by simp; omega), List.drop_eq_nil_of_le (by simp; omega), List.nil_append, List.take_append_of_le_length (by omega), List.take_of_length_le (by omega)]
  · rw [if_neg hjk]
    apply List.ext_getElem?
    intro i
    rw [List.getElem?_take, List.getElem?_take]
    by_cases hi : i < 5
    · rw [if_pos hi, if_pos hi, List.getElem?_drop, List.getElem?_drop]
      by_cases h1 : j < k
      · rw [List.getElem?_append_left (by simp [hn]; omega), List.getElem?_append_left (by simp; omega), List.getElem?_take, if_pos (by omega)]
      · rw [List.getElem?_append_right (by simp [hn]; omega), List.getElem?_drop]
        simp only [List.length_append, List.length_take, hn]
        congr 1
        omega
    · rw [if_neg hi, if_neg hi]

set_option maxHeartbeats 25600000 in
theorem valueLists_walk {A0 : Option Addr} {c0 : Nat} {l : List Val} {xs : List Value} {css : Nat → Array Value} (x1 : Int) (u : Val) (cu : Array Value) (w : World) (hkn : ∀ W, Below w.heap.size w W → Calls Tryz.prog 9 #[] W (Says W (.bool true)))
    (hr : Reads w w.heap.size 5 A0 l.length xs) (vr : ∀ (j : Nat) (v : Val), l[j]? = some v → VReads w w.heap.size v (css j)) (hx : ∀ j, j < l.length → (xs.drop (j * 5)).take 5 = (css j).toList) (ok : ∀ v, v ∈ l → OkV v) (hl : l.length ≤ 140737488351232) (hlc : l.length ≤ c0)
    (hu : VReads w w.heap.size u cu) (ou : OkV u) (n0 : 0 ≤ x1) (n1 : x1 ≤ 255) :
    Calls Tryz.prog 6 #[.slice A0 l.length c0, .int .u8 x1, .agg cu] w (Says w (.bool true)) := by
  have hsf := fun a k x m w => run_store_float (P := Tryz.prog) a k x m w
  obtain ⟨j0, gi, gz0, gz1, gz2⟩ := info_parts info_val
  obtain ⟨k1, i1, f1, s1, A1, n1', c1, hcu⟩ := hu.form
  obtain ⟨n1, hn1'⟩ : ∃ n, n1' = n := ⟨_, rfl⟩
  rw [hn1'] at hcu
  clear hn1'
  have hls := fun W (hW : Below w.heap.size w W) => lights_any (c := c0) hr hx vr hW hW.size hl
  have hlu := fun W (hW : Below w.heap.size w W) => light_any hu W hW hW.size
  rw [hcu] at hlu
  subst hcu
  have b1 := Blk.new w 25 #[.int .i64 k1, .int .i64 i1, .float .f64 f1, .string s1, .slice A1 n1 c1]
  have e1 := (Below.refl w.heap.size w).alloc (Nat.le_refl _) (.cells #[.int .i64 k1, .int .i64 i1, .float .f64 f1, .string s1, .slice A1 n1 c1] 25)
  obtain ⟨N, hN⟩ : ∃ N, w.heap.size = N := ⟨_, rfl⟩
  rw [hN] at b1
  have hk1 := hkn _ e1
  replace hN := Lib.hid hN
  replace hk1 := Lib.hid hk1
  replace hls := Lib.hid hls
  replace hlu := Lib.hid hlu
  go_enter Tryz.func6, Tryz.ntmps6
  go_upto_region 1 with (fail)
  try rw [hN.out]
  generalize w.alloc (.cells #[.int .i64 k1, .int .i64 i1, .float .f64 f1, .string s1, .slice A1 n1 c1] 25) = w1 at *
  go_wp2_with fail
  refine hk1.out.mono ?_
  clear hk1
  rintro e w2 ⟨rfl, hb2⟩
  dsimp only
  have q1 := b1.below hb2 b1.lt
  have l2 := below_then hb2 e1
  clear b1 hb2 e1
  go_wp2_with fail
  refine (hls.out _ l2).mono ?_
  clear hls
  rintro e w3 ⟨lq, rfl, hl40, hb3⟩
  dsimp only
  have q1 := q1.below hb3 q1.lt
  have l3 := below_then hb3 l2
  clear hb3 l2
  cases lq
  · go_wp2_with fail
    go_ret
    exact ⟨rfl, l3⟩
  have hl40 := hl40 rfl
  have m0 := q1.cell 0
  have m1 := q1.cell 1
  have m2 := q1.cell 2
  have m3 := q1.cell 3
  have m4 := q1.cell 4
  go_wp2_with fail
  refine (hlu.out _ l3).mono ?_
  clear hlu m0 m1 m2 m3 m4
  rintro e w4 ⟨lq, rfl, hb4⟩
  dsimp only
  have q1 := q1.below hb4 q1.lt
  have l4 := below_then hb4 l3
  clear hb4 l3
  cases lq
  · go_wp2_with fail
    go_ret
    exact ⟨rfl, l4⟩
  have hnw : IntKind.i64.wrap x1 = x1 := by rw [IntKind.wrap_i64]; omega
  go_upto_if 25 with (fail)
  go_cut [7] from 23 to 30 (fun x7 wx => ∃ k : Nat, x7 = .int .i64 (k : Int) ∧ (k < l.length ∨ k = 0 ∧ l.length = 0) ∧ wx = w4)
  case first =>
    rcases Nat.eq_zero_or_pos l.length with h0 | h0
    · have d0 : decide ((0 : Int) < (l.length : Int)) = false := decide_eq_false (by omega)
      go_wp2_with fail
      go_meet
      exact ⟨0, rfl, .inr ⟨rfl, h0⟩, rfl⟩
    · have d0 : decide ((0 : Int) < (l.length : Int)) = true := decide_eq_true (by omega)
      obtain ⟨j, hj, hjn⟩ : ∃ j : Nat, x1 % (l.length : Int) = (j : Int) ∧ j < l.length := by
        have h1 := Int.emod_nonneg x1 (show (l.length : Int) ≠ 0 by omega)
        have h2 := Int.emod_lt_of_pos x1 (show (0 : Int) < (l.length : Int) by omega)
        exact ⟨(x1 % (l.length : Int)).toNat, by omega, by omega⟩
      have htj : x1.tmod (l.length : Int) = (j : Int) := by rw [Int.tmod_eq_emod_of_nonneg n0]; exact hj
      have hn0' : ((l.length : Int) == 0) = false := by rw [beq_eq_false_iff_ne]; omega
      have hn0'' : ¬ (l.length : Int) = 0 := by omega
      clear hj
      go_wp2_with fail
      go_meet
      exact ⟨j, rfl, .inl hjn, rfl⟩
  case rest =>
  obtain ⟨k, rfl, hkl, hwc⟩ := hcut
  generalize wc = w4' at *
  subst hwc
  clear hnw
  have hkl2 : k ≤ l.length := by omega
  have hkc : k ≤ c0 := Nat.le_trans hkl2 hlc
  have hkc40 : k ≤ 40 := by omega
  go_upto_region 8 with (fail)
  go_cut [8, 9] from 31 to 36 (fun x8 x9 wx => ∃ p1 p2 : Nat, x8 = .pointer (some ⟨p1, 0, none⟩) ∧ x9 = .pointer (some ⟨p2, 0, none⟩) ∧ Blk wx p1 25 #[.int .i64 4, .int .i64 0, .float .f64 0, .string ⟨#[]⟩, .slice A0 l.length c0] ∧ Blk wx p2 25 #[.int .i64 4, .int .i64 0, .float .f64 0, .string ⟨#[]⟩, .slice A0 k c0] ∧ Below w4'.heap.size w4' wx)
  case first =>
    refine wp_region_alts (fun _ => True) [] [1, 5, 6, 7, 8, 9] (.one 0 (.one 2 (.one 3 (.one 4 (.alt 1 (.alt 5 (.alt 6 (.one 7 (.one 8 (.one 9 .nil))) (.one 7 (.one 6 (.one 8 (.one 9 .nil))))) (.alt 6 (.alt 5 (.one 7 (.one 8 (.one 9 .nil))) (.one 7 (.one 5 (.one 8 (.one 9 .nil))))) (.one 7 (.alt 5 (.one 6 (.one 8 (.one 9 .nil))) (.one 6 (.one 5 (.one 8 (.one 9 .nil)))))))) (.alt 6 (.alt 1 (.alt 5 (.one 7 (.one 8 (.one 9 .nil))) (.one 7 (.one 5 (.one 8 (.one 9 .nil))))) (.one 7 (.one 1 (.one 5 (.one 8 (.one 9 .nil)))))) (.one 7 (.alt 1 (.alt 5 (.one 6 (.one 8 (.one 9 .nil))) (.one 6 (.one 5 (.one 8 (.one 9 .nil))))) (.one 6 (.one 1 (.one 5 (.one 8 (.one 9 .nil))))))))))))) (by kernel_rfl) rfl rfl (by kernel_rfl) (by kernel_rfl) (fun _ _ d _ _ h => by cases d <;> exact h) ?_
    have hb0 : Below w4'.heap.size w4' w4'.drew := (Below.refl _ _).drew
    generalize w4'.drew = v0 at *
    repeat (first | (refine altG_take _ ?_ rfl rfl rfl rfl (fun _ => ?_) ?_; rotate_left; (focus (go_simp; with_reducible rfl)); try simp only [Act.put, List.setIfInBounds_toArray, List.set_cons_zero, List.set_cons_succ]) | (refine altG_skip _ rfl rfl (by assumption) ?_; try simp only [Act.put, List.setIfInBounds_toArray, List.set_cons_zero, List.set_cons_succ]))
    refine altG_alt rfl ?_ ?_
    · skip
      refine altG_now _ rfl rfl rfl (fun K0 hK => ?_)
      go_wp2_with fail
      refine (list_val A0 l.length c0 v0).mono ?_
      rintro e1 v1 ⟨rfl, hbN⟩
      dsimp only
      have hb1 := below_then hbN hb0
      clear hbN
      refine hK _ _ _ (fun _ h => h) trivial ?_
      clear hK K0
      try simp only [Act.put, List.setIfInBounds_toArray, List.set_cons_zero, List.set_cons_succ]
      refine altG_alt rfl ?_ ?_
      · skip
        refine altG_now _ rfl rfl rfl (fun K0 hK => ?_)
        go_wp2_with fail
        refine (list_val A0 k c0 v1).mono ?_
        rintro e5 v2 ⟨rfl, hbN⟩
        dsimp only
        have hb2 := below_then hbN hb1
        clear hbN
        refine hK _ _ _ (fun _ h => h) trivial ?_
        clear hK K0
        try simp only [Act.put, List.setIfInBounds_toArray, List.set_cons_zero, List.set_cons_succ]
        refine altG_alt rfl ?_ ?_
        · skip
          refine altG_now _ rfl rfl rfl (fun K0 hK => ?_)
          go_wp2_with fail
          have z6 := Blk.new v2 25 #[.int .i64 0, .int .i64 0, .float .f64 0, .string ⟨#[]⟩, .slice none 0 0]
          have hbN := (Below.refl v2.heap.size v2).alloc (Nat.le_refl _) (.cells #[.int .i64 0, .int .i64 0, .float .f64 0, .string ⟨#[]⟩, .slice none 0 0] 25)
          have hb3 := below_then hbN hb2
          have l6 := hb2.size
          obtain ⟨y6, ey⟩ : ∃ y, v2.heap.size = y := ⟨_, rfl⟩
          rw [ey] at z6 l6
          try rw [ey] at hne
          try rw [ey]
          generalize v2.alloc (.cells #[.int .i64 0, .int .i64 0, .float .f64 0, .string ⟨#[]⟩, .slice none 0 0] 25) = v3 at *
          clear hbN ey
          have m6 := z6.lt
          refine hK _ _ _ (fun _ h => h) trivial ?_
          clear hK K0
          try simp only [Act.put, List.setIfInBounds_toArray, List.set_cons_zero, List.set_cons_succ]
          refine altG_now _ rfl rfl rfl (fun K0 hK => ?_)
          go_wp2_with fail
          have z7 := Blk.new v3 25 #[.int .i64 0, .int .i64 0, .float .f64 0, .string ⟨#[]⟩, .slice none 0 0]
          have hbN := (Below.refl v3.heap.size v3).alloc (Nat.le_refl _) (.cells #[.int .i64 0, .int .i64 0, .float .f64 0, .string ⟨#[]⟩, .slice none 0 0] 25)
          have hb4 := below_then hbN hb3
          have l7 := hb3.size
          replace z6 := z6.below hbN z6.lt
          have hne : y6 < v3.heap.size := by have := z6; first | exact m6 | omega
          obtain ⟨y7, ey⟩ : ∃ y, v3.heap.size = y := ⟨_, rfl⟩
          rw [ey] at z7 l7
          try rw [ey] at hne
          try rw [ey]
          generalize v3.alloc (.cells #[.int .i64 0, .int .i64 0, .float .f64 0, .string ⟨#[]⟩, .slice none 0 0] 25) = v4 at *
          clear hbN ey
          have m6 := z6.lt
          have m7 := z7.lt
          refine hK _ _ _ (fun _ h => h) trivial ?_
          clear hK K0
          try simp only [Act.put, List.setIfInBounds_toArray, List.set_cons_zero, List.set_cons_succ]
          have hyy : y6 ≠ y7 := by omega
          refine altG_now _ rfl rfl rfl (fun K0 hK => ?_)
          refine wp_store_row 25 (Operand.tmp 8) (Operand.tmp 32) rfl y6 #[.int .i64 4, .int .i64 0, .float .f64 0, .string ⟨#[]⟩, .slice A0 l.length c0] (by simp [go_sem]) (by simp [go_sem]) 25 _ z6 (by kernel_rfl) rfl (by simp [Value.oneCell']) ?_
          refine hK _ _ _ (fun _ h => h) trivial ?_
          clear hK K0
          have p6 := z6.row #[.int .i64 4, .int .i64 0, .float .f64 0, .string ⟨#[]⟩, .slice A0 l.length c0]
          have p7 := z7.farRow (g := y6) (fun e => hyy e.symm) #[.int .i64 4, .int .i64 0, .float .f64 0, .string ⟨#[]⟩, .slice A0 l.length c0]
          have hbS := below_row hb4 (g := y6) (by omega) #[.int .i64 4, .int .i64 0, .float .f64 0, .string ⟨#[]⟩, .slice A0 l.length c0]
          generalize v4.setRow y6 #[.int .i64 4, .int .i64 0, .float .f64 0, .string ⟨#[]⟩, .slice A0 l.length c0] = u1 at *
          try simp only [Act.put, List.setIfInBounds_toArray, List.set_cons_zero, List.set_cons_succ]
          refine altG_now _ rfl rfl rfl (fun K0 hK => ?_)
          refine wp_store_row 25 (Operand.tmp 9) (Operand.tmp 36) rfl y7 #[.int .i64 4, .int .i64 0, .float .f64 0, .string ⟨#[]⟩, .slice A0 k c0] (by simp [go_sem]) (by simp [go_sem]) 25 _ p7 (by kernel_rfl) rfl (by simp [Value.oneCell']) ?_
          refine hK _ _ _ (fun _ h => h) trivial ?_
          clear hK K0
          have r7 := p7.row #[.int .i64 4, .int .i64 0, .float .f64 0, .string ⟨#[]⟩, .slice A0 k c0]
          have r6 := p6.farRow (g := y7) hyy #[.int .i64 4, .int .i64 0, .float .f64 0, .string ⟨#[]⟩, .slice A0 k c0]
          have hbE := below_row hbS (g := y7) (by omega) #[.int .i64 4, .int .i64 0, .float .f64 0, .string ⟨#[]⟩, .slice A0 k c0]
          generalize u1.setRow y7 #[.int .i64 4, .int .i64 0, .float .f64 0, .string ⟨#[]⟩, .slice A0 k c0] = u2 at *
          try simp only [Act.put, List.setIfInBounds_toArray, List.set_cons_zero, List.set_cons_succ]
          refine altG_nil ?_
          go_wp2_with fail
          go_meet
          exact ⟨y6, y7, rfl, rfl, r6, r7, hbE⟩
        refine altG_now _ rfl rfl rfl (fun K0 hK => ?_)
        go_wp2_with fail
        have z7 := Blk.new v2 25 #[.int .i64 0, .int .i64 0, .float .f64 0, .string ⟨#[]⟩, .slice none 0 0]
        have hbN := (Below.refl v2.heap.size v2).alloc (Nat.le_refl _) (.cells #[.int .i64 0, .int .i64 0, .float .f64 0, .string ⟨#[]⟩, .slice none 0 0] 25)
        have hb3 := below_then hbN hb2
        have l7 := hb2.size
        obtain ⟨y7, ey⟩ : ∃ y, v2.heap.size = y := ⟨_, rfl⟩
        rw [ey] at z7 l7
        try rw [ey] at hne
        try rw [ey]
        generalize v2.alloc (.cells #[.int .i64 0, .int .i64 0, .float .f64 0, .string ⟨#[]⟩, .slice none 0 0] 25) = v3 at *
        clear hbN ey
        have m7 := z7.lt
        refine hK _ _ _ (fun _ h => h) trivial ?_
        clear hK K0
        try simp only [Act.put, List.setIfInBounds_toArray, List.set_cons_zero, List.set_cons_succ]
        refine altG_now _ rfl rfl rfl (fun K0 hK => ?_)
        go_wp2_with fail
        have z6 := Blk.new v3 25 #[.int .i64 0, .int .i64 0, .float .f64 0, .string ⟨#[]⟩, .slice none 0 0]
        have hbN := (Below.refl v3.heap.size v3).alloc (Nat.le_refl _) (.cells #[.int .i64 0, .int .i64 0, .float .f64 0, .string ⟨#[]⟩, .slice none 0 0] 25)
        have hb4 := below_then hbN hb3
        have l6 := hb3.size
        replace z7 := z7.below hbN z7.lt
        have hne : y7 < v3.heap.size := by have := z7; first | exact m7 | omega
        obtain ⟨y6, ey⟩ : ∃ y, v3.heap.size = y := ⟨_, rfl⟩
        rw [ey] at z6 l6
        try rw [ey] at hne
        try rw [ey]
        generalize v3.alloc (.cells #[.int .i64 0, .int .i64 0, .float .f64 0, .string ⟨#[]⟩, .slice none 0 0] 25) = v4 at *
        clear hbN ey
        have m6 := z6.lt
        have m7 := z7.lt
        refine hK _ _ _ (fun _ h => h) trivial ?_
        clear hK K0
        try simp only [Act.put, List.setIfInBounds_toArray, List.set_cons_zero, List.set_cons_succ]
        have hyy : y6 ≠ y7 := by omega
        refine altG_now _ rfl rfl rfl (fun K0 hK => ?_)
        refine wp_store_row 25 (Operand.tmp 8) (Operand.tmp 32) rfl y6 #[.int .i64 4, .int .i64 0, .float .f64 0, .string ⟨#[]⟩, .slice A0 l.length c0] (by simp [go_sem]) (by simp [go_sem]) 25 _ z6 (by kernel_rfl) rfl (by simp [Value.oneCell']) ?_
        refine hK _ _ _ (fun _ h => h) trivial ?_
        clear hK K0
        have p6 := z6.row #[.int .i64 4, .int .i64 0, .float .f64 0, .string ⟨#[]⟩, .slice A0 l.length c0]
        have p7 := z7.farRow (g := y6) (fun e => hyy e.symm) #[.int .i64 4, .int .i64 0, .float .f64 0, .string ⟨#[]⟩, .slice A0 l.length c0]
        have hbS := below_row hb4 (g := y6) (by omega) #[.int .i64 4, .int .i64 0, .float .f64 0, .string ⟨#[]⟩, .slice A0 l.length c0]
        generalize v4.setRow y6 #[.int .i64 4, .int .i64 0, .float .f64 0, .string ⟨#[]⟩, .slice A0 l.length c0] = u1 at *
        try simp only [Act.put, List.setIfInBounds_toArray, List.set_cons_zero, List.set_cons_succ]
        refine altG_now _ rfl rfl rfl (fun K0 hK => ?_)
        refine wp_store_row 25 (Operand.tmp 9) (Operand.tmp 36) rfl y7 #[.int .i64 4, .int .i64 0, .float .f64 0, .string ⟨#[]⟩, .slice A0 k c0] (by simp [go_sem]) (by simp [go_sem]) 25 _ p7 (by kernel_rfl) rfl (by simp [Value.oneCell']) ?_
        refine hK _ _ _ (fun _ h => h) trivial ?_
        clear hK K0
        have r7 := p7.row #[.int .i64 4, .int .i64 0, .float .f64 0, .string ⟨#[]⟩, .slice A0 k c0]
        have r6 := p6.farRow (g := y7) hyy #[.int .i64 4, .int .i64 0, .float .f64 0, .string ⟨#[]⟩, .slice A0 k c0]
        have hbE := below_row hbS (g := y7) (by omega) #[.int .i64 4, .int .i64 0, .float .f64 0, .string ⟨#[]⟩, .slice A0 k c0]
        generalize u1.setRow y7 #[.int .i64 4, .int .i64 0, .float .f64 0, .string ⟨#[]⟩, .slice A0 k c0] = u2 at *
        try simp only [Act.put, List.setIfInBounds_toArray, List.set_cons_zero, List.set_cons_succ]
        refine altG_nil ?_
        go_wp2_with fail
        go_meet
        exact ⟨y6, y7, rfl, rfl, r6, r7, hbE⟩
      refine altG_alt rfl ?_ ?_
      · skip
        refine altG_now _ rfl rfl rfl (fun K0 hK => ?_)
        go_wp2_with fail
        have z6 := Blk.new v1 25 #[.int .i64 0, .int .i64 0, .float .f64 0, .string ⟨#[]⟩, .slice none 0 0]
        have hbN := (Below.refl v1.heap.size v1).alloc (Nat.le_refl _) (.cells #[.int .i64 0, .int .i64 0, .float .f64 0, .string ⟨#[]⟩, .slice none 0 0] 25)
        have hb2 := below_then hbN hb1
        have l6 := hb1.size
        obtain ⟨y6, ey⟩ : ∃ y, v1.heap.size = y := ⟨_, rfl⟩
        rw [ey] at z6 l6
        try rw [ey] at hne
        try rw [ey]
        generalize v1.alloc (.cells #[.int .i64 0, .int .i64 0, .float .f64 0, .string ⟨#[]⟩, .slice none 0 0] 25) = v2 at *
        clear hbN ey
        have m6 := z6.lt
        refine hK _ _ _ (fun _ h => h) trivial ?_
        clear hK K0
        try simp only [Act.put, List.setIfInBounds_toArray, List.set_cons_zero, List.set_cons_succ]
        refine altG_alt rfl ?_ ?_
        · skip
          refine altG_now _ rfl rfl rfl (fun K0 hK => ?_)
          go_wp2_with fail
          refine (list_val A0 k c0 v2).mono ?_
          rintro e5 v3 ⟨rfl, hbN⟩
          dsimp only
          have hb3 := below_then hbN hb2
          replace z6 := z6.below hbN z6.lt
          clear hbN
          have m6 := z6.lt
          refine hK _ _ _ (fun _ h => h) trivial ?_
          clear hK K0
          try simp only [Act.put, List.setIfInBounds_toArray, List.set_cons_zero, List.set_cons_succ]
          refine altG_now _ rfl rfl rfl (fun K0 hK => ?_)
          go_wp2_with fail
          have z7 := Blk.new v3 25 #[.int .i64 0, .int .i64 0, .float .f64 0, .string ⟨#[]⟩, .slice none 0 0]
          have hbN := (Below.refl v3.heap.size v3).alloc (Nat.le_refl _) (.cells #[.int .i64 0, .int .i64 0, .float .f64 0, .string ⟨#[]⟩, .slice none 0 0] 25)
          have hb4 := below_then hbN hb3
          have l7 := hb3.size
          replace z6 := z6.below hbN z6.lt
          have hne : y6 < v3.heap.size := by have := z6; first | exact m6 | omega
          obtain ⟨y7, ey⟩ : ∃ y, v3.heap.size = y := ⟨_, rfl⟩
          rw [ey] at z7 l7
          try rw [ey] at hne
          try rw [ey]
          generalize v3.alloc (.cells #[.int .i64 0, .int .i64 0, .float .f64 0, .string ⟨#[]⟩, .slice none 0 0] 25) = v4 at *
          clear hbN ey
          have m6 := z6.lt
          have m7 := z7.lt
          refine hK _ _ _ (fun _ h => h) trivial ?_
          clear hK K0
          try simp only [Act.put, List.setIfInBounds_toArray, List.set_cons_zero, List.set_cons_succ]
          have hyy : y6 ≠ y7 := by omega
          refine altG_now _ rfl rfl rfl (fun K0 hK => ?_)
          refine wp_store_row 25 (Operand.tmp 8) (Operand.tmp 32) rfl y6 #[.int .i64 4, .int .i64 0, .float .f64 0, .string ⟨#[]⟩, .slice A0 l.length c0] (by simp [go_sem]) (by simp [go_sem]) 25 _ z6 (by kernel_rfl) rfl (by simp [Value.oneCell']) ?_
          refine hK _ _ _ (fun _ h => h) trivial ?_
          clear hK K0
          have p6 := z6.row #[.int .i64 4, .int .i64 0, .float .f64 0, .string ⟨#[]⟩, .slice A0 l.length c0]
          have p7 := z7.farRow (g := y6) (fun e => hyy e.symm) #[.int .i64 4, .int .i64 0, .float .f64 0, .string ⟨#[]⟩, .slice A0 l.length c0]
          have hbS := below_row hb4 (g := y6) (by omega) #[.int .i64 4, .int .i64 0, .float .f64 0, .string ⟨#[]⟩, .slice A0 l.length c0]
          generalize v4.setRow y6 #[.int .i64 4, .int .i64 0, .float .f64 0, .string ⟨#[]⟩, .slice A0 l.length c0] = u1 at *
          try simp only [Act.put, List.setIfInBounds_toArray, List.set_cons_zero, List.set_cons_succ]
          refine altG_now _ rfl rfl rfl (fun K0 hK => ?_)
          refine wp_store_row 25 (Operand.tmp 9) (Operand.tmp 36) rfl y7 #[.int .i64 4, .int .i64 0, .float .f64 0, .string ⟨#[]⟩, .slice A0 k c0] (by simp [go_sem]) (by simp [go_sem]) 25 _ p7 (by kernel_rfl) rfl (by simp [Value.oneCell']) ?_
          refine hK _ _ _ (fun _ h => h) trivial ?_
          clear hK K0
          have r7 := p7.row #[.int .i64 4, .int .i64 0, .float .f64 0, .string ⟨#[]⟩, .slice A0 k c0]
          have r6 := p6.farRow (g := y7) hyy #[.int .i64 4, .int .i64 0, .float .f64 0, .string ⟨#[]⟩, .slice A0 k c0]
          have hbE := below_row hbS (g := y7) (by omega) #[.int .i64 4, .int .i64 0, .float .f64 0, .string ⟨#[]⟩, .slice A0 k c0]
          generalize u1.setRow y7 #[.int .i64 4, .int .i64 0, .float .f64 0, .string ⟨#[]⟩, .slice A0 k c0] = u2 at *
          try simp only [Act.put, List.setIfInBounds_toArray, List.set_cons_zero, List.set_cons_succ]
          refine altG_nil ?_
          go_wp2_with fail
          go_meet
          exact ⟨y6, y7, rfl, rfl, r6, r7, hbE⟩
        refine altG_now _ rfl rfl rfl (fun K0 hK => ?_)
        go_wp2_with fail
        have z7 := Blk.new v2 25 #[.int .i64 0, .int .i64 0, .float .f64 0, .string ⟨#[]⟩, .slice none 0 0]
        have hbN := (Below.refl v2.heap.size v2).alloc (Nat.le_refl _) (.cells #[.int .i64 0, .int .i64 0, .float .f64 0, .string ⟨#[]⟩, .slice none 0 0] 25)
        have hb3 := below_then hbN hb2
        have l7 := hb2.size
        replace z6 := z6.below hbN z6.lt
        have hne : y6 < v2.heap.size := by have := z6; first | exact m6 | omega
        obtain ⟨y7, ey⟩ : ∃ y, v2.heap.size = y := ⟨_, rfl⟩
        rw [ey] at z7 l7
        try rw [ey] at hne
        try rw [ey]
        generalize v2.alloc (.cells #[.int .i64 0, .int .i64 0, .float .f64 0, .string ⟨#[]⟩, .slice none 0 0] 25) = v3 at *
        clear hbN ey
        have m6 := z6.lt
        have m7 := z7.lt
        refine hK _ _ _ (fun _ h => h) trivial ?_
        clear hK K0
        try simp only [Act.put, List.setIfInBounds_toArray, List.set_cons_zero, List.set_cons_succ]
        refine altG_now _ rfl rfl rfl (fun K0 hK => ?_)
        go_wp2_with fail
        refine (list_val A0 k c0 v3).mono ?_
        rintro e5 v4 ⟨rfl, hbN⟩
        dsimp only
        have hb4 := below_then hbN hb3
        replace z6 := z6.below hbN z6.lt
        replace z7 := z7.below hbN z7.lt
        clear hbN
        have m6 := z6.lt
        have m7 := z7.lt
        refine hK _ _ _ (fun _ h => h) trivial ?_
        clear hK K0
        try simp only [Act.put, List.setIfInBounds_toArray, List.set_cons_zero, List.set_cons_succ]
        have hyy : y6 ≠ y7 := by omega
        refine altG_now _ rfl rfl rfl (fun K0 hK => ?_)
        refine wp_store_row 25 (Operand.tmp 8) (Operand.tmp 32) rfl y6 #[.int .i64 4, .int .i64 0, .float .f64 0, .string ⟨#[]⟩, .slice A0 l.length c0] (by simp [go_sem]) (by simp [go_sem]) 25 _ z6 (by kernel_rfl) rfl (by simp [Value.oneCell']) ?_
        refine hK _ _ _ (fun _ h => h) trivial ?_
        clear hK K0
        have p6 := z6.row #[.int .i64 4, .int .i64 0, .float .f64 0, .string ⟨#[]⟩, .slice A0 l.length c0]
        have p7 := z7.farRow (g := y6) (fun e => hyy e.symm) #[.int .i64 4, .int .i64 0, .float .f64 0, .string ⟨#[]⟩, .slice A0 l.length c0]
        have hbS := below_row hb4 (g := y6) (by omega) #[.int .i64 4, .int .i64 0, .float .f64 0, .string ⟨#[]⟩, .slice A0 l.length c0]
        generalize v4.setRow y6 #[.int .i64 4, .int .i64 0, .float .f64 0, .string ⟨#[]⟩, .slice A0 l.length c0] = u1 at *
        try simp only [Act.put, List.setIfInBounds_toArray, List.set_cons_zero, List.set_cons_succ]
        refine altG_now _ rfl rfl rfl (fun K0 hK => ?_)
        refine wp_store_row 25 (Operand.tmp 9) (Operand.tmp 36) rfl y7 #[.int .i64 4, .int .i64 0, .float .f64 0, .string ⟨#[]⟩, .slice A0 k c0] (by simp [go_sem]) (by simp [go_sem]) 25 _ p7 (by kernel_rfl) rfl (by simp [Value.oneCell']) ?_
        refine hK _ _ _ (fun _ h => h) trivial ?_
        clear hK K0
        have r7 := p7.row #[.int .i64 4, .int .i64 0, .float .f64 0, .string ⟨#[]⟩, .slice A0 k c0]
        have r6 := p6.farRow (g := y7) hyy #[.int .i64 4, .int .i64 0, .float .f64 0, .string ⟨#[]⟩, .slice A0 k c0]
        have hbE := below_row hbS (g := y7) (by omega) #[.int .i64 4, .int .i64 0, .float .f64 0, .string ⟨#[]⟩, .slice A0 k c0]
        generalize u1.setRow y7 #[.int .i64 4, .int .i64 0, .float .f64 0, .string ⟨#[]⟩, .slice A0 k c0] = u2 at *
        try simp only [Act.put, List.setIfInBounds_toArray, List.set_cons_zero, List.set_cons_succ]
        refine altG_nil ?_
        go_wp2_with fail
        go_meet
        exact ⟨y6, y7, rfl, rfl, r6, r7, hbE⟩
      refine altG_now _ rfl rfl rfl (fun K0 hK => ?_)
      go_wp2_with fail
      have z7 := Blk.new v1 25 #[.int .i64 0, .int .i64 0, .float .f64 0, .string ⟨#[]⟩, .slice none 0 0]
      have hbN := (Below.refl v1.heap.size v1).alloc (Nat.le_refl _) (.cells #[.int .i64 0, .int .i64 0, .float .f64 0, .string ⟨#[]⟩, .slice none 0 0] 25)
      have hb2 := below_then hbN hb1
      have l7 := hb1.size
      obtain ⟨y7, ey⟩ : ∃ y, v1.heap.size = y := ⟨_, rfl⟩
      rw [ey] at z7 l7
      try rw [ey] at hne
      try rw [ey]
      generalize v1.alloc (.cells #[.int .i64 0, .int .i64 0, .float .f64 0, .string ⟨#[]⟩, .slice none 0 0] 25) = v2 at *
      clear hbN ey
      have m7 := z7.lt
      refine hK _ _ _ (fun _ h => h) trivial ?_
      clear hK K0
      try simp only [Act.put, List.setIfInBounds_toArray, List.set_cons_zero, List.set_cons_succ]
      refine altG_alt rfl ?_ ?_
      · skip
        refine altG_now _ rfl rfl rfl (fun K0 hK => ?_)
        go_wp2_with fail
        refine (list_val A0 k c0 v2).mono ?_
        rintro e5 v3 ⟨rfl, hbN⟩
        dsimp only
        have hb3 := below_then hbN hb2
        replace z7 := z7.below hbN z7.lt
        clear hbN
        have m7 := z7.lt
        refine hK _ _ _ (fun _ h => h) trivial ?_
        clear hK K0
        try simp only [Act.put, List.setIfInBounds_toArray, List.set_cons_zero, List.set_cons_succ]
        refine altG_now _ rfl rfl rfl (fun K0 hK => ?_)
        go_wp2_with fail
        have z6 := Blk.new v3 25 #[.int .i64 0, .int .i64 0, .float .f64 0, .string ⟨#[]⟩, .slice none 0 0]
        have hbN := (Below.refl v3.heap.size v3).alloc (Nat.le_refl _) (.cells #[.int .i64 0, .int .i64 0, .float .f64 0, .string ⟨#[]⟩, .slice none 0 0] 25)
        have hb4 := below_then hbN hb3
        have l6 := hb3.size
        replace z7 := z7.below hbN z7.lt
        have hne : y7 < v3.heap.size := by have := z7; first | exact m7 | omega
        obtain ⟨y6, ey⟩ : ∃ y, v3.heap.size = y := ⟨_, rfl⟩
        rw [ey] at z6 l6
        try rw [ey] at hne
        try rw [ey]
        generalize v3.alloc (.cells #[.int .i64 0, .int .i64 0, .float .f64 0, .string ⟨#[]⟩, .slice none 0 0] 25) = v4 at *
        clear hbN ey
        have m6 := z6.lt
        have m7 := z7.lt
        refine hK _ _ _ (fun _ h => h) trivial ?_
        clear hK K0
        try simp only [Act.put, List.setIfInBounds_toArray, List.set_cons_zero, List.set_cons_succ]
        have hyy : y6 ≠ y7 := by omega
        refine altG_now _ rfl rfl rfl (fun K0 hK => ?_)
        refine wp_store_row 25 (Operand.tmp 8) (Operand.tmp 32) rfl y6 #[.int .i64 4, .int .i64 0, .float .f64 0, .string ⟨#[]⟩, .slice A0 l.length c0] (by simp [go_sem]) (by simp [go_sem]) 25 _ z6 (by kernel_rfl) rfl (by simp [Value.oneCell']) ?_
        refine hK _ _ _ (fun _ h => h) trivial ?_
        clear hK K0
        have p6 := z6.row #[.int .i64 4, .int .i64 0, .float .f64 0, .string ⟨#[]⟩, .slice A0 l.length c0]
        have p7 := z7.farRow (g := y6) (fun e => hyy e.symm) #[.int .i64 4, .int .i64 0, .float .f64 0, .string ⟨#[]⟩, .slice A0 l.length c0]
        have hbS := below_row hb4 (g := y6) (by omega) #[.int .i64 4, .int .i64 0, .float .f64 0, .string ⟨#[]⟩, .slice A0 l.length c0]
        generalize v4.setRow y6 #[.int .i64 4, .int .i64 0, .float .f64 0, .string ⟨#[]⟩, .slice A0 l.length c0] = u1 at *
        try simp only [Act.put, List.setIfInBounds_toArray, List.set_cons_zero, List.set_cons_succ]
        refine altG_now _ rfl rfl rfl (fun K0 hK => ?_)
        refine wp_store_row 25 (Operand.tmp 9) (Operand.tmp 36) rfl y7 #[.int .i64 4, .int .i64 0, .float .f64 0, .string ⟨#[]⟩, .slice A0 k c0] (by simp [go_sem]) (by simp [go_sem]) 25 _ p7 (by kernel_rfl) rfl (by simp [Value.oneCell']) ?_
        refine hK _ _ _ (fun _ h => h) trivial ?_
        clear hK K0
        have r7 := p7.row #[.int .i64 4, .int .i64 0, .float .f64 0, .string ⟨#[]⟩, .slice A0 k c0]
        have r6 := p6.farRow (g := y7) hyy #[.int .i64 4, .int .i64 0, .float .f64 0, .string ⟨#[]⟩, .slice A0 k c0]
        have hbE := below_row hbS (g := y7) (by omega) #[.int .i64 4, .int .i64 0, .float .f64 0, .string ⟨#[]⟩, .slice A0 k c0]
        generalize u1.setRow y7 #[.int .i64 4, .int .i64 0, .float .f64 0, .string ⟨#[]⟩, .slice A0 k c0] = u2 at *
        try simp only [Act.put, List.setIfInBounds_toArray, List.set_cons_zero, List.set_cons_succ]
        refine altG_nil ?_
        go_wp2_with fail
        go_meet
        exact ⟨y6, y7, rfl, rfl, r6, r7, hbE⟩
      refine altG_now _ rfl rfl rfl (fun K0 hK => ?_)
      go_wp2_with fail
      have z6 := Blk.new v2 25 #[.int .i64 0, .int .i64 0, .float .f64 0, .string ⟨#[]⟩, .slice none 0 0]
      have hbN := (Below.refl v2.heap.size v2).alloc (Nat.le_refl _) (.cells #[.int .i64 0, .int .i64 0, .float .f64 0, .string ⟨#[]⟩, .slice none 0 0] 25)
      have hb3 := below_then hbN hb2
      have l6 := hb2.size
      replace z7 := z7.below hbN z7.lt
      have hne : y7 < v2.heap.size := by have := z7; first | exact m7 | omega
      obtain ⟨y6, ey⟩ : ∃ y, v2.heap.size = y := ⟨_, rfl⟩
      rw [ey] at z6 l6
      try rw [ey] at hne
      try rw [ey]
      generalize v2.alloc (.cells #[.int .i64 0, .int .i64 0, .float .f64 0, .string ⟨#[]⟩, .slice none 0 0] 25) = v3 at *
      clear hbN ey
      have m6 := z6.lt
      have m7 := z7.lt
      refine hK _ _ _ (fun _ h => h) trivial ?_
      clear hK K0
      try simp only [Act.put, List.setIfInBounds_toArray, List.set_cons_zero, List.set_cons_succ]
      refine altG_now _ rfl rfl rfl (fun K0 hK => ?_)
      go_wp2_with fail
      refine (list_val A0 k c0 v3).mono ?_
      rintro e5 v4 ⟨rfl, hbN⟩
      dsimp only
      have hb4 := below_then hbN hb3
      replace z6 := z6.below hbN z6.lt
      replace z7 := z7.below hbN z7.lt
      clear hbN
      have m6 := z6.lt
      have m7 := z7.lt
      refine hK _ _ _ (fun _ h => h) trivial ?_
      clear hK K0
      try simp only [Act.put, List.setIfInBounds_toArray, List.set_cons_zero, List.set_cons_succ]
      have hyy : y6 ≠ y7 := by omega
      refine altG_now _ rfl rfl rfl (fun K0 hK => ?_)
      refine wp_store_row 25 (Operand.tmp 8) (Operand.tmp 32) rfl y6 #[.int .i64 4, .int .i64 0, .float .f64 0, .string ⟨#[]⟩, .slice A0 l.length c0] (by simp [go_sem]) (by simp [go_sem]) 25 _ z6 (by kernel_rfl) rfl (by simp [Value.oneCell']) ?_
      refine hK _ _ _ (fun _ h => h) trivial ?_
      clear hK K0
      have p6 := z6.row #[.int .i64 4, .int .i64 0, .float .f64 0, .string ⟨#[]⟩, .slice A0 l.length c0]
      have p7 := z7.farRow (g := y6) (fun e => hyy e.symm) #[.int .i64 4, .int .i64 0, .float .f64 0, .string ⟨#[]⟩, .slice A0 l.length c0]
      have hbS := below_row hb4 (g := y6) (by omega) #[.int .i64 4, .int .i64 0, .float .f64 0, .string ⟨#[]⟩, .slice A0 l.length c0]
      generalize v4.setRow y6 #[.int .i64 4, .int .i64 0, .float .f64 0, .string ⟨#[]⟩, .slice A0 l.length c0] = u1 at *
      try simp only [Act.put, List.setIfInBounds_toArray, List.set_cons_zero, List.set_cons_succ]
      refine altG_now _ rfl rfl rfl (fun K0 hK => ?_)
      refine wp_store_row 25 (Operand.tmp 9) (Operand.tmp 36) rfl y7 #[.int .i64 4, .int .i64 0, .float .f64 0, .string ⟨#[]⟩, .slice A0 k c0] (by simp [go_sem]) (by simp [go_sem]) 25 _ p7 (by kernel_rfl) rfl (by simp [Value.oneCell']) ?_
      refine hK _ _ _ (fun _ h => h) trivial ?_
      clear hK K0
      have r7 := p7.row #[.int .i64 4, .int .i64 0, .float .f64 0, .string ⟨#[]⟩, .slice A0 k c0]
      have r6 := p6.farRow (g := y7) hyy #[.int .i64 4, .int .i64 0, .float .f64 0, .string ⟨#[]⟩, .slice A0 k c0]
      have hbE := below_row hbS (g := y7) (by omega) #[.int .i64 4, .int .i64 0, .float .f64 0, .string ⟨#[]⟩, .slice A0 k c0]
      generalize u1.setRow y7 #[.int .i64 4, .int .i64 0, .float .f64 0, .string ⟨#[]⟩, .slice A0 k c0] = u2 at *
      try simp only [Act.put, List.setIfInBounds_toArray, List.set_cons_zero, List.set_cons_succ]
      refine altG_nil ?_
      go_wp2_with fail
      go_meet
      exact ⟨y6, y7, rfl, rfl, r6, r7, hbE⟩
    refine altG_alt rfl ?_ ?_
    · skip
      refine altG_now _ rfl rfl rfl (fun K0 hK => ?_)
      go_wp2_with fail
      have z6 := Blk.new v0 25 #[.int .i64 0, .int .i64 0, .float .f64 0, .string ⟨#[]⟩, .slice none 0 0]
      have hbN := (Below.refl v0.heap.size v0).alloc (Nat.le_refl _) (.cells #[.int .i64 0, .int .i64 0, .float .f64 0, .string ⟨#[]⟩, .slice none 0 0] 25)
      have hb1 := below_then hbN hb0
      have l6 := hb0.size
      obtain ⟨y6, ey⟩ : ∃ y, v0.heap.size = y := ⟨_, rfl⟩
      rw [ey] at z6 l6
      try rw [ey] at hne
      try rw [ey]
      generalize v0.alloc (.cells #[.int .i64 0, .int .i64 0, .float .f64 0, .string ⟨#[]⟩, .slice none 0 0] 25) = v1 at *
      clear hbN ey
      have m6 := z6.lt
      refine hK _ _ _ (fun _ h => h) trivial ?_
      clear hK K0
      try simp only [Act.put, List.setIfInBounds_toArray, List.set_cons_zero, List.set_cons_succ]
      refine altG_alt rfl ?_ ?_
      · skip
        refine altG_now _ rfl rfl rfl (fun K0 hK => ?_)
        go_wp2_with fail
        refine (list_val A0 l.length c0 v1).mono ?_
        rintro e1 v2 ⟨rfl, hbN⟩
        dsimp only
        have hb2 := below_then hbN hb1
        replace z6 := z6.below hbN z6.lt
        clear hbN
        have m6 := z6.lt
        refine hK _ _ _ (fun _ h => h) trivial ?_
        clear hK K0
        try simp only [Act.put, List.setIfInBounds_toArray, List.set_cons_zero, List.set_cons_succ]
        refine altG_alt rfl ?_ ?_
        · skip
          refine altG_now _ rfl rfl rfl (fun K0 hK => ?_)
          go_wp2_with fail
          refine (list_val A0 k c0 v2).mono ?_
          rintro e5 v3 ⟨rfl, hbN⟩
          dsimp only
          have hb3 := below_then hbN hb2
          replace z6 := z6.below hbN z6.lt
          clear hbN
          have m6 := z6.lt
          refine hK _ _ _ (fun _ h => h) trivial ?_
          clear hK K0
          try simp only [Act.put, List.setIfInBounds_toArray, List.set_cons_zero, List.set_cons_succ]
          refine altG_now _ rfl rfl rfl (fun K0 hK => ?_)
          go_wp2_with fail
          have z7 := Blk.new v3 25 #[.int .i64 0, .int .i64 0, .float .f64 0, .string ⟨#[]⟩, .slice none 0 0]
          have hbN := (Below.refl v3.heap.size v3).alloc (Nat.le_refl _) (.cells #[.int .i64 0, .int .i64 0, .float .f64 0, .string ⟨#[]⟩, .slice none 0 0] 25)
          have hb4 := below_then hbN hb3
          have l7 := hb3.size
          replace z6 := z6.below hbN z6.lt
          have hne : y6 < v3.heap.size := by have := z6; first | exact m6 | omega
          obtain ⟨y7, ey⟩ : ∃ y, v3.heap.size = y := ⟨_, rfl⟩
          rw [ey] at z7 l7
          try rw [ey] at hne
          try rw [ey]
          generalize v3.alloc (.cells #[.int .i64 0, .int .i64 0, .float .f64 0, .string ⟨#[]⟩, .slice none 0 0] 25) = v4 at *
          clear hbN ey
          have m6 := z6.lt
          have m7 := z7.lt
          refine hK _ _ _ (fun _ h => h) trivial ?_
          clear hK K0
          try simp only [Act.put, List.setIfInBounds_toArray, List.set_cons_zero, List.set_cons_succ]
          have hyy : y6 ≠ y7 := by omega
          refine altG_now _ rfl rfl rfl (fun K0 hK => ?_)
          refine wp_store_row 25 (Operand.tmp 8) (Operand.tmp 32) rfl y6 #[.int .i64 4, .int .i64 0, .float .f64 0, .string ⟨#[]⟩, .slice A0 l.length c0] (by simp [go_sem]) (by simp [go_sem]) 25 _ z6 (by kernel_rfl) rfl (by simp [Value.oneCell']) ?_
          refine hK _ _ _ (fun _ h => h) trivial ?_
          clear hK K0
          have p6 := z6.row #[.int .i64 4, .int .i64 0, .float .f64 0, .string ⟨#[]⟩, .slice A0 l.length c0]
          have p7 := z7.farRow (g := y6) (fun e => hyy e.symm) #[.int .i64 4, .int .i64 0, .float .f64 0, .string ⟨#[]⟩, .slice A0 l.length c0]
          have hbS := below_row hb4 (g := y6) (by omega) #[.int .i64 4, .int .i64 0, .float .f64 0, .string ⟨#[]⟩, .slice A0 l.length c0]
          generalize v4.setRow y6 #[.int .i64 4, .int .i64 0, .float .f64 0, .string ⟨#[]⟩, .slice A0 l.length c0] = u1 at *
          try simp only [Act.put, List.setIfInBounds_toArray, List.set_cons_zero, List.set_cons_succ]
          refine altG_now _ rfl rfl rfl (fun K0 hK => ?_)
          refine wp_store_row 25 (Operand.tmp 9) (Operand.tmp 36) rfl y7 #[.int .i64 4, .int .i64 0, .float .f64 0, .string ⟨#[]⟩, .slice A0 k c0] (by simp [go_sem]) (by simp [go_sem]) 25 _ p7 (by kernel_rfl) rfl (by simp [Value.oneCell']) ?_
          refine hK _ _ _ (fun _ h => h) trivial ?_
          clear hK K0
          have r7 := p7.row #[.int .i64 4, .int .i64 0, .float .f64 0, .string ⟨#[]⟩, .slice A0 k c0]
          have r6 := p6.farRow (g := y7) hyy #[.int .i64 4, .int .i64 0, .float .f64 0, .string ⟨#[]⟩, .slice A0 k c0]
          have hbE := below_row hbS (g := y7) (by omega) #[.int .i64 4, .int .i64 0, .float .f64 0, .string ⟨#[]⟩, .slice A0 k c0]
          generalize u1.setRow y7 #[.int .i64 4, .int .i64 0, .float .f64 0, .string ⟨#[]⟩, .slice A0 k c0] = u2 at *
          try simp only [Act.put, List.setIfInBounds_toArray, List.set_cons_zero, List.set_cons_succ]
          refine altG_nil ?_
          go_wp2_with fail
          go_meet
          exact ⟨y6, y7, rfl, rfl, r6, r7, hbE⟩
        refine altG_now _ rfl rfl rfl (fun K0 hK => ?_)
        go_wp2_with fail
        have z7 := Blk.new v2 25 #[.int .i64 0, .int .i64 0, .float .f64 0, .string ⟨#[]⟩, .slice none 0 0]
        have hbN := (Below.refl v2.heap.size v2).alloc (Nat.le_refl _) (.cells #[.int .i64 0, .int .i64 0, .float .f64 0, .string ⟨#[]⟩, .slice none 0 0] 25)
        have hb3 := below_then hbN hb2
        have l7 := hb2.size
        replace z6 := z6.below hbN z6.lt
        have hne : y6 < v2.heap.size := by have := z6; first | exact m6 | omega
        obtain ⟨y7, ey⟩ : ∃ y, v2.heap.size = y := ⟨_, rfl⟩
        rw [ey] at z7 l7
        try rw [ey] at hne
        try rw [ey]
        generalize v2.alloc (.cells #[.int .i64 0, .int .i64 0, .float .f64 0, .string ⟨#[]⟩, .slice none 0 0] 25) = v3 at *
        clear hbN ey
        have m6 := z6.lt
        have m7 := z7.lt
        refine hK _ _ _ (fun _ h => h) trivial ?_
        clear hK K0
        try simp only [Act.put, List.setIfInBounds_toArray, List.set_cons_zero, List.set_cons_succ]
        refine altG_now _ rfl rfl rfl (fun K0 hK => ?_)
        go_wp2_with fail
        refine (list_val A0 k c0 v3).mono ?_
        rintro e5 v4 ⟨rfl, hbN⟩
        dsimp only
        have hb4 := below_then hbN hb3
        replace z6 := z6.below hbN z6.lt
        replace z7 := z7.below hbN z7.lt
        clear hbN
        have m6 := z6.lt
        have m7 := z7.lt
        refine hK _ _ _ (fun _ h => h) trivial ?_
        clear hK K0
        try simp only [Act.put, List.setIfInBounds_toArray, List.set_cons_zero, List.set_cons_succ]
        have hyy : y6 ≠ y7 := by omega
        refine altG_now _ rfl rfl rfl (fun K0 hK => ?_)
        refine wp_store_row 25 (Operand.tmp 8) (Operand.tmp 32) rfl y6 #[.int .i64 4, .int .i64 0, .float .f64 0, .string ⟨#[]⟩, .slice A0 l.length c0] (by simp [go_sem]) (by simp [go_sem]) 25 _ z6 (by kernel_rfl) rfl (by simp [Value.oneCell']) ?_
        refine hK _ _ _ (fun _ h => h) trivial ?_
        clear hK K0
        have p6 := z6.row #[.int .i64 4, .int .i64 0, .float .f64 0, .string ⟨#[]⟩, .slice A0 l.length c0]
        have p7 := z7.farRow (g := y6) (fun e => hyy e.symm) #[.int .i64 4, .int .i64 0, .float .f64 0, .string ⟨#[]⟩, .slice A0 l.length c0]
        have hbS := below_row hb4 (g := y6) (by omega) #[.int .i64 4, .int .i64 0, .float .f64 0, .string ⟨#[]⟩, .slice A0 l.length c0]
        generalize v4.setRow y6 #[.int .i64 4, .int .i64 0, .float .f64 0, .string ⟨#[]⟩, .slice A0 l.length c0] = u1 at *
        try simp only [Act.put, List.setIfInBounds_toArray, List.set_cons_zero, List.set_cons_succ]
        refine altG_now _ rfl rfl rfl (fun K0 hK => ?_)
        refine wp_store_row 25 (Operand.tmp 9) (Operand.tmp 36) rfl y7 #[.int .i64 4, .int .i64 0, .float .f64 0, .string ⟨#[]⟩, .slice A0 k c0] (by simp [go_sem]) (by simp [go_sem]) 25 _ p7 (by kernel_rfl) rfl (by simp [Value.oneCell']) ?_
        refine hK _ _ _ (fun _ h => h) trivial ?_
        clear hK K0
        have r7 := p7.row #[.int .i64 4, .int .i64 0, .float .f64 0, .string ⟨#[]⟩, .slice A0 k c0]
        have r6 := p6.farRow (g := y7) hyy #[.int .i64 4, .int .i64 0, .float .f64 0, .string ⟨#[]⟩, .slice A0 k c0]
        have hbE := below_row hbS (g := y7) (by omega) #[.int .i64 4, .int .i64 0, .float .f64 0, .string ⟨#[]⟩, .slice A0 k c0]
        generalize u1.setRow y7 #[.int .i64 4, .int .i64 0, .float .f64 0, .string ⟨#[]⟩, .slice A0 k c0] = u2 at *
        try simp only [Act.put, List.setIfInBounds_toArray, List.set_cons_zero, List.set_cons_succ]
        refine altG_nil ?_
        go_wp2_with fail
        go_meet
        exact ⟨y6, y7, rfl, rfl, r6, r7, hbE⟩
      refine altG_now _ rfl rfl rfl (fun K0 hK => ?_)
      go_wp2_with fail
      have z7 := Blk.new v1 25 #[.int .i64 0, .int .i64 0, .float .f64 0, .string ⟨#[]⟩, .slice none 0 0]
      have hbN := (Below.refl v1.heap.size v1).alloc (Nat.le_refl _) (.cells #[.int .i64 0, .int .i64 0, .float .f64 0, .string ⟨#[]⟩, .slice none 0 0] 25)
      have hb2 := below_then hbN hb1
      have l7 := hb1.size
      replace z6 := z6.below hbN z6.lt
      have hne : y6 < v1.heap.size := by have := z6; first | exact m6 | omega
      obtain ⟨y7, ey⟩ : ∃ y, v1.heap.size = y := ⟨_, rfl⟩
      rw [ey] at z7 l7
      try rw [ey] at hne
      try rw [ey]
      generalize v1.alloc (.cells #[.int .i64 0, .int .i64 0, .float .f64 0, .string ⟨#[]⟩, .slice none 0 0] 25) = v2 at *
      clear hbN ey
      have m6 := z6.lt
      have m7 := z7.lt
      refine hK _ _ _ (fun _ h => h) trivial ?_
      clear hK K0
      try simp only [Act.put, List.setIfInBounds_toArray, List.set_cons_zero, List.set_cons_succ]
      refine altG_now _ rfl rfl rfl (fun K0 hK => ?_)
      go_wp2_with fail
      refine (list_val A0 l.length c0 v2).mono ?_
      rintro e1 v3 ⟨rfl, hbN⟩
      dsimp only
      have hb3 := below_then hbN hb2
      replace z6 := z6.below hbN z6.lt
      replace z7 := z7.below hbN z7.lt
      clear hbN
      have m6 := z6.lt
      have m7 := z7.lt
      refine hK _ _ _ (fun _ h => h) trivial ?_
      clear hK K0
      try simp only [Act.put, List.setIfInBounds_toArray, List.set_cons_zero, List.set_cons_succ]
      refine altG_now _ rfl rfl rfl (fun K0 hK => ?_)
      go_wp2_with fail
      refine (list_val A0 k c0 v3).mono ?_
      rintro e5 v4 ⟨rfl, hbN⟩
      dsimp only
      have hb4 := below_then hbN hb3
      replace z6 := z6.below hbN z6.lt
      replace z7 := z7.below hbN z7.lt
      clear hbN
      have m6 := z6.lt
      have m7 := z7.lt
      refine hK _ _ _ (fun _ h => h) trivial ?_
      clear hK K0
      try simp only [Act.put, List.setIfInBounds_toArray, List.set_cons_zero, List.set_cons_succ]
      have hyy : y6 ≠ y7 := by omega
      refine altG_now _ rfl rfl rfl (fun K0 hK => ?_)
      refine wp_store_row 25 (Operand.tmp 8) (Operand.tmp 32) rfl y6 #[.int .i64 4, .int .i64 0, .float .f64 0, .string ⟨#[]⟩, .slice A0 l.length c0] (by simp [go_sem]) (by simp [go_sem]) 25 _ z6 (by kernel_rfl) rfl (by simp [Value.oneCell']) ?_
      refine hK _ _ _ (fun _ h => h) trivial ?_
      clear hK K0
      have p6 := z6.row #[.int .i64 4, .int .i64 0, .float .f64 0, .string ⟨#[]⟩, .slice A0 l.length c0]
      have p7 := z7.farRow (g := y6) (fun e => hyy e.symm) #[.int .i64 4, .int .i64 0, .float .f64 0, .string ⟨#[]⟩, .slice A0 l.length c0]
      have hbS := below_row hb4 (g := y6) (by omega) #[.int .i64 4, .int .i64 0, .float .f64 0, .string ⟨#[]⟩, .slice A0 l.length c0]
      generalize v4.setRow y6 #[.int .i64 4, .int .i64 0, .float .f64 0, .string ⟨#[]⟩, .slice A0 l.length c0] = u1 at *
      try simp only [Act.put, List.setIfInBounds_toArray, List.set_cons_zero, List.set_cons_succ]
      refine altG_now _ rfl rfl rfl (fun K0 hK => ?_)
      refine wp_store_row 25 (Operand.tmp 9) (Operand.tmp 36) rfl y7 #[.int .i64 4, .int .i64 0, .float .f64 0, .string ⟨#[]⟩, .slice A0 k c0] (by simp [go_sem]) (by simp [go_sem]) 25 _ p7 (by kernel_rfl) rfl (by simp [Value.oneCell']) ?_
      refine hK _ _ _ (fun _ h => h) trivial ?_
      clear hK K0
      have r7 := p7.row #[.int .i64 4, .int .i64 0, .float .f64 0, .string ⟨#[]⟩, .slice A0 k c0]
      have r6 := p6.farRow (g := y7) hyy #[.int .i64 4, .int .i64 0, .float .f64 0, .string ⟨#[]⟩, .slice A0 k c0]
      have hbE := below_row hbS (g := y7) (by omega) #[.int .i64 4, .int .i64 0, .float .f64 0, .string ⟨#[]⟩, .slice A0 k c0]
      generalize u1.setRow y7 #[.int .i64 4, .int .i64 0, .float .f64 0, .string ⟨#[]⟩, .slice A0 k c0] = u2 at *
      try simp only [Act.put, List.setIfInBounds_toArray, List.set_cons_zero, List.set_cons_succ]
      refine altG_nil ?_
      go_wp2_with fail
      go_meet
      exact ⟨y6, y7, rfl, rfl, r6, r7, hbE⟩
    refine altG_now _ rfl rfl rfl (fun K0 hK => ?_)
    go_wp2_with fail
    have z7 := Blk.new v0 25 #[.int .i64 0, .int .i64 0, .float .f64 0, .string ⟨#[]⟩, .slice none 0 0]
    have hbN := (Below.refl v0.heap.size v0).alloc (Nat.le_refl _) (.cells #[.int .i64 0, .int .i64 0, .float .f64 0, .string ⟨#[]⟩, .slice none 0 0] 25)
    have hb1 := below_then hbN hb0
    have l7 := hb0.size
    obtain ⟨y7, ey⟩ : ∃ y, v0.heap.size = y := ⟨_, rfl⟩
    rw [ey] at z7 l7
    try rw [ey] at hne
    try rw [ey]
    generalize v0.alloc (.cells #[.int .i64 0, .int .i64 0, .float .f64 0, .string ⟨#[]⟩, .slice none 0 0] 25) = v1 at *
    clear hbN ey
    have m7 := z7.lt
    refine hK _ _ _ (fun _ h => h) trivial ?_
    clear hK K0
    try simp only [Act.put, List.setIfInBounds_toArray, List.set_cons_zero, List.set_cons_succ]
    refine altG_alt rfl ?_ ?_
    · skip
      refine altG_now _ rfl rfl rfl (fun K0 hK => ?_)
      go_wp2_with fail
      refine (list_val A0 l.length c0 v1).mono ?_
      rintro e1 v2 ⟨rfl, hbN⟩
      dsimp only
      have hb2 := below_then hbN hb1
      replace z7 := z7.below hbN z7.lt
      clear hbN
      have m7 := z7.lt
      refine hK _ _ _ (fun _ h => h) trivial ?_
      clear hK K0
      try simp only [Act.put, List.setIfInBounds_toArray, List.set_cons_zero, List.set_cons_succ]
      refine altG_alt rfl ?_ ?_
      · skip
        refine altG_now _ rfl rfl rfl (fun K0 hK => ?_)
        go_wp2_with fail
        refine (list_val A0 k c0 v2).mono ?_
        rintro e5 v3 ⟨rfl, hbN⟩
        dsimp only
        have hb3 := below_then hbN hb2
        replace z7 := z7.below hbN z7.lt
        clear hbN
        have m7 := z7.lt
        refine hK _ _ _ (fun _ h => h) trivial ?_
        clear hK K0
        try simp only [Act.put, List.setIfInBounds_toArray, List.set_cons_zero, List.set_cons_succ]
        refine altG_now _ rfl rfl rfl (fun K0 hK => ?_)
        go_wp2_with fail
        have z6 := Blk.new v3 25 #[.int .i64 0, .int .i64 0, .float .f64 0, .string ⟨#[]⟩, .slice none 0 0]
        have hbN := (Below.refl v3.heap.size v3).alloc (Nat.le_refl _) (.cells #[.int .i64 0, .int .i64 0, .float .f64 0, .string ⟨#[]⟩, .slice none 0 0] 25)
        have hb4 := below_then hbN hb3
        have l6 := hb3.size
        replace z7 := z7.below hbN z7.lt
        have hne : y7 < v3.heap.size := by have := z7; first | exact m7 | omega
        obtain ⟨y6, ey⟩ : ∃ y, v3.heap.size = y := ⟨_, rfl⟩
        rw [ey] at z6 l6
        try rw [ey] at hne
        try rw [ey]
        generalize v3.alloc (.cells #[.int .i64 0, .int .i64 0, .float .f64 0, .string ⟨#[]⟩, .slice none 0 0] 25) = v4 at *
        clear hbN ey
        have m6 := z6.lt
        have m7 := z7.lt
        refine hK _ _ _ (fun _ h => h) trivial ?_
        clear hK K0
        try simp only [Act.put, List.setIfInBounds_toArray, List.set_cons_zero, List.set_cons_succ]
        have hyy : y6 ≠ y7 := by omega
        refine altG_now _ rfl rfl rfl (fun K0 hK => ?_)
        refine wp_store_row 25 (Operand.tmp 8) (Operand.tmp 32) rfl y6 #[.int .i64 4, .int .i64 0, .float .f64 0, .string ⟨#[]⟩, .slice A0 l.length c0] (by simp [go_sem]) (by simp [go_sem]) 25 _ z6 (by kernel_rfl) rfl (by simp [Value.oneCell']) ?_
        refine hK _ _ _ (fun _ h => h) trivial ?_
        clear hK K0
        have p6 := z6.row #[.int .i64 4, .int .i64 0, .float .f64 0, .string ⟨#[]⟩, .slice A0 l.length c0]
        have p7 := z7.farRow (g := y6) (fun e => hyy e.symm) #[.int .i64 4, .int .i64 0, .float .f64 0, .string ⟨#[]⟩, .slice A0 l.length c0]
        have hbS := below_row hb4 (g := y6) (by omega) #[.int .i64 4, .int .i64 0, .float .f64 0, .string ⟨#[]⟩, .slice A0 l.length c0]
        generalize v4.setRow y6 #[.int .i64 4, .int .i64 0, .float .f64 0, .string ⟨#[]⟩, .slice A0 l.length c0] = u1 at *
        try simp only [Act.put, List.setIfInBounds_toArray, List.set_cons_zero, List.set_cons_succ]
        refine altG_now _ rfl rfl rfl (fun K0 hK => ?_)
        refine wp_store_row 25 (Operand.tmp 9) (Operand.tmp 36) rfl y7 #[.int .i64 4, .int .i64 0, .float .f64 0, .string ⟨#[]⟩, .slice A0 k c0] (by simp [go_sem]) (by simp [go_sem]) 25 _ p7 (by kernel_rfl) rfl (by simp [Value.oneCell']) ?_
        refine hK _ _ _ (fun _ h => h) trivial ?_
        clear hK K0
        have r7 := p7.row #[.int .i64 4, .int .i64 0, .float .f64 0, .string ⟨#[]⟩, .slice A0 k c0]
        have r6 := p6.farRow (g := y7) hyy #[.int .i64 4, .int .i64 0, .float .f64 0, .string ⟨#[]⟩, .slice A0 k c0]
        have hbE := below_row hbS (g := y7) (by omega) #[.int .i64 4, .int .i64 0, .float .f64 0, .string ⟨#[]⟩, .slice A0 k c0]
        generalize u1.setRow y7 #[.int .i64 4, .int .i64 0, .float .f64 0, .string ⟨#[]⟩, .slice A0 k c0] = u2 at *
        try simp only [Act.put, List.setIfInBounds_toArray, List.set_cons_zero, List.set_cons_succ]
        refine altG_nil ?_
        go_wp2_with fail
        go_meet
        exact ⟨y6, y7, rfl, rfl, r6, r7, hbE⟩
      refine altG_now _ rfl rfl rfl (fun K0 hK => ?_)
      go_wp2_with fail
      have z6 := Blk.new v2 25 #[.int .i64 0, .int .i64 0, .float .f64 0, .string ⟨#[]⟩, .slice none 0 0]
      have hbN := (Below.refl v2.heap.size v2).alloc (Nat.le_refl _) (.cells #[.int .i64 0, .int .i64 0, .float .f64 0, .string ⟨#[]⟩, .slice none 0 0] 25)
      have hb3 := below_then hbN hb2
      have l6 := hb2.size
      replace z7 := z7.below hbN z7.lt
      have hne : y7 < v2.heap.size := by have := z7; first | exact m7 | omega
      obtain ⟨y6, ey⟩ : ∃ y, v2.heap.size = y := ⟨_, rfl⟩
      rw [ey] at z6 l6
      try rw [ey] at hne
      try rw [ey]
      generalize v2.alloc (.cells #[.int .i64 0, .int .i64 0, .float .f64 0, .string ⟨#[]⟩, .slice none 0 0] 25) = v3 at *
      clear hbN ey
      have m6 := z6.lt
      have m7 := z7.lt
      refine hK _ _ _ (fun _ h => h) trivial ?_
      clear hK K0
      try simp only [Act.put, List.setIfInBounds_toArray, List.set_cons_zero, List.set_cons_succ]
      refine altG_now _ rfl rfl rfl (fun K0 hK => ?_)
      go_wp2_with fail
      refine (list_val A0 k c0 v3).mono ?_
      rintro e5 v4 ⟨rfl, hbN⟩
      dsimp only
      have hb4 := below_then hbN hb3
      replace z6 := z6.below hbN z6.lt
      replace z7 := z7.below hbN z7.lt
      clear hbN
      have m6 := z6.lt
      have m7 := z7.lt
      refine hK _ _ _ (fun _ h => h) trivial ?_
      clear hK K0
      try simp only [Act.put, List.setIfInBounds_toArray, List.set_cons_zero, List.set_cons_succ]
      have hyy : y6 ≠ y7 := by omega
      refine altG_now _ rfl rfl rfl (fun K0 hK => ?_)
      refine wp_store_row 25 (Operand.tmp 8) (Operand.tmp 32) rfl y6 #[.int .i64 4, .int .i64 0, .float .f64 0, .string ⟨#[]⟩, .slice A0 l.length c0] (by simp [go_sem]) (by simp [go_sem]) 25 _ z6 (by kernel_rfl) rfl (by simp [Value.oneCell']) ?_
      refine hK _ _ _ (fun _ h => h) trivial ?_
      clear hK K0
      have p6 := z6.row #[.int .i64 4, .int .i64 0, .float .f64 0, .string ⟨#[]⟩, .slice A0 l.length c0]
      have p7 := z7.farRow (g := y6) (fun e => hyy e.symm) #[.int .i64 4, .int .i64 0, .float .f64 0, .string ⟨#[]⟩, .slice A0 l.length c0]
      have hbS := below_row hb4 (g := y6) (by omega) #[.int .i64 4, .int .i64 0, .float .f64 0, .string ⟨#[]⟩, .slice A0 l.length c0]
      generalize v4.setRow y6 #[.int .i64 4, .int .i64 0, .float .f64 0, .string ⟨#[]⟩, .slice A0 l.length c0] = u1 at *
      try simp only [Act.put, List.setIfInBounds_toArray, List.set_cons_zero, List.set_cons_succ]
      refine altG_now _ rfl rfl rfl (fun K0 hK => ?_)
      refine wp_store_row 25 (Operand.tmp 9) (Operand.tmp 36) rfl y7 #[.int .i64 4, .int .i64 0, .float .f64 0, .string ⟨#[]⟩, .slice A0 k c0] (by simp [go_sem]) (by simp [go_sem]) 25 _ p7 (by kernel_rfl) rfl (by simp [Value.oneCell']) ?_
      refine hK _ _ _ (fun _ h => h) trivial ?_
      clear hK K0
      have r7 := p7.row #[.int .i64 4, .int .i64 0, .float .f64 0, .string ⟨#[]⟩, .slice A0 k c0]
      have r6 := p6.farRow (g := y7) hyy #[.int .i64 4, .int .i64 0, .float .f64 0, .string ⟨#[]⟩, .slice A0 k c0]
      have hbE := below_row hbS (g := y7) (by omega) #[.int .i64 4, .int .i64 0, .float .f64 0, .string ⟨#[]⟩, .slice A0 k c0]
      generalize u1.setRow y7 #[.int .i64 4, .int .i64 0, .float .f64 0, .string ⟨#[]⟩, .slice A0 k c0] = u2 at *
      try simp only [Act.put, List.setIfInBounds_toArray, List.set_cons_zero, List.set_cons_succ]
      refine altG_nil ?_
      go_wp2_with fail
      go_meet
      exact ⟨y6, y7, rfl, rfl, r6, r7, hbE⟩
    refine altG_now _ rfl rfl rfl (fun K0 hK => ?_)
    go_wp2_with fail
    have z6 := Blk.new v1 25 #[.int .i64 0, .int .i64 0, .float .f64 0, .string ⟨#[]⟩, .slice none 0 0]
    have hbN := (Below.refl v1.heap.size v1).alloc (Nat.le_refl _) (.cells #[.int .i64 0, .int .i64 0, .float .f64 0, .string ⟨#[]⟩, .slice none 0 0] 25)
    have hb2 := below_then hbN hb1
    have l6 := hb1.size
    replace z7 := z7.below hbN z7.lt
    have hne : y7 < v1.heap.size := by have := z7; first | exact m7 | omega
    obtain ⟨y6, ey⟩ : ∃ y, v1.heap.size = y := ⟨_, rfl⟩
    rw [ey] at z6 l6
    try rw [ey] at hne
    try rw [ey]
    generalize v1.alloc (.cells #[.int .i64 0, .int .i64 0, .float .f64 0, .string ⟨#[]⟩, .slice none 0 0] 25) = v2 at *
    clear hbN ey
    have m6 := z6.lt
    have m7 := z7.lt
    refine hK _ _ _ (fun _ h => h) trivial ?_
    clear hK K0
    try simp only [Act.put, List.setIfInBounds_toArray, List.set_cons_zero, List.set_cons_succ]
    refine altG_now _ rfl rfl rfl (fun K0 hK => ?_)
    go_wp2_with fail
    refine (list_val A0 l.length c0 v2).mono ?_
    rintro e1 v3 ⟨rfl, hbN⟩
    dsimp only
    have hb3 := below_then hbN hb2
    replace z6 := z6.below hbN z6.lt
    replace z7 := z7.below hbN z7.lt
    clear hbN
    have m6 := z6.lt
    have m7 := z7.lt
    refine hK _ _ _ (fun _ h => h) trivial ?_
    clear hK K0
    try simp only [Act.put, List.setIfInBounds_toArray, List.set_cons_zero, List.set_cons_succ]
    refine altG_now _ rfl rfl rfl (fun K0 hK => ?_)
    go_wp2_with fail
    refine (list_val A0 k c0 v3).mono ?_
    rintro e5 v4 ⟨rfl, hbN⟩
    dsimp only
    have hb4 := below_then hbN hb3
    replace z6 := z6.below hbN z6.lt
    replace z7 := z7.below hbN z7.lt
    clear hbN
    have m6 := z6.lt
    have m7 := z7.lt
    refine hK _ _ _ (fun _ h => h) trivial ?_
    clear hK K0
    try simp only [Act.put, List.setIfInBounds_toArray, List.set_cons_zero, List.set_cons_succ]
    have hyy : y6 ≠ y7 := by omega
    refine altG_now _ rfl rfl rfl (fun K0 hK => ?_)
    refine wp_store_row 25 (Operand.tmp 8) (Operand.tmp 32) rfl y6 #[.int .i64 4, .int .i64 0, .float .f64 0, .string ⟨#[]⟩, .slice A0 l.length c0] (by simp [go_sem]) (by simp [go_sem]) 25 _ z6 (by kernel_rfl) rfl (by simp [Value.oneCell']) ?_
    refine hK _ _ _ (fun _ h => h) trivial ?_
    clear hK K0
    have p6 := z6.row #[.int .i64 4, .int .i64 0, .float .f64 0, .string ⟨#[]⟩, .slice A0 l.length c0]
    have p7 := z7.farRow (g := y6) (fun e => hyy e.symm) #[.int .i64 4, .int .i64 0, .float .f64 0, .string ⟨#[]⟩, .slice A0 l.length c0]
    have hbS := below_row hb4 (g := y6) (by omega) #[.int .i64 4, .int .i64 0, .float .f64 0, .string ⟨#[]⟩, .slice A0 l.length c0]
    generalize v4.setRow y6 #[.int .i64 4, .int .i64 0, .float .f64 0, .string ⟨#[]⟩, .slice A0 l.length c0] = u1 at *
    try simp only [Act.put, List.setIfInBounds_toArray, List.set_cons_zero, List.set_cons_succ]
    refine altG_now _ rfl rfl rfl (fun K0 hK => ?_)
    refine wp_store_row 25 (Operand.tmp 9) (Operand.tmp 36) rfl y7 #[.int .i64 4, .int .i64 0, .float .f64 0, .string ⟨#[]⟩, .slice A0 k c0] (by simp [go_sem]) (by simp [go_sem]) 25 _ p7 (by kernel_rfl) rfl (by simp [Value.oneCell']) ?_
    refine hK _ _ _ (fun _ h => h) trivial ?_
    clear hK K0
    have r7 := p7.row #[.int .i64 4, .int .i64 0, .float .f64 0, .string ⟨#[]⟩, .slice A0 k c0]
    have r6 := p6.farRow (g := y7) hyy #[.int .i64 4, .int .i64 0, .float .f64 0, .string ⟨#[]⟩, .slice A0 k c0]
    have hbE := below_row hbS (g := y7) (by omega) #[.int .i64 4, .int .i64 0, .float .f64 0, .string ⟨#[]⟩, .slice A0 k c0]
    generalize u1.setRow y7 #[.int .i64 4, .int .i64 0, .float .f64 0, .string ⟨#[]⟩, .slice A0 k c0] = u2 at *
    try simp only [Act.put, List.setIfInBounds_toArray, List.set_cons_zero, List.set_cons_succ]
    refine altG_nil ?_
    go_wp2_with fail
    go_meet
    exact ⟨y6, y7, rfl, rfl, r6, r7, hbE⟩
  case rest =>
  obtain ⟨p1, p2, rfl, rfl, r1, r2, hb5⟩ := hcut
  generalize wc = w5 at *
  have q1 := q1.below hb5 q1.lt
  have l5 := below_then hb5 l4
  clear hb5 l4
  go_upto_region 9 with (fail)
  have hr5 := hr.below l5
  have hone : ∀ x ∈ xs, x.oneCell' = true := fun x hxm => by
    obtain ⟨q, hq, rfl⟩ := List.getElem_of_mem hxm
    have hxl := hr.1
    have hj : q / 5 < l.length := by omega
    obtain ⟨ck, ci, cf, cs, cA, cn, cc, hcf⟩ := (vr (q / 5) _ (List.getElem?_eq_getElem hj)).form
    have h5 := hx (q / 5) hj
    rw [hcf] at h5
    have hm : xs[q] ∈ (xs.drop (q / 5 * 5)).take 5 := by
      rw [List.mem_iff_getElem?]
      refine ⟨q % 5, ?_⟩
      rw [List.getElem?_take, if_pos (by omega), List.getElem?_drop, show q / 5 * 5 + q % 5 = q by omega]
      exact List.getElem?_eq_getElem hq
    rw [h5] at hm
    simp at hm
    rcases hm with h | h | h | h | h <;> rw [h] <;> rfl
  have hsrc := Src.ofReads (P := Tryz.prog) (tx := 23) Tryz.underlying23 c0 hr5 hone
  go_wp2_with (at_builtin; go_must (refine wpList_append_mine rfl _ _ 23 23 rfl 25 j0 _ 5 64 Tryz.underlying23 gi gz0 gz1 gz2 rfl rfl (Own.none_ (w := w5) (t := 25) (size := 5)) rfl hsrc ?b1 ?b2 ?grow))
  case b1 => unfold maxLen; omega
  case b2 => omega
  case grow =>
  intro A8 c8 w6 ho8 hg8 hat8
  have hb6 : Below w5.heap.size w5 w6 := ⟨hg8.os, hg8.tape, hg8.output, hg8.size, fun y hy => hg8.block y hy (by simp [bOf])⟩
  have hA8 : ∀ g, bOf A8 = some g → w5.heap.size ≤ g := fun g hg => by
    rcases hat8 with h | h
    · rw [h] at hg; simp [bOf] at hg
    · rw [h] at hg; cases hg; exact Nat.le_refl _
  have p1l := r1.lt
  have p2l := r2.lt
  have Nl := q1.lt
  have r1 := r1.below hb6 r1.lt
  have r2 := r2.below hb6 r2.lt
  have q1 := q1.below hb6 q1.lt
  have l6 := below_then hb6 l5
  have l5s := l5.size
  have hNl := hN.out
  have hrl := r1.lt
  clear hsrc hg8 hat8 hr5 hone gi gz0 gz1 gz2
  go_upto_if 41 with (fail)
  go_cut [11] from 39 to 51 (fun x11 wx => x11 = .int .i64 (wantO l k u) ∧ VReads wx wx.heap.size (.mk 4 0 0 [] (l.set k u)) #[.int .i64 4, .int .i64 0, .float .f64 0, .string ⟨#[]⟩, .slice A8 (l.set k u).length c8] ∧ Blk wx p1 25 #[.int .i64 4, .int .i64 0, .float .f64 0, .string ⟨#[]⟩, .slice A0 l.length c0] ∧ Blk wx p2 25 #[.int .i64 4, .int .i64 0, .float .f64 0, .string ⟨#[]⟩, .slice A0 k c0] ∧ Below w.heap.size w wx)
  case first =>
    rcases hkl with hk | ⟨rfl, h0⟩
    · have hn0 : 0 < l.length := by omega
      have d0 : decide ((0 : Int) < (l.length : Int)) = true := decide_eq_true (by omega)
      obtain ⟨g, rfl⟩ : ∃ g, A8 = some ⟨g, 0, none⟩ := by
        rcases ho8.2 with ⟨-, h, -⟩ | ⟨g, cur, h, -⟩
        · omega
        · exact ⟨g, h⟩
      have hgl := hA8 g rfl
      obtain ⟨ho9, hth, hu9⟩ := ho8.setElem (news := (#[.int .i64 k1, .int .i64 i1, .float .f64 f1, .string s1, .slice A1 n1 c1] : Array Value).toList) hk rfl
      have hb7 := below_updg l6 hu9 (Nat.le_trans l5s hgl) l6.size
      have r1 := r1.upd hu9 (show ¬ p1 = g by omega)
      have r2 := r2.upd hu9 (show ¬ p2 = g by omega)
      have q17 := q1.upd hu9 (show ¬ N = g by omega)
      have m0 := q1.cell 0
      have m1 := q1.cell 1
      have m2 := q1.cell 2
      have m3 := q1.cell 3
      have m4 := q1.cell 4
      go_wp2_with (refine wpList_store_mid rfl 25 _ _ rfl g (k * 5) #[.int .i64 k1, .int .i64 i1, .float .f64 f1, .string s1, .slice A1 n1 c1] (by simp [go_sem, Addr.add_mid]) (by simp [go_sem]) hth (by kernel_rfl) (by simp [Value.oneCell']) ?_; generalize w6.setCells g (k * 5) (#[.int .i64 k1, .int .i64 i1, .float .f64 f1, .string s1, .slice A1 n1 c1] : Array Value).toList = w7 at *)
      clear m0 m1 m2 m3 m4 q1 hu9 hth ho8
      obtain ⟨ad, k2, i2, f2, s2, A2, n2, c2, hA0, hform, hgk, g0, g1, g2, g3, g4⟩ := kid hr vr hx hb7 hk
      subst hA0
      have hv7 : VReads w7 w7.heap.size (.mk 4 0 0 [] (l.set k u)) #[.int .i64 4, .int .i64 0, .float .f64 0, .string ⟨#[]⟩, .slice (some ⟨g, 0, none⟩) (l.set k u).length c8] := by
        refine .mk (s := []) (fun j => if j = k then #[.int .i64 k1, .int .i64 i1, .float .f64 f1, .string s1, .slice A1 n1 c1] else css j) (by rw [List.length_set]; exact hl) (by rw [List.length_set]; exact ho9.reads_) (fun j v hv => ?_) (fun j hj => ?_)
        · by_cases hjk : j = k
          · subst hjk
            rw [List.getElem?_set_self hk] at hv
            cases hv
            try dsimp only
            rw [if_pos rfl]
            exact (hu.under hb7).upB hb7.size
          · rw [List.getElem?_set_ne (fun e => hjk e.symm)] at hv
            try dsimp only
            rw [if_neg hjk]
            exact ((vr j v hv).under hb7).upB hb7.size
        · rw [List.length_set] at hj
          try dsimp only
          rw [elem_set hr.1 rfl hk hj]
          by_cases hjk : j = k
          · rw [if_pos hjk, if_pos hjk]
          · rw [if_neg hjk, if_neg hjk]; exact hx j hj
      have hord := fun W (hW : Below w.heap.size w W) => ref_order_tree (vr k _ hgk) u _ W hu (ok _ (List.mem_of_getElem? hgk)) ou hW hW.size
      rw [hform] at hord
      have hwo : wantO l k u = ordV l[k] u := by unfold wantO; rw [hgk]
      replace hwo := Lib.hid hwo
      clear hform
      replace hord := Lib.hid hord
      have hv7 := Lib.hid hv7
      go_upto_region 13 with (fail)
      refine wp_region_lex (fun W => Below w7.heap.size w7 W) [3, 4] [5] [0, 1, 2, 3, 4, 5, 6] (by kernel_rfl) rfl (by kernel_rfl) (by kernel_rfl) (fun _ _ d _ _ h => by cases d <;> exact h) ?_
      have hS0 : Below w7.heap.size w7 w7.drew := (Below.refl _ _).drew
      repeat (first | (refine lexG_take _ ?_ rfl rfl rfl rfl (fun _ => ?_) ?_; rotate_left; (focus (go_simp; with_reducible rfl)); try simp only [Act.put, List.setIfInBounds_toArray, List.set_cons_zero, List.set_cons_succ]) | (refine lexG_held _ ?_ rfl rfl rfl rfl (by assumption) (fun _ hSw => ?_) ?_; rotate_left; (focus (have h0 := cell_keep hSw g0; have h1 := cell_keep hSw g1; have h2 := cell_keep hSw g2; have h3 := cell_keep hSw g3; have h4 := cell_keep hSw g4; have m0 := (q17.below hSw q17.lt).cell 0; have m1 := (q17.below hSw q17.lt).cell 1; have m2 := (q17.below hSw q17.lt).cell 2; have m3 := (q17.below hSw q17.lt).cell 3; have m4 := (q17.below hSw q17.lt).cell 4; clear hSw; go_simp; with_reducible rfl)); try simp only [Act.put, List.setIfInBounds_toArray, List.set_cons_zero, List.set_cons_succ]) | (refine lexG_skip _ rfl rfl (by assumption) ?_; try simp only [Act.put, List.setIfInBounds_toArray, List.set_cons_zero, List.set_cons_succ]))
      refine lexG_now _ rfl rfl rfl (fun K hK => ?_)
      go_wp2_with fail
      refine (hord.out _ (below_then hS0 hb7)).mono ?_
      rintro e x1' ⟨rfl, hu1⟩
      dsimp only
      have hE := below_then hu1 hS0
      refine hK _ _ _ (fun _ h => h) hE ?_
      clear hK K hS0
      try simp only [Act.put, List.setIfInBounds_toArray, List.set_cons_zero, List.set_cons_succ]
      repeat (refine lexG_take _ ?_ rfl rfl rfl rfl (fun _ => ?_) ?_; rotate_left; (focus (go_simp; with_reducible rfl)); try simp only [Act.put, List.setIfInBounds_toArray, List.set_cons_zero, List.set_cons_succ])
      refine lexG_nil ?_
      go_wp2_with fail
      go_meet
      exact ⟨by rw [hwo.out], (hv7.out.under hE).upB hE.size, r1.below hE r1.lt, r2.below hE r2.lt, below_then hE hb7⟩
    · have d0 : decide ((0 : Int) < (l.length : Int)) = false := decide_eq_false (by omega)
      obtain rfl : l = [] := List.eq_nil_of_length_eq_zero h0
      go_wp2_with fail
      go_meet
      refine ⟨rfl, .mk (s := []) (fun _ => #[]) (by simp) ho8.reads_ (by simp) (by simp), r1, r2, l6⟩
  case rest =>
  obtain ⟨rfl, hv, r1, r2, l9⟩ := hcut
  generalize wc = w9 at *
  rw [List.length_set] at hv
  clear ho8 hA8 q1 l6 hb6 l5 p1l p2l Nl hrl
  have ha : VReads w9 w9.heap.size (.mk 4 0 0 [] l) #[.int .i64 4, .int .i64 0, .float .f64 0, .string ⟨#[]⟩, .slice A0 l.length c0] := .mk (s := []) css hl ((hr.below l9).more l9.size) (fun j v h => ((vr j v h).under l9).upB l9.size) hx
  have htl : (l.take k).length = k := by rw [List.length_take]; omega
  have hbv : VReads w9 w9.heap.size (.mk 4 0 0 [] (l.take k)) #[.int .i64 4, .int .i64 0, .float .f64 0, .string ⟨#[]⟩, .slice A0 (l.take k).length c0] := by
    refine .mk (s := []) css (by omega) (by rw [htl]; exact ((hr.below l9).more l9.size).first hkl2) (fun j v h => ?_) (fun j hj => ?_)
    · rw [List.getElem?_take] at h
      split at h
      · exact ((vr j v h).under l9).upB l9.size
      · cases h
    · rw [htl] at hj
      rw [← hx j (by omega), List.drop_take, List.take_take, Nat.min_eq_left (by omega)]
  rw [htl] at hbv
  have okA : OkV (.mk 4 0 0 [] l) := .mk (by omega) (by simp) ok (by omega)
  have okB : OkV (.mk 4 0 0 [] (l.take k)) := .mk (by omega) (by simp) (fun v h => ok v (List.mem_of_mem_take h)) (by omega)
  have okM : OkV (.mk 4 0 0 [] (l.set k u)) := .mk (by omega) (by simp) (fun v h => by
    rcases List.mem_or_eq_of_mem_set h with h | h
    · exact ok v h
    · exact h ▸ ou) (by rw [List.length_set]; omega)
  have hAM := fun W (hW : Below w9.heap.size w9 W) => order_tree ha _ _ W hv okA okM hW hW.size
  have hBA := fun W (hW : Below w9.heap.size w9 W) => order_tree hbv _ _ W ha okB okA hW hW.size
  have hAB := fun W (hW : Below w9.heap.size w9 W) => order_tree ha _ _ W hbv okA okB hW hW.size
  simp only [ordV_list] at hAM hBA hAB
  rw [ordL_set] at hAM
  rw [swap_l (l.take k) l] at hAB
  obtain ⟨X, hX⟩ : ∃ X, ordL (l.take k) l = X := ⟨_, rfl⟩
  obtain ⟨Y, hY⟩ : ∃ Y, -X = Y := ⟨_, rfl⟩
  obtain ⟨O, hO⟩ : ∃ O, wantO l k u = O := ⟨_, rfl⟩
  rw [hX] at hBA hAB
  rw [hY] at hAB
  rw [hO] at hAM ⊢
  have hXk : X = if k < l.length then -1 else 0 := by
    rw [← hX]
    rcases hkl with hk | ⟨rfl, h0⟩
    · rw [if_pos hk]; exact ordL_take l k hk
    · obtain rfl : l = [] := List.eq_nil_of_length_eq_zero h0
      simp [ordL]
  clear hX hO ha hbv hv okA okB okM htl
  replace hAM := Lib.hid hAM
  replace hBA := Lib.hid hBA
  replace hAB := Lib.hid hAB
  go_upto_region 14 with (fail)
  refine wp_region_lex (fun W => Below w9.heap.size w9 W) [0] [2, 3] [0, 1, 2, 3, 4] (by kernel_rfl) rfl (by kernel_rfl) (by kernel_rfl) (fun _ _ d _ _ h => by cases d <;> exact h) ?_
  have hS0 : Below w9.heap.size w9 w9.drew := (Below.refl _ _).drew
  repeat (first | (refine lexG_take _ ?_ rfl rfl rfl rfl (fun _ => ?_) ?_; rotate_left; (focus (go_simp; with_reducible rfl)); try simp only [Act.put, List.setIfInBounds_toArray, List.set_cons_zero, List.set_cons_succ]) | (refine lexG_held _ ?_ rfl rfl rfl rfl (by assumption) (fun _ hSw => ?_) ?_; rotate_left; (focus (have m0 := (r1.below hSw r1.lt).cell 0; have m1 := (r1.below hSw r1.lt).cell 1; have m2 := (r1.below hSw r1.lt).cell 2; have m3 := (r1.below hSw r1.lt).cell 3; have m4 := (r1.below hSw r1.lt).cell 4; clear hSw; go_simp; with_reducible rfl)); try simp only [Act.put, List.setIfInBounds_toArray, List.set_cons_zero, List.set_cons_succ]) | (refine lexG_skip _ rfl rfl (by assumption) ?_; try simp only [Act.put, List.setIfInBounds_toArray, List.set_cons_zero, List.set_cons_succ]))
  refine lexG_now _ rfl rfl rfl (fun K hK => ?_)
  go_wp2_with fail
  refine (list_val A8 l.length c8 _).mono ?_
  rintro e u1 ⟨rfl, hu1⟩
  dsimp only
  have hE1 := below_then hu1 hS0
  refine hK _ _ _ (fun _ h => h) hE1 ?_
  clear hK K hS0
  try simp only [Act.put, List.setIfInBounds_toArray, List.set_cons_zero, List.set_cons_succ]
  repeat (refine lexG_take _ ?_ rfl rfl rfl rfl (fun _ => ?_) ?_; rotate_left; (focus (go_simp; with_reducible rfl)); try simp only [Act.put, List.setIfInBounds_toArray, List.set_cons_zero, List.set_cons_succ])
  refine lexG_now _ rfl rfl rfl (fun K hK => ?_)
  go_wp2_with fail
  refine (hAM.out _ hE1).mono ?_
  rintro e u2 ⟨rfl, hu2⟩
  dsimp only
  have hE2 := below_then hu2 hE1
  refine hK _ _ _ (fun _ h => h) hE2 ?_
  clear hK K hE1 hu1 hu2
  try simp only [Act.put, List.setIfInBounds_toArray, List.set_cons_zero, List.set_cons_succ]
  repeat (refine lexG_take _ ?_ rfl rfl rfl rfl (fun _ => ?_) ?_; rotate_left; (focus (go_simp; with_reducible rfl)); try simp only [Act.put, List.setIfInBounds_toArray, List.set_cons_zero, List.set_cons_succ])
  refine lexG_nil ?_
  have l10 := below_then hE2 l9
  have r1 := r1.below hE2 r1.lt
  have r2 := r2.below hE2 r2.lt
  have m0 := r1.cell 0
  have m1 := r1.cell 1
  have m2 := r1.cell 2
  have m3 := r1.cell 3
  have m4 := r1.cell 4
  have n0 := r2.cell 0
  have n1 := r2.cell 1
  have n2 := r2.cell 2
  have n3 := r2.cell 3
  have n4 := r2.cell 4
  by_cases hk : k < l.length
  · rw [if_pos hk] at hXk
    subst hXk
    obtain rfl : (1 : Int) = Y := by omega
    clear hY
    go_wp2_with fail
    refine (hBA.out _ hE2).mono ?_
    clear m0 m1 m2 m3 m4 n0 n1 n2 n3 n4
    rintro e u3 ⟨rfl, hu3⟩
    dsimp only
    have r1 := r1.below hu3 r1.lt
    have r2 := r2.below hu3 r2.lt
    have hE3 := below_then hu3 hE2
    have l11 := below_then hu3 l10
    have m0 := r1.cell 0
    have m1 := r1.cell 1
    have m2 := r1.cell 2
    have m3 := r1.cell 3
    have m4 := r1.cell 4
    have n0 := r2.cell 0
    have n1 := r2.cell 1
    have n2 := r2.cell 2
    have n3 := r2.cell 3
    have n4 := r2.cell 4
    go_wp2_with fail
    refine (hAB.out _ hE3).mono ?_
    rintro e u4 ⟨rfl, hu4⟩
    dsimp only
    go_wp2_with fail
    go_ret
    exact ⟨rfl, below_then hu4 l11⟩
  · rw [if_neg hk] at hXk
    subst hXk
    obtain rfl : (0 : Int) = Y := by omega
    clear hY
    go_wp2_with fail
    refine (hBA.out _ hE2).mono ?_
    clear m0 m1 m2 m3 m4 n0 n1 n2 n3 n4
    rintro e u3 ⟨rfl, hu3⟩
    dsimp only
    have r1 := r1.below hu3 r1.lt
    have r2 := r2.below hu3 r2.lt
    have hE3 := below_then hu3 hE2
    have l11 := below_then hu3 l10
    have m0 := r1.cell 0
    have m1 := r1.cell 1
    have m2 := r1.cell 2
    have m3 := r1.cell 3
    have m4 := r1.cell 4
    have n0 := r2.cell 0
    have n1 := r2.cell 1
    have n2 := r2.cell 2
    have n3 := r2.cell 3
    have n4 := r2.cell 4
    go_wp2_with fail
    refine (hAB.out _ hE3).mono ?_
    rintro e u4 ⟨rfl, hu4⟩
    dsimp only
    go_wp2_with fail
    go_ret
    exact ⟨rfl, below_then hu4 l11⟩
end Go.Proofs.YtdbmffagibnibaaGreatDoor
