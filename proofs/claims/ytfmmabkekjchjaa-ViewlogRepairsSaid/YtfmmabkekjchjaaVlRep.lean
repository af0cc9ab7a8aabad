/- choirlaw26.ViewlogRepairs. -/
import Derived.Test.YtfmmabkekjchjaaVl12
import Derived.Test.YtfmmabkekjchjaaVl14
set_option linter.unusedSimpArgs false
set_option linter.unusedVariables false
namespace Go.Proofs.Ytfmmabkekjchjaa
open Go.RowKit
set_option maxRecDepth 100000

theorem LogR.join {w : World} {B c1 c2 c8 : Nat} {A1 A2 A8 : Option Addr} {l1 l2 : List (Nat × OpD)} {xs ys : List Value} {css cst : Nat → Array Value} (h1 : LogR w B A1 c1 l1 xs css) (h2 : LogR w B A2 c2 l2 ys cst) (hB : B ≤ w.heap.size)
    (ho : Own w 54 7 A8 (l1.length + l2.length) c8 (xs ++ ys)) : LogR w w.heap.size A8 c8 (l1 ++ l2) (xs ++ ys) (fun j => if j < l1.length then css j else cst (j - l1.length)) := by
  have e1 := h1.r.len
  refine ⟨by rw [List.length_append]; exact ho.reads_, by rw [List.length_append]; exact ho.le_cap, fun e => ?_, fun j x hj => ?_, fun j x hj => ?_, fun x hx => ?_, fun u hu => ?_⟩
  · rcases ho.2 with ⟨_, _, hc⟩ | ⟨g, cur, hA, _⟩
    · exact hc
    · rw [e] at hA; cases hA
  · split
    · rename_i h
      rw [List.getElem?_append_left h] at hj
      exact (h1.hx j x hj).up hB
    · rename_i h
      rw [List.getElem?_append_right (by omega)] at hj
      exact (h2.hx _ x hj).up hB
  · split
    · rename_i h
      rw [List.getElem?_append_left h] at hj
      rw [← h1.hxs j x hj, List.drop_append_of_le_length (by omega), List.take_append_of_le_length (by rw [List.length_drop]; omega)]
    · rename_i h
      rw [List.getElem?_append_right (by omega)] at hj
      rw [← h2.hxs _ x hj, show j * 7 = xs.length + (j - l1.length) * 7 by omega, ← List.drop_drop, List.drop_left' rfl]
  · rcases List.mem_append.1 hx with hx | hx
    · exact h1.hv x hx
    · exact h2.hv x hx
  · rcases List.mem_append.1 hu with hu | hu
    · exact h1.one u hu
    · exact h2.one u hu
theorem wpList_append_mine_w {P : Program} {w : World} {ops : Array Oper} {rest : List Oper} {o : Oper} {a : Act} {Q : Exit → Act → World → Prop} (hw : Region.wanted o (yielded ops a.tmps) = true) (s x : Operand) (t tx : TypeId)
    (ho : o.op = .call { callee := .builtin .append, args := #[s, x], argTypes := #[t, tx] })
    (e : TypeId) (i : TypeInfo) (z : Value) (size bytes : Nat) (ht : P.underlying t = some (.slice e)) (hi : P.info? e = some i) (hz : i.zero = some z)
    (hsize : i.size = size) (hby : i.bytes = bytes) (hzs : z.cells.size = size) {A : Option Addr} {n c : Nat} {xs : List Value} (hs : a.eval s = .slice A n c) (hown : Own w e size A n c xs)
    {y : Value} {m : Nat} {news : List Value} (hx : a.eval x = y) (hsrc : Src P size tx y m news w) (h63 : n + m ≤ maxLen) (hbytes : (n + m) * bytes ≤ 140737488355328)
    (h : ∀ A' c' w', Own w' e size A' (n + m) c' (xs ++ news) → w.grownBy w' (bOf A) → (bOf A' = bOf A ∨ bOf A' = some w.heap.size) → wpList P ops Q rest (a.put o.dst (.slice A' (n + m) c')) w') :
    wpList P ops Q (o :: rest) a w :=
  wpList_step fun K hK => by
    rw [if_pos hw]
    exact wp_append_mine s x t tx ho e i z size bytes ht hi hz hsize hby hzs hs hown hx hsrc h63 hbytes fun A' c' w' h2 h3 h4 => hK _ _ (h A' c' w' h2 h3 h4)
theorem OkLog.drop {l : List (Nat × OpD)} (h : OkLog l) (k : Nat) : OkLog (l.drop k) := fun x hx => h x (List.mem_of_mem_drop hx)
theorem OkLog.take {l : List (Nat × OpD)} (h : OkLog l) (k : Nat) : OkLog (l.take k) := fun x hx => h x (List.mem_of_mem_take hx)
theorem OkLog.app {l l' : List (Nat × OpD)} (h : OkLog l) (h' : OkLog l') : OkLog (l ++ l') := fun x hx => (List.mem_append.1 hx).elim (h x) (h' x)
theorem tmod_nat (a b : Nat) : (a : Int).tmod (b : Int) = ((a % b : Nat) : Int) := by rw [Int.tmod_eq_emod_of_nonneg (by omega)]; exact (Int.natCast_emod a b).symm

set_option maxHeartbeats 25600000 in
theorem viewlogRepairs_walk {W : World} {A B : Option Addr} {ca cb' : Nat} {a b : List UInt8} (cut o : Nat) (su : Int) (hra : Reads W W.heap.size 1 A a.length (bys a)) (hrb : Reads W W.heap.size 1 B b.length (bys b)) (hcut : cut ≤ 255) (ho : o ≤ 255) :
    Calls Try.prog 4 #[.slice A a.length ca, .slice B b.length cb', .int .u8 (cut : Int), .int .i64 su, .int .u8 (o : Int)] W (fun e W' => e = .returned (.bool true) ∧ Below W.heap.size W W') := by
  obtain ⟨i0, hi, hz0, hz1, hz2⟩ := info_parts info_ent
  have hkn := fun W => known_true W
  have hlA := fun W2 (hW : Below W.heap.size W W2) (h20 : a.length ≤ 20) => log_walk (c := ca) (hra.below hW) hW.size (by omega)
  have hlB := fun W2 (hW : Below W.heap.size W W2) (h20 : b.length ≤ 20) => log_walk (c := cb') (hrb.below hW) hW.size (by omega)
  generalize a.length = na at *
  generalize b.length = nb at *
  replace hkn := Lib.hid hkn
  replace hlA := Lib.hid hlA
  replace hlB := Lib.hid hlB
  clear hra hrb
  go_enter Try.func4, Try.ntmps4
  go_wp2_with fail
  refine (hkn.out _).mono ?_
  rintro e w1 ⟨rfl, hb1⟩
  try dsimp only
  by_cases h20 : 20 < na
  · have d1 : decide ((20 : Int) < (na : Int)) = true := decide_eq_true (by omega)
    go_wp2_with fail
    go_ret
    exact ⟨rfl, hb1⟩
  have d1 : decide ((20 : Int) < (na : Int)) = false := decide_eq_false (by omega)
  have d1' : decide (20 < na) = false := decide_eq_false h20
  by_cases h20' : 20 < nb
  · have d2 : decide ((20 : Int) < (nb : Int)) = true := decide_eq_true (by omega)
    have d2' : decide (20 < nb) = true := decide_eq_true h20'
    go_wp2_with fail
    go_ret
    exact ⟨rfl, hb1⟩
  have d2 : decide ((20 : Int) < (nb : Int)) = false := decide_eq_false (by omega)
  have d2' : decide (20 < nb) = false := decide_eq_false h20'
  go_wp2_with fail
  refine (hlA.out _ hb1 (by omega)).mono ?_
  rintro e w2 ⟨lA, A1, c1, xs1, css1, rfl, hl1, ok1, P1, hb2'⟩
  try dsimp only
  have hb2 := below_then hb2' hb1
  have hR1 := P1.reads (S := fun _ => False) (Upd.refl _ w2) (fun _ hf => hf.elim)
  have hc1 := hR1.hc
  rw [hl1] at hc1
  obtain ⟨k, hk⟩ : ∃ k, cut % (na + 1) = k := ⟨_, rfl⟩
  have hkl : k ≤ na := by rw [← hk]; have := Nat.mod_lt cut (show 0 < na + 1 by omega); omega
  have tk : (cut : Int).tmod ((na : Int) + 1) = (k : Int) := by have := tmod_nat cut (na + 1); rw [hk] at this; exact this
  have wc : IntKind.i64.wrap (cut : Int) = (cut : Int) := by rw [IntKind.wrap_i64]; omega
  have wn : IntKind.i64.wrap ((na : Int) + 1) = (na : Int) + 1 := by rw [IntKind.wrap_i64]; omega
  have hz1' : ((na : Int) + 1 == 0) = false := by rw [beq_eq_false_iff_ne]; omega
  have hz1'' : ¬ (na : Int) + 1 = 0 := by omega
  have hkc : k ≤ c1 := by omega
  have hF := hR1.first (k := k) (by omega)
  have hFl : (lA.take k).length = k := by rw [List.length_take]; omega
  have hFr := hF.r
  rw [hFl] at hFr
  have hF1 := hF.one
  have hon : Own w2 54 7 none 0 0 [] := Own.none_
  clear hk
  go_wp2_with (at_builtin; go_must (refine wpList_append_mine rfl _ _ 29 29 rfl 54 i0 _ 7 80 Try.underlying29 hi hz0 hz1 hz2 rfl rfl hon rfl (Src.ofReads Try.underlying29 _ hFr hF1) (by unfold maxLen; omega) (by omega) (fun A3 c3 w3 ho3 hg3 hat3 => ?_)))
  have hb3' : Below w2.heap.size w2 w3 := (Below.refl _ _).grown hg3 (Nat.le_refl _) (fun k hk => by cases hk)
  have hb3 := below_then hb3' hb2
  have hA3 : ∀ g, bOf A3 = some g → w2.heap.size ≤ g := fun g hg => by
    rcases hat3 with h | h <;> rw [h] at hg
    · cases hg
    · cases hg; exact Nat.le_refl _
  rw [Nat.zero_add] at ho3
  rw [List.nil_append] at ho3
  refine (hlB.out _ hb3 (by omega)).mono ?_
  rintro e w4 ⟨lB, A4, c4, xs4, css4, rfl, hl4, ok4, P4, hb4'⟩
  try dsimp only
  have hb4 := below_then hb4' hb3
  have hR4 := P4.reads (S := fun _ => False) (Upd.refl _ w4) (fun _ hf => hf.elim)
  have hr4 := hR4.r
  rw [hl4] at hr4
  have h41 := hR4.one
  have ho4 := ho3.below hb4' (Nat.le_refl _)
  clear hF hFr hF1 hon hat3 hg3
  go_wp2_with (at_builtin; go_must (refine wpList_append_mine rfl _ _ 29 29 rfl 54 i0 _ 7 80 Try.underlying29 hi hz0 hz1 hz2 rfl rfl ho4 rfl (Src.ofReads Try.underlying29 _ hr4 h41) (by unfold maxLen; omega) (by omega) (fun A5 c5 w5 ho5 hg5 hat5 => ?_)))
  have hu45 : Upd (fun x => some x = bOf A3) w4 w5 := (Upd.refl _ w4).grown hg5 (fun k e _ => e.symm)
  have hb25 : Below w2.heap.size w2 w5 := (below_then hb4' hb3').grown hg5 (Nat.le_trans hb3'.size hb4'.size) (fun g hg => hA3 g hg)
  have hR5 := (P1.below hb25).reads (S := fun _ => False) (Upd.refl _ w5) (fun _ hf => hf.elim)
  have hR5b := P4.reads (W := w5) hu45 (fun g hg => ho3.lt hg.symm)
  have hRw := (hR5.first (k := k) (by omega)).join hR5b (Nat.le_refl _) (by rw [hFl, hl4]; exact ho5)
  have hb5 := below_then hb25 hb2
  have hwl : (lA.take k ++ lB).length = k + nb := by rw [List.length_append, hFl, hl4]
  have okw := (ok1.take k).app ok4
  obtain ⟨want, hwant⟩ : ∃ want, lA.take k ++ lB = want := ⟨_, rfl⟩
  rw [hwant] at hRw hwl okw
  obtain ⟨wl, hwl'⟩ : ∃ wl, k + nb = wl := ⟨_, rfl⟩
  rw [hwl'] at hwl ⊢
  have hwl40 : wl ≤ 40 := by omega
  generalize xs1.take (k * 7) ++ xs4 = xsw at *
  generalize (fun j => if j < (lA.take k).length then css1 j else css4 (j - (lA.take k).length)) = cssw at *
  have hR1w : LogR w5 w5.heap.size A1 c1 lA xs1 css1 := hR5
  clear P1 P4 hR1 hR4 hR5 hR5b hr4 h41 ho4 ho5 hg5 hat5 ho3 hu45 hb25 hb4' hb3' hA3 hb2' hFl hl4 ok4 hwant hwl'
  replace hRw := Lib.hid hRw
  replace hR1w := Lib.hid hR1w
  replace hwl := Lib.hid hwl
  replace hl1 := Lib.hid hl1
  replace okw := Lib.hid okw
  replace ok1 := Lib.hid ok1
  have hg6 := Blk.new w5 3 #[.int .i64 su, .int .i64 (su.tmod 20)]
  have hb6 := hb5.alloc hb5.size (.cells #[.int .i64 su, .int .i64 (su.tmod 20)] 3)
  have hb56 := (Below.refl w5.heap.size w5).alloc (Nat.le_refl _) (.cells #[.int .i64 su, .int .i64 (su.tmod 20)] 3)
  obtain ⟨g3, hgg3⟩ : ∃ g, w5.heap.size = g := ⟨_, rfl⟩
  rw [hgg3] at hg6
  have hg6l := hg6.lt
  go_wp2_with fail
  generalize w5.alloc (.cells #[.int .i64 su, .int .i64 (su.tmod 20)] 3) = w6 at *
  try rw [hgg3]
  replace hgg3 := Lib.hid hgg3
  go_loopw [51] (fun s7 wr => ∃ i : Nat, s7 = .int .i64 (i : Int) ∧ i ≤ 2 ∧ Below w6.heap.size w6 wr) (fun i _ => 2 - (intOf i).toNat)
  case atStart => exact ⟨0, rfl, Nat.zero_le _, Below.refl _ _⟩
  case round =>
    obtain ⟨i, rfl, hi2, hb6r⟩ := hrel
    have hiw : IntKind.i64.wrap ((i : Int) + 1) = ((i + 1 : Nat) : Int) := by rw [IntKind.wrap_i64]; omega
    have hb5r := below_then hb6r hb56
    by_cases hit : i < 2
    · have d6 : decide ((i : Int) < 2) = true := decide_eq_true (by omega)
      have d6' : decide (i < 2) = true := decide_eq_true hit
      obtain ⟨m, hm⟩ : ∃ m, wr.cell? ⟨g3, i, none⟩ = some (.int .i64 m) := by
        rw [(hg6.below hb6r hg6l).cell]
        rcases i with _ | _ | i
        · exact ⟨su, rfl⟩
        · exact ⟨su.tmod 20, rfl⟩
        · omega
      have hr1 := vl_repair (su := m) (hR1w.out.below hb5r) (hRw.out.below hb5r) hb5r.size (by rw [hl1.out]; omega) (by rw [hwl.out]; omega)
      have hr2 := fun W2 (hW : Below wr.heap.size wr W2) => ref_repair (w := W2) (su := m) (hR1w.out.below (below_then hW hb5r)) (hRw.out.below (below_then hW hb5r)) (below_then hW hb5r).size (by rw [hl1.out]; omega) (by rw [hwl.out]; omega)
      rw [hl1.out, hwl.out] at hr1 hr2
      replace hr1 := Lib.hid hr1
      replace hr2 := Lib.hid hr2
      go_wp2_with fail
      refine hr1.out.mono ?_
      rintro e w7 ⟨hb7, hres⟩
      have hb67 := below_then hb7 hb6r
      rcases hres with ⟨hno, rfl⟩ | ⟨hyes, A7, c7, xs7, css7, rfl, P7⟩
      · try dsimp only
        go_wp2_with fail
        refine (hr2.out _ hb7).mono ?_
        rintro e w8 ⟨hb8, hres8⟩
        rcases hres8 with ⟨-, rfl⟩ | ⟨hyes, -⟩
        rotate_left
        · rw [hno] at hyes; cases hyes
        try dsimp only
        have hen := entries_true (w := w8) (c := 0) (c' := 0) (LogR.nil w8 w8.heap.size) (LogR.nil w8 w8.heap.size) (Nat.le_refl _) (by decide)
        replace hen := Lib.hid hen
        go_wp2_with fail
        refine hen.out.mono ?_
        rintro e w9 ⟨rfl, hb9⟩
        try dsimp only
        have hbn := below_then hb9 (below_then hb8 hb67)
        go_wp2_with fail
        exact ⟨⟨i + 1, by simp [hiw], by omega, hbn⟩, by simp [intOf]; omega⟩
      · obtain ⟨sn, hsn⟩ : ∃ sn, sameN lA want = sn := ⟨_, rfl⟩
        have hle := sameN_le lA want
        have htak := sameN_take lA want ok1.out okw.out
        rw [hsn] at P7 hle htak
        rw [(okw.out.drop sn).clean] at P7
        rw [hl1.out, hwl.out] at hle
        have hdl : (want.drop sn).length = wl - sn := by rw [List.length_drop, hwl.out]
        rw [hsn, hwl.out]
        try dsimp only
        go_wp2_with fail
        refine (hr2.out _ hb7).mono ?_
        rintro e w8 ⟨hb8, hres8⟩
        rcases hres8 with ⟨hno, -⟩ | ⟨-, A8, c8, xs8, css8, rfl, L8⟩
        · rw [hyes] at hno; cases hno
        rw [hsn] at L8
        rw [hsn, hwl.out]
        try dsimp only
        have hb68 := below_then hb8 hb67
        have hb58 := below_then hb68 hb56
        have hL7 := (P7.below hb8).reads (S := fun _ => False) (Upd.refl _ w8) (fun _ hf => hf.elim)
        have hen := entries_true (w := w8) hL7 (L8.up hb58.size) (Nat.le_refl _) (c := c7) (c' := c8) (by rw [hdl]; omega)
        rw [hdl] at hen
        replace hen := Lib.hid hen
        have hnn : ((sn : Int) != (sn : Int)) = false := bne_self_eq_false _
        go_wp2_with fail
        refine hen.out.mono ?_
        rintro e w9 ⟨rfl, hb9⟩
        try dsimp only
        have hb59 := below_then hb9 hb58
        have hb79 := below_then hb9 hb8
        have hR9 := (hR1w.out.below hb59).first (k := sn) (by rw [hl1.out]; omega)
        have hsl : (lA.take sn).length = sn := by rw [List.length_take, hl1.out]; omega
        have hr9 := hR9.r
        rw [hsl] at hr9
        have h91 := hR9.one
        have hon9 : Own w9 54 7 none 0 0 [] := Own.none_
        have hsc : sn ≤ c1 := by omega
        have hj1 : lA.take sn ++ want.drop sn = want := by rw [htak, List.take_append_drop]
        clear hR9 hen hL7
        go_wp2_with (at_builtin; first | (have _hq := ho10; clear _hq; go_must (refine wpList_append_mine_w rfl _ _ 29 29 rfl 54 i0 _ 7 80 Try.underlying29 hi hz0 hz1 hz2 rfl rfl ho10 rfl (Src.ofReads Try.underlying29 _ hr10 h101) (by unfold maxLen; omega) (by omega) (fun A11 c11 w11 ho11 hg11 hat11 => ?_))) | (go_must (refine wpList_append_mine_w rfl _ _ 29 29 rfl 54 i0 _ 7 80 Try.underlying29 hi hz0 hz1 hz2 rfl rfl hon9 rfl (Src.ofReads Try.underlying29 _ hr9 h91) (by unfold maxLen; omega) (by omega) (fun A10 c10 w10 ho10 hg10 hat10 => ?_)); have hb910 : Below w9.heap.size w9 w10 := (Below.refl _ _).grown hg10 (Nat.le_refl _) (fun k hk => by cases hk); have hL10 := (P7.below (below_then hb910 hb79)).reads (S := fun _ => False) (Upd.refl _ w10) (fun _ hf => hf.elim); have hr10 := hL10.r; rw [hdl] at hr10; have h101 := hL10.one; rw [Nat.zero_add, List.nil_append] at ho10))
        have hu1011 : Upd (fun x => some x = bOf A10) w10 w11 := (Upd.refl _ w10).grown hg11 (fun k e _ => e.symm)
        have hA10 : ∀ g, bOf A10 = some g → w9.heap.size ≤ g := fun g hg => by
          rcases hat10 with h | h <;> rw [h] at hg
          · cases hg
          · cases hg; exact Nat.le_refl _
        have hb911 : Below w9.heap.size w9 w11 := hb910.grown hg11 hb910.size (fun g hg => hA10 g hg)
        have hL11 := (P7.below (below_then hb911 hb79)).reads (S := fun _ => False) (Upd.refl _ w11) (fun _ hf => hf.elim)
        have hb511 := below_then hb911 hb59
        have hJ := (((hR1w.out.below hb511).first (k := sn) (by rw [hl1.out]; omega)).up hb511.size).join hL11 (Nat.le_refl _) (by rw [hsl, hdl]; exact ho11)
        rw [hj1] at hJ
        have hen2 := entries_true (c := c11) (c' := c5) hJ ((hRw.out.below hb511).up hb511.size) (Nat.le_refl _) (by rw [hwl.out]; omega)
        rw [hwl.out] at hen2
        try rw [show sn + (wl - sn) = wl by omega]
        clear hJ hL11 hr10 h101 hL10
        refine hen2.mono ?_
        clear hen2
        rintro e w12 ⟨rfl, hb12⟩
        try dsimp only
        have hbn := below_then (below_then hb12 hb911) (below_then hb9 hb68)
        go_wp2_with fail
        exact ⟨⟨i + 1, by simp [hiw], by omega, hbn⟩, by simp [intOf]; omega⟩
    · have hij2 : i = 2 := by omega
      have d6 : decide ((i : Int) < 2) = false := decide_eq_false (by omega)
      have d6' : decide (i < 2) = false := decide_eq_false hit
      replace hij2 := Lib.hid hij2
      have t4 : (o : Int).tmod 4 = ((o % 4 : Nat) : Int) := tmod_nat o 4
      obtain ⟨o4, ho4⟩ : ∃ o4, o % 4 = o4 := ⟨_, rfl⟩
      rw [ho4] at t4
      have ho4l : o4 ≤ 3 := by omega
      have td : (o : Int).tdiv 4 = (o : Int) / 4 := Int.tdiv_eq_ediv_of_nonneg (by omega)
      obtain ⟨od, hod⟩ : ∃ od : Nat, (o : Int) / 4 = (od : Int) := ⟨o / 4, by omega⟩
      have t24 : (od : Int).tmod 24 = ((od % 24 : Nat) : Int) := tmod_nat od 24
      obtain ⟨om, hom⟩ : ∃ om, od % 24 = om := ⟨_, rfl⟩
      rw [hom] at t24
      have homl : om ≤ 23 := by omega
      have w4' : IntKind.u8.wrap (o4 : Int) = (o4 : Int) := by unfold IntKind.wrap; simp [IntKind.bits, IntKind.signed]; omega
      have w44 : IntKind.u32.wrap (o4 : Int) = (o4 : Int) := by unfold IntKind.wrap; simp [IntKind.bits, IntKind.signed]; omega
      have wod : IntKind.u8.wrap (od : Int) = (od : Int) := by unfold IntKind.wrap; simp [IntKind.bits, IntKind.signed]; omega
      have wom : IntKind.u8.wrap (om : Int) = (om : Int) := by unfold IntKind.wrap; simp [IntKind.bits, IntKind.signed]; omega
      have wom2 : IntKind.u32.wrap (om : Int) = (om : Int) := by unfold IntKind.wrap; simp [IntKind.bits, IntKind.signed]; omega
      obtain ⟨o24, ho24⟩ : ∃ o24 : Nat, (om : Int) + 1 = (o24 : Int) := ⟨om + 1, by omega⟩
      have w24 : IntKind.u32.wrap (o24 : Int) = (o24 : Int) := by unfold IntKind.wrap; simp [IntKind.bits, IntKind.signed]; omega
      have hx8 := Blk.new wr 50 #[.int .u32 (o4 : Int), .int .u32 (o24 : Int), .int .u16 0, .string ⟨#[]⟩, .string ⟨#[]⟩, .slice none 0 0]
      have hb8 := (Below.refl wr.heap.size wr).alloc (Nat.le_refl _) (.cells #[.int .u32 (o4 : Int), .int .u32 (o24 : Int), .int .u16 0, .string ⟨#[]⟩, .string ⟨#[]⟩, .slice none 0 0] 50)
      have hf1 := fun W2 (hW : Below wr.heap.size wr W2) => vl_fresh (w := W2) (oc := o4) (os_ := o24) (on := 0) (oL := 0) (occ := 0) (og := ⟨#[]⟩) (om := ⟨#[]⟩) (oA := none) (hR1w.out.below (below_then hW hb5r)) (below_then hW hb5r).size (by rw [hl1.out]; omega)
      have hf2 := fun W2 (hW : Below wr.heap.size wr W2) => ref_fresh (w := W2) (oc := o4) (os_ := o24) (on := 0) (oL := 0) (occ := 0) (og := ⟨#[]⟩) (om := ⟨#[]⟩) (oA := none) (hR1w.out.below (below_then hW hb5r)) (below_then hW hb5r).size (by rw [hl1.out]; omega)
      rw [hl1.out] at hf1 hf2
      generalize freshB lA o4 o24 0 = q at hf1 hf2
      have hqq : (q == q) = true := beq_self_eq_true _
      replace hf1 := Lib.hid hf1
      replace hf2 := Lib.hid hf2
      obtain ⟨gx, hgx⟩ : ∃ g, wr.heap.size = g := ⟨_, rfl⟩
      rw [hgx] at hx8
      go_upto_region 18 with (fail)
      generalize wr.alloc (.cells #[.int .u32 (o4 : Int), .int .u32 (o24 : Int), .int .u16 0, .string ⟨#[]⟩, .string ⟨#[]⟩, .slice none 0 0] 50) = w9 at *
      have hx8l := hx8.lt
      have hS0 : Below w9.heap.size w9 w9.drew := (Below.refl _ _).drew
      refine wp_region_lex (fun W => Below w9.heap.size w9 W) [1, 4] [2, 5] [0, 1, 3, 4, 2, 5, 6, 7] (by kernel_rfl) rfl (by kernel_rfl) (by kernel_rfl) (fun _ _ d _ _ h => by cases d <;> exact h) ?_
      repeat (first | (refine lexG_take _ ?_ rfl rfl rfl rfl (fun _ => ?_) ?_; rotate_left; (focus (go_simp; with_reducible rfl)); try simp only [Act.put, List.setIfInBounds_toArray, List.set_cons_zero, List.set_cons_succ]) | (refine lexG_held _ ?_ rfl rfl rfl rfl (by assumption) (fun _ hSw => ?_) ?_; rotate_left; (focus (have h1 := (hx8.below hSw hx8l).op6; clear hSw; go_simp; with_reducible rfl)); try simp only [Act.put, List.setIfInBounds_toArray, List.set_cons_zero, List.set_cons_succ]) | (refine lexG_skip _ rfl rfl (by assumption) ?_; try simp only [Act.put, List.setIfInBounds_toArray, List.set_cons_zero, List.set_cons_succ]))
      refine lexG_now _ rfl rfl rfl (fun K0 hK => ?_)
      go_wp2_with fail
      refine (hf1.out _ (below_then hS0 hb8)).mono ?_
      rintro e w10 ⟨rfl, hb10⟩
      try dsimp only
      have hS1 := below_then hb10 hS0
      refine hK _ _ _ (fun _ h => h) hS1 ?_
      clear hK K0
      try simp only [Act.put, List.setIfInBounds_toArray, List.set_cons_zero, List.set_cons_succ]
      repeat (first | (refine lexG_take _ ?_ rfl rfl rfl rfl (fun _ => ?_) ?_; rotate_left; (focus (go_simp; with_reducible rfl)); try simp only [Act.put, List.setIfInBounds_toArray, List.set_cons_zero, List.set_cons_succ]) | (refine lexG_held _ ?_ rfl rfl rfl rfl (by assumption) (fun _ hSw => ?_) ?_; rotate_left; (focus (have h1 := (hx8.below hSw hx8l).op6; clear hSw; go_simp; with_reducible rfl)); try simp only [Act.put, List.setIfInBounds_toArray, List.set_cons_zero, List.set_cons_succ]) | (refine lexG_skip _ rfl rfl (by assumption) ?_; try simp only [Act.put, List.setIfInBounds_toArray, List.set_cons_zero, List.set_cons_succ]))
      refine lexG_now _ rfl rfl rfl (fun K0 hK => ?_)
      go_wp2_with fail
      refine (hf2.out _ (below_then hS1 hb8)).mono ?_
      rintro e w11 ⟨rfl, hb11⟩
      try dsimp only
      have hS2 := below_then hb11 hS1
      refine hK _ _ _ (fun _ h => h) hS2 ?_
      clear hK K0
      try simp only [Act.put, List.setIfInBounds_toArray, List.set_cons_zero, List.set_cons_succ]
      repeat (first | (refine lexG_take _ ?_ rfl rfl rfl rfl (fun _ => ?_) ?_; rotate_left; (focus (go_simp; with_reducible rfl)); try simp only [Act.put, List.setIfInBounds_toArray, List.set_cons_zero, List.set_cons_succ]) | (refine lexG_held _ ?_ rfl rfl rfl rfl (by assumption) (fun _ hSw => ?_) ?_; rotate_left; (focus (have h1 := (hx8.below hSw hx8l).op6; clear hSw; go_simp; with_reducible rfl)); try simp only [Act.put, List.setIfInBounds_toArray, List.set_cons_zero, List.set_cons_succ]) | (refine lexG_skip _ rfl rfl (by assumption) ?_; try simp only [Act.put, List.setIfInBounds_toArray, List.set_cons_zero, List.set_cons_succ]))
      refine lexG_nil ?_
      have hbe := below_then (below_then (below_then hS2 hb8) hb5r) hb5
      go_wp2_with fail
      go_ret
      exact ⟨rfl, hbe⟩
theorem viewlogRepairs_int {W : World} {A B : Option Addr} {ca cb' : Nat} {a b : List UInt8} (cut su o : Int) (hra : Reads W W.heap.size 1 A a.length (bys a)) (hrb : Reads W W.heap.size 1 B b.length (bys b)) (c0 : 0 ≤ cut) (c9 : cut ≤ 255) (o0 : 0 ≤ o) (o9 : o ≤ 255) :
    Calls Try.prog 4 #[.slice A a.length ca, .slice B b.length cb', .int .u8 cut, .int .i64 su, .int .u8 o] W (fun e W' => e = .returned (.bool true) ∧ Below W.heap.size W W') := by
  obtain ⟨c, rfl⟩ : ∃ n : Nat, cut = (n : Int) := ⟨cut.toNat, by omega⟩
  obtain ⟨d, rfl⟩ : ∃ n : Nat, o = (n : Int) := ⟨o.toNat, by omega⟩
  exact viewlogRepairs_walk c d su hra hrb (by omega) (by omega)
end Go.Proofs.Ytfmmabkekjchjaa
