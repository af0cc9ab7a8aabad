/- choirseat.Op. -/
import Derived.Test.YtlkokkbikkbaoaaSt6
import Derived.Deep.CutRange
set_option linter.unusedSimpArgs false
set_option linter.unusedVariables false
set_option linter.unusedSimpArgs false
set_option linter.unusedVariables false
namespace Go.Proofs.Ytlkokkbikkbaoaa
open Go.RowKit
set_option maxRecDepth 100000

/-- A row of values all of whose memory meets P. -/
structure VRowP (w : World) (P : Nat → Prop) (l : List Val) (A : Option Addr) (c : Nat) (xs : List Value) (css : Nat → Array Value) : Prop where
  ho : Own w 64 5 A l.length c xs
  hA : ∀ g, bOf A = some g → P g
  hx : ∀ k v, l[k]? = some v → VOwn w (fun g => P g ∧ some g ≠ bOf A) v (css k)
  hxs : ∀ k, k < l.length → (xs.drop (k * 5)).take 5 = (css k).toList
theorem VRow.toP {w : World} {b : Nat} {P : Nat → Prop} {l : List Val} {A : Option Addr} {c : Nat} {xs : List Value} {css : Nat → Array Value} (R : VRow w b l A c xs css) (hP : ∀ g, b ≤ g → g < w.heap.size → P g) : VRowP w P l A c xs css :=
  ⟨R.ho, fun g hg => hP g (R.hA g hg) (R.ho.lt hg), fun k v hv => (R.hx k v hv).mono (fun g h1 h2 => ⟨hP g h2.1 h1, h2.2⟩), R.hxs⟩
theorem VRowP.toRow {w : World} {b : Nat} {P : Nat → Prop} {l : List Val} {A : Option Addr} {c : Nat} {xs : List Value} {css : Nat → Array Value} (R : VRowP w P l A c xs css) (hP : ∀ g, P g → b ≤ g) : VRow w b l A c xs css :=
  ⟨R.ho, fun g hg => hP g (R.hA g hg), fun k v hv => (R.hx k v hv).mono (fun g _ h2 => ⟨hP g h2.1, h2.2⟩), R.hxs⟩
theorem VRowP.upd {w w' : World} {P S : Nat → Prop} {l : List Val} {A : Option Addr} {c : Nat} {xs : List Value} {css : Nat → Array Value} (R : VRowP w P l A c xs css) (hu : Upd S w w') (hS : ∀ g, P g → ¬ S g) : VRowP w' P l A c xs css :=
  ⟨R.ho.upd hu (fun g hg => hS g (R.hA g hg)), R.hA, fun k v hv => (R.hx k v hv).upd hu (fun g hg => hS g hg.1), R.hxs⟩
theorem VRowP.push {w w8 : World} {P : Nat → Prop} {c8 : Nat} {A8 : Option Addr} {v : Val} {cs : Array Value} {l : List Val} {A : Option Addr} {c : Nat} {xs : List Value} {css : Nat → Array Value} (R : VRowP w P l A c xs css) (hP : ∀ g, w.heap.size ≤ g → P g) (hv : VOwn w (fun g => P g ∧ some g ≠ bOf A) v cs)
    (ho8 : Own w8 64 5 A8 (l.length + 1) c8 (xs ++ cs.toList)) (hg8 : w.grownBy w8 (bOf A)) (hat8 : bOf A8 = bOf A ∨ bOf A8 = some w.heap.size) :
    VRowP w8 P (l ++ [v]) A8 c8 (xs ++ cs.toList) (fun k => if k = l.length then cs else css k) := by
  have hxl : xs.length = l.length * 5 := R.ho.1
  have hu8 : Upd (fun x => some x = bOf A) w w8 := (Upd.refl _ w).grown hg8 (fun k e _ => e.symm)
  have hfresh : ∀ g, g < w.heap.size → some g ≠ bOf A → some g ≠ bOf A8 := by
    intro g hg hne
    rcases hat8 with e | e
    · rw [e]; exact hne
    · rw [e]
      intro e2
      cases e2
      omega
  refine ⟨by rw [List.length_append]; exact ho8, fun g hg => ?_, fun k u hu => ?_, fun k hk => ?_⟩
  · rcases hat8 with e | e
    · rw [e] at hg; exact R.hA g hg
    · rw [e] at hg; cases hg; exact hP _ (Nat.le_refl _)
  · try dsimp only
    have go : ∀ x ds, VOwn w (fun g => P g ∧ some g ≠ bOf A) x ds → VOwn w8 (fun g => P g ∧ some g ≠ bOf A8) x ds := fun x ds h =>
      ((h.mono (Q := fun g => (P g ∧ some g ≠ bOf A) ∧ g < w.heap.size) (fun g h1 h2 => ⟨h2, h1⟩)).upd hu8 (fun g hg e => hg.1.2 e)).mono (fun g _ hg => ⟨hg.1.1, hfresh g hg.2 hg.1.2⟩)
    rcases Nat.lt_trichotomy k l.length with h | h | h
    · rw [List.getElem?_append_left h] at hu
      rw [if_neg (by omega)]
      exact go _ _ (R.hx k u hu)
    · subst h
      rw [List.getElem?_append_right (by omega)] at hu
      simp at hu
      subst hu
      rw [if_pos rfl]
      exact go _ _ hv
    · rw [List.getElem?_eq_none (by simp; omega)] at hu; cases hu
  · try dsimp only
    rw [List.length_append] at hk
    rcases Nat.lt_or_ge k l.length with h | h
    · rw [if_neg (by omega), ← R.hxs k h, List.drop_append_of_le_length (by omega), List.take_append_of_le_length (by rw [List.length_drop]; omega)]
    · have : k = l.length := by simp at hk; omega
      subst this
      rw [if_pos rfl, List.drop_left' hxl]
      exact List.take_of_length_le (by have := hv.size; simp [this])

structure SoRel (w3 wr : World) (z y b0 : Nat) (rq : Array Value) (gg mm : ByteArray) (j : Nat) (l : List Val) (A : Option Addr) (c : Nat) (xs : List Value) (css : Nat → Array Value) : Prop where
  j3 : j ≤ 3
  hq : Blk wr b0 47 rq
  hz : Blk wr z 38 #[.int .u32 0, .int .u32 0, .int .u16 0, .string ⟨#[]⟩, .string ⟨#[]⟩, .slice none 0 0]
  hy : Blk wr y 38 #[.int .u32 0, .int .u32 0, .int .u16 0, .string gg, .string mm, .slice A l.length c]
  R : VRowP wr (fun g => w3.heap.size ≤ g ∧ g ≠ y) l A c xs css
  all : ∀ v ∈ l, SeatV 2 1102 v
  len : l.length ≤ 3 + j
  hb : Below w3.heap.size w3 wr

set_option maxHeartbeats 25600000 in
theorem seat_op_walk (w : World) {G M K N : Int} {F : Nat} (g0 : 0 ≤ G) (g9 : G ≤ 255) (m0 : 0 ≤ M) (m9 : M ≤ 255) (k0 : 0 ≤ K) (k9 : K ≤ 255) (n0 : -32768 ≤ N) (n9 : N ≤ 32767) (hF : F < 18446744073709551616) : Calls Try.prog 7 #[.agg #[.int .u8 G, .int .u8 M, .int .u8 K, .int .i16 N, .float .f64 F]] w (OpS w) := by
  obtain ⟨jj, gi, gz0, gz1, gz2⟩ := info_parts info_val
  have htm : G.tmod 8 = G % 8 := Int.tmod_eq_emod_of_nonneg g0
  obtain ⟨g, hg⟩ : ∃ g : Nat, G % 8 = (g : Int) := ⟨(G % 8).toNat, by omega⟩
  have hg8 : g < 8 := by omega
  have hq1 := (Blk.new w 47 #[.int .u8 G, .int .u8 M, .int .u8 K, .int .i16 N, .float .f64 F]).alloc (.cells #[.int .u32 0, .int .u32 0, .int .u16 0, .string ⟨#[]⟩, .string ⟨#[]⟩, .slice none 0 0] 38)
  have hz1 := Blk.new (w.alloc (.cells #[.int .u8 G, .int .u8 M, .int .u8 K, .int .i16 N, .float .f64 F] 47)) 38 #[.int .u32 0, .int .u32 0, .int .u16 0, .string ⟨#[]⟩, .string ⟨#[]⟩, .slice none 0 0]
  rw [World.size_alloc] at hz1
  have hb1 := ((Below.refl w.heap.size w).alloc (Nat.le_refl _) (.cells #[.int .u8 G, .int .u8 M, .int .u8 K, .int .i16 N, .float .f64 F] 47)).alloc (by simp) (.cells #[.int .u32 0, .int .u32 0, .int .u16 0, .string ⟨#[]⟩, .string ⟨#[]⟩, .slice none 0 0] 38)
  have hqc := hq1.val5
  go_enter Try.func7, Try.ntmps7
  go_upto_region 1 with (fail)
  generalize (w.alloc (.cells #[.int .u8 G, .int .u8 M, .int .u8 K, .int .i16 N, .float .f64 F] 47)).alloc (.cells #[.int .u32 0, .int .u32 0, .int .u16 0, .string ⟨#[]⟩, .string ⟨#[]⟩, .slice none 0 0] 38) = w1 at *
  obtain ⟨z, hzz⟩ : ∃ z, w.heap.size + 1 = z := ⟨_, rfl⟩
  have hwz : w.heap.size ≤ z := by omega
  have hbz : w.heap.size < z := by omega
  rw [hzz] at hz1 ⊢
  have hzl := hz1.lt
  replace hzz := Lib.hid hzz
  by_cases h6 : 6 ≤ g
  · have d6 : decide ((6 : Int) ≤ (g : Int)) = true := decide_eq_true (by omega)
    go_wp2_with fail
    refine (seat_admin_walk (G := G) (N := N) (F := F) w1 m0 m9 k0 k9).mono ?_
    rintro e w2 ⟨gg, mm, l, A, c, rfl, hgg, hmm, ⟨xs, css, R2⟩, hall, hlen, hb2'⟩
    try dsimp only
    have hz2 := hz1.below hb2' hz1.lt
    have hb2 := below_then hb2' hb1
    have hw1 := hb1.size
    obtain ⟨L, hL⟩ : ∃ L, l.length = L := ⟨_, rfl⟩
    rw [hL]
    clear hqc hq1 hz1 hb2'
    replace hL := Lib.hid hL
    have hzr := hz2.row #[.int .u32 0, .int .u32 0, .int .u16 0, .string gg, .string mm, .slice A L c]
    have hbr := below_row hb2 (g := z) hwz #[.int .u32 0, .int .u32 0, .int .u16 0, .string gg, .string mm, .slice A L c]
    have Rr := (R2).upd ((Upd.refl (fun g => g = z) w2).setRow (g := z) (fun _ => rfl) #[.int .u32 0, .int .u32 0, .int .u16 0, .string gg, .string mm, .slice A L c]) (fun g hg e => by have hg' : w1.heap.size ≤ g := hg; omega)
    go_wp2_with (refine store_row_gen rfl 38 (Operand.tmp 2) _ rfl z #[.int .u32 0, .int .u32 0, .int .u16 0, .string gg, .string mm, .slice A L c] (by simp [go_sem]) (by simp [go_sem]) 38 _ hz2 (by kernel_rfl) rfl (by simp [Value.oneCell']) (fun w11 hw11 => ?_); rw [← hw11] at hzr hbr Rr; clear hw11)
    refine bodyPost_ret (v := .agg #[.int .u32 0, .int .u32 0, .int .u16 0, .string gg, .string mm, .slice A L c]) ?hr rfl ?fin
    case hr => exact results_cell_row rfl _ _ z 38 _ (0, 0) _ rfl hzr Try.underlying38 rfl (by kernel_rfl)
    case fin => exact ⟨gg, mm, l, A, c, by rw [hL.out], hgg, hmm, ⟨xs, css, Rr.down hw1⟩, hall, hlen, hbr⟩
  have d6 : decide ((6 : Int) ≤ (g : Int)) = false := decide_eq_false (by omega)
  have hg6 : g < 6 := by omega
  have hgi : (g : Int) < 6 := by omega
  go_wp2_with fail
  clear htm hg d6 h6
  refine (class_walk w1 (k := (g : Int)) (by omega) (by omega)).mono ?_
  rintro e w2 ⟨⟨S, rfl, hS⟩, hb2'⟩
  try dsimp only
  have hq2 := hq1.below hb2' hq1.lt
  have hz2 := hz1.below hb2' hz1.lt
  have hb2 := below_then hb2' hb1
  have hSs : S.size ≤ 100 := by
    obtain ⟨c, hc, rfl⟩ := hS
    have hlc : c.length ≤ 8 := by
      simp only [classes, List.mem_cons, List.not_mem_nil, or_false] at hc
      rcases hc with rfl | rfl | rfl | rfl | rfl | rfl <;> decide
    rw [bstr_len]; omega
  clear hqc hq1 hz1
  go_wp2_with fail
  refine (meths_walk w2 hS).mono ?_
  rintro e w3 ⟨B3, n3, c3, rfl, hn0, hn7, hnc, hst, hb3'⟩
  try dsimp only
  have hq3 := hq2.below hb3' hq2.lt
  have hz3 := hz2.below hb3' hz2.lt
  have hb3 := below_then hb3' hb2
  obtain ⟨j, hj, hjn⟩ : ∃ j : Nat, M % (n3 : Int) = (j : Int) ∧ j < n3 := by
    have h1 := Int.emod_nonneg M (show (n3 : Int) ≠ 0 by omega)
    have h2 := Int.emod_lt_of_pos M (show (0 : Int) < (n3 : Int) by omega)
    exact ⟨(M % (n3 : Int)).toNat, by omega, by omega⟩
  have htj : M.tmod (n3 : Int) = (j : Int) := by rw [Int.tmod_eq_emod_of_nonneg m0]; exact hj
  have hMw : IntKind.i64.wrap M = M := w64_id _ (by omega) (by omega)
  have hn0' : ((n3 : Int) == 0) = false := by rw [beq_eq_false_iff_ne]; omega
  have hn0'' : ¬ (n3 : Int) = 0 := by omega
  obtain ⟨ad3, t3, rfl, ht3, hcell3⟩ := hst.cell hjn
  have hc3 := hcell3 w3 (Below.refl _ _)
  obtain ⟨T3, hT3⟩ : ∃ T3, bstr t3 = T3 := ⟨_, rfl⟩
  have hT3s : T3.size ≤ 8 := by rw [← hT3, bstr_len]; omega
  rw [hT3] at hc3
  have hqc3 := hq3.val5
  clear hst hcell3 hT3 hS hb3' hb2' hq2 hz2 hb2
  replace hn0 := Lib.hid hn0
  go_upto_region 7 with (fail)
  clear hc3 hqc3 hj htj
  have hq3l := hq3.lt
  have hz3l := hz3.lt
  have hw3 := hb3.size
  go_cut [7] from 30 to 39 (fun x7 wx => ∃ (y : Nat) (l : List Val) (A : Option Addr) (c : Nat) (xs : List Value) (css : Nat → Array Value) (T4 : ByteArray), x7 = .pointer (some ⟨y, 0, none⟩) ∧ w3.heap.size ≤ y ∧ T4.size ≤ 8 ∧ Blk wx y 38 #[.int .u32 0, .int .u32 0, .int .u16 0, .string T4, .string T3, .slice A l.length c] ∧ VRowP wx (fun g => w3.heap.size ≤ g ∧ g ≠ y) l A c xs css ∧ (∀ v ∈ l, SeatV 1 220 v) ∧ l.length ≤ 3 ∧ Below w3.heap.size w3 wx)
  case first =>
    have hS0 : Below w3.heap.size w3 w3.drew := (Below.refl _ _).drew
    refine wp_region_alts (fun W => Below w3.heap.size w3 W) [3, 7] [0, 8, 10, 11] (.one 1 (.one 4 (.one 5 (.one 6 (.one 7 (.alt 0 (.one 2 (.one 3 (.alt 8 (.one 9 (.one 10 (.one 11 .nil))) (.one 10 (.one 8 (.one 9 (.one 11 .nil))))))) (.one 10 (.one 0 (.one 2 (.one 3 (.one 8 (.one 9 (.one 11 .nil))))))))))))) (by kernel_rfl) rfl rfl (by kernel_rfl) (by kernel_rfl) (fun _ _ d _ _ h => by cases d <;> exact h) ?_
    repeat (first | (refine altG_take _ ?_ rfl rfl rfl rfl (fun _ => ?_) ?_; rotate_left; (focus (go_simp; with_reducible rfl)); try simp only [Act.put, List.setIfInBounds_toArray, List.set_cons_zero, List.set_cons_succ]) | (refine altG_held _ ?_ rfl rfl rfl rfl (by assumption) (fun _ hSw => ?_) ?_; rotate_left; (focus (have h1 := (hq3.below hSw hq3.lt).val5; have h2 := True.intro; clear hSw; go_simp; with_reducible rfl)); try simp only [Act.put, List.setIfInBounds_toArray, List.set_cons_zero, List.set_cons_succ]) | (refine altG_skip _ rfl rfl (by assumption) ?_; try simp only [Act.put, List.setIfInBounds_toArray, List.set_cons_zero, List.set_cons_succ]))
    refine altG_alt rfl ?_ ?_
    · skip
      refine altG_now _ rfl rfl rfl (fun K0 hK => ?_)
      go_wp2_with fail
      refine (names_walk w3.drew).mono ?_
      rintro e w4 ⟨rfl, hstn, hbw4'⟩
      try dsimp only
      obtain ⟨ad4, t4, e4, ht4, hcell4⟩ := hstn.cell hg6
      cases e4
      obtain ⟨T4, hT4⟩ : ∃ T4, bstr t4 = T4 := ⟨_, rfl⟩
      have hT4s : T4.size ≤ 8 := by rw [← hT4, bstr_len]; omega
      replace hcell4 : ∀ W, Below w4.heap.size w4 W → W.cell? ⟨w3.heap.size, g, none⟩ = some (.string T4) := fun W hW => by
        have h := hcell4 W hW
        rw [hT4] at h
        rw [show (⟨w3.heap.size, g, none⟩ : Addr) = (⟨w3.heap.size, 0, none⟩ : Addr).add g by simp [Addr.add]; try omega]
        exact h
      have hSw4 := below_then hbw4' hS0
      have hBw4 := Below.refl w4.heap.size w4
      have hqw4 := hq3.below hSw4 hq3.lt
      refine hK _ _ (fun W => Below w4.heap.size w4 W) (fun W hW => below_then hW hSw4) (Below.refl _ _) ?_
      clear hK K0
      try simp only [Act.put, List.setIfInBounds_toArray, List.set_cons_zero, List.set_cons_succ]
      repeat (first | (refine altG_take _ ?_ rfl rfl rfl rfl (fun _ => ?_) ?_; rotate_left; (focus (go_simp; with_reducible rfl)); try simp only [Act.put, List.setIfInBounds_toArray, List.set_cons_zero, List.set_cons_succ]) | (refine altG_held _ ?_ rfl rfl rfl rfl (by assumption) (fun _ hSw => ?_) ?_; rotate_left; (focus (have h1 := (hqw4.below hSw hqw4.lt).val5; have h2 := hcell4 _ hSw; clear hSw; go_simp; with_reducible rfl)); try simp only [Act.put, List.setIfInBounds_toArray, List.set_cons_zero, List.set_cons_succ]) | (refine altG_skip _ rfl rfl (by assumption) ?_; try simp only [Act.put, List.setIfInBounds_toArray, List.set_cons_zero, List.set_cons_succ]))
      refine altG_alt rfl ?_ ?_
      · skip
        refine altG_now _ rfl rfl rfl (fun K0 hK => ?_)
        go_wp2_with fail
        refine (seat_args_walk (G := G) (M := M) w4 hSs (by omega) k0 k9 n0 n9 hF).mono ?_
        rintro e w5 ⟨A, c, l, xs, css, rfl, R, hall, hl3, hbw5'⟩
        try dsimp only
        have hSw5 := below_then hbw5' hSw4
        have hBw5 := Below.refl w5.heap.size w5
        refine hK _ _ (fun W => Below w5.heap.size w5 W) (fun W hW => below_then hW hbw5') (Below.refl _ _) ?_
        clear hK K0
        try simp only [Act.put, List.setIfInBounds_toArray, List.set_cons_zero, List.set_cons_succ]
        repeat (first | (refine altG_take _ ?_ rfl rfl rfl rfl (fun _ => ?_) ?_; rotate_left; (focus (go_simp; with_reducible rfl)); try simp only [Act.put, List.setIfInBounds_toArray, List.set_cons_zero, List.set_cons_succ]) | (refine altG_held _ ?_ rfl rfl rfl rfl (by assumption) (fun _ hSw => ?_) ?_; rotate_left; (focus (have h1 := True.intro; have h2 := True.intro; clear hSw; go_simp; with_reducible rfl)); try simp only [Act.put, List.setIfInBounds_toArray, List.set_cons_zero, List.set_cons_succ]) | (refine altG_skip _ rfl rfl (by assumption) ?_; try simp only [Act.put, List.setIfInBounds_toArray, List.set_cons_zero, List.set_cons_succ]))
        have hy6 := Blk.new w5 38 #[.int .u32 0, .int .u32 0, .int .u16 0, .string ⟨#[]⟩, .string ⟨#[]⟩, .slice none 0 0]
        have hS6 := hSw5.alloc hSw5.size (.cells #[.int .u32 0, .int .u32 0, .int .u16 0, .string ⟨#[]⟩, .string ⟨#[]⟩, .slice none 0 0] 38)
        have h34 := hSw4.size
        have h35 := hSw5.size
        have RP := (R.toP (P := fun g => w3.heap.size ≤ g ∧ g ≠ w5.heap.size) (fun g h1 h2 => ⟨Nat.le_trans h34 h1, by omega⟩)).upd ((Upd.refl (fun _ => False) w5).alloc (.cells #[.int .u32 0, .int .u32 0, .int .u16 0, .string ⟨#[]⟩, .string ⟨#[]⟩, .slice none 0 0] 38)) (fun _ _ h => h)
        refine altG_now _ rfl rfl rfl (fun K0 hK => ?_)
        go_wp2_with fail
        refine hK _ _ _ (fun _ h => h) ((Below.refl w5.heap.size w5).alloc (Nat.le_refl _) _) ?_
        clear hK K0
        try simp only [Act.put, List.setIfInBounds_toArray, List.set_cons_zero, List.set_cons_succ]
        repeat (first | (refine altG_take _ ?_ rfl rfl rfl rfl (fun _ => ?_) ?_; rotate_left; (focus (go_simp; with_reducible rfl)); try simp only [Act.put, List.setIfInBounds_toArray, List.set_cons_zero, List.set_cons_succ]) | (refine altG_held _ ?_ rfl rfl rfl rfl (by assumption) (fun _ hSw => ?_) ?_; rotate_left; (focus (have h1 := True.intro; have h2 := True.intro; clear hSw; go_simp; with_reducible rfl)); try simp only [Act.put, List.setIfInBounds_toArray, List.set_cons_zero, List.set_cons_succ]) | (refine altG_skip _ rfl rfl (by assumption) ?_; try simp only [Act.put, List.setIfInBounds_toArray, List.set_cons_zero, List.set_cons_succ]))
        generalize hww : w5.alloc (.cells #[.int .u32 0, .int .u32 0, .int .u16 0, .string ⟨#[]⟩, .string ⟨#[]⟩, .slice none 0 0] 38) = w6 at *
        have hyr := hy6.row #[.int .u32 0, .int .u32 0, .int .u16 0, .string T4, .string T3, .slice A l.length c]
        have hSr := below_row hS6 (g := w5.heap.size) (by omega) #[.int .u32 0, .int .u32 0, .int .u16 0, .string T4, .string T3, .slice A l.length c]
        have Rr := RP.upd ((Upd.refl (fun g => g = w5.heap.size) w6).setRow (g := w5.heap.size) (fun _ => rfl) #[.int .u32 0, .int .u32 0, .int .u16 0, .string T4, .string T3, .slice A l.length c]) (fun g hg e => hg.2 e)
        refine altG_nowF _ rfl rfl rfl (by kernel_rfl) (fun K0 hK => ?_)
        refine wp_store_row 38 (Operand.tmp 7) _ rfl w5.heap.size #[.int .u32 0, .int .u32 0, .int .u16 0, .string T4, .string T3, .slice A l.length c] (by simp [go_sem]) (by simp [go_sem]) 38 _ hy6 (by kernel_rfl) rfl (by simp [Value.oneCell']) ?_
        go_simp
        refine hK _ _ ?_
        clear hK K0
        try simp only [Act.put, List.setIfInBounds_toArray, List.set_cons_zero, List.set_cons_succ]
        repeat (first | (refine altG_take _ ?_ rfl rfl rfl rfl (fun _ => ?_) ?_; rotate_left; (focus (go_simp; with_reducible rfl)); try simp only [Act.put, List.setIfInBounds_toArray, List.set_cons_zero, List.set_cons_succ]) | (refine altG_held _ ?_ rfl rfl rfl rfl (by assumption) (fun _ hSw => ?_) ?_; rotate_left; (focus (have h1 := True.intro; have h2 := True.intro; clear hSw; go_simp; with_reducible rfl)); try simp only [Act.put, List.setIfInBounds_toArray, List.set_cons_zero, List.set_cons_succ]) | (refine altG_skip _ rfl rfl (by assumption) ?_; try simp only [Act.put, List.setIfInBounds_toArray, List.set_cons_zero, List.set_cons_succ]))
        refine altG_nil ?_
        go_wp2_with fail
        go_meet
        exact ⟨w5.heap.size, l, A, c, xs, css, T4, rfl, by omega, hT4s, hyr, Rr, hall, hl3, hSr⟩
      · skip
        have hy5 := Blk.new w4 38 #[.int .u32 0, .int .u32 0, .int .u16 0, .string ⟨#[]⟩, .string ⟨#[]⟩, .slice none 0 0]
        have hS5 := hSw4.alloc hSw4.size (.cells #[.int .u32 0, .int .u32 0, .int .u16 0, .string ⟨#[]⟩, .string ⟨#[]⟩, .slice none 0 0] 38)
        have h34 := hSw4.size
        have hb45 := (Below.refl w4.heap.size w4).alloc (Nat.le_refl _) (.cells #[.int .u32 0, .int .u32 0, .int .u16 0, .string ⟨#[]⟩, .string ⟨#[]⟩, .slice none 0 0] 38)
        refine altG_now _ rfl rfl rfl (fun K0 hK => ?_)
        go_wp2_with fail
        generalize hww : w4.alloc (.cells #[.int .u32 0, .int .u32 0, .int .u16 0, .string ⟨#[]⟩, .string ⟨#[]⟩, .slice none 0 0] 38) = w5 at *
        have hy5l := hy5.lt
        refine hK _ _ (fun W => Below w5.heap.size w5 W) (fun W hW => below_then hW hb45) (Below.refl _ _) ?_
        clear hK K0
        have hBw5 := Below.refl w5.heap.size w5
        try simp only [Act.put, List.setIfInBounds_toArray, List.set_cons_zero, List.set_cons_succ]
        repeat (first | (refine altG_take _ ?_ rfl rfl rfl rfl (fun _ => ?_) ?_; rotate_left; (focus (go_simp; with_reducible rfl)); try simp only [Act.put, List.setIfInBounds_toArray, List.set_cons_zero, List.set_cons_succ]) | (refine altG_held _ ?_ rfl rfl rfl rfl (by assumption) (fun _ hSw => ?_) ?_; rotate_left; (focus (have h1 := True.intro; have h2 := True.intro; clear hSw; go_simp; with_reducible rfl)); try simp only [Act.put, List.setIfInBounds_toArray, List.set_cons_zero, List.set_cons_succ]) | (refine altG_skip _ rfl rfl (by assumption) ?_; try simp only [Act.put, List.setIfInBounds_toArray, List.set_cons_zero, List.set_cons_succ]))
        refine altG_now _ rfl rfl rfl (fun K0 hK => ?_)
        go_wp2_with fail
        refine (seat_args_walk (G := G) (M := M) w5 hSs (by omega) k0 k9 n0 n9 hF).mono ?_
        rintro e w6 ⟨A, c, l, xs, css, rfl, R, hall, hl3, hbw6'⟩
        try dsimp only
        have hSw6 := below_then hbw6' hS5
        have hBw6 := Below.refl w6.heap.size w6
        refine hK _ _ (fun W => Below w6.heap.size w6 W) (fun W hW => below_then hW hbw6') (Below.refl _ _) ?_
        clear hK K0
        try simp only [Act.put, List.setIfInBounds_toArray, List.set_cons_zero, List.set_cons_succ]
        repeat (first | (refine altG_take _ ?_ rfl rfl rfl rfl (fun _ => ?_) ?_; rotate_left; (focus (go_simp; with_reducible rfl)); try simp only [Act.put, List.setIfInBounds_toArray, List.set_cons_zero, List.set_cons_succ]) | (refine altG_held _ ?_ rfl rfl rfl rfl (by assumption) (fun _ hSw => ?_) ?_; rotate_left; (focus (have h1 := True.intro; have h2 := True.intro; clear hSw; go_simp; with_reducible rfl)); try simp only [Act.put, List.setIfInBounds_toArray, List.set_cons_zero, List.set_cons_succ]) | (refine altG_skip _ rfl rfl (by assumption) ?_; try simp only [Act.put, List.setIfInBounds_toArray, List.set_cons_zero, List.set_cons_succ]))
        have hy6 := hy5.below hbw6' hy5.lt
        have h56 := hS5.size
        have RP := R.toP (P := fun g => w3.heap.size ≤ g ∧ g ≠ w4.heap.size) (fun g h1 h2 => ⟨Nat.le_trans h56 h1, by omega⟩)
        have hyr := hy6.row #[.int .u32 0, .int .u32 0, .int .u16 0, .string T4, .string T3, .slice A l.length c]
        have hSr := below_row hSw6 (g := w4.heap.size) (by omega) #[.int .u32 0, .int .u32 0, .int .u16 0, .string T4, .string T3, .slice A l.length c]
        have Rr := RP.upd ((Upd.refl (fun g => g = w4.heap.size) w6).setRow (g := w4.heap.size) (fun _ => rfl) #[.int .u32 0, .int .u32 0, .int .u16 0, .string T4, .string T3, .slice A l.length c]) (fun g hg e => hg.2 e)
        refine altG_nowF _ rfl rfl rfl (by kernel_rfl) (fun K0 hK => ?_)
        refine wp_store_row 38 (Operand.tmp 7) _ rfl w4.heap.size #[.int .u32 0, .int .u32 0, .int .u16 0, .string T4, .string T3, .slice A l.length c] (by simp [go_sem]) (by simp [go_sem]) 38 _ hy6 (by kernel_rfl) rfl (by simp [Value.oneCell']) ?_
        go_simp
        refine hK _ _ ?_
        clear hK K0
        try simp only [Act.put, List.setIfInBounds_toArray, List.set_cons_zero, List.set_cons_succ]
        repeat (first | (refine altG_take _ ?_ rfl rfl rfl rfl (fun _ => ?_) ?_; rotate_left; (focus (go_simp; with_reducible rfl)); try simp only [Act.put, List.setIfInBounds_toArray, List.set_cons_zero, List.set_cons_succ]) | (refine altG_held _ ?_ rfl rfl rfl rfl (by assumption) (fun _ hSw => ?_) ?_; rotate_left; (focus (have h1 := True.intro; have h2 := True.intro; clear hSw; go_simp; with_reducible rfl)); try simp only [Act.put, List.setIfInBounds_toArray, List.set_cons_zero, List.set_cons_succ]) | (refine altG_skip _ rfl rfl (by assumption) ?_; try simp only [Act.put, List.setIfInBounds_toArray, List.set_cons_zero, List.set_cons_succ]))
        refine altG_nil ?_
        go_wp2_with fail
        go_meet
        exact ⟨w4.heap.size, l, A, c, xs, css, T4, rfl, by omega, hT4s, hyr, Rr, hall, hl3, hSr⟩
    · skip
      have hy4 := (Blk.new w3 38 #[.int .u32 0, .int .u32 0, .int .u16 0, .string ⟨#[]⟩, .string ⟨#[]⟩, .slice none 0 0]).drew
      have hS4 := (((Below.refl w3.heap.size w3).alloc (Nat.le_refl _) (.cells #[.int .u32 0, .int .u32 0, .int .u16 0, .string ⟨#[]⟩, .string ⟨#[]⟩, .slice none 0 0] 38))).drew
      refine altG_now _ rfl rfl rfl (fun K0 hK => ?_)
      go_wp2_with fail
      generalize hww : (w3.alloc (.cells #[.int .u32 0, .int .u32 0, .int .u16 0, .string ⟨#[]⟩, .string ⟨#[]⟩, .slice none 0 0] 38)).drew = w4 at *
      have hy4l := hy4.lt
      refine hK _ _ (fun W => Below w4.heap.size w4 W) (fun W hW => below_then hW hS4) (Below.refl _ _) ?_
      clear hK K0
      have hBw4 := Below.refl w4.heap.size w4
      have hq4 := hq3.below hS4 hq3.lt
      try simp only [Act.put, List.setIfInBounds_toArray, List.set_cons_zero, List.set_cons_succ]
      repeat (first | (refine altG_take _ ?_ rfl rfl rfl rfl (fun _ => ?_) ?_; rotate_left; (focus (go_simp; with_reducible rfl)); try simp only [Act.put, List.setIfInBounds_toArray, List.set_cons_zero, List.set_cons_succ]) | (refine altG_held _ ?_ rfl rfl rfl rfl (by assumption) (fun _ hSw => ?_) ?_; rotate_left; (focus (have h1 := (hq4.below hSw hq4.lt).val5; have h2 := True.intro; clear hSw; go_simp; with_reducible rfl)); try simp only [Act.put, List.setIfInBounds_toArray, List.set_cons_zero, List.set_cons_succ]) | (refine altG_skip _ rfl rfl (by assumption) ?_; try simp only [Act.put, List.setIfInBounds_toArray, List.set_cons_zero, List.set_cons_succ]))
      refine altG_now _ rfl rfl rfl (fun K0 hK => ?_)
      go_wp2_with fail
      refine (names_walk w4).mono ?_
      rintro e w5 ⟨rfl, hstn, hbw5'⟩
      try dsimp only
      obtain ⟨ad4, t4, e4, ht4, hcell4⟩ := hstn.cell hg6
      cases e4
      obtain ⟨T4, hT4⟩ : ∃ T4, bstr t4 = T4 := ⟨_, rfl⟩
      have hT4s : T4.size ≤ 8 := by rw [← hT4, bstr_len]; omega
      replace hcell4 : ∀ W, Below w5.heap.size w5 W → W.cell? ⟨w4.heap.size, g, none⟩ = some (.string T4) := fun W hW => by
        have h := hcell4 W hW
        rw [hT4] at h
        rw [show (⟨w4.heap.size, g, none⟩ : Addr) = (⟨w4.heap.size, 0, none⟩ : Addr).add g by simp [Addr.add]; try omega]
        exact h
      have hSw5 := below_then hbw5' hS4
      have hBw5 := Below.refl w5.heap.size w5
      have hqw5 := hq3.below hSw5 hq3.lt
      refine hK _ _ (fun W => Below w5.heap.size w5 W) (fun W hW => below_then hW hbw5') (Below.refl _ _) ?_
      clear hK K0
      try simp only [Act.put, List.setIfInBounds_toArray, List.set_cons_zero, List.set_cons_succ]
      repeat (first | (refine altG_take _ ?_ rfl rfl rfl rfl (fun _ => ?_) ?_; rotate_left; (focus (go_simp; with_reducible rfl)); try simp only [Act.put, List.setIfInBounds_toArray, List.set_cons_zero, List.set_cons_succ]) | (refine altG_held _ ?_ rfl rfl rfl rfl (by assumption) (fun _ hSw => ?_) ?_; rotate_left; (focus (have h1 := (hqw5.below hSw hqw5.lt).val5; have h2 := hcell4 _ hSw; clear hSw; go_simp; with_reducible rfl)); try simp only [Act.put, List.setIfInBounds_toArray, List.set_cons_zero, List.set_cons_succ]) | (refine altG_skip _ rfl rfl (by assumption) ?_; try simp only [Act.put, List.setIfInBounds_toArray, List.set_cons_zero, List.set_cons_succ]))
      refine altG_now _ rfl rfl rfl (fun K0 hK => ?_)
      go_wp2_with fail
      refine (seat_args_walk (G := G) (M := M) w5 hSs (by omega) k0 k9 n0 n9 hF).mono ?_
      rintro e w6 ⟨A, c, l, xs, css, rfl, R, hall, hl3, hbw6'⟩
      try dsimp only
      have hSw6 := below_then hbw6' hSw5
      have hBw6 := Below.refl w6.heap.size w6
      refine hK _ _ (fun W => Below w6.heap.size w6 W) (fun W hW => below_then hW hbw6') (Below.refl _ _) ?_
      clear hK K0
      try simp only [Act.put, List.setIfInBounds_toArray, List.set_cons_zero, List.set_cons_succ]
      repeat (first | (refine altG_take _ ?_ rfl rfl rfl rfl (fun _ => ?_) ?_; rotate_left; (focus (go_simp; with_reducible rfl)); try simp only [Act.put, List.setIfInBounds_toArray, List.set_cons_zero, List.set_cons_succ]) | (refine altG_held _ ?_ rfl rfl rfl rfl (by assumption) (fun _ hSw => ?_) ?_; rotate_left; (focus (have h1 := True.intro; have h2 := True.intro; clear hSw; go_simp; with_reducible rfl)); try simp only [Act.put, List.setIfInBounds_toArray, List.set_cons_zero, List.set_cons_succ]) | (refine altG_skip _ rfl rfl (by assumption) ?_; try simp only [Act.put, List.setIfInBounds_toArray, List.set_cons_zero, List.set_cons_succ]))
      have hy6 := hy4.below (below_then hbw6' hbw5') hy4.lt
      have h56 := hSw5.size
      have h45 := hbw5'.size
      have RP := R.toP (P := fun g => w3.heap.size ≤ g ∧ g ≠ w3.heap.size) (fun g h1 h2 => ⟨Nat.le_trans h56 h1, by omega⟩)
      have hyr := hy6.row #[.int .u32 0, .int .u32 0, .int .u16 0, .string T4, .string T3, .slice A l.length c]
      have hSr := below_row hSw6 (g := w3.heap.size) (by omega) #[.int .u32 0, .int .u32 0, .int .u16 0, .string T4, .string T3, .slice A l.length c]
      have Rr := RP.upd ((Upd.refl (fun g => g = w3.heap.size) w6).setRow (g := w3.heap.size) (fun _ => rfl) #[.int .u32 0, .int .u32 0, .int .u16 0, .string T4, .string T3, .slice A l.length c]) (fun g hg e => hg.2 e)
      refine altG_nowF _ rfl rfl rfl (by kernel_rfl) (fun K0 hK => ?_)
      refine wp_store_row 38 (Operand.tmp 7) _ rfl w3.heap.size #[.int .u32 0, .int .u32 0, .int .u16 0, .string T4, .string T3, .slice A l.length c] (by simp [go_sem]) (by simp [go_sem]) 38 _ hy6 (by kernel_rfl) rfl (by simp [Value.oneCell']) ?_
      go_simp
      refine hK _ _ ?_
      clear hK K0
      try simp only [Act.put, List.setIfInBounds_toArray, List.set_cons_zero, List.set_cons_succ]
      repeat (first | (refine altG_take _ ?_ rfl rfl rfl rfl (fun _ => ?_) ?_; rotate_left; (focus (go_simp; with_reducible rfl)); try simp only [Act.put, List.setIfInBounds_toArray, List.set_cons_zero, List.set_cons_succ]) | (refine altG_held _ ?_ rfl rfl rfl rfl (by assumption) (fun _ hSw => ?_) ?_; rotate_left; (focus (have h1 := True.intro; have h2 := True.intro; clear hSw; go_simp; with_reducible rfl)); try simp only [Act.put, List.setIfInBounds_toArray, List.set_cons_zero, List.set_cons_succ]) | (refine altG_skip _ rfl rfl (by assumption) ?_; try simp only [Act.put, List.setIfInBounds_toArray, List.set_cons_zero, List.set_cons_succ]))
      refine altG_nil ?_
      go_wp2_with fail
      go_meet
      exact ⟨w3.heap.size, l, A, c, xs, css, T4, rfl, by omega, hT4s, hyr, Rr, hall, hl3, hSr⟩
  case rest =>
    obtain ⟨y, l, A, c, xs, css, T4, rfl, hwy, hT4s, hy4, R4, hall, hl3, hb4'⟩ := hcut
    have hq4 := hq3.below hb4' hq3.lt
    have hz4 := hz3.below hb4' hz3.lt
    generalize wc = w4 at *
    have hall2 : ∀ v ∈ l, SeatV 2 1102 v := fun v hv => (hall v hv).mono (by decide) (by decide)
    have done : ∀ wr j l A c xs css, j ≤ 3 → SoRel w3 wr z y w.heap.size #[.int .u8 G, .int .u8 M, .int .u8 K, .int .i16 N, .float .f64 F] T4 T3 j l A c xs css → OpS w (.returned (.agg #[.int .u32 0, .int .u32 0, .int .u16 0, .string T4, .string T3, .slice A l.length c])) (wr.setRow z #[.int .u32 0, .int .u32 0, .int .u16 0, .string T4, .string T3, .slice A l.length c]) := fun wr j l A c xs css hj Rl => by
      have hR := (Rl.R.upd ((Upd.refl (fun g => g = z) wr).setRow (g := z) (fun _ => rfl) #[.int .u32 0, .int .u32 0, .int .u16 0, .string T4, .string T3, .slice A l.length c]) (fun g hg e => by have := hg.1; omega)).toRow (b := w.heap.size) (fun g hg => by have := hg.1; omega)
      exact ⟨T4, T3, l, A, c, rfl, hT4s, hT3s, ⟨_, _, hR⟩, Rl.all, by have := Rl.len; omega, below_row (below_then Rl.hb hb3) (g := z) hwz _⟩
    replace done := Lib.hid done
    have Rl0 : SoRel w3 w4 z y w.heap.size #[.int .u8 G, .int .u8 M, .int .u8 K, .int .i16 N, .float .f64 F] T4 T3 0 l A c xs css := ⟨by decide, hq4, hz4, hy4, R4, hall2, by omega, hb4'⟩
    have hfin : ∀ wr j l A c xs css, SoRel w3 wr z y w.heap.size #[.int .u8 G, .int .u8 M, .int .u8 K, .int .i16 N, .float .f64 F] T4 T3 j l A c xs css → Blk (wr.setRow z #[.int .u32 0, .int .u32 0, .int .u16 0, .string T4, .string T3, .slice A l.length c]) z 38 #[.int .u32 0, .int .u32 0, .int .u16 0, .string T4, .string T3, .slice A l.length c] := fun wr j l A c xs css Rl => Rl.hz.row _
    replace hfin := Lib.hid hfin
    have hyl := hy4.lt
    have hk3' : K.tmod 3 = K % 3 := Int.tmod_eq_emod_of_nonneg k0
    obtain ⟨k3, hk3⟩ : ∃ k3 : Nat, K % 3 = (k3 : Int) := ⟨(K % 3).toNat, by omega⟩
    have hk32 : k3 ≤ 2 := by omega
    have hG8 : IntKind.u8.wrap (G / 8) = G / 8 := by
      unfold IntKind.wrap
      simp [IntKind.bits, IntKind.signed]
      omega
    have hM3 : IntKind.u8.wrap (M / 3) = M / 3 := by
      unfold IntKind.wrap
      simp [IntKind.bits, IntKind.signed]
      omega
    clear hall hl3 hq3 hz3 hb4' hall2 R4
    by_cases hrun : (S.toList == [111, 114, 99, 104]) = true ∧ (T3.toList == [114, 117, 110]) = true
    · obtain ⟨e1, e2⟩ := hrun
      go_wp2_with fail
      go_loopw [8] (fun s8 wr => ∃ (j : Nat) (l : List Val) (A : Option Addr) (c : Nat) (xs : List Value) (css : Nat → Array Value), s8 = .int .i64 (j : Int) ∧ j ≤ k3 + 1 ∧ SoRel w3 wr z y w.heap.size #[.int .u8 G, .int .u8 M, .int .u8 K, .int .i16 N, .float .f64 F] T4 T3 j l A c xs css) (fun s8 _ => 5 - (intOf s8).toNat)
      case atStart => exact ⟨0, l, A, c, xs, css, rfl, by omega, Rl0⟩
      case round =>
        clear hq4 hz4 hy4 Rl0
        obtain ⟨j, l, A, c, xs, css, rfl, hjk, Rl⟩ := hrel
        have hqr := Rl.hq
        have hzr := Rl.hz
        have hyr := Rl.hy
        have hbr := Rl.hb
        have hlen := Rl.len
        have hqc := hqr.val5
        obtain ⟨L, hL⟩ : ∃ L, l.length = L := ⟨_, rfl⟩
        by_cases hlt : j ≤ k3
        · have d1 : decide ((j : Int) ≤ (k3 : Int)) = true := decide_eq_true (by omega)
          have hj8 : IntKind.u8.wrap (j : Int) = (j : Int) := by
            have : j = 0 ∨ j = 1 ∨ j = 2 := by omega
            rcases this with rfl | rfl | rfl <;> rfl
          have wr8 : ∀ x : Int, 0 ≤ IntKind.u8.wrap x ∧ IntKind.u8.wrap x ≤ 255 := fun x => by
            unfold IntKind.wrap
            simp [IntKind.bits, IntKind.signed]
            omega
          obtain ⟨a1, ha1, ha2⟩ : ∃ a, IntKind.u8.wrap (G / 8 + (j : Int)) = a ∧ 0 ≤ a ∧ a ≤ 255 := ⟨_, rfl, wr8 _⟩
          obtain ⟨b1, hb1', hb2'⟩ : ∃ a, IntKind.u8.wrap (M / 3 + (j : Int)) = a ∧ 0 ≤ a ∧ a ≤ 255 := ⟨_, rfl, wr8 _⟩
          obtain ⟨q1, hq1', hq2'⟩ : ∃ a, IntKind.u8.wrap (K + (j : Int)) = a ∧ 0 ≤ a ∧ a ≤ 255 := ⟨_, rfl, wr8 _⟩
          have hnw : IntKind.i64.wrap ((j : Int) + 1) = ((j + 1 : Nat) : Int) := by rw [IntKind.wrap_i64]; omega
          have hS0 : Below wr.heap.size wr wr.drew := (Below.refl _ _).drew
          have hRl := Rl
          have hL6 : L ≤ 5 := by omega
          rw [hL] at hyr
          have hyl' := hyr.lt
          have hzl' := hzr.lt
          replace Rl := Lib.hid Rl
          replace hL := Lib.hid hL
          clear wr8
          go_wp2_with fail
          clear hqc
          have hU0 : Upd (fun x => some x = bOf A) wr wr.drew := Upd.of_below_size hS0
          have hyA : ¬ some y = bOf A := fun e => (hRl.R.hA y e.symm).2 rfl
          have hqA : ¬ some w.heap.size = bOf A := fun e => by have h1 := (hRl.R.hA _ e.symm).1; omega
          refine wp_region_lex (fun W => Upd (fun x => some x = bOf A) wr W) [1, 3, 9, 15, 20, 22] [24, 25, 26, 28] [0, 1, 2, 3, 4, 5, 6, 7, 8, 9, 10, 11, 12, 13, 14, 15, 16, 17, 18, 19, 20, 21, 22, 23, 24, 25, 26, 27, 28] (by kernel_rfl) rfl (by kernel_rfl) (by kernel_rfl) (fun _ _ d _ _ h => by cases d <;> exact h) ?_
          repeat (first | (refine lexG_take _ ?_ rfl rfl rfl rfl (fun _ => ?_) ?_; rotate_left; (focus (go_simp; with_reducible rfl)); try simp only [Act.put, List.setIfInBounds_toArray, List.set_cons_zero, List.set_cons_succ]) | (refine lexG_held _ ?_ rfl rfl rfl rfl (by assumption) (fun _ hSw => ?_) ?_; rotate_left; (focus (have h1 := (hyr.upd hSw hyA).op6; have h2 := (hqr.upd hSw hqA).val5; clear hSw; go_simp; with_reducible rfl)); try simp only [Act.put, List.setIfInBounds_toArray, List.set_cons_zero, List.set_cons_succ]) | (refine lexG_skip _ rfl rfl (by assumption) ?_; try simp only [Act.put, List.setIfInBounds_toArray, List.set_cons_zero, List.set_cons_succ]))
          refine lexG_now _ rfl rfl rfl (fun K0 hK => ?_)
          go_wp2_with fail
          refine (seat_nested_walk (G := G / 8 + (j : Int)) (M := M / 3 + (j : Int)) wr.drew (by omega) (by omega) (by omega) (by omega) hq2'.1 hq2'.2 n0 n9 hF).mono ?_
          rintro e w6 ⟨v, cs, rfl, hv, hs, hb6'⟩
          obtain ⟨k1, i1, f1, s1, A1, n1, c1, rfl⟩ := hv.reads.form
          try dsimp only
          have hS6 := below_then hb6' hS0
          have hone := hv.one
          have hU6 := Upd.of_below_size (S := fun x => some x = bOf A) hS6
          refine hK _ _ _ (fun _ h => h) hU6 ?_
          clear hK K0
          try simp only [Act.put, List.setIfInBounds_toArray, List.set_cons_zero, List.set_cons_succ]
          repeat (first | (refine lexG_take _ ?_ rfl rfl rfl rfl (fun _ => ?_) ?_; rotate_left; (focus (go_simp; with_reducible rfl)); try simp only [Act.put, List.setIfInBounds_toArray, List.set_cons_zero, List.set_cons_succ]) | (refine lexG_held _ ?_ rfl rfl rfl rfl (by assumption) (fun _ hSw => ?_) ?_; rotate_left; (focus (have h1 := (hyr.upd hSw hyA).op6; have h2 := (hqr.upd hSw hqA).val5; clear hSw; go_simp; with_reducible rfl)); try simp only [Act.put, List.setIfInBounds_toArray, List.set_cons_zero, List.set_cons_succ]) | (refine lexG_skip _ rfl rfl (by assumption) ?_; try simp only [Act.put, List.setIfInBounds_toArray, List.set_cons_zero, List.set_cons_succ]))
          have hsrc := Reads.lit (size := 5) w6 #[.int .i64 k1, .int .i64 i1, .float .f64 f1, .string s1, .slice A1 n1 c1] 64 (0, 0) 1 [.int .i64 k1, .int .i64 i1, .float .f64 f1, .string s1, .slice A1 n1 c1] rfl rfl
          have hS7 := hS6.alloc hS6.size (.cells #[.int .i64 k1, .int .i64 i1, .float .f64 f1, .string s1, .slice A1 n1 c1] 64)
          refine lexG_now _ rfl rfl rfl (fun K0 hK => ?_)
          go_wp2_with fail
          generalize hw7 : w6.alloc (.cells #[.int .i64 k1, .int .i64 i1, .float .f64 f1, .string s1, .slice A1 n1 c1] 64) = w7 at *
          have hU67 : Upd (fun _ => False) w6 w7 := by rw [← hw7]; exact (Upd.refl _ w6).alloc _
          have hU7 := Upd.of_below_size (S := fun x => some x = bOf A) hS7
          refine hK _ _ _ (fun _ h => h) hU7 ?_
          clear hK K0 hw7
          try simp only [Act.put, List.setIfInBounds_toArray, List.set_cons_zero, List.set_cons_succ]
          repeat (first | (refine lexG_take _ ?_ rfl rfl rfl rfl (fun _ => ?_) ?_; rotate_left; (focus (go_simp; with_reducible rfl)); try simp only [Act.put, List.setIfInBounds_toArray, List.set_cons_zero, List.set_cons_succ]) | (refine lexG_held _ ?_ rfl rfl rfl rfl (by assumption) (fun _ hSw => ?_) ?_; rotate_left; (focus (have h1 := (hyr.upd hSw hyA).op6; have h2 := (hqr.upd hSw hqA).val5; clear hSw; go_simp; with_reducible rfl)); try simp only [Act.put, List.setIfInBounds_toArray, List.set_cons_zero, List.set_cons_succ]) | (refine lexG_skip _ rfl rfl (by assumption) ?_; try simp only [Act.put, List.setIfInBounds_toArray, List.set_cons_zero, List.set_cons_succ]))
          have R7 := hRl.R.upd (Upd.of_below_size (S := fun _ => False) hS7) (fun _ _ h => h)
          have hAl := fun g hg => hRl.R.ho.lt (g := g) hg
          have h3r := hbr.size
          have hv7 := ((hv.upd hU67 (fun _ _ h => h)).mono (Q := fun g => (w3.heap.size ≤ g ∧ g ≠ y) ∧ some g ≠ bOf A) (fun g _ hg => by
            have hg' : wr.heap.size ≤ g := hg
            exact ⟨⟨by omega, by omega⟩, fun e => by have := hAl g e.symm; omega⟩))
          have ho7 := R7.ho
          rw [hL.out] at ho7
          have h7r := hS7.size
          refine lexG_now _ rfl rfl rfl (fun K0 hK => ?_)
          refine wp_append_mine _ _ 36 36 rfl 64 jj _ 5 64 Try.underlying36 gi gz0 gz1 gz2 rfl rfl ho7 rfl (Src.ofReads Try.underlying36 _ hsrc hone) (by unfold maxLen; omega) (by omega) (fun A8 c8 w8 ho8 hg8 hat8 => ?_)
          have hP8 := R7.push (A8 := A8) (c8 := c8) (w8 := w8) (fun g hg => ⟨by omega, by omega⟩) hv7 (by rw [hL.out]; exact ho8) hg8 hat8
          have hnA : ∀ x, (x < w3.heap.size ∨ x = y) → some x ≠ bOf A := fun x hx e => by have := R7.hA x e.symm; omega
          have hb78 : Upd (fun x => some x = bOf A) w7 w8 := (Upd.refl _ w7).grown hg8 (fun k e _ => e.symm)
          have hUr8 : Upd (fun x => some x = bOf A) wr w8 := (Upd.of_below_size hS7).trans hb78 (fun _ _ h => h)
          have hb8 : Below w3.heap.size w3 w8 := (below_then hS7 hbr).grown hg8 (by omega) (fun x hx => (R7.hA x hx).1)
          refine hK _ _ _ (fun _ h => h) hUr8 ?_
          clear hK K0
          try simp only [Act.put, List.setIfInBounds_toArray, List.set_cons_zero, List.set_cons_succ]
          repeat (first | (refine lexG_take _ ?_ rfl rfl rfl rfl (fun _ => ?_) ?_; rotate_left; (focus (go_simp; with_reducible rfl)); try simp only [Act.put, List.setIfInBounds_toArray, List.set_cons_zero, List.set_cons_succ]) | (refine lexG_held _ ?_ rfl rfl rfl rfl (by assumption) (fun _ hSw => ?_) ?_; rotate_left; (focus (have h1 := (hyr.upd hSw hyA).op6; have h2 := (hqr.upd hSw hqA).val5; clear hSw; go_simp; with_reducible rfl)); try simp only [Act.put, List.setIfInBounds_toArray, List.set_cons_zero, List.set_cons_succ]) | (refine lexG_skip _ rfl rfl (by assumption) ?_; try simp only [Act.put, List.setIfInBounds_toArray, List.set_cons_zero, List.set_cons_succ]))
          have hzA : ¬ some z = bOf A := fun e => by have h1 := (hRl.R.hA _ e.symm).1; omega
          have hyq : w.heap.size ≠ y := by omega
          have hyz : z ≠ y := by omega
          have hy8 := hyr.upd hUr8 hyA
          have hc8 := hy8.cell 5
          have hf8 := hy8.frozen 5
          have hyn := hy8.set_ 5 (.slice A8 (L + 1) c8)
          have hqn := (hqr.upd hUr8 hqA).far (p := ⟨y, 5, none⟩) hyq (.slice A8 (L + 1) c8)
          have hzn := (hzr.upd hUr8 hzA).far (p := ⟨y, 5, none⟩) hyz (.slice A8 (L + 1) c8)
          have hbn := hb8.setCell (p := ⟨y, 5, none⟩) hwy (.slice A8 (L + 1) c8)
          have Rn := hP8.upd ((Upd.refl (fun g => g = y) w8).setCell (p := ⟨y, 5, none⟩) (fun _ => rfl) (.slice A8 (L + 1) c8)) (fun g hg e => hg.2 e)
          refine lexG_nowF _ rfl rfl rfl (by kernel_rfl) (fun K0 hK => ?_)
          go_wp2_with fail
          refine lexG_nil ?_
          go_wp2_with fail
          refine ⟨⟨j + 1, l ++ [v], A8, c8, _, _, rfl, by omega, ⟨by omega, hqn, hzn, ?_, Rn, ?_, ?_, hbn⟩⟩, ?_⟩
          rotate_left 3
          · show 5 - ((j : Int) + 1).toNat < 5 - (j : Int).toNat
            omega
          · rw [List.length_append, hL.out]; exact hyn
          · intro u hu
            rcases List.mem_append.1 hu with h | h
            · exact Rl.out.all u h
            · cases List.mem_singleton.1 h; exact hs
          · have := Rl.out.len; simp only [List.length_append, List.length_singleton]; omega
        · have d1 : decide ((j : Int) ≤ (k3 : Int)) = false := decide_eq_false (by omega)
          have hfz := hfin.out wr j l A c xs css Rl
          have hdo := done.out wr j l A c xs css (by omega) Rl
          have hzr' := (Rl).hz
          rw [hL] at hyr hfz hdo
          have hyc9 := hyr.op6
          clear hfin done Rl
          replace hL := Lib.hid hL
          go_wp2_with (refine store_row_gen rfl 38 (Operand.tmp 2) _ rfl z #[.int .u32 0, .int .u32 0, .int .u16 0, .string T4, .string T3, .slice A L c] (by simp [go_sem]) (by simp [go_sem]) 38 _ hzr' (by kernel_rfl) rfl (by simp [Value.oneCell']) (fun w11 hw11 => ?_); rw [← hw11] at hfz hdo; clear hw11)
          refine bodyPost_ret (v := .agg #[.int .u32 0, .int .u32 0, .int .u16 0, .string T4, .string T3, .slice A L c]) ?hr rfl hdo
          case hr => exact results_cell_row rfl _ _ z 38 _ (0, 0) _ rfl hfz Try.underlying38 rfl (by kernel_rfl)
    · have hno : (S.toList == [111, 114, 99, 104]) = false ∨ ((S.toList == [111, 114, 99, 104]) = true ∧ (T3.toList == [114, 117, 110]) = false) := by
        cases h1 : (S.toList == [111, 114, 99, 104])
        · exact .inl rfl
        · cases h2 : (T3.toList == [114, 117, 110])
          · exact .inr ⟨rfl, rfl⟩
          · exact absurd ⟨h1, h2⟩ hrun
      clear hrun
      have hyr := hy4
      obtain ⟨L, hL⟩ : ∃ L, l.length = L := ⟨_, rfl⟩
      rcases hno with e1 | ⟨e1, e2⟩
      · skip
        have hfz := hfin.out w4 0 l A c xs css Rl0
        have hdo := done.out w4 0 l A c xs css (by omega) Rl0
        have hzr' := (Rl0).hz
        rw [hL] at hyr hfz hdo
        have hyc9 := hyr.op6
        clear hfin done Rl0
        replace hL := Lib.hid hL
        go_wp2_with (refine store_row_gen rfl 38 (Operand.tmp 2) _ rfl z #[.int .u32 0, .int .u32 0, .int .u16 0, .string T4, .string T3, .slice A L c] (by simp [go_sem]) (by simp [go_sem]) 38 _ hzr' (by kernel_rfl) rfl (by simp [Value.oneCell']) (fun w11 hw11 => ?_); rw [← hw11] at hfz hdo; clear hw11)
        refine bodyPost_ret (v := .agg #[.int .u32 0, .int .u32 0, .int .u16 0, .string T4, .string T3, .slice A L c]) ?hr rfl hdo
        case hr => exact results_cell_row rfl _ _ z 38 _ (0, 0) _ rfl hfz Try.underlying38 rfl (by kernel_rfl)
      · skip
        have hfz := hfin.out w4 0 l A c xs css Rl0
        have hdo := done.out w4 0 l A c xs css (by omega) Rl0
        have hzr' := (Rl0).hz
        rw [hL] at hyr hfz hdo
        have hyc9 := hyr.op6
        clear hfin done Rl0
        replace hL := Lib.hid hL
        go_wp2_with (refine store_row_gen rfl 38 (Operand.tmp 2) _ rfl z #[.int .u32 0, .int .u32 0, .int .u16 0, .string T4, .string T3, .slice A L c] (by simp [go_sem]) (by simp [go_sem]) 38 _ hzr' (by kernel_rfl) rfl (by simp [Value.oneCell']) (fun w11 hw11 => ?_); rw [← hw11] at hfz hdo; clear hw11)
        refine bodyPost_ret (v := .agg #[.int .u32 0, .int .u32 0, .int .u16 0, .string T4, .string T3, .slice A L c]) ?hr rfl hdo
        case hr => exact results_cell_row rfl _ _ z 38 _ (0, 0) _ rfl hfz Try.underlying38 rfl (by kernel_rfl)
end Go.Proofs.Ytlkokkbikkbaoaa
