/- choirseat.nested: a step. -/
import Derived.Test.YtlkokkbikkbaoaaSt4
set_option linter.unusedSimpArgs false
set_option linter.unusedVariables false
set_option linter.unusedSimpArgs false
set_option linter.unusedVariables false
namespace Go.Proofs.Ytlkokkbikkbaoaa
open Go.RowKit
set_option maxRecDepth 100000

/-- A row of values, appended to another one. -/
theorem VRow.append {w w8 : World} {b b2 c c2 c8 : Nat} {l l2 : List Val} {A A2 A8 : Option Addr} {xs xs2 : List Value} {css css2 : Nat → Array Value} (R : VRow w b l A c xs css) (R2 : VRow w b2 l2 A2 c2 xs2 css2) (hb2 : b ≤ b2) (hlt : ∀ g, bOf A = some g → g < b2) (hbw : b2 ≤ w.heap.size)
    (ho8 : Own w8 64 5 A8 (l.length + l2.length) c8 (xs ++ xs2)) (hg8 : w.grownBy w8 (bOf A)) (hat8 : bOf A8 = bOf A ∨ bOf A8 = some w.heap.size) :
    VRow w8 b (l ++ l2) A8 c8 (xs ++ xs2) (fun k => if k < l.length then css k else css2 (k - l.length)) := by
  have hxl : xs.length = l.length * 5 := R.ho.1
  have hu8 : Upd (fun x => some x = bOf A) w w8 := (Upd.refl _ w).grown hg8 (fun k e _ => e.symm)
  have hfresh : ∀ g, g < w.heap.size → some g ≠ bOf A → some g ≠ bOf A8 := by
    intro g hg hne
    rcases hat8 with e | e
    · rw [e]; exact hne
    · rw [e]
      intro e2
      cases e2
      omega
  refine ⟨by rw [List.length_append]; exact ho8, fun g hg => ?_, fun k u hu => ?_, fun k hk => ?_⟩
  · rcases hat8 with e | e
    · rw [e] at hg; exact R.hA g hg
    · rw [e] at hg; cases hg; omega
  · try dsimp only
    rcases Nat.lt_or_ge k l.length with hk | hk
    · rw [List.getElem?_append_left hk] at hu
      rw [if_pos hk]
      refine (((R.hx k u hu).mono (Q := fun g => (b ≤ g ∧ some g ≠ bOf A) ∧ g < w.heap.size) (fun g h1 h2 => ⟨h2, h1⟩)).upd hu8 (fun g hg e => hg.1.2 e)).mono (fun g _ hg => ⟨hg.1.1, hfresh g hg.2 hg.1.2⟩)
    · rw [List.getElem?_append_right hk] at hu
      rw [if_neg (by omega)]
      have hne : ∀ g, b2 ≤ g → some g ≠ bOf A := fun g hg e => by have := hlt g e.symm; omega
      refine (((R2.hx _ u hu).mono (Q := fun g => b2 ≤ g ∧ g < w.heap.size) (fun g h1 h2 => ⟨h2.1, h1⟩)).upd hu8 (fun g hg e => hne g hg.1 e)).mono (fun g _ hg => ⟨Nat.le_trans hb2 hg.1, hfresh g hg.2 (hne g hg.1)⟩)
  · try dsimp only
    rw [List.length_append] at hk
    rcases Nat.lt_or_ge k l.length with h | h
    · rw [if_pos h, ← R.hxs k h, List.drop_append_of_le_length (by omega), List.take_append_of_le_length (by rw [List.length_drop]; omega)]
    · rw [if_neg (by omega), ← R2.hxs (k - l.length) (by omega)]
      congr 1
      rw [List.drop_append, List.drop_eq_nil_of_le (by omega), List.nil_append, hxl]
      congr 1
      omega

theorem VRow.one {w : World} {b c : Nat} {l : List Val} {A : Option Addr} {xs : List Value} {css : Nat → Array Value} (R : VRow w b l A c xs css) : ∀ u ∈ xs, u.oneCell' = true := by
  intro u hu
  obtain ⟨q, hq, rfl⟩ := List.getElem_of_mem hu
  have hxl := R.ho.1
  have hj : q / 5 < l.length := by omega
  obtain ⟨v, hv⟩ : ∃ v, l[q / 5]? = some v := ⟨_, List.getElem?_eq_getElem hj⟩
  have hone := (R.hx _ v hv).one
  rw [← R.hxs _ hj] at hone
  refine hone _ ?_
  rw [List.mem_iff_getElem?]
  refine ⟨q % 5, ?_⟩
  rw [List.getElem?_take, if_pos (by omega), List.getElem?_drop, show q / 5 * 5 + q % 5 = q by omega]
  exact List.getElem?_eq_getElem hq

set_option maxHeartbeats 12800000 in
theorem seat_nested_walk (w : World) {G M K N : Int} {F : Nat} (g0 : 0 ≤ G) (g9 : G ≤ 255) (m0 : 0 ≤ M) (m9 : M ≤ 255) (k0 : 0 ≤ K) (k9 : K ≤ 255) (n0 : -32768 ≤ N) (n9 : N ≤ 32767) (hF : F < 18446744073709551616) : Calls Try.prog 18 #[.agg #[.int .u8 G, .int .u8 M, .int .u8 K, .int .i16 N, .float .f64 F]] w (ValS 2 1102 w) := by
  obtain ⟨jj, gi, gz0, gz1, gz2⟩ := info_parts info_val
  have hsf := fun a k x m w => run_store_float (P := Try.prog) a k x m w
  have htm : G.tmod 6 = G % 6 := Int.tmod_eq_emod_of_nonneg g0
  obtain ⟨g, hg⟩ : ∃ g : Nat, G % 6 = (g : Int) := ⟨(G % 6).toNat, by omega⟩
  have hg6 : g < 6 := by omega
  have hq1 := (Blk.new w 47 #[.int .u8 G, .int .u8 M, .int .u8 K, .int .i16 N, .float .f64 F]).alloc (.cells #[.int .i64 0, .int .i64 0, .float .f64 0, .string ⟨#[]⟩, .slice none 0 0] 64)
  have hz1 := Blk.new (w.alloc (.cells #[.int .u8 G, .int .u8 M, .int .u8 K, .int .i16 N, .float .f64 F] 47)) 64 #[.int .i64 0, .int .i64 0, .float .f64 0, .string ⟨#[]⟩, .slice none 0 0]
  rw [World.size_alloc] at hz1
  have hb1 := ((Below.refl w.heap.size w).alloc (Nat.le_refl _) (.cells #[.int .u8 G, .int .u8 M, .int .u8 K, .int .i16 N, .float .f64 F] 47)).alloc (by simp) (.cells #[.int .i64 0, .int .i64 0, .float .f64 0, .string ⟨#[]⟩, .slice none 0 0] 64)
  have hqc := hq1.val5
  go_enter Try.func18, Try.ntmps18
  go_upto_region 1 with (fail)
  generalize (w.alloc (.cells #[.int .u8 G, .int .u8 M, .int .u8 K, .int .i16 N, .float .f64 F] 47)).alloc (.cells #[.int .i64 0, .int .i64 0, .float .f64 0, .string ⟨#[]⟩, .slice none 0 0] 64) = w1 at *
  obtain ⟨z, hzz⟩ : ∃ z, w.heap.size + 1 = z := ⟨_, rfl⟩
  have hwz : w.heap.size ≤ z := by omega
  rw [hzz] at hz1 ⊢
  have hzl := hz1.lt
  replace hzz := Lib.hid hzz
  go_wp2_with fail
  clear htm hg
  refine (class_walk w1 (k := (g : Int)) (by omega) (by omega)).mono ?_
  rintro e w2 ⟨⟨S, rfl, hS⟩, hb2'⟩
  try dsimp only
  have hq2 := hq1.below hb2' hq1.lt
  have hz2 := hz1.below hb2' hz1.lt
  have hb2 := below_then hb2' hb1
  have hSs : S.size ≤ 100 := by
    obtain ⟨c, hc, rfl⟩ := hS
    have hlc : c.length ≤ 8 := by
      simp only [classes, List.mem_cons, List.not_mem_nil, or_false] at hc
      rcases hc with rfl | rfl | rfl | rfl | rfl | rfl <;> decide
    rw [bstr_len]; omega
  clear hqc hq1 hz1
  go_wp2_with fail
  refine (meths_walk w2 hS).mono ?_
  rintro e w3 ⟨B3, n3, c3, rfl, hn0, hn7, hnc, hst, hb3'⟩
  try dsimp only
  have hq3 := hq2.below hb3' hq2.lt
  have hz3 := hz2.below hb3' hz2.lt
  have hb3 := below_then hb3' hb2
  obtain ⟨j, hj, hjn⟩ : ∃ j : Nat, M % (n3 : Int) = (j : Int) ∧ j < n3 := by
    have h1 := Int.emod_nonneg M (show (n3 : Int) ≠ 0 by omega)
    have h2 := Int.emod_lt_of_pos M (show (0 : Int) < (n3 : Int) by omega)
    exact ⟨(M % (n3 : Int)).toNat, by omega, by omega⟩
  have htj : M.tmod (n3 : Int) = (j : Int) := by rw [Int.tmod_eq_emod_of_nonneg m0]; exact hj
  have hMw : IntKind.i64.wrap M = M := w64_id _ (by omega) (by omega)
  have hn0' : ((n3 : Int) == 0) = false := by rw [beq_eq_false_iff_ne]; omega
  have hn0'' : ¬ (n3 : Int) = 0 := by omega
  obtain ⟨ad3, t3, rfl, ht3, hcell3⟩ := hst.cell hjn
  have hc3 := hcell3 w3 (Below.refl _ _)
  obtain ⟨T3, hT3⟩ : ∃ T3, bstr t3 = T3 := ⟨_, rfl⟩
  have hT3s : T3.size ≤ 100 := by rw [← hT3, bstr_len]; omega
  rw [hT3] at hc3
  have hqc3 := hq3.val5
  clear hst hcell3 hT3 hS hb3' hb2' hq2 hz2 hb2
  replace hn0 := Lib.hid hn0
  go_wp2_with fail
  clear hc3 hqc3 hj htj
  refine (names_walk w3).mono ?_
  rintro e w4 ⟨rfl, hst4, hb4'⟩
  try dsimp only
  obtain ⟨ad4, t4, e4, ht4, hcell4⟩ := hst4.cell hg6
  cases e4
  have hc4 := hcell4 w4 (Below.refl _ _)
  rw [show (⟨w3.heap.size, 0, none⟩ : Addr).add g = ⟨w3.heap.size, g, none⟩ by simp [Addr.add]; try omega] at hc4
  obtain ⟨T4, hT4⟩ : ∃ T4, bstr t4 = T4 := ⟨_, rfl⟩
  have hT4s : T4.size ≤ 100 := by rw [← hT4, bstr_len]; omega
  rw [hT4] at hc4
  have hq4 := hq3.below hb4' hq3.lt
  have hz4 := hz3.below hb4' hz3.lt
  have hz4l := hz4.lt
  have hb4 := below_then hb4' hb3
  clear hst4 hcell4 hT4 hb4' hq3 hz3 hb3
  go_wp2_with fail
  clear hc4
  refine (text_any w4 hT4s).mono ?_
  rintro e w5 ⟨v1, cs1, rfl, hv1, hs1, hb5'⟩
  obtain ⟨k1, i1, f1, s1, A1, n1, c1, rfl⟩ := hv1.reads.form
  try dsimp only
  go_wp2_with fail
  refine (text_any w5 hT3s).mono ?_
  rintro e w6 ⟨v2, cs2, rfl, hv2, hs2, hb6'⟩
  obtain ⟨k2, i2, f2, s2, A2, n2, c2, rfl⟩ := hv2.reads.form
  try dsimp only
  have hb46 := below_then hb6' hb5'
  have hu1 := (hv1.upd (Upd.of_below_size (S := fun _ => False) hb6') (fun _ _ h => h)).mono (Q := fun g => w4.heap.size ≤ g) (fun g _ hg => hg)
  have hu2 := hv2.mono (Q := fun g => w4.heap.size ≤ g) (fun g _ hg => Nat.le_trans hb5'.size hg)
  have R7 := row_two (w1 := w) (w2 := w) hu1 hu2 hb46.size
  have hb67 := (Below.refl w6.heap.size w6).alloc (Nat.le_refl _) (.cells #[.int .i64 k1, .int .i64 i1, .float .f64 f1, .string s1, .slice A1 n1 c1, .int .i64 k2, .int .i64 i2, .float .f64 f2, .string s2, .slice A2 n2 c2] 64)
  have hb47 := below_then hb67 hb46
  have hq7 := hq4.below hb47 hq4.lt
  have hz7 := hz4.below hb47 hz4.lt
  have hb7 := below_then hb47 hb4
  have hs7 : w6.heap.size < (w6.alloc (.cells #[.int .i64 k1, .int .i64 i1, .float .f64 f1, .string s1, .slice A1 n1 c1, .int .i64 k2, .int .i64 i2, .float .f64 f2, .string s2, .slice A2 n2 c2] 64)).heap.size := by simp
  have hqc7 := hq7.val5
  clear hu1 hu2 hv1 hv2 hb67 hb5' hb6' hq4 hz4 hb4
  go_wp2_with fail
  generalize hw7 : w6.alloc (.cells #[.int .i64 k1, .int .i64 i1, .float .f64 f1, .string s1, .slice A1 n1 c1, .int .i64 k2, .int .i64 i2, .float .f64 f2, .string s2, .slice A2 n2 c2] 64) = w7 at *
  refine (seat_args_walk w7 hSs hT3s k0 k9 n0 n9 hF).mono ?_
  rintro e w8 ⟨A, c, l, xs, css, rfl, R8, hall, hl3, hb8'⟩
  try dsimp only
  have R78 := R7.upd (Upd.of_below_size (S := fun _ => False) hb8') (fun _ _ h => h)
  have hz8 := hz7.below hb8' hz7.lt
  have hb8 := below_then hb8' hb7
  have h48 := hb47.size
  have h78 := hb8'.size
  have hone := R8.one
  have hsrc := R8.ho.reads_
  have hw1 := hb1.size
  have h46 := hb46.size
  obtain ⟨L, hL⟩ : ∃ L, l.length = L := ⟨_, rfl⟩
  have hR := fun A8 c8 w9 h1 h2 h3 => R78.append (A8 := A8) (c8 := c8) (w8 := w9) R8 (Nat.le_of_lt (Nat.lt_of_le_of_lt hb46.size hs7)) (fun g hg => by simp [bOf] at hg; omega) h78 h1 h2 h3
  rw [hL] at hsrc hR ⊢
  have hL3 : L ≤ 3 := by omega
  clear hqc7 hq7 hz7 hb7 R7 hb47 hb46 hw7
  replace hR := Lib.hid hR
  replace hL := Lib.hid hL
  have ho := R78.ho
  have hbf : ∀ g, bOf (some (⟨w6.heap.size, 0, none⟩ : Addr)) = some g → z < g ∧ w.heap.size ≤ g := fun g hg => by simp [bOf] at hg; omega
  replace hbf := Lib.hid hbf
  have hne : some z ≠ bOf (some (⟨w6.heap.size, 0, none⟩ : Addr)) := fun e => by simp [bOf] at e; omega
  go_wp2_with (first | (at_builtin; go_must (refine wpList_append_mine rfl _ _ 36 36 rfl 64 jj _ 5 64 Try.underlying36 gi gz0 gz1 gz2 rfl rfl ho rfl (Src.ofReads Try.underlying36 _ hsrc hone) (by unfold maxLen; omega) (by omega) (fun A8 c8 w9 ho9 hg9 hat9 => ?_))) | (refine store_row_gen rfl 64 (Operand.tmp 2) _ rfl z #[.int .i64 4, .int .i64 0, .float .f64 0, .string ⟨#[]⟩, .slice A8 (2 + L) c8] (by simp [go_sem]) (by simp [go_sem]) 64 _ (hz8.grown hg9 hne) (by kernel_rfl) rfl (by simp [Value.oneCell']) (fun w10 hw10 => ?_); replace hw10 := Lib.hid hw10))
  have hz9 := hz8.grown hg9 hne
  have hb9 := hb8.grown hg9 hb8.size (fun g hg => (hbf.out g hg).2)
  have R9 := hR.out A8 c8 w9 ho9 hg9 hat9
  have hl5 : ([v1, v2] ++ l).length ≤ 5 := by rw [List.length_append, hL.out]; simp; omega
  have hA8z : ∀ g, w4.heap.size ≤ g → ¬ (g = z) := fun g hg e => by omega
  have hv10 := (own_list R9 (by omega)).upd ((Upd.refl (fun g => g = z) w9).setRow (g := z) (fun _ => rfl) #[.int .i64 4, .int .i64 0, .float .f64 0, .string ⟨#[]⟩, .slice A8 (2 + L) c8]) (fun g hg e => hA8z g hg e)
  have hzr := hz9.row #[.int .i64 4, .int .i64 0, .float .f64 0, .string ⟨#[]⟩, .slice A8 (2 + L) c8]
  have hbr := below_row hb9 (g := z) hwz #[.int .i64 4, .int .i64 0, .float .f64 0, .string ⟨#[]⟩, .slice A8 (2 + L) c8]
  rw [← hw10.out] at hv10 hzr hbr
  have hle : ([v1, v2] ++ l).length = 2 + L := by rw [List.length_append, hL.out]; rfl
  rw [hle] at hv10
  have hsv : SeatV 2 1102 (.mk 4 0 0 [] ([v1, v2] ++ l)) := (seat_list (d := 1) (n := 220) (fun u hu => by
    rw [List.mem_append] at hu
    rcases hu with hu | hu
    · exact all_2 (P := SeatV 1 220) (hs1.mono (by decide) (by decide)) (hs2.mono (by decide) (by decide)) u hu
    · exact hall u hu) (by omega)).mono (by decide) (by rw [hle]; omega)
  refine bodyPost_ret (v := .agg #[.int .i64 4, .int .i64 0, .float .f64 0, .string ⟨#[]⟩, .slice A8 (2 + L) c8]) ?hr rfl ?fin
  case hr => exact results_cell_row rfl _ _ z 64 _ (0, 0) _ rfl hzr Try.underlying64 rfl (by kernel_rfl)
  case fin => exact ⟨_, _, rfl, hv10.mono (fun g _ hg => by have hg' : w4.heap.size ≤ g := hg; omega), hsv, hbr⟩
end Go.Proofs.Ytlkokkbikkbaoaa
