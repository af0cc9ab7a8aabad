/- (*choirref23.Stub).Call. -/
import Derived.Test.YtgdhiihfcngjbaaCyB
import Derived.Test.YtgdhiihfcngjbaaAlt
set_option linter.unusedSimpArgs false
set_option linter.unusedVariables false
set_option linter.unusedSimpArgs false
set_option linter.unusedVariables false
namespace Go.Proofs.Ytgdhiihfcngjbaa
open Go.RowKit
set_option maxRecDepth 100000

theorem bad_iff {mm : ByteArray} {l : List Val} : badC (⟨#[103]⟩ : ByteArray) mm l = (!nameB mm || (decide (16 < l.length) || l.any fun v => decide (checkV v ≠ 0))) := rfl
theorem blk_reads {w : World} {q size : Nat} {t : TypeId} {cs : Array Value} (h : Blk w q t cs) (hs : cs.size = size) : Reads w w.heap.size size (some ⟨q, 0, none⟩) 1 cs.toList :=
  ⟨by rw [Array.length_toList, hs, Nat.one_mul], fun _ => ⟨⟨q, 0, none⟩, rfl, h.lt, fun j u hj => by rw [add_row]; exact (h.cell j).trans (by simpa using hj)⟩⟩
set_option maxHeartbeats 51200000 in
theorem cy_call {w : World} {F : Nat → Prop} {g : Nat} {d : CliD} {Al : Option Addr} {cl : Nat} {mm : ByteArray} {l : List Val} (h : StubYS w F g d) (ha : OpHeld w (fun y => y = g) ⟨d.id, d.seq + 1, 0, ((⟨#[103]⟩ : ByteArray)).toList, mm.toList, l⟩ #[.int .u32 (d.id : Int), .int .u32 ((d.seq + 1 : Nat) : Int), .int .u16 ((0 : Nat) : Int), .string ⟨#[103]⟩, .string mm, .slice Al l.length cl]) (hlen : l.length ≤ 1000000) (hsq1 : d.seq < 1000000) (hms : mm.size ≤ 1000000000) :
    Calls Try.prog 16 #[.pointer (some ⟨g, 0, none⟩), .string ⟨#[103]⟩, .string mm, .slice Al l.length cl] w (fun e w' => e = .returned (.tuple #[.agg #[.int .u32 ((callC d (⟨#[103]⟩ : ByteArray) mm l : Nat) : Int), .int .u32 ((callS d (⟨#[103]⟩ : ByteArray) mm l : Nat) : Int), .int .u16 0], .int .i64 ((callE d (⟨#[103]⟩ : ByteArray) mm l : Nat) : Int)]) ∧ CliY w w' F g (callD d (⟨#[103]⟩ : ByteArray) mm l)) := by
  have hsf := fun a k x m w => run_store_float (P := Try.prog) a k x m w
  obtain ⟨⟨A, c, A3, c3, A4, c4, A2, c2, xs, xs2, css, css2⟩, h⟩ := h
  have hrd : ∀ W, Upd (fun y => y = g) w W → ∃ (xl : List Value) (cssl : Nat → Array Value), Reads W W.heap.size 5 Al l.length xl ∧ (∀ j v, l[j]? = some v → VReads W W.heap.size v (cssl j)) ∧ (∀ j, j < l.length → (xl.drop (j * 5)).take 5 = (cssl j).toList) := fun W hu => by
    obtain ⟨A', cc', xl, cssl, hcs, hr, hv, hxl, -⟩ := ha _ W hu (fun _ e => e)
    have h5 := congrArg (fun a : Array Value => a.toList[5]?) hcs
    simp at h5
    obtain ⟨rfl, rfl⟩ := h5
    exact ⟨xl, cssl, hr, hv, hxl⟩
  have hokl : ∀ v ∈ l, OkV v := by
    obtain ⟨A', cc', xl, cssl, hcs, hr, hv, hxl, -, hok, -⟩ := ha (fun _ => False) w (Upd.refl _ w) (fun _ hf => hf.elim)
    exact hok
  obtain ⟨LL, hLL⟩ : ∃ q, l.length = q := ⟨_, rfl⟩
  obtain ⟨N, hN⟩ : ∃ q, d.op.length = q := ⟨_, rfl⟩
  have hgl := h.blk.lt
  rw [hLL] at hlen hrd ⊢
  replace hrd := Lib.hid hrd
  replace hN := Lib.hid hN
  replace hLL := Lib.hid hLL
  replace h := Lib.hid h
  replace hokl := Lib.hid hokl
  clear ha
  have hz0 := Blk.new w 29 #[.int .u32 0, .int .u32 0, .int .u16 0]
  have hb0 := (Below.refl w.heap.size w).alloc (Nat.le_refl _) (.cells #[.int .u32 0, .int .u32 0, .int .u16 0] 29)
  obtain ⟨g8, hg8⟩ : ∃ y, w.heap.size = y := ⟨_, rfl⟩
  have hg8w : w.heap.size ≤ g8 := by rw [← hg8]; exact Nat.le_refl _
  rw [hg8] at hz0
  have e0 : mm.toList.isEmpty = !decide (1 ≤ mm.size) := by
    rw [ByteArray.toList_eq]
    have hsz : mm.size = mm.data.toList.length := by rw [Array.length_toList]; rfl
    rw [hsz]
    cases mm.data.toList with
    | nil => rfl
    | cons _ _ => simp
  go_enter Try.func16, Try.ntmps16
  go_upto_region 1 with (fail)
  generalize w.alloc (.cells #[.int .u32 0, .int .u32 0, .int .u16 0] 29) = w0 at *
  try rw [hg8]
  have hz0l := hz0.lt
  by_cases m1 : 1 ≤ mm.size
  · have d1 : decide (1 ≤ mm.size) = true := decide_eq_true m1
    rw [d1] at e0
    by_cases m2 : mm.size ≤ 32
    · have d2 : decide ((32 : Int) < (mm.size : Int)) = false := decide_eq_false (by omega)
      have hnB : nameB mm = true := by unfold nameB; rw [d1, decide_eq_true m2]; rfl
      by_cases m3 : 16 < LL
      · have d3 : decide ((16 : Int) < (LL : Int)) = true := decide_eq_true (by omega)
        have hbd : badC (⟨#[103]⟩ : ByteArray) mm l = true := by rw [bad_iff, hnB, hLL.out, decide_eq_true m3]; rfl
        have f0 := hz0.frozen 0
        have f1 := hz0.frozen 1
        have f2 := hz0.frozen 2
        have k0 := hz0.cell 0
        have k1 := hz0.cell 1
        have k2 := hz0.cell 2
        have hze := ((hz0.set_ 0 (.int .u32 0)).set_ 1 (.int .u32 0)).set_ 2 (.int .u16 0)
        have hbe := ((hb0.setCell (p := ⟨g8, 0, none⟩) hg8w (.int .u32 0)).setCell (p := ⟨g8, 1, none⟩) hg8w (.int .u32 0)).setCell (p := ⟨g8, 2, none⟩) hg8w (.int .u16 0)
        go_wp2_with fail
        refine bodyPost_ret (v := .tuple #[.agg #[.int .u32 0, .int .u32 0, .int .u16 0], .int .i64 31]) ?hr rfl ?_
        case hr => exact results_ct rfl _ _ g8 29 _ (0, 0) _ _ rfl rfl hze Try.underlying29 rfl (by kernel_rfl)
        have hE : callE d (⟨#[103]⟩ : ByteArray) mm l = 31 := by unfold callE; rw [if_pos (show badC _ mm l = true from hbd)]
        unfold callC callS callD
        rw [hE]
        exact ⟨rfl, Upd.of_below_size hbe, F, ⟨_, h.out.below hbe⟩, fun y hy => .inl hy⟩
      · have d3 : decide ((16 : Int) < (LL : Int)) = false := decide_eq_false (by omega)
        have d3' : decide (16 < LL) = false := decide_eq_false m3
        go_upto_if 3 with (fail)
        go_loopw [10] (fun z wr => ∃ K : Nat, K ≤ LL ∧ z = .int .i64 (K : Int) ∧ (∀ v ∈ l.take K, checkV v = 0) ∧ Below w.heap.size w wr ∧ Blk wr g8 29 #[.int .u32 0, .int .u32 0, .int .u16 0]) (fun z _ => LL - (intOf z).toNat)
        case atStart => exact ⟨0, Nat.zero_le _, rfl, by simp, hb0, hz0⟩
        case round =>
          clear hb0 hz0
          rename_i hrel
          obtain ⟨K, hk, rfl, hany, hb, hz⟩ := hrel
          have hzl := hz.lt
          by_cases hlt : K < LL
          · obtain ⟨xl, cssl, hr, hv, hxl⟩ := hrd.out wr (Upd.of_below_size hb)
            have hlt' : K < l.length := by rw [hLL.out]; exact hlt
            rw [← hLL.out] at hr
            obtain ⟨ad, k', i', f', s', A', n', c', rfl, hform, hgk, g0, g1, g2, g3, g4⟩ := kid hr hv (fun j hj => hxl j (by rw [← hLL.out]; exact hj)) (Below.refl _ _) hlt'
            have hvK := hv K _ hgk
            have hcl := ref_check hvK wr (Below.refl _ _) (Nat.le_refl _)
            rw [hform] at hcl
            have htk : l.take (K + 1) = l.take K ++ [l[K]] := by rw [List.take_add_one, hgk]; rfl
            have hmem : l[K] ∈ l := List.getElem_mem hlt'
            generalize l[K] = vK at hcl htk hmem
            have hd : decide ((K : Int) < (LL : Int)) = true := decide_eq_true (by omega)
            have hkw : IntKind.i64.wrap ((K : Int) + 1) = (K : Int) + 1 := by rw [IntKind.wrap_i64]; omega
            obtain ⟨q, hq⟩ : ∃ q, checkV vK = q := ⟨_, rfl⟩
            rw [hq] at hcl
            replace hcl := Lib.hid hcl
            replace htk := Lib.hid htk
            replace hany := Lib.hid hany
            replace hmem := Lib.hid hmem
            clear hr hv hxl hvK hform hgk
            go_wp2_with fail
            refine hcl.out.mono ?_
            clear hcl
            rintro e w2 ⟨rfl, hb2⟩
            try dsimp only
            have hb2' := below_then hb2 hb
            have hz2 := hz.below hb2 hzl
            clear g0 g1 g2 g3 g4
            by_cases hq0 : q = 0
            · subst hq0
              go_wp2_with fail
              go_roundw
              case rel => exact ⟨K + 1, by omega, by simp, fun v hv => by
                rw [htk.out] at hv
                rcases List.mem_append.1 hv with h' | h'
                · exact hany.out v h'
                · cases List.mem_singleton.1 h'; exact hq, hb2', hz2⟩
              case measure => simp [intOf]; omega
            · have dq : ((q : Int) == 0) = false := beq_eq_false_iff_ne.2 (by omega)
              have hbd : badC (⟨#[103]⟩ : ByteArray) mm l = true := by
                rw [bad_iff, hnB, hLL.out, d3', List.any_eq_true.2 ⟨vK, hmem.out, decide_eq_true (by rw [hq]; exact hq0)⟩]
                rfl
              have f0 := hz2.frozen 0
              have f1 := hz2.frozen 1
              have f2 := hz2.frozen 2
              have k0 := hz2.cell 0
              have k1 := hz2.cell 1
              have k2 := hz2.cell 2
              have hze := ((hz2.set_ 0 (.int .u32 0)).set_ 1 (.int .u32 0)).set_ 2 (.int .u16 0)
              have hbe := ((hb2'.setCell (p := ⟨g8, 0, none⟩) hg8w (.int .u32 0)).setCell (p := ⟨g8, 1, none⟩) hg8w (.int .u32 0)).setCell (p := ⟨g8, 2, none⟩) hg8w (.int .u16 0)
              go_wp2_with fail
              refine bodyPost_ret (v := .tuple #[.agg #[.int .u32 0, .int .u32 0, .int .u16 0], .int .i64 31]) ?hr rfl ?_
              case hr => exact results_ct rfl _ _ g8 29 _ (0, 0) _ _ rfl rfl hze Try.underlying29 rfl (by kernel_rfl)
              have hE : callE d (⟨#[103]⟩ : ByteArray) mm l = 31 := by unfold callE; rw [if_pos (show badC _ mm l = true from hbd)]
              unfold callC callS callD
              rw [hE]
              exact ⟨rfl, Upd.of_below_size hbe, F, ⟨_, h.out.below hbe⟩, fun y hy => .inl hy⟩
          · have hk' : LL = K := by omega
            subst hk'
            have hd : decide ((LL : Int) < (LL : Int)) = false := decide_eq_false (by omega)
            have hbd : badC (⟨#[103]⟩ : ByteArray) mm l = false := by
              rw [bad_iff, hnB, hLL.out, d3']
              have : (l.any fun v => decide (checkV v ≠ 0)) = false := List.any_eq_false.2 (fun v hv => by
                have := hany v (by rw [List.take_of_length_le (by rw [hLL.out]; omega)]; exact hv)
                simp [this])
              rw [this]
              rfl
            have hY := h.out.below hb
            have hg2 : wr.cell? ⟨g, 2, none⟩ = some (.slice A N c) := by rw [← hN.out]; exact hY.blk.cell 2
            clear hany
            by_cases m4 : 4 ≤ N
            · have d4 : decide ((4 : Int) ≤ (N : Int)) = true := decide_eq_true (by omega)
              have f0 := hz.frozen 0
              have f1 := hz.frozen 1
              have f2 := hz.frozen 2
              have k0 := hz.cell 0
              have k1 := hz.cell 1
              have k2 := hz.cell 2
              have hze := ((hz.set_ 0 (.int .u32 0)).set_ 1 (.int .u32 0)).set_ 2 (.int .u16 0)
              have hbe := ((hb.setCell (p := ⟨g8, 0, none⟩) hg8w (.int .u32 0)).setCell (p := ⟨g8, 1, none⟩) hg8w (.int .u32 0)).setCell (p := ⟨g8, 2, none⟩) hg8w (.int .u16 0)
              go_wp2_with fail
              refine bodyPost_ret (v := .tuple #[.agg #[.int .u32 0, .int .u32 0, .int .u16 0], .int .i64 42]) ?hr rfl ?_
              case hr => exact results_ct rfl _ _ g8 29 _ (0, 0) _ _ rfl rfl hze Try.underlying29 rfl (by kernel_rfl)
              have hE : callE d (⟨#[103]⟩ : ByteArray) mm l = 42 := by unfold callE; rw [if_neg (by rw [hbd]; decide), if_pos (by rw [hN.out]; exact m4)]
              unfold callC callS callD
              rw [hE]
              exact ⟨rfl, Upd.of_below_size hbe, F, ⟨_, h.out.below hbe⟩, fun y hy => .inl hy⟩
            · have d4 : decide ((4 : Int) ≤ (N : Int)) = false := decide_eq_false (by omega)
              have hE : callE d (⟨#[103]⟩ : ByteArray) mm l = 0 := by unfold callE; rw [if_neg (by rw [hbd]; decide), if_neg (by rw [hN.out]; exact m4)]
              have hsq := hY.hsq
              have hbs : Blk wr g 52 #[.int .u32 (d.id : Int), .int .u32 (d.seq : Int), .slice A d.op.length c, .slice A3 d.op.length c3, .slice A4 d.op.length c4, .slice A2 d.rp.length c2] := hY.blk
              have hLw : Own wr 62 6 A d.op.length c xs := hY.ho
              have hAw : Own wr 3 1 A3 d.op.length c3 (agesR d.op) := hY.ha
              have hGw : Own wr 4 1 A4 d.op.length c4 (nowsR d.op) := hY.hg
              have hDw : Own wr 39 9 A2 d.rp.length c2 xs2 := hY.hr
              obtain ⟨sid, hsid⟩ : ∃ q, d.id = q := ⟨_, rfl⟩
              obtain ⟨sq, hsq'⟩ : ∃ q, d.seq = q := ⟨_, rfl⟩
              obtain ⟨M, hM⟩ : ∃ q, d.rp.length = q := ⟨_, rfl⟩
              obtain ⟨ages, hages⟩ : ∃ q, agesR d.op = q := ⟨_, rfl⟩
              obtain ⟨nows, hnows⟩ : ∃ q, nowsR d.op = q := ⟨_, rfl⟩
              rw [hsid, hsq', hN.out, hM] at hbs
              rw [hN.out] at hLw hAw hGw
              rw [hM] at hDw
              rw [hages] at hAw
              rw [hnows] at hGw
              rw [hsq'] at hsq hsq1
              have hs0 := hbs.cell 0
              have hs1 := hbs.cell 1
              have hf1 := hbs.frozen 1
              have wsq : IntKind.u32.wrap ((sq : Int) + 1) = (sq : Int) + 1 := by unfold IntKind.wrap; simp [IntKind.bits, IntKind.signed]; omega
              have hbs4 : Blk (wr.setCell ⟨g, 1, none⟩ (.int .u32 ((sq : Int) + 1))) g 52 #[.int .u32 (sid : Int), .int .u32 ((sq : Int) + 1), (.slice A N c), (.slice A3 N c3), (.slice A4 N c4), .slice A2 M c2] := hbs.set_ 1 (.int .u32 ((sq : Int) + 1))
              have hu4 : Upd (fun y => y = g) wr (wr.setCell ⟨g, 1, none⟩ (.int .u32 ((sq : Int) + 1))) := (Upd.refl (fun y => y = g) wr).setCell (p := ⟨g, 1, none⟩) (fun _ => rfl) _
              have hgg8 : g ≠ g8 := by omega
              have hz4 := hz.upd hu4 (fun e => hgg8 e.symm)
              have hL4 := hLw.upd hu4 (fun y hy e => hLw.ne_b hbs (by decide) y hy e)
              have hA4 := hAw.upd hu4 (fun y hy e => hAw.ne_b hbs (by decide) y hy e)
              have hG4 := hGw.upd hu4 (fun y hy e => hGw.ne_b hbs (by decide) y hy e)
              have hD4 := hDw.upd hu4 (fun y hy e => hDw.ne_b hbs (by decide) y hy e)
              replace hsid := Lib.hid hsid
              replace hsq' := Lib.hid hsq'
              replace hM := Lib.hid hM
              replace hages := Lib.hid hages
              replace hnows := Lib.hid hnows
              replace hY := Lib.hid hY
              clear hLw hAw hGw hDw
              go_upto_region 11 with (fail)
              generalize wr.setCell ⟨g, 1, none⟩ (.int .u32 ((sq : Int) + 1)) = w4 at *
              clear hs0 hs1 hf1 hg2 hbs
              have hu04 : Upd (fun y => y = g) w w4 := (Upd.of_below_size hb).trans hu4 (fun _ _ e => e)
              have hcl : ∀ W, Upd (fun y => y = g) w W → Calls Try.prog 34 #[.slice Al LL cl] W (CleansRes W l) := fun W hu => by
                obtain ⟨xl, cssl, hr, hv, hxl⟩ := hrd.out W hu
                rw [← hLL.out] at hr ⊢
                exact ref_cleans hr (Nat.le_refl _) (fun j hj => hxl j (by rw [← hLL.out]; exact hj)) hv (by rw [hLL.out]; omega) (fun j v hj w1 hb1 => ref_clean_s (hv j v hj) w1 (short_of_ok (hokl.out v (List.mem_of_getElem? hj))) hb1 hb1.size)
              replace hcl := Lib.hid hcl
              have hl4 := hbs4.lt
              have hw4s := hu04.size
              go_cut [11] from 61 to 74 (fun x11 wx => ∃ (y : Nat) (A' : Option Addr) (c' : Nat) (xs' : List Value) (css' : Nat → Array Value), x11 = .pointer (some ⟨y, 0, none⟩) ∧ w4.heap.size ≤ y ∧ Blk wx y 62 #[.int .u32 (sid : Int), .int .u32 ((sq : Int) + 1), .int .u16 0, .string ⟨#[103]⟩, .string mm, .slice A' LL c'] ∧ VRowP wx (fun g => w4.heap.size ≤ g ∧ g ≠ y) (l.map cleanV) A' c' xs' css' ∧ Below w4.heap.size w4 wx)
              case first =>
                have hS0 : Below w4.heap.size w4 w4.drew := (Below.refl _ _).drew
                refine wp_region_pair (fun W => Below w4.heap.size w4 W) [3, 7] [12, 14, 15] [0, 1, 2, 3, 4, 5, 6, 7, 8, 9, 10, 11] 12 14 [13, 14, 15] [12, 13, 15] (by kernel_rfl) rfl rfl (by kernel_rfl) (by kernel_rfl) (by kernel_rfl) rfl rfl (by kernel_rfl) (by kernel_rfl) (fun _ _ d _ _ h => by cases d <;> exact h) ?_
                repeat (first | (refine lexG_take _ ?_ rfl rfl rfl rfl (fun _ => ?_) ?_; rotate_left; (focus (go_simp; with_reducible rfl)); try simp only [Act.put, List.setIfInBounds_toArray, List.set_cons_zero, List.set_cons_succ]) | (refine lexG_held _ ?_ rfl rfl rfl rfl (by assumption) (fun _ hSw => ?_) ?_; rotate_left; (focus (have h1 := (hbs4.below hSw hl4).cell 0; have h2 := (hbs4.below hSw hl4).cell 1; clear hSw; go_simp; with_reducible rfl)); try simp only [Act.put, List.setIfInBounds_toArray, List.set_cons_zero, List.set_cons_succ]) | (refine lexG_skip _ rfl rfl (by assumption) ?_; try simp only [Act.put, List.setIfInBounds_toArray, List.set_cons_zero, List.set_cons_succ]))
                refine lexG_nil ?_
                refine ⟨?_, ?_⟩
                · skip
                  refine lexG_now _ rfl rfl rfl (fun K0 hK => ?_)
                  go_wp2_with fail
                  refine (hcl.out w4.drew (hu04.trans (Upd.of_below_size hS0) (fun _ _ e => e))).mono ?_
                  rintro e w5 ⟨A', c', xs', css', rfl, R, hb5'⟩
                  try dsimp only
                  rw [hLL.out]
                  have hS5 := below_then hb5' hS0
                  refine hK _ _ (fun W => Below w4.heap.size w4 W) (fun W h => h) hS5 ?_
                  clear hK K0
                  try simp only [Act.put, List.setIfInBounds_toArray, List.set_cons_zero, List.set_cons_succ]
                  repeat (first | (refine lexG_take _ ?_ rfl rfl rfl rfl (fun _ => ?_) ?_; rotate_left; (focus (go_simp; with_reducible rfl)); try simp only [Act.put, List.setIfInBounds_toArray, List.set_cons_zero, List.set_cons_succ]) | (refine lexG_held _ ?_ rfl rfl rfl rfl (by assumption) (fun _ hSw => ?_) ?_; rotate_left; (focus (have h1 := (hbs4.below hSw hl4).cell 0; have h2 := (hbs4.below hSw hl4).cell 1; clear hSw; go_simp; with_reducible rfl)); try simp only [Act.put, List.setIfInBounds_toArray, List.set_cons_zero, List.set_cons_succ]) | (refine lexG_skip _ rfl rfl (by assumption) ?_; try simp only [Act.put, List.setIfInBounds_toArray, List.set_cons_zero, List.set_cons_succ]))
                  have h35 := hS5.size
                  have hy6 := Blk.new w5 62 #[.int .u32 0, .int .u32 0, .int .u16 0, .string ⟨#[]⟩, .string ⟨#[]⟩, .slice none 0 0]
                  have hS6 := hS5.alloc hS5.size (.cells #[.int .u32 0, .int .u32 0, .int .u16 0, .string ⟨#[]⟩, .string ⟨#[]⟩, .slice none 0 0] 62)
                  have RP := (R.toP (P := fun g => w4.heap.size ≤ g ∧ g ≠ w5.heap.size) (fun g h1 h2 => ⟨h1, by omega⟩)).upd ((Upd.refl (fun _ => False) w5).alloc (.cells #[.int .u32 0, .int .u32 0, .int .u16 0, .string ⟨#[]⟩, .string ⟨#[]⟩, .slice none 0 0] 62)) (fun _ _ h => h)
                  refine lexG_now _ rfl rfl rfl (fun K0 hK => ?_)
                  go_wp2_with fail
                  generalize hww : w5.alloc (.cells #[.int .u32 0, .int .u32 0, .int .u16 0, .string ⟨#[]⟩, .string ⟨#[]⟩, .slice none 0 0] 62) = w6 at *
                  refine hK _ _ (fun W => Below w4.heap.size w4 W) (fun W h => h) hS6 ?_
                  clear hK K0
                  try simp only [Act.put, List.setIfInBounds_toArray, List.set_cons_zero, List.set_cons_succ]
                  have hyr := hy6.row #[.int .u32 (sid : Int), .int .u32 ((sq : Int) + 1), .int .u16 0, .string ⟨#[103]⟩, .string mm, .slice A' LL c']
                  have hSr := below_row hS6 (g := w5.heap.size) (by omega) #[.int .u32 (sid : Int), .int .u32 ((sq : Int) + 1), .int .u16 0, .string ⟨#[103]⟩, .string mm, .slice A' LL c']
                  have Rr := RP.upd ((Upd.refl (fun g => g = w5.heap.size) w6).setRow (g := w5.heap.size) (fun _ => rfl) #[.int .u32 (sid : Int), .int .u32 ((sq : Int) + 1), .int .u16 0, .string ⟨#[103]⟩, .string mm, .slice A' LL c']) (fun g hg e => hg.2 e)
                  refine lexG_nowF _ rfl rfl rfl (by kernel_rfl) (fun K0 hK => ?_)
                  refine wp_store_row 62 (Operand.tmp 11) _ rfl w5.heap.size #[.int .u32 (sid : Int), .int .u32 ((sq : Int) + 1), .int .u16 0, .string ⟨#[103]⟩, .string mm, .slice A' LL c'] (by simp [go_sem]) (by simp [go_sem]) 62 _ hy6 (by kernel_rfl) rfl (by simp [Value.oneCell']) ?_
                  go_simp
                  refine hK _ _ ?_
                  clear hK K0
                  try simp only [Act.put, List.setIfInBounds_toArray, List.set_cons_zero, List.set_cons_succ]
                  refine lexG_nil ?_
                  go_wp2_with fail
                  go_meet
                  exact ⟨w5.heap.size, A', c', xs', css', rfl, by omega, hyr, Rr, hSr⟩
                · have hy4 := (Blk.new w4 62 #[.int .u32 0, .int .u32 0, .int .u16 0, .string ⟨#[]⟩, .string ⟨#[]⟩, .slice none 0 0])
                  have hS4 := (((Below.refl w4.heap.size w4).alloc (Nat.le_refl _) (.cells #[.int .u32 0, .int .u32 0, .int .u16 0, .string ⟨#[]⟩, .string ⟨#[]⟩, .slice none 0 0] 62))).drew
                  refine lexG_now _ rfl rfl rfl (fun K0 hK => ?_)
                  go_wp2_with fail
                  refine hK _ _ (fun W => Below w4.heap.size w4 W) (fun W h => h) hS4 ?_
                  clear hK K0
                  try simp only [Act.put, List.setIfInBounds_toArray, List.set_cons_zero, List.set_cons_succ]
                  replace hy4 := hy4.drew
                  generalize hww : (w4.alloc (.cells #[.int .u32 0, .int .u32 0, .int .u16 0, .string ⟨#[]⟩, .string ⟨#[]⟩, .slice none 0 0] 62)).drew = w5' at *
                  have hy4l := hy4.lt
                  refine lexG_now _ rfl rfl rfl (fun K0 hK => ?_)
                  go_wp2_with fail
                  refine (hcl.out w5' (hu04.trans (Upd.of_below_size hS4) (fun _ _ e => e))).mono ?_
                  rintro e w5 ⟨A', c', xs', css', rfl, R, hb5'⟩
                  try dsimp only
                  rw [hLL.out]
                  have hS5 := below_then hb5' hS4
                  refine hK _ _ (fun W => Below w4.heap.size w4 W) (fun W h => h) hS5 ?_
                  clear hK K0
                  try simp only [Act.put, List.setIfInBounds_toArray, List.set_cons_zero, List.set_cons_succ]
                  repeat (first | (refine lexG_take _ ?_ rfl rfl rfl rfl (fun _ => ?_) ?_; rotate_left; (focus (go_simp; with_reducible rfl)); try simp only [Act.put, List.setIfInBounds_toArray, List.set_cons_zero, List.set_cons_succ]) | (refine lexG_held _ ?_ rfl rfl rfl rfl (by assumption) (fun _ hSw => ?_) ?_; rotate_left; (focus (have h1 := (hbs4.below hSw hl4).cell 0; have h2 := (hbs4.below hSw hl4).cell 1; clear hSw; go_simp; with_reducible rfl)); try simp only [Act.put, List.setIfInBounds_toArray, List.set_cons_zero, List.set_cons_succ]) | (refine lexG_skip _ rfl rfl (by assumption) ?_; try simp only [Act.put, List.setIfInBounds_toArray, List.set_cons_zero, List.set_cons_succ]))
                  have hy6 := hy4.below hb5' hy4l
                  have RP := R.toP (P := fun g => w4.heap.size ≤ g ∧ g ≠ w4.heap.size) (fun g h1 h2 => ⟨by omega, by omega⟩)
                  have hyr := hy6.row #[.int .u32 (sid : Int), .int .u32 ((sq : Int) + 1), .int .u16 0, .string ⟨#[103]⟩, .string mm, .slice A' LL c']
                  have hSr := below_row hS5 (g := w4.heap.size) (by omega) #[.int .u32 (sid : Int), .int .u32 ((sq : Int) + 1), .int .u16 0, .string ⟨#[103]⟩, .string mm, .slice A' LL c']
                  have Rr := RP.upd ((Upd.refl (fun g => g = w4.heap.size) w5).setRow (g := w4.heap.size) (fun _ => rfl) #[.int .u32 (sid : Int), .int .u32 ((sq : Int) + 1), .int .u16 0, .string ⟨#[103]⟩, .string mm, .slice A' LL c']) (fun g hg e => hg.2 e)
                  refine lexG_nowF _ rfl rfl rfl (by kernel_rfl) (fun K0 hK => ?_)
                  refine wp_store_row 62 (Operand.tmp 11) _ rfl w4.heap.size #[.int .u32 (sid : Int), .int .u32 ((sq : Int) + 1), .int .u16 0, .string ⟨#[103]⟩, .string mm, .slice A' LL c'] (by simp [go_sem]) (by simp [go_sem]) 62 _ hy6 (by kernel_rfl) rfl (by simp [Value.oneCell']) ?_
                  go_simp
                  refine hK _ _ ?_
                  clear hK K0
                  try simp only [Act.put, List.setIfInBounds_toArray, List.set_cons_zero, List.set_cons_succ]
                  refine lexG_nil ?_
                  go_wp2_with fail
                  go_meet
                  exact ⟨w4.heap.size, A', c', xs', css', rfl, by omega, hyr, Rr, hSr⟩
              case rest =>
                obtain ⟨y, A', c', xs', css', rfl, hwy, hy5, R5, hb5⟩ := hcut
                generalize wc = w5 at *
                obtain ⟨iL0, iL1, iL2, iL3, iL4⟩ := info_parts info_op
                obtain ⟨iA0, iA1, iA2, iA3, iA4⟩ := info_parts info_int
                obtain ⟨iB0, iB1, iB2, iB3, iB4⟩ := info_parts info_bool
                have hbs5 := hbs4.below hb5 hl4
                have hz5 := hz4.below hb5 hz4.lt
                have hL5 := hL4.below hb5 (Nat.le_refl _)
                have hA5 := hA4.below hb5 (Nat.le_refl _)
                have hG5 := hG4.below hb5 (Nat.le_refl _)
                have hD5 := hD4.below hb5 (Nat.le_refl _)
                have hsLL : (l.map cleanV).length = LL := by rw [List.length_map]; exact hLL.out
                have hn4 := hY.out.hn
                rw [hN.out] at hn4
                have hrl := hY.out.hr4
                rw [hM.out] at hrl
                have hgn : ¬ (bOf A = some g ∨ bOf A3 = some g ∨ bOf A4 = some g) := fun e => by
                  rcases e with e | e | e
                  · exact hL5.ne_b hbs5 (by decide) g e rfl
                  · exact hA5.ne_b hbs5 (by decide) g e rfl
                  · exact hG5.ne_b hbs5 (by decide) g e rfl
                have hyn : ¬ (bOf A = some y ∨ bOf A3 = some y ∨ bOf A4 = some y) := fun e => by
                  rcases e with e | e | e
                  · have := hL4.lt e; omega
                  · have := hA4.lt e; omega
                  · have := hG4.lt e; omega
                have hz44 := hz4.lt
                clear hL4 hA4 hG4 hD4 hbs4 hz4
                replace R5 := Lib.hid R5
                replace hD5 := Lib.hid hD5
                go_upto_region 12 with (fail)
                go_cut [75] from 75 to 102 (fun x75 wx => ∃ (wq : World) (A8 : Option Addr) (c8 : Nat) (A9 : Option Addr) (c9 : Nat) (A10 : Option Addr) (c10 : Nat), wx = ((wq.setCell ⟨g, 2, none⟩ (.slice A8 (N + 1) c8)).setCell ⟨g, 3, none⟩ (.slice A9 (N + 1) c9)).setCell ⟨g, 4, none⟩ (.slice A10 (N + 1) c10) ∧ Upd (fun z => (bOf A = some z ∨ bOf A3 = some z ∨ bOf A4 = some z)) w5 wq ∧ Own wq 62 6 A8 (N + 1) c8 (xs ++ [.int .u32 (sid : Int), .int .u32 ((sq : Int) + 1), .int .u16 0, .string ⟨#[103]⟩, .string mm, .slice A' LL c']) ∧ Own wq 3 1 A9 (N + 1) c9 (ages ++ [.int .i64 0]) ∧ Own wq 4 1 A10 (N + 1) c10 (nows ++ [.bool true]) ∧ (∀ z, bOf A8 = some z → bOf A = some z ∨ w5.heap.size ≤ z) ∧ (∀ z, bOf A9 = some z → bOf A3 = some z ∨ w5.heap.size ≤ z) ∧ (∀ z, bOf A10 = some z → bOf A4 = some z ∨ w5.heap.size ≤ z))
                case first =>
                  refine wp_region_alts (fun W => Upd (fun z => (bOf A = some z ∨ bOf A3 = some z ∨ bOf A4 = some z)) w5 W) [6, 7, 13, 19] [8, 9, 14, 15, 20, 21, 24, 27, 30] (.one 0 (.one 1 (.one 2 (.one 3 (.one 4 (.one 5 (.one 6 (.one 7 (.one 10 (.one 11 (.one 12 (.one 13 (.one 16 (.one 17 (.one 18 (.one 19 (.alt 8 (.alt 9 (.alt 14 (.alt 15 (.one 20 (.one 21 (.one 22 (.one 23 (.one 24 (.one 25 (.one 26 (.one 27 (.one 28 (.one 29 (.one 30 .nil))))))))))) (.one 20 (.one 15 (.one 21 (.one 22 (.one 23 (.one 24 (.one 25 (.one 26 (.one 27 (.one 28 (.one 29 (.one 30 .nil))))))))))))) (.one 20 (.one 14 (.one 15 (.one 21 (.one 22 (.one 23 (.one 24 (.one 25 (.one 26 (.one 27 (.one 28 (.one 29 (.one 30 .nil)))))))))))))) (.alt 14 (.alt 9 (.alt 15 (.one 20 (.one 21 (.one 22 (.one 23 (.one 24 (.one 25 (.one 26 (.one 27 (.one 28 (.one 29 (.one 30 .nil))))))))))) (.one 20 (.one 15 (.one 21 (.one 22 (.one 23 (.one 24 (.one 25 (.one 26 (.one 27 (.one 28 (.one 29 (.one 30 .nil))))))))))))) (.one 20 (.one 9 (.one 15 (.one 21 (.one 22 (.one 23 (.one 24 (.one 25 (.one 26 (.one 27 (.one 28 (.one 29 (.one 30 .nil)))))))))))))) (.one 20 (.alt 9 (.one 14 (.one 15 (.one 21 (.one 22 (.one 23 (.one 24 (.one 25 (.one 26 (.one 27 (.one 28 (.one 29 (.one 30 .nil)))))))))))) (.one 14 (.one 9 (.one 15 (.one 21 (.one 22 (.one 23 (.one 24 (.one 25 (.one 26 (.one 27 (.one 28 (.one 29 (.one 30 .nil))))))))))))))))) (.alt 14 (.alt 8 (.alt 9 (.alt 15 (.one 20 (.one 21 (.one 22 (.one 23 (.one 24 (.one 25 (.one 26 (.one 27 (.one 28 (.one 29 (.one 30 .nil))))))))))) (.one 20 (.one 15 (.one 21 (.one 22 (.one 23 (.one 24 (.one 25 (.one 26 (.one 27 (.one 28 (.one 29 (.one 30 .nil))))))))))))) (.one 20 (.one 9 (.one 15 (.one 21 (.one 22 (.one 23 (.one 24 (.one 25 (.one 26 (.one 27 (.one 28 (.one 29 (.one 30 .nil)))))))))))))) (.one 20 (.one 8 (.one 9 (.one 15 (.one 21 (.one 22 (.one 23 (.one 24 (.one 25 (.one 26 (.one 27 (.one 28 (.one 29 (.one 30 .nil))))))))))))))) (.one 20 (.alt 8 (.alt 9 (.one 14 (.one 15 (.one 21 (.one 22 (.one 23 (.one 24 (.one 25 (.one 26 (.one 27 (.one 28 (.one 29 (.one 30 .nil)))))))))))) (.one 14 (.one 9 (.one 15 (.one 21 (.one 22 (.one 23 (.one 24 (.one 25 (.one 26 (.one 27 (.one 28 (.one 29 (.one 30 .nil)))))))))))))) (.one 14 (.one 8 (.one 9 (.one 15 (.one 21 (.one 22 (.one 23 (.one 24 (.one 25 (.one 26 (.one 27 (.one 28 (.one 29 (.one 30 .nil)))))))))))))))))))))))))))))))))) (by kernel_rfl) rfl (by kernel_rfl) (by kernel_rfl) (by kernel_rfl) (fun _ _ d _ _ h => by cases d <;> exact h) ?_
                  have hS0 : Upd (fun z => (bOf A = some z ∨ bOf A3 = some z ∨ bOf A4 = some z)) w5 w5.drew := Upd.of_below_size (Below.refl _ _).drew
                  have hU : Upd (fun z => False) w5 w5.drew := Upd.of_below_size (Below.refl _ _).drew
                  repeat (first | (refine altG_take _ ?_ rfl rfl rfl rfl (fun _ => ?_) ?_; rotate_left; (focus (go_simp; with_reducible rfl)); try simp only [Act.put, List.setIfInBounds_toArray, List.set_cons_zero, List.set_cons_succ]) | (refine altG_held _ ?_ rfl rfl rfl rfl (by assumption) (fun _ hSw => ?_) ?_; rotate_left; (focus (have h1 := (hbs5.upd hSw hgn).cell 2; have h2 := (hbs5.upd hSw hgn).cell 3; have h3 := (hbs5.upd hSw hgn).cell 4; have h5 := (hy5.upd hSw hyn).op6; clear hSw; go_simp; with_reducible rfl)); try simp only [Act.put, List.setIfInBounds_toArray, List.set_cons_zero, List.set_cons_succ]) | (refine altG_skip _ rfl rfl (by assumption) ?_; try simp only [Act.put, List.setIfInBounds_toArray, List.set_cons_zero, List.set_cons_succ]))
                  generalize w5.drew = v0 at *
                  clear hS0
                  refine altG_alt rfl ?_ ?_
                  · skip
                    refine altG_now _ rfl rfl rfl (fun K0 hK => ?_)
                    go_wp2_with fail
                    have hbN := (Below.refl v0.heap.size v0).alloc (Nat.le_refl _) (.cells #[.int .u32 (sid : Int), .int .u32 ((sq : Int) + 1), .int .u16 0, .string ⟨#[103]⟩, .string mm, .slice A' LL c'] 62)
                    have hq8 := Blk.new v0 62 #[.int .u32 (sid : Int), .int .u32 ((sq : Int) + 1), .int .u16 0, .string ⟨#[103]⟩, .string mm, .slice A' LL c']
                    have hl8 : w5.heap.size ≤ v0.heap.size := hU.size
                    generalize v0.alloc (.cells #[.int .u32 (sid : Int), .int .u32 ((sq : Int) + 1), .int .u16 0, .string ⟨#[103]⟩, .string mm, .slice A' LL c'] 62) = v1 at *
                    replace hU := hU.trans (Upd.of_below_size (S := fun z => False) hbN) (fun _ _ e => e)
                    obtain ⟨q8, hqe⟩ : ∃ y, v0.heap.size = y := ⟨_, rfl⟩
                    rw [hqe] at hq8 hl8
                    try rw [hqe]
                    clear hbN
                    refine hK _ _ _ (fun _ h => h) (hU.mono (fun _ _ e => e.elim)) ?_
                    clear hK K0
                    try simp only [Act.put, List.setIfInBounds_toArray, List.set_cons_zero, List.set_cons_succ]
                    refine altG_alt rfl ?_ ?_
                    · skip
                      refine altG_now _ rfl rfl rfl (fun K0 hK => ?_)
                      have hown := hL5.upd hU (fun y hy e => e)
                      have hsrc := blk_reads (size := 6) hq8 rfl
                      refine wp_append_mine _ _ 42 42 rfl 62 iL0 _ 6 72 Try.underlying42 iL1 iL2 iL3 iL4 rfl rfl hown rfl (Src.ofReads Try.underlying42 _ hsrc (by intro u hu; simp only [List.mem_cons, List.not_mem_nil, or_false] at hu; rcases hu with rfl | rfl | rfl | rfl | rfl | rfl <;> rfl)) (by unfold maxLen; omega) (by omega) (fun A8 c8 v2 ho9 hg8 hat8 => ?_)
                      have hu8 : Upd (fun z => bOf A = some z) v1 v2 := (Upd.refl (fun z => bOf A = some z) _).grown hg8 (fun y e _ => e)
                      have hat9 : ∀ z, bOf A8 = some z → bOf A = some z ∨ w5.heap.size ≤ z := fun z hz => by
                        rcases hat8 with e | e
                        · rw [e] at hz; exact .inl hz
                        · have h1 : v1.heap.size = z := by rw [e] at hz; injection hz
                          have h2 := hU.size
                          exact .inr (by omega)
                      replace hU : Upd (fun z => bOf A = some z) w5 v2 := (hU.mono (fun _ _ e => e.elim)).trans (hu8.mono (fun _ _ e => e)) (fun _ _ e => e)
                      clear hown hsrc hg8 hat8 hu8 hq8 hl8
                      refine hK _ _ _ (fun _ h => h) (hU.mono (fun _ _ e => .inl e)) ?_
                      clear hK K0
                      try simp only [Act.put, List.setIfInBounds_toArray, List.set_cons_zero, List.set_cons_succ]
                      refine altG_alt rfl ?_ ?_
                      · skip
                        refine altG_now _ rfl rfl rfl (fun K0 hK => ?_)
                        go_wp2_with fail
                        have hbN := (Below.refl v2.heap.size v2).alloc (Nat.le_refl _) (.cells #[.int .i64 0] 3)
                        have hq14 := Blk.new v2 3 #[.int .i64 0]
                        have hl14 : w5.heap.size ≤ v2.heap.size := hU.size
                        generalize v2.alloc (.cells #[.int .i64 0] 3) = v3 at *
                        replace hU := hU.trans (Upd.of_below_size (S := fun z => bOf A = some z) hbN) (fun _ _ e => e)
                        replace ho9 := ho9.below hbN (Nat.le_refl _)
                        obtain ⟨q14, hqe⟩ : ∃ y, v2.heap.size = y := ⟨_, rfl⟩
                        rw [hqe] at hq14 hl14
                        try rw [hqe]
                        clear hbN
                        refine hK _ _ _ (fun _ h => h) (hU.mono (fun _ _ e => .inl e)) ?_
                        clear hK K0
                        try simp only [Act.put, List.setIfInBounds_toArray, List.set_cons_zero, List.set_cons_succ]
                        refine altG_alt rfl ?_ ?_
                        · skip
                          refine altG_now _ rfl rfl rfl (fun K0 hK => ?_)
                          have hown := hA5.upd hU (fun y hy e => hL5.ne_own hA5 (by decide) y e hy)
                          have hsrc := blk_reads (size := 1) hq14 rfl
                          refine wp_append_mine _ _ 49 49 rfl 3 iA0 _ 1 8 Try.underlying49 iA1 iA2 iA3 iA4 rfl rfl hown rfl (Src.ofReads Try.underlying49 _ hsrc (by intro u hu; simp only [List.mem_cons, List.not_mem_nil, or_false] at hu; rcases hu with rfl <;> rfl)) (by unfold maxLen; omega) (by omega) (fun A9 c9 v4 ho15 hg8 hat8 => ?_)
                          have hu8 : Upd (fun z => bOf A3 = some z) v3 v4 := (Upd.refl (fun z => bOf A3 = some z) _).grown hg8 (fun y e _ => e)
                          replace ho9 := ho9.upd hu8 (fun y hy e => ho9.ne_own hown (by decide) y hy e)
                          have hat15 : ∀ z, bOf A9 = some z → bOf A3 = some z ∨ w5.heap.size ≤ z := fun z hz => by
                            rcases hat8 with e | e
                            · rw [e] at hz; exact .inl hz
                            · have h1 : v3.heap.size = z := by rw [e] at hz; injection hz
                              have h2 := hU.size
                              exact .inr (by omega)
                          replace hU : Upd (fun z => (bOf A = some z ∨ bOf A3 = some z)) w5 v4 := (hU.mono (fun _ _ e => .inl e)).trans (hu8.mono (fun _ _ e => .inr e)) (fun _ _ e => e)
                          clear hown hsrc hg8 hat8 hu8 hq14 hl14
                          refine hK _ _ _ (fun _ h => h) (hU.mono (fun _ _ e => e.elim .inl (fun e => .inr (.inl e)))) ?_
                          clear hK K0
                          try simp only [Act.put, List.setIfInBounds_toArray, List.set_cons_zero, List.set_cons_succ]
                          refine altG_now _ rfl rfl rfl (fun K0 hK => ?_)
                          go_wp2_with fail
                          have hbN := (Below.refl v4.heap.size v4).alloc (Nat.le_refl _) (.cells #[.bool true] 4)
                          have hq20 := Blk.new v4 4 #[.bool true]
                          have hl20 : w5.heap.size ≤ v4.heap.size := hU.size
                          generalize v4.alloc (.cells #[.bool true] 4) = v5 at *
                          replace hU := hU.trans (Upd.of_below_size (S := fun z => (bOf A = some z ∨ bOf A3 = some z)) hbN) (fun _ _ e => e)
                          replace ho9 := ho9.below hbN (Nat.le_refl _)
                          replace ho15 := ho15.below hbN (Nat.le_refl _)
                          obtain ⟨q20, hqe⟩ : ∃ y, v4.heap.size = y := ⟨_, rfl⟩
                          rw [hqe] at hq20 hl20
                          try rw [hqe]
                          clear hbN
                          refine hK _ _ _ (fun _ h => h) (hU.mono (fun _ _ e => e.elim .inl (fun e => .inr (.inl e)))) ?_
                          clear hK K0
                          try simp only [Act.put, List.setIfInBounds_toArray, List.set_cons_zero, List.set_cons_succ]
                          refine altG_now _ rfl rfl rfl (fun K0 hK => ?_)
                          have hown := hG5.upd hU (fun y hy e => e.elim (fun e => hL5.ne_own hG5 (by decide) y e hy) (fun e => hA5.ne_own hG5 (by decide) y e hy))
                          have hsrc := blk_reads (size := 1) hq20 rfl
                          refine wp_append_mine _ _ 50 50 rfl 4 iB0 _ 1 1 Try.underlying50 iB1 iB2 iB3 iB4 rfl rfl hown rfl (Src.ofReads Try.underlying50 _ hsrc (by intro u hu; simp only [List.mem_cons, List.not_mem_nil, or_false] at hu; rcases hu with rfl <;> rfl)) (by unfold maxLen; omega) (by omega) (fun A10 c10 v6 ho21 hg8 hat8 => ?_)
                          have hu8 : Upd (fun z => bOf A4 = some z) v5 v6 := (Upd.refl (fun z => bOf A4 = some z) _).grown hg8 (fun y e _ => e)
                          replace ho9 := ho9.upd hu8 (fun y hy e => ho9.ne_own hown (by decide) y hy e)
                          replace ho15 := ho15.upd hu8 (fun y hy e => ho15.ne_own hown (by decide) y hy e)
                          have hat21 : ∀ z, bOf A10 = some z → bOf A4 = some z ∨ w5.heap.size ≤ z := fun z hz => by
                            rcases hat8 with e | e
                            · rw [e] at hz; exact .inl hz
                            · have h1 : v5.heap.size = z := by rw [e] at hz; injection hz
                              have h2 := hU.size
                              exact .inr (by omega)
                          replace hU : Upd (fun z => (bOf A = some z ∨ bOf A3 = some z ∨ bOf A4 = some z)) w5 v6 := (hU.mono (fun _ _ e => e.elim .inl (fun e => .inr (.inl e)))).trans (hu8.mono (fun _ _ e => .inr (.inr e))) (fun _ _ e => e)
                          clear hown hsrc hg8 hat8 hu8 hq20 hl20
                          refine hK _ _ _ (fun _ h => h) (hU.mono (fun _ _ e => e)) ?_
                          clear hK K0
                          try simp only [Act.put, List.setIfInBounds_toArray, List.set_cons_zero, List.set_cons_succ]
                          have b0 := hbs5.upd hU (fun e => hgn e)
                          have b1 := b0.set_ 2 (.slice A8 (N + 1) c8)
                          have b2 := b1.set_ 3 (.slice A9 (N + 1) c9)
                          have k2 := b0.cell 2
                          have f2 := b0.frozen 2
                          have k3 := b1.cell 3
                          have f3 := b1.frozen 3
                          have k4 := b2.cell 4
                          have f4 := b2.frozen 4
                          replace hU := Lib.hid hU
                          replace ho9 := Lib.hid ho9
                          replace ho15 := Lib.hid ho15
                          replace ho21 := Lib.hid ho21
                          replace hat9 := Lib.hid hat9
                          replace hat15 := Lib.hid hat15
                          replace hat21 := Lib.hid hat21
                          clear b0 b1 b2
                          repeat (first | (refine altG_take _ ?_ rfl rfl rfl rfl (fun _ => ?_) ?_; rotate_left; (focus (go_simp; with_reducible rfl)); try simp only [Act.put, List.setIfInBounds_toArray, List.set_cons_zero, List.set_cons_succ]) | (refine altG_held _ ?_ rfl rfl rfl rfl (by assumption) (fun _ hSw => ?_) ?_; rotate_left; (focus (skip; clear hSw; go_simp; with_reducible rfl)); try simp only [Act.put, List.setIfInBounds_toArray, List.set_cons_zero, List.set_cons_succ]) | (refine altG_skip _ rfl rfl (by assumption) ?_; try simp only [Act.put, List.setIfInBounds_toArray, List.set_cons_zero, List.set_cons_succ]))
                          refine altG_nowF _ rfl rfl rfl (by kernel_rfl) (fun K0 hK => ?_)
                          go_wp2_with fail
                          try simp only [Act.put, List.setIfInBounds_toArray, List.set_cons_zero, List.set_cons_succ]
                          repeat (first | (refine altG_take _ ?_ rfl rfl rfl rfl (fun _ => ?_) ?_; rotate_left; (focus (go_simp; with_reducible rfl)); try simp only [Act.put, List.setIfInBounds_toArray, List.set_cons_zero, List.set_cons_succ]) | (refine altG_held _ ?_ rfl rfl rfl rfl (by assumption) (fun _ hSw => ?_) ?_; rotate_left; (focus (skip; clear hSw; go_simp; with_reducible rfl)); try simp only [Act.put, List.setIfInBounds_toArray, List.set_cons_zero, List.set_cons_succ]) | (refine altG_skip _ rfl rfl (by assumption) ?_; try simp only [Act.put, List.setIfInBounds_toArray, List.set_cons_zero, List.set_cons_succ]))
                          refine altG_nowF _ rfl rfl rfl (by kernel_rfl) (fun K0 hK => ?_)
                          go_wp2_with fail
                          try simp only [Act.put, List.setIfInBounds_toArray, List.set_cons_zero, List.set_cons_succ]
                          repeat (first | (refine altG_take _ ?_ rfl rfl rfl rfl (fun _ => ?_) ?_; rotate_left; (focus (go_simp; with_reducible rfl)); try simp only [Act.put, List.setIfInBounds_toArray, List.set_cons_zero, List.set_cons_succ]) | (refine altG_held _ ?_ rfl rfl rfl rfl (by assumption) (fun _ hSw => ?_) ?_; rotate_left; (focus (skip; clear hSw; go_simp; with_reducible rfl)); try simp only [Act.put, List.setIfInBounds_toArray, List.set_cons_zero, List.set_cons_succ]) | (refine altG_skip _ rfl rfl (by assumption) ?_; try simp only [Act.put, List.setIfInBounds_toArray, List.set_cons_zero, List.set_cons_succ]))
                          refine altG_nowF _ rfl rfl rfl (by kernel_rfl) (fun K0 hK => ?_)
                          go_wp2_with fail
                          try simp only [Act.put, List.setIfInBounds_toArray, List.set_cons_zero, List.set_cons_succ]
                          refine altG_nil ?_
                          go_wp2_with fail
                          go_meet
                          exact ⟨v6, A8, c8, A9, c9, A10, c10, rfl, hU.out, ho9.out, ho15.out, ho21.out, hat9.out, hat15.out, hat21.out⟩
                        refine altG_now _ rfl rfl rfl (fun K0 hK => ?_)
                        go_wp2_with fail
                        have hbN := (Below.refl v3.heap.size v3).alloc (Nat.le_refl _) (.cells #[.bool true] 4)
                        have hq20 := Blk.new v3 4 #[.bool true]
                        have hl20 : w5.heap.size ≤ v3.heap.size := hU.size
                        generalize v3.alloc (.cells #[.bool true] 4) = v4 at *
                        replace hU := hU.trans (Upd.of_below_size (S := fun z => bOf A = some z) hbN) (fun _ _ e => e)
                        replace hq14 := hq14.below hbN hq14.lt
                        replace ho9 := ho9.below hbN (Nat.le_refl _)
                        obtain ⟨q20, hqe⟩ : ∃ y, v3.heap.size = y := ⟨_, rfl⟩
                        rw [hqe] at hq20 hl20
                        try rw [hqe]
                        clear hbN
                        refine hK _ _ _ (fun _ h => h) (hU.mono (fun _ _ e => .inl e)) ?_
                        clear hK K0
                        try simp only [Act.put, List.setIfInBounds_toArray, List.set_cons_zero, List.set_cons_succ]
                        refine altG_now _ rfl rfl rfl (fun K0 hK => ?_)
                        have hown := hA5.upd hU (fun y hy e => hL5.ne_own hA5 (by decide) y e hy)
                        have hsrc := blk_reads (size := 1) hq14 rfl
                        refine wp_append_mine _ _ 49 49 rfl 3 iA0 _ 1 8 Try.underlying49 iA1 iA2 iA3 iA4 rfl rfl hown rfl (Src.ofReads Try.underlying49 _ hsrc (by intro u hu; simp only [List.mem_cons, List.not_mem_nil, or_false] at hu; rcases hu with rfl <;> rfl)) (by unfold maxLen; omega) (by omega) (fun A9 c9 v5 ho15 hg8 hat8 => ?_)
                        have hu8 : Upd (fun z => bOf A3 = some z) v4 v5 := (Upd.refl (fun z => bOf A3 = some z) _).grown hg8 (fun y e _ => e)
                        replace ho9 := ho9.upd hu8 (fun y hy e => ho9.ne_own hown (by decide) y hy e)
                        replace hq20 := hq20.upd hu8 (fun e => by have := hA5.lt e; omega)
                        have hat15 : ∀ z, bOf A9 = some z → bOf A3 = some z ∨ w5.heap.size ≤ z := fun z hz => by
                          rcases hat8 with e | e
                          · rw [e] at hz; exact .inl hz
                          · have h1 : v4.heap.size = z := by rw [e] at hz; injection hz
                            have h2 := hU.size
                            exact .inr (by omega)
                        replace hU : Upd (fun z => (bOf A = some z ∨ bOf A3 = some z)) w5 v5 := (hU.mono (fun _ _ e => .inl e)).trans (hu8.mono (fun _ _ e => .inr e)) (fun _ _ e => e)
                        clear hown hsrc hg8 hat8 hu8 hq14 hl14
                        refine hK _ _ _ (fun _ h => h) (hU.mono (fun _ _ e => e.elim .inl (fun e => .inr (.inl e)))) ?_
                        clear hK K0
                        try simp only [Act.put, List.setIfInBounds_toArray, List.set_cons_zero, List.set_cons_succ]
                        refine altG_now _ rfl rfl rfl (fun K0 hK => ?_)
                        have hown := hG5.upd hU (fun y hy e => e.elim (fun e => hL5.ne_own hG5 (by decide) y e hy) (fun e => hA5.ne_own hG5 (by decide) y e hy))
                        have hsrc := blk_reads (size := 1) hq20 rfl
                        refine wp_append_mine _ _ 50 50 rfl 4 iB0 _ 1 1 Try.underlying50 iB1 iB2 iB3 iB4 rfl rfl hown rfl (Src.ofReads Try.underlying50 _ hsrc (by intro u hu; simp only [List.mem_cons, List.not_mem_nil, or_false] at hu; rcases hu with rfl <;> rfl)) (by unfold maxLen; omega) (by omega) (fun A10 c10 v6 ho21 hg8 hat8 => ?_)
                        have hu8 : Upd (fun z => bOf A4 = some z) v5 v6 := (Upd.refl (fun z => bOf A4 = some z) _).grown hg8 (fun y e _ => e)
                        replace ho9 := ho9.upd hu8 (fun y hy e => ho9.ne_own hown (by decide) y hy e)
                        replace ho15 := ho15.upd hu8 (fun y hy e => ho15.ne_own hown (by decide) y hy e)
                        have hat21 : ∀ z, bOf A10 = some z → bOf A4 = some z ∨ w5.heap.size ≤ z := fun z hz => by
                          rcases hat8 with e | e
                          · rw [e] at hz; exact .inl hz
                          · have h1 : v5.heap.size = z := by rw [e] at hz; injection hz
                            have h2 := hU.size
                            exact .inr (by omega)
                        replace hU : Upd (fun z => (bOf A = some z ∨ bOf A3 = some z ∨ bOf A4 = some z)) w5 v6 := (hU.mono (fun _ _ e => e.elim .inl (fun e => .inr (.inl e)))).trans (hu8.mono (fun _ _ e => .inr (.inr e))) (fun _ _ e => e)
                        clear hown hsrc hg8 hat8 hu8 hq20 hl20
                        refine hK _ _ _ (fun _ h => h) (hU.mono (fun _ _ e => e)) ?_
                        clear hK K0
                        try simp only [Act.put, List.setIfInBounds_toArray, List.set_cons_zero, List.set_cons_succ]
                        have b0 := hbs5.upd hU (fun e => hgn e)
                        have b1 := b0.set_ 2 (.slice A8 (N + 1) c8)
                        have b2 := b1.set_ 3 (.slice A9 (N + 1) c9)
                        have k2 := b0.cell 2
                        have f2 := b0.frozen 2
                        have k3 := b1.cell 3
                        have f3 := b1.frozen 3
                        have k4 := b2.cell 4
                        have f4 := b2.frozen 4
                        replace hU := Lib.hid hU
                        replace ho9 := Lib.hid ho9
                        replace ho15 := Lib.hid ho15
                        replace ho21 := Lib.hid ho21
                        replace hat9 := Lib.hid hat9
                        replace hat15 := Lib.hid hat15
                        replace hat21 := Lib.hid hat21
                        clear b0 b1 b2
                        repeat (first | (refine altG_take _ ?_ rfl rfl rfl rfl (fun _ => ?_) ?_; rotate_left; (focus (go_simp; with_reducible rfl)); try simp only [Act.put, List.setIfInBounds_toArray, List.set_cons_zero, List.set_cons_succ]) | (refine altG_held _ ?_ rfl rfl rfl rfl (by assumption) (fun _ hSw => ?_) ?_; rotate_left; (focus (skip; clear hSw; go_simp; with_reducible rfl)); try simp only [Act.put, List.setIfInBounds_toArray, List.set_cons_zero, List.set_cons_succ]) | (refine altG_skip _ rfl rfl (by assumption) ?_; try simp only [Act.put, List.setIfInBounds_toArray, List.set_cons_zero, List.set_cons_succ]))
                        refine altG_nowF _ rfl rfl rfl (by kernel_rfl) (fun K0 hK => ?_)
                        go_wp2_with fail
                        try simp only [Act.put, List.setIfInBounds_toArray, List.set_cons_zero, List.set_cons_succ]
                        repeat (first | (refine altG_take _ ?_ rfl rfl rfl rfl (fun _ => ?_) ?_; rotate_left; (focus (go_simp; with_reducible rfl)); try simp only [Act.put, List.setIfInBounds_toArray, List.set_cons_zero, List.set_cons_succ]) | (refine altG_held _ ?_ rfl rfl rfl rfl (by assumption) (fun _ hSw => ?_) ?_; rotate_left; (focus (skip; clear hSw; go_simp; with_reducible rfl)); try simp only [Act.put, List.setIfInBounds_toArray, List.set_cons_zero, List.set_cons_succ]) | (refine altG_skip _ rfl rfl (by assumption) ?_; try simp only [Act.put, List.setIfInBounds_toArray, List.set_cons_zero, List.set_cons_succ]))
                        refine altG_nowF _ rfl rfl rfl (by kernel_rfl) (fun K0 hK => ?_)
                        go_wp2_with fail
                        try simp only [Act.put, List.setIfInBounds_toArray, List.set_cons_zero, List.set_cons_succ]
                        repeat (first | (refine altG_take _ ?_ rfl rfl rfl rfl (fun _ => ?_) ?_; rotate_left; (focus (go_simp; with_reducible rfl)); try simp only [Act.put, List.setIfInBounds_toArray, List.set_cons_zero, List.set_cons_succ]) | (refine altG_held _ ?_ rfl rfl rfl rfl (by assumption) (fun _ hSw => ?_) ?_; rotate_left; (focus (skip; clear hSw; go_simp; with_reducible rfl)); try simp only [Act.put, List.setIfInBounds_toArray, List.set_cons_zero, List.set_cons_succ]) | (refine altG_skip _ rfl rfl (by assumption) ?_; try simp only [Act.put, List.setIfInBounds_toArray, List.set_cons_zero, List.set_cons_succ]))
                        refine altG_nowF _ rfl rfl rfl (by kernel_rfl) (fun K0 hK => ?_)
                        go_wp2_with fail
                        try simp only [Act.put, List.setIfInBounds_toArray, List.set_cons_zero, List.set_cons_succ]
                        refine altG_nil ?_
                        go_wp2_with fail
                        go_meet
                        exact ⟨v6, A8, c8, A9, c9, A10, c10, rfl, hU.out, ho9.out, ho15.out, ho21.out, hat9.out, hat15.out, hat21.out⟩
                      refine altG_now _ rfl rfl rfl (fun K0 hK => ?_)
                      go_wp2_with fail
                      have hbN := (Below.refl v2.heap.size v2).alloc (Nat.le_refl _) (.cells #[.bool true] 4)
                      have hq20 := Blk.new v2 4 #[.bool true]
                      have hl20 : w5.heap.size ≤ v2.heap.size := hU.size
                      generalize v2.alloc (.cells #[.bool true] 4) = v3 at *
                      replace hU := hU.trans (Upd.of_below_size (S := fun z => bOf A = some z) hbN) (fun _ _ e => e)
                      replace ho9 := ho9.below hbN (Nat.le_refl _)
                      obtain ⟨q20, hqe⟩ : ∃ y, v2.heap.size = y := ⟨_, rfl⟩
                      rw [hqe] at hq20 hl20
                      try rw [hqe]
                      clear hbN
                      refine hK _ _ _ (fun _ h => h) (hU.mono (fun _ _ e => .inl e)) ?_
                      clear hK K0
                      try simp only [Act.put, List.setIfInBounds_toArray, List.set_cons_zero, List.set_cons_succ]
                      refine altG_now _ rfl rfl rfl (fun K0 hK => ?_)
                      go_wp2_with fail
                      have hbN := (Below.refl v3.heap.size v3).alloc (Nat.le_refl _) (.cells #[.int .i64 0] 3)
                      have hq14 := Blk.new v3 3 #[.int .i64 0]
                      have hl14 : w5.heap.size ≤ v3.heap.size := hU.size
                      generalize v3.alloc (.cells #[.int .i64 0] 3) = v4 at *
                      replace hU := hU.trans (Upd.of_below_size (S := fun z => bOf A = some z) hbN) (fun _ _ e => e)
                      replace hq20 := hq20.below hbN hq20.lt
                      replace ho9 := ho9.below hbN (Nat.le_refl _)
                      obtain ⟨q14, hqe⟩ : ∃ y, v3.heap.size = y := ⟨_, rfl⟩
                      rw [hqe] at hq14 hl14
                      try rw [hqe]
                      clear hbN
                      refine hK _ _ _ (fun _ h => h) (hU.mono (fun _ _ e => .inl e)) ?_
                      clear hK K0
                      try simp only [Act.put, List.setIfInBounds_toArray, List.set_cons_zero, List.set_cons_succ]
                      refine altG_now _ rfl rfl rfl (fun K0 hK => ?_)
                      have hown := hA5.upd hU (fun y hy e => hL5.ne_own hA5 (by decide) y e hy)
                      have hsrc := blk_reads (size := 1) hq14 rfl
                      refine wp_append_mine _ _ 49 49 rfl 3 iA0 _ 1 8 Try.underlying49 iA1 iA2 iA3 iA4 rfl rfl hown rfl (Src.ofReads Try.underlying49 _ hsrc (by intro u hu; simp only [List.mem_cons, List.not_mem_nil, or_false] at hu; rcases hu with rfl <;> rfl)) (by unfold maxLen; omega) (by omega) (fun A9 c9 v5 ho15 hg8 hat8 => ?_)
                      have hu8 : Upd (fun z => bOf A3 = some z) v4 v5 := (Upd.refl (fun z => bOf A3 = some z) _).grown hg8 (fun y e _ => e)
                      replace ho9 := ho9.upd hu8 (fun y hy e => ho9.ne_own hown (by decide) y hy e)
                      replace hq20 := hq20.upd hu8 (fun e => by have := hA5.lt e; omega)
                      have hat15 : ∀ z, bOf A9 = some z → bOf A3 = some z ∨ w5.heap.size ≤ z := fun z hz => by
                        rcases hat8 with e | e
                        · rw [e] at hz; exact .inl hz
                        · have h1 : v4.heap.size = z := by rw [e] at hz; injection hz
                          have h2 := hU.size
                          exact .inr (by omega)
                      replace hU : Upd (fun z => (bOf A = some z ∨ bOf A3 = some z)) w5 v5 := (hU.mono (fun _ _ e => .inl e)).trans (hu8.mono (fun _ _ e => .inr e)) (fun _ _ e => e)
                      clear hown hsrc hg8 hat8 hu8 hq14 hl14
                      refine hK _ _ _ (fun _ h => h) (hU.mono (fun _ _ e => e.elim .inl (fun e => .inr (.inl e)))) ?_
                      clear hK K0
                      try simp only [Act.put, List.setIfInBounds_toArray, List.set_cons_zero, List.set_cons_succ]
                      refine altG_now _ rfl rfl rfl (fun K0 hK => ?_)
                      have hown := hG5.upd hU (fun y hy e => e.elim (fun e => hL5.ne_own hG5 (by decide) y e hy) (fun e => hA5.ne_own hG5 (by decide) y e hy))
                      have hsrc := blk_reads (size := 1) hq20 rfl
                      refine wp_append_mine _ _ 50 50 rfl 4 iB0 _ 1 1 Try.underlying50 iB1 iB2 iB3 iB4 rfl rfl hown rfl (Src.ofReads Try.underlying50 _ hsrc (by intro u hu; simp only [List.mem_cons, List.not_mem_nil, or_false] at hu; rcases hu with rfl <;> rfl)) (by unfold maxLen; omega) (by omega) (fun A10 c10 v6 ho21 hg8 hat8 => ?_)
                      have hu8 : Upd (fun z => bOf A4 = some z) v5 v6 := (Upd.refl (fun z => bOf A4 = some z) _).grown hg8 (fun y e _ => e)
                      replace ho9 := ho9.upd hu8 (fun y hy e => ho9.ne_own hown (by decide) y hy e)
                      replace ho15 := ho15.upd hu8 (fun y hy e => ho15.ne_own hown (by decide) y hy e)
                      have hat21 : ∀ z, bOf A10 = some z → bOf A4 = some z ∨ w5.heap.size ≤ z := fun z hz => by
                        rcases hat8 with e | e
                        · rw [e] at hz; exact .inl hz
                        · have h1 : v5.heap.size = z := by rw [e] at hz; injection hz
                          have h2 := hU.size
                          exact .inr (by omega)
                      replace hU : Upd (fun z => (bOf A = some z ∨ bOf A3 = some z ∨ bOf A4 = some z)) w5 v6 := (hU.mono (fun _ _ e => e.elim .inl (fun e => .inr (.inl e)))).trans (hu8.mono (fun _ _ e => .inr (.inr e))) (fun _ _ e => e)
                      clear hown hsrc hg8 hat8 hu8 hq20 hl20
                      refine hK _ _ _ (fun _ h => h) (hU.mono (fun _ _ e => e)) ?_
                      clear hK K0
                      try simp only [Act.put, List.setIfInBounds_toArray, List.set_cons_zero, List.set_cons_succ]
                      have b0 := hbs5.upd hU (fun e => hgn e)
                      have b1 := b0.set_ 2 (.slice A8 (N + 1) c8)
                      have b2 := b1.set_ 3 (.slice A9 (N + 1) c9)
                      have k2 := b0.cell 2
                      have f2 := b0.frozen 2
                      have k3 := b1.cell 3
                      have f3 := b1.frozen 3
                      have k4 := b2.cell 4
                      have f4 := b2.frozen 4
                      replace hU := Lib.hid hU
                      replace ho9 := Lib.hid ho9
                      replace ho15 := Lib.hid ho15
                      replace ho21 := Lib.hid ho21
                      replace hat9 := Lib.hid hat9
                      replace hat15 := Lib.hid hat15
                      replace hat21 := Lib.hid hat21
                      clear b0 b1 b2
                      repeat (first | (refine altG_take _ ?_ rfl rfl rfl rfl (fun _ => ?_) ?_; rotate_left; (focus (go_simp; with_reducible rfl)); try simp only [Act.put, List.setIfInBounds_toArray, List.set_cons_zero, List.set_cons_succ]) | (refine altG_held _ ?_ rfl rfl rfl rfl (by assumption) (fun _ hSw => ?_) ?_; rotate_left; (focus (skip; clear hSw; go_simp; with_reducible rfl)); try simp only [Act.put, List.setIfInBounds_toArray, List.set_cons_zero, List.set_cons_succ]) | (refine altG_skip _ rfl rfl (by assumption) ?_; try simp only [Act.put, List.setIfInBounds_toArray, List.set_cons_zero, List.set_cons_succ]))
                      refine altG_nowF _ rfl rfl rfl (by kernel_rfl) (fun K0 hK => ?_)
                      go_wp2_with fail
                      try simp only [Act.put, List.setIfInBounds_toArray, List.set_cons_zero, List.set_cons_succ]
                      repeat (first | (refine altG_take _ ?_ rfl rfl rfl rfl (fun _ => ?_) ?_; rotate_left; (focus (go_simp; with_reducible rfl)); try simp only [Act.put, List.setIfInBounds_toArray, List.set_cons_zero, List.set_cons_succ]) | (refine altG_held _ ?_ rfl rfl rfl rfl (by assumption) (fun _ hSw => ?_) ?_; rotate_left; (focus (skip; clear hSw; go_simp; with_reducible rfl)); try simp only [Act.put, List.setIfInBounds_toArray, List.set_cons_zero, List.set_cons_succ]) | (refine altG_skip _ rfl rfl (by assumption) ?_; try simp only [Act.put, List.setIfInBounds_toArray, List.set_cons_zero, List.set_cons_succ]))
                      refine altG_nowF _ rfl rfl rfl (by kernel_rfl) (fun K0 hK => ?_)
                      go_wp2_with fail
                      try simp only [Act.put, List.setIfInBounds_toArray, List.set_cons_zero, List.set_cons_succ]
                      repeat (first | (refine altG_take _ ?_ rfl rfl rfl rfl (fun _ => ?_) ?_; rotate_left; (focus (go_simp; with_reducible rfl)); try simp only [Act.put, List.setIfInBounds_toArray, List.set_cons_zero, List.set_cons_succ]) | (refine altG_held _ ?_ rfl rfl rfl rfl (by assumption) (fun _ hSw => ?_) ?_; rotate_left; (focus (skip; clear hSw; go_simp; with_reducible rfl)); try simp only [Act.put, List.setIfInBounds_toArray, List.set_cons_zero, List.set_cons_succ]) | (refine altG_skip _ rfl rfl (by assumption) ?_; try simp only [Act.put, List.setIfInBounds_toArray, List.set_cons_zero, List.set_cons_succ]))
                      refine altG_nowF _ rfl rfl rfl (by kernel_rfl) (fun K0 hK => ?_)
                      go_wp2_with fail
                      try simp only [Act.put, List.setIfInBounds_toArray, List.set_cons_zero, List.set_cons_succ]
                      refine altG_nil ?_
                      go_wp2_with fail
                      go_meet
                      exact ⟨v6, A8, c8, A9, c9, A10, c10, rfl, hU.out, ho9.out, ho15.out, ho21.out, hat9.out, hat15.out, hat21.out⟩
                    refine altG_alt rfl ?_ ?_
                    · skip
                      refine altG_now _ rfl rfl rfl (fun K0 hK => ?_)
                      go_wp2_with fail
                      have hbN := (Below.refl v1.heap.size v1).alloc (Nat.le_refl _) (.cells #[.int .i64 0] 3)
                      have hq14 := Blk.new v1 3 #[.int .i64 0]
                      have hl14 : w5.heap.size ≤ v1.heap.size := hU.size
                      generalize v1.alloc (.cells #[.int .i64 0] 3) = v2 at *
                      replace hU := hU.trans (Upd.of_below_size (S := fun z => False) hbN) (fun _ _ e => e)
                      replace hq8 := hq8.below hbN hq8.lt
                      obtain ⟨q14, hqe⟩ : ∃ y, v1.heap.size = y := ⟨_, rfl⟩
                      rw [hqe] at hq14 hl14
                      try rw [hqe]
                      clear hbN
                      refine hK _ _ _ (fun _ h => h) (hU.mono (fun _ _ e => e.elim)) ?_
                      clear hK K0
                      try simp only [Act.put, List.setIfInBounds_toArray, List.set_cons_zero, List.set_cons_succ]
                      refine altG_alt rfl ?_ ?_
                      · skip
                        refine altG_now _ rfl rfl rfl (fun K0 hK => ?_)
                        have hown := hL5.upd hU (fun y hy e => e)
                        have hsrc := blk_reads (size := 6) hq8 rfl
                        refine wp_append_mine _ _ 42 42 rfl 62 iL0 _ 6 72 Try.underlying42 iL1 iL2 iL3 iL4 rfl rfl hown rfl (Src.ofReads Try.underlying42 _ hsrc (by intro u hu; simp only [List.mem_cons, List.not_mem_nil, or_false] at hu; rcases hu with rfl | rfl | rfl | rfl | rfl | rfl <;> rfl)) (by unfold maxLen; omega) (by omega) (fun A8 c8 v3 ho9 hg8 hat8 => ?_)
                        have hu8 : Upd (fun z => bOf A = some z) v2 v3 := (Upd.refl (fun z => bOf A = some z) _).grown hg8 (fun y e _ => e)
                        replace hq14 := hq14.upd hu8 (fun e => by have := hL5.lt e; omega)
                        have hat9 : ∀ z, bOf A8 = some z → bOf A = some z ∨ w5.heap.size ≤ z := fun z hz => by
                          rcases hat8 with e | e
                          · rw [e] at hz; exact .inl hz
                          · have h1 : v2.heap.size = z := by rw [e] at hz; injection hz
                            have h2 := hU.size
                            exact .inr (by omega)
                        replace hU : Upd (fun z => bOf A = some z) w5 v3 := (hU.mono (fun _ _ e => e.elim)).trans (hu8.mono (fun _ _ e => e)) (fun _ _ e => e)
                        clear hown hsrc hg8 hat8 hu8 hq8 hl8
                        refine hK _ _ _ (fun _ h => h) (hU.mono (fun _ _ e => .inl e)) ?_
                        clear hK K0
                        try simp only [Act.put, List.setIfInBounds_toArray, List.set_cons_zero, List.set_cons_succ]
                        refine altG_alt rfl ?_ ?_
                        · skip
                          refine altG_now _ rfl rfl rfl (fun K0 hK => ?_)
                          have hown := hA5.upd hU (fun y hy e => hL5.ne_own hA5 (by decide) y e hy)
                          have hsrc := blk_reads (size := 1) hq14 rfl
                          refine wp_append_mine _ _ 49 49 rfl 3 iA0 _ 1 8 Try.underlying49 iA1 iA2 iA3 iA4 rfl rfl hown rfl (Src.ofReads Try.underlying49 _ hsrc (by intro u hu; simp only [List.mem_cons, List.not_mem_nil, or_false] at hu; rcases hu with rfl <;> rfl)) (by unfold maxLen; omega) (by omega) (fun A9 c9 v4 ho15 hg8 hat8 => ?_)
                          have hu8 : Upd (fun z => bOf A3 = some z) v3 v4 := (Upd.refl (fun z => bOf A3 = some z) _).grown hg8 (fun y e _ => e)
                          replace ho9 := ho9.upd hu8 (fun y hy e => ho9.ne_own hown (by decide) y hy e)
                          have hat15 : ∀ z, bOf A9 = some z → bOf A3 = some z ∨ w5.heap.size ≤ z := fun z hz => by
                            rcases hat8 with e | e
                            · rw [e] at hz; exact .inl hz
                            · have h1 : v3.heap.size = z := by rw [e] at hz; injection hz
                              have h2 := hU.size
                              exact .inr (by omega)
                          replace hU : Upd (fun z => (bOf A = some z ∨ bOf A3 = some z)) w5 v4 := (hU.mono (fun _ _ e => .inl e)).trans (hu8.mono (fun _ _ e => .inr e)) (fun _ _ e => e)
                          clear hown hsrc hg8 hat8 hu8 hq14 hl14
                          refine hK _ _ _ (fun _ h => h) (hU.mono (fun _ _ e => e.elim .inl (fun e => .inr (.inl e)))) ?_
                          clear hK K0
                          try simp only [Act.put, List.setIfInBounds_toArray, List.set_cons_zero, List.set_cons_succ]
                          refine altG_now _ rfl rfl rfl (fun K0 hK => ?_)
                          go_wp2_with fail
                          have hbN := (Below.refl v4.heap.size v4).alloc (Nat.le_refl _) (.cells #[.bool true] 4)
                          have hq20 := Blk.new v4 4 #[.bool true]
                          have hl20 : w5.heap.size ≤ v4.heap.size := hU.size
                          generalize v4.alloc (.cells #[.bool true] 4) = v5 at *
                          replace hU := hU.trans (Upd.of_below_size (S := fun z => (bOf A = some z ∨ bOf A3 = some z)) hbN) (fun _ _ e => e)
                          replace ho9 := ho9.below hbN (Nat.le_refl _)
                          replace ho15 := ho15.below hbN (Nat.le_refl _)
                          obtain ⟨q20, hqe⟩ : ∃ y, v4.heap.size = y := ⟨_, rfl⟩
                          rw [hqe] at hq20 hl20
                          try rw [hqe]
                          clear hbN
                          refine hK _ _ _ (fun _ h => h) (hU.mono (fun _ _ e => e.elim .inl (fun e => .inr (.inl e)))) ?_
                          clear hK K0
                          try simp only [Act.put, List.setIfInBounds_toArray, List.set_cons_zero, List.set_cons_succ]
                          refine altG_now _ rfl rfl rfl (fun K0 hK => ?_)
                          have hown := hG5.upd hU (fun y hy e => e.elim (fun e => hL5.ne_own hG5 (by decide) y e hy) (fun e => hA5.ne_own hG5 (by decide) y e hy))
                          have hsrc := blk_reads (size := 1) hq20 rfl
                          refine wp_append_mine _ _ 50 50 rfl 4 iB0 _ 1 1 Try.underlying50 iB1 iB2 iB3 iB4 rfl rfl hown rfl (Src.ofReads Try.underlying50 _ hsrc (by intro u hu; simp only [List.mem_cons, List.not_mem_nil, or_false] at hu; rcases hu with rfl <;> rfl)) (by unfold maxLen; omega) (by omega) (fun A10 c10 v6 ho21 hg8 hat8 => ?_)
                          have hu8 : Upd (fun z => bOf A4 = some z) v5 v6 := (Upd.refl (fun z => bOf A4 = some z) _).grown hg8 (fun y e _ => e)
                          replace ho9 := ho9.upd hu8 (fun y hy e => ho9.ne_own hown (by decide) y hy e)
                          replace ho15 := ho15.upd hu8 (fun y hy e => ho15.ne_own hown (by decide) y hy e)
                          have hat21 : ∀ z, bOf A10 = some z → bOf A4 = some z ∨ w5.heap.size ≤ z := fun z hz => by
                            rcases hat8 with e | e
                            · rw [e] at hz; exact .inl hz
                            · have h1 : v5.heap.size = z := by rw [e] at hz; injection hz
                              have h2 := hU.size
                              exact .inr (by omega)
                          replace hU : Upd (fun z => (bOf A = some z ∨ bOf A3 = some z ∨ bOf A4 = some z)) w5 v6 := (hU.mono (fun _ _ e => e.elim .inl (fun e => .inr (.inl e)))).trans (hu8.mono (fun _ _ e => .inr (.inr e))) (fun _ _ e => e)
                          clear hown hsrc hg8 hat8 hu8 hq20 hl20
                          refine hK _ _ _ (fun _ h => h) (hU.mono (fun _ _ e => e)) ?_
                          clear hK K0
                          try simp only [Act.put, List.setIfInBounds_toArray, List.set_cons_zero, List.set_cons_succ]
                          have b0 := hbs5.upd hU (fun e => hgn e)
                          have b1 := b0.set_ 2 (.slice A8 (N + 1) c8)
                          have b2 := b1.set_ 3 (.slice A9 (N + 1) c9)
                          have k2 := b0.cell 2
                          have f2 := b0.frozen 2
                          have k3 := b1.cell 3
                          have f3 := b1.frozen 3
                          have k4 := b2.cell 4
                          have f4 := b2.frozen 4
                          replace hU := Lib.hid hU
                          replace ho9 := Lib.hid ho9
                          replace ho15 := Lib.hid ho15
                          replace ho21 := Lib.hid ho21
                          replace hat9 := Lib.hid hat9
                          replace hat15 := Lib.hid hat15
                          replace hat21 := Lib.hid hat21
                          clear b0 b1 b2
                          repeat (first | (refine altG_take _ ?_ rfl rfl rfl rfl (fun _ => ?_) ?_; rotate_left; (focus (go_simp; with_reducible rfl)); try simp only [Act.put, List.setIfInBounds_toArray, List.set_cons_zero, List.set_cons_succ]) | (refine altG_held _ ?_ rfl rfl rfl rfl (by assumption) (fun _ hSw => ?_) ?_; rotate_left; (focus (skip; clear hSw; go_simp; with_reducible rfl)); try simp only [Act.put, List.setIfInBounds_toArray, List.set_cons_zero, List.set_cons_succ]) | (refine altG_skip _ rfl rfl (by assumption) ?_; try simp only [Act.put, List.setIfInBounds_toArray, List.set_cons_zero, List.set_cons_succ]))
                          refine altG_nowF _ rfl rfl rfl (by kernel_rfl) (fun K0 hK => ?_)
                          go_wp2_with fail
                          try simp only [Act.put, List.setIfInBounds_toArray, List.set_cons_zero, List.set_cons_succ]
                          repeat (first | (refine altG_take _ ?_ rfl rfl rfl rfl (fun _ => ?_) ?_; rotate_left; (focus (go_simp; with_reducible rfl)); try simp only [Act.put, List.setIfInBounds_toArray, List.set_cons_zero, List.set_cons_succ]) | (refine altG_held _ ?_ rfl rfl rfl rfl (by assumption) (fun _ hSw => ?_) ?_; rotate_left; (focus (skip; clear hSw; go_simp; with_reducible rfl)); try simp only [Act.put, List.setIfInBounds_toArray, List.set_cons_zero, List.set_cons_succ]) | (refine altG_skip _ rfl rfl (by assumption) ?_; try simp only [Act.put, List.setIfInBounds_toArray, List.set_cons_zero, List.set_cons_succ]))
                          refine altG_nowF _ rfl rfl rfl (by kernel_rfl) (fun K0 hK => ?_)
                          go_wp2_with fail
                          try simp only [Act.put, List.setIfInBounds_toArray, List.set_cons_zero, List.set_cons_succ]
                          repeat (first | (refine altG_take _ ?_ rfl rfl rfl rfl (fun _ => ?_) ?_; rotate_left; (focus (go_simp; with_reducible rfl)); try simp only [Act.put, List.setIfInBounds_toArray, List.set_cons_zero, List.set_cons_succ]) | (refine altG_held _ ?_ rfl rfl rfl rfl (by assumption) (fun _ hSw => ?_) ?_; rotate_left; (focus (skip; clear hSw; go_simp; with_reducible rfl)); try simp only [Act.put, List.setIfInBounds_toArray, List.set_cons_zero, List.set_cons_succ]) | (refine altG_skip _ rfl rfl (by assumption) ?_; try simp only [Act.put, List.setIfInBounds_toArray, List.set_cons_zero, List.set_cons_succ]))
                          refine altG_nowF _ rfl rfl rfl (by kernel_rfl) (fun K0 hK => ?_)
                          go_wp2_with fail
                          try simp only [Act.put, List.setIfInBounds_toArray, List.set_cons_zero, List.set_cons_succ]
                          refine altG_nil ?_
                          go_wp2_with fail
                          go_meet
                          exact ⟨v6, A8, c8, A9, c9, A10, c10, rfl, hU.out, ho9.out, ho15.out, ho21.out, hat9.out, hat15.out, hat21.out⟩
                        refine altG_now _ rfl rfl rfl (fun K0 hK => ?_)
                        go_wp2_with fail
                        have hbN := (Below.refl v3.heap.size v3).alloc (Nat.le_refl _) (.cells #[.bool true] 4)
                        have hq20 := Blk.new v3 4 #[.bool true]
                        have hl20 : w5.heap.size ≤ v3.heap.size := hU.size
                        generalize v3.alloc (.cells #[.bool true] 4) = v4 at *
                        replace hU := hU.trans (Upd.of_below_size (S := fun z => bOf A = some z) hbN) (fun _ _ e => e)
                        replace hq14 := hq14.below hbN hq14.lt
                        replace ho9 := ho9.below hbN (Nat.le_refl _)
                        obtain ⟨q20, hqe⟩ : ∃ y, v3.heap.size = y := ⟨_, rfl⟩
                        rw [hqe] at hq20 hl20
                        try rw [hqe]
                        clear hbN
                        refine hK _ _ _ (fun _ h => h) (hU.mono (fun _ _ e => .inl e)) ?_
                        clear hK K0
                        try simp only [Act.put, List.setIfInBounds_toArray, List.set_cons_zero, List.set_cons_succ]
                        refine altG_now _ rfl rfl rfl (fun K0 hK => ?_)
                        have hown := hA5.upd hU (fun y hy e => hL5.ne_own hA5 (by decide) y e hy)
                        have hsrc := blk_reads (size := 1) hq14 rfl
                        refine wp_append_mine _ _ 49 49 rfl 3 iA0 _ 1 8 Try.underlying49 iA1 iA2 iA3 iA4 rfl rfl hown rfl (Src.ofReads Try.underlying49 _ hsrc (by intro u hu; simp only [List.mem_cons, List.not_mem_nil, or_false] at hu; rcases hu with rfl <;> rfl)) (by unfold maxLen; omega) (by omega) (fun A9 c9 v5 ho15 hg8 hat8 => ?_)
                        have hu8 : Upd (fun z => bOf A3 = some z) v4 v5 := (Upd.refl (fun z => bOf A3 = some z) _).grown hg8 (fun y e _ => e)
                        replace ho9 := ho9.upd hu8 (fun y hy e => ho9.ne_own hown (by decide) y hy e)
                        replace hq20 := hq20.upd hu8 (fun e => by have := hA5.lt e; omega)
                        have hat15 : ∀ z, bOf A9 = some z → bOf A3 = some z ∨ w5.heap.size ≤ z := fun z hz => by
                          rcases hat8 with e | e
                          · rw [e] at hz; exact .inl hz
                          · have h1 : v4.heap.size = z := by rw [e] at hz; injection hz
                            have h2 := hU.size
                            exact .inr (by omega)
                        replace hU : Upd (fun z => (bOf A = some z ∨ bOf A3 = some z)) w5 v5 := (hU.mono (fun _ _ e => .inl e)).trans (hu8.mono (fun _ _ e => .inr e)) (fun _ _ e => e)
                        clear hown hsrc hg8 hat8 hu8 hq14 hl14
                        refine hK _ _ _ (fun _ h => h) (hU.mono (fun _ _ e => e.elim .inl (fun e => .inr (.inl e)))) ?_
                        clear hK K0
                        try simp only [Act.put, List.setIfInBounds_toArray, List.set_cons_zero, List.set_cons_succ]
                        refine altG_now _ rfl rfl rfl (fun K0 hK => ?_)
                        have hown := hG5.upd hU (fun y hy e => e.elim (fun e => hL5.ne_own hG5 (by decide) y e hy) (fun e => hA5.ne_own hG5 (by decide) y e hy))
                        have hsrc := blk_reads (size := 1) hq20 rfl
                        refine wp_append_mine _ _ 50 50 rfl 4 iB0 _ 1 1 Try.underlying50 iB1 iB2 iB3 iB4 rfl rfl hown rfl (Src.ofReads Try.underlying50 _ hsrc (by intro u hu; simp only [List.mem_cons, List.not_mem_nil, or_false] at hu; rcases hu with rfl <;> rfl)) (by unfold maxLen; omega) (by omega) (fun A10 c10 v6 ho21 hg8 hat8 => ?_)
                        have hu8 : Upd (fun z => bOf A4 = some z) v5 v6 := (Upd.refl (fun z => bOf A4 = some z) _).grown hg8 (fun y e _ => e)
                        replace ho9 := ho9.upd hu8 (fun y hy e => ho9.ne_own hown (by decide) y hy e)
                        replace ho15 := ho15.upd hu8 (fun y hy e => ho15.ne_own hown (by decide) y hy e)
                        have hat21 : ∀ z, bOf A10 = some z → bOf A4 = some z ∨ w5.heap.size ≤ z := fun z hz => by
                          rcases hat8 with e | e
                          · rw [e] at hz; exact .inl hz
                          · have h1 : v5.heap.size = z := by rw [e] at hz; injection hz
                            have h2 := hU.size
                            exact .inr (by omega)
                        replace hU : Upd (fun z => (bOf A = some z ∨ bOf A3 = some z ∨ bOf A4 = some z)) w5 v6 := (hU.mono (fun _ _ e => e.elim .inl (fun e => .inr (.inl e)))).trans (hu8.mono (fun _ _ e => .inr (.inr e))) (fun _ _ e => e)
                        clear hown hsrc hg8 hat8 hu8 hq20 hl20
                        refine hK _ _ _ (fun _ h => h) (hU.mono (fun _ _ e => e)) ?_
                        clear hK K0
                        try simp only [Act.put, List.setIfInBounds_toArray, List.set_cons_zero, List.set_cons_succ]
                        have b0 := hbs5.upd hU (fun e => hgn e)
                        have b1 := b0.set_ 2 (.slice A8 (N + 1) c8)
                        have b2 := b1.set_ 3 (.slice A9 (N + 1) c9)
                        have k2 := b0.cell 2
                        have f2 := b0.frozen 2
                        have k3 := b1.cell 3
                        have f3 := b1.frozen 3
                        have k4 := b2.cell 4
                        have f4 := b2.frozen 4
                        replace hU := Lib.hid hU
                        replace ho9 := Lib.hid ho9
                        replace ho15 := Lib.hid ho15
                        replace ho21 := Lib.hid ho21
                        replace hat9 := Lib.hid hat9
                        replace hat15 := Lib.hid hat15
                        replace hat21 := Lib.hid hat21
                        clear b0 b1 b2
                        repeat (first | (refine altG_take _ ?_ rfl rfl rfl rfl (fun _ => ?_) ?_; rotate_left; (focus (go_simp; with_reducible rfl)); try simp only [Act.put, List.setIfInBounds_toArray, List.set_cons_zero, List.set_cons_succ]) | (refine altG_held _ ?_ rfl rfl rfl rfl (by assumption) (fun _ hSw => ?_) ?_; rotate_left; (focus (skip; clear hSw; go_simp; with_reducible rfl)); try simp only [Act.put, List.setIfInBounds_toArray, List.set_cons_zero, List.set_cons_succ]) | (refine altG_skip _ rfl rfl (by assumption) ?_; try simp only [Act.put, List.setIfInBounds_toArray, List.set_cons_zero, List.set_cons_succ]))
                        refine altG_nowF _ rfl rfl rfl (by kernel_rfl) (fun K0 hK => ?_)
                        go_wp2_with fail
                        try simp only [Act.put, List.setIfInBounds_toArray, List.set_cons_zero, List.set_cons_succ]
                        repeat (first | (refine altG_take _ ?_ rfl rfl rfl rfl (fun _ => ?_) ?_; rotate_left; (focus (go_simp; with_reducible rfl)); try simp only [Act.put, List.setIfInBounds_toArray, List.set_cons_zero, List.set_cons_succ]) | (refine altG_held _ ?_ rfl rfl rfl rfl (by assumption) (fun _ hSw => ?_) ?_; rotate_left; (focus (skip; clear hSw; go_simp; with_reducible rfl)); try simp only [Act.put, List.setIfInBounds_toArray, List.set_cons_zero, List.set_cons_succ]) | (refine altG_skip _ rfl rfl (by assumption) ?_; try simp only [Act.put, List.setIfInBounds_toArray, List.set_cons_zero, List.set_cons_succ]))
                        refine altG_nowF _ rfl rfl rfl (by kernel_rfl) (fun K0 hK => ?_)
                        go_wp2_with fail
                        try simp only [Act.put, List.setIfInBounds_toArray, List.set_cons_zero, List.set_cons_succ]
                        repeat (first | (refine altG_take _ ?_ rfl rfl rfl rfl (fun _ => ?_) ?_; rotate_left; (focus (go_simp; with_reducible rfl)); try simp only [Act.put, List.setIfInBounds_toArray, List.set_cons_zero, List.set_cons_succ]) | (refine altG_held _ ?_ rfl rfl rfl rfl (by assumption) (fun _ hSw => ?_) ?_; rotate_left; (focus (skip; clear hSw; go_simp; with_reducible rfl)); try simp only [Act.put, List.setIfInBounds_toArray, List.set_cons_zero, List.set_cons_succ]) | (refine altG_skip _ rfl rfl (by assumption) ?_; try simp only [Act.put, List.setIfInBounds_toArray, List.set_cons_zero, List.set_cons_succ]))
                        refine altG_nowF _ rfl rfl rfl (by kernel_rfl) (fun K0 hK => ?_)
                        go_wp2_with fail
                        try simp only [Act.put, List.setIfInBounds_toArray, List.set_cons_zero, List.set_cons_succ]
                        refine altG_nil ?_
                        go_wp2_with fail
                        go_meet
                        exact ⟨v6, A8, c8, A9, c9, A10, c10, rfl, hU.out, ho9.out, ho15.out, ho21.out, hat9.out, hat15.out, hat21.out⟩
                      refine altG_now _ rfl rfl rfl (fun K0 hK => ?_)
                      go_wp2_with fail
                      have hbN := (Below.refl v2.heap.size v2).alloc (Nat.le_refl _) (.cells #[.bool true] 4)
                      have hq20 := Blk.new v2 4 #[.bool true]
                      have hl20 : w5.heap.size ≤ v2.heap.size := hU.size
                      generalize v2.alloc (.cells #[.bool true] 4) = v3 at *
                      replace hU := hU.trans (Upd.of_below_size (S := fun z => False) hbN) (fun _ _ e => e)
                      replace hq8 := hq8.below hbN hq8.lt
                      replace hq14 := hq14.below hbN hq14.lt
                      obtain ⟨q20, hqe⟩ : ∃ y, v2.heap.size = y := ⟨_, rfl⟩
                      rw [hqe] at hq20 hl20
                      try rw [hqe]
                      clear hbN
                      refine hK _ _ _ (fun _ h => h) (hU.mono (fun _ _ e => e.elim)) ?_
                      clear hK K0
                      try simp only [Act.put, List.setIfInBounds_toArray, List.set_cons_zero, List.set_cons_succ]
                      refine altG_now _ rfl rfl rfl (fun K0 hK => ?_)
                      have hown := hL5.upd hU (fun y hy e => e)
                      have hsrc := blk_reads (size := 6) hq8 rfl
                      refine wp_append_mine _ _ 42 42 rfl 62 iL0 _ 6 72 Try.underlying42 iL1 iL2 iL3 iL4 rfl rfl hown rfl (Src.ofReads Try.underlying42 _ hsrc (by intro u hu; simp only [List.mem_cons, List.not_mem_nil, or_false] at hu; rcases hu with rfl | rfl | rfl | rfl | rfl | rfl <;> rfl)) (by unfold maxLen; omega) (by omega) (fun A8 c8 v4 ho9 hg8 hat8 => ?_)
                      have hu8 : Upd (fun z => bOf A = some z) v3 v4 := (Upd.refl (fun z => bOf A = some z) _).grown hg8 (fun y e _ => e)
                      replace hq14 := hq14.upd hu8 (fun e => by have := hL5.lt e; omega)
                      replace hq20 := hq20.upd hu8 (fun e => by have := hL5.lt e; omega)
                      have hat9 : ∀ z, bOf A8 = some z → bOf A = some z ∨ w5.heap.size ≤ z := fun z hz => by
                        rcases hat8 with e | e
                        · rw [e] at hz; exact .inl hz
                        · have h1 : v3.heap.size = z := by rw [e] at hz; injection hz
                          have h2 := hU.size
                          exact .inr (by omega)
                      replace hU : Upd (fun z => bOf A = some z) w5 v4 := (hU.mono (fun _ _ e => e.elim)).trans (hu8.mono (fun _ _ e => e)) (fun _ _ e => e)
                      clear hown hsrc hg8 hat8 hu8 hq8 hl8
                      refine hK _ _ _ (fun _ h => h) (hU.mono (fun _ _ e => .inl e)) ?_
                      clear hK K0
                      try simp only [Act.put, List.setIfInBounds_toArray, List.set_cons_zero, List.set_cons_succ]
                      refine altG_now _ rfl rfl rfl (fun K0 hK => ?_)
                      have hown := hA5.upd hU (fun y hy e => hL5.ne_own hA5 (by decide) y e hy)
                      have hsrc := blk_reads (size := 1) hq14 rfl
                      refine wp_append_mine _ _ 49 49 rfl 3 iA0 _ 1 8 Try.underlying49 iA1 iA2 iA3 iA4 rfl rfl hown rfl (Src.ofReads Try.underlying49 _ hsrc (by intro u hu; simp only [List.mem_cons, List.not_mem_nil, or_false] at hu; rcases hu with rfl <;> rfl)) (by unfold maxLen; omega) (by omega) (fun A9 c9 v5 ho15 hg8 hat8 => ?_)
                      have hu8 : Upd (fun z => bOf A3 = some z) v4 v5 := (Upd.refl (fun z => bOf A3 = some z) _).grown hg8 (fun y e _ => e)
                      replace ho9 := ho9.upd hu8 (fun y hy e => ho9.ne_own hown (by decide) y hy e)
                      replace hq20 := hq20.upd hu8 (fun e => by have := hA5.lt e; omega)
                      have hat15 : ∀ z, bOf A9 = some z → bOf A3 = some z ∨ w5.heap.size ≤ z := fun z hz => by
                        rcases hat8 with e | e
                        · rw [e] at hz; exact .inl hz
                        · have h1 : v4.heap.size = z := by rw [e] at hz; injection hz
                          have h2 := hU.size
                          exact .inr (by omega)
                      replace hU : Upd (fun z => (bOf A = some z ∨ bOf A3 = some z)) w5 v5 := (hU.mono (fun _ _ e => .inl e)).trans (hu8.mono (fun _ _ e => .inr e)) (fun _ _ e => e)
                      clear hown hsrc hg8 hat8 hu8 hq14 hl14
                      refine hK _ _ _ (fun _ h => h) (hU.mono (fun _ _ e => e.elim .inl (fun e => .inr (.inl e)))) ?_
                      clear hK K0
                      try simp only [Act.put, List.setIfInBounds_toArray, List.set_cons_zero, List.set_cons_succ]
                      refine altG_now _ rfl rfl rfl (fun K0 hK => ?_)
                      have hown := hG5.upd hU (fun y hy e => e.elim (fun e => hL5.ne_own hG5 (by decide) y e hy) (fun e => hA5.ne_own hG5 (by decide) y e hy))
                      have hsrc := blk_reads (size := 1) hq20 rfl
                      refine wp_append_mine _ _ 50 50 rfl 4 iB0 _ 1 1 Try.underlying50 iB1 iB2 iB3 iB4 rfl rfl hown rfl (Src.ofReads Try.underlying50 _ hsrc (by intro u hu; simp only [List.mem_cons, List.not_mem_nil, or_false] at hu; rcases hu with rfl <;> rfl)) (by unfold maxLen; omega) (by omega) (fun A10 c10 v6 ho21 hg8 hat8 => ?_)
                      have hu8 : Upd (fun z => bOf A4 = some z) v5 v6 := (Upd.refl (fun z => bOf A4 = some z) _).grown hg8 (fun y e _ => e)
                      replace ho9 := ho9.upd hu8 (fun y hy e => ho9.ne_own hown (by decide) y hy e)
                      replace ho15 := ho15.upd hu8 (fun y hy e => ho15.ne_own hown (by decide) y hy e)
                      have hat21 : ∀ z, bOf A10 = some z → bOf A4 = some z ∨ w5.heap.size ≤ z := fun z hz => by
                        rcases hat8 with e | e
                        · rw [e] at hz; exact .inl hz
                        · have h1 : v5.heap.size = z := by rw [e] at hz; injection hz
                          have h2 := hU.size
                          exact .inr (by omega)
                      replace hU : Upd (fun z => (bOf A = some z ∨ bOf A3 = some z ∨ bOf A4 = some z)) w5 v6 := (hU.mono (fun _ _ e => e.elim .inl (fun e => .inr (.inl e)))).trans (hu8.mono (fun _ _ e => .inr (.inr e))) (fun _ _ e => e)
                      clear hown hsrc hg8 hat8 hu8 hq20 hl20
                      refine hK _ _ _ (fun _ h => h) (hU.mono (fun _ _ e => e)) ?_
                      clear hK K0
                      try simp only [Act.put, List.setIfInBounds_toArray, List.set_cons_zero, List.set_cons_succ]
                      have b0 := hbs5.upd hU (fun e => hgn e)
                      have b1 := b0.set_ 2 (.slice A8 (N + 1) c8)
                      have b2 := b1.set_ 3 (.slice A9 (N + 1) c9)
                      have k2 := b0.cell 2
                      have f2 := b0.frozen 2
                      have k3 := b1.cell 3
                      have f3 := b1.frozen 3
                      have k4 := b2.cell 4
                      have f4 := b2.frozen 4
                      replace hU := Lib.hid hU
                      replace ho9 := Lib.hid ho9
                      replace ho15 := Lib.hid ho15
                      replace ho21 := Lib.hid ho21
                      replace hat9 := Lib.hid hat9
                      replace hat15 := Lib.hid hat15
                      replace hat21 := Lib.hid hat21
                      clear b0 b1 b2
                      repeat (first | (refine altG_take _ ?_ rfl rfl rfl rfl (fun _ => ?_) ?_; rotate_left; (focus (go_simp; with_reducible rfl)); try simp only [Act.put, List.setIfInBounds_toArray, List.set_cons_zero, List.set_cons_succ]) | (refine altG_held _ ?_ rfl rfl rfl rfl (by assumption) (fun _ hSw => ?_) ?_; rotate_left; (focus (skip; clear hSw; go_simp; with_reducible rfl)); try simp only [Act.put, List.setIfInBounds_toArray, List.set_cons_zero, List.set_cons_succ]) | (refine altG_skip _ rfl rfl (by assumption) ?_; try simp only [Act.put, List.setIfInBounds_toArray, List.set_cons_zero, List.set_cons_succ]))
                      refine altG_nowF _ rfl rfl rfl (by kernel_rfl) (fun K0 hK => ?_)
                      go_wp2_with fail
                      try simp only [Act.put, List.setIfInBounds_toArray, List.set_cons_zero, List.set_cons_succ]
                      repeat (first | (refine altG_take _ ?_ rfl rfl rfl rfl (fun _ => ?_) ?_; rotate_left; (focus (go_simp; with_reducible rfl)); try simp only [Act.put, List.setIfInBounds_toArray, List.set_cons_zero, List.set_cons_succ]) | (refine altG_held _ ?_ rfl rfl rfl rfl (by assumption) (fun _ hSw => ?_) ?_; rotate_left; (focus (skip; clear hSw; go_simp; with_reducible rfl)); try simp only [Act.put, List.setIfInBounds_toArray, List.set_cons_zero, List.set_cons_succ]) | (refine altG_skip _ rfl rfl (by assumption) ?_; try simp only [Act.put, List.setIfInBounds_toArray, List.set_cons_zero, List.set_cons_succ]))
                      refine altG_nowF _ rfl rfl rfl (by kernel_rfl) (fun K0 hK => ?_)
                      go_wp2_with fail
                      try simp only [Act.put, List.setIfInBounds_toArray, List.set_cons_zero, List.set_cons_succ]
                      repeat (first | (refine altG_take _ ?_ rfl rfl rfl rfl (fun _ => ?_) ?_; rotate_left; (focus (go_simp; with_reducible rfl)); try simp only [Act.put, List.setIfInBounds_toArray, List.set_cons_zero, List.set_cons_succ]) | (refine altG_held _ ?_ rfl rfl rfl rfl (by assumption) (fun _ hSw => ?_) ?_; rotate_left; (focus (skip; clear hSw; go_simp; with_reducible rfl)); try simp only [Act.put, List.setIfInBounds_toArray, List.set_cons_zero, List.set_cons_succ]) | (refine altG_skip _ rfl rfl (by assumption) ?_; try simp only [Act.put, List.setIfInBounds_toArray, List.set_cons_zero, List.set_cons_succ]))
                      refine altG_nowF _ rfl rfl rfl (by kernel_rfl) (fun K0 hK => ?_)
                      go_wp2_with fail
                      try simp only [Act.put, List.setIfInBounds_toArray, List.set_cons_zero, List.set_cons_succ]
                      refine altG_nil ?_
                      go_wp2_with fail
                      go_meet
                      exact ⟨v6, A8, c8, A9, c9, A10, c10, rfl, hU.out, ho9.out, ho15.out, ho21.out, hat9.out, hat15.out, hat21.out⟩
                    refine altG_now _ rfl rfl rfl (fun K0 hK => ?_)
                    go_wp2_with fail
                    have hbN := (Below.refl v1.heap.size v1).alloc (Nat.le_refl _) (.cells #[.bool true] 4)
                    have hq20 := Blk.new v1 4 #[.bool true]
                    have hl20 : w5.heap.size ≤ v1.heap.size := hU.size
                    generalize v1.alloc (.cells #[.bool true] 4) = v2 at *
                    replace hU := hU.trans (Upd.of_below_size (S := fun z => False) hbN) (fun _ _ e => e)
                    replace hq8 := hq8.below hbN hq8.lt
                    obtain ⟨q20, hqe⟩ : ∃ y, v1.heap.size = y := ⟨_, rfl⟩
                    rw [hqe] at hq20 hl20
                    try rw [hqe]
                    clear hbN
                    refine hK _ _ _ (fun _ h => h) (hU.mono (fun _ _ e => e.elim)) ?_
                    clear hK K0
                    try simp only [Act.put, List.setIfInBounds_toArray, List.set_cons_zero, List.set_cons_succ]
                    refine altG_alt rfl ?_ ?_
                    · skip
                      refine altG_now _ rfl rfl rfl (fun K0 hK => ?_)
                      have hown := hL5.upd hU (fun y hy e => e)
                      have hsrc := blk_reads (size := 6) hq8 rfl
                      refine wp_append_mine _ _ 42 42 rfl 62 iL0 _ 6 72 Try.underlying42 iL1 iL2 iL3 iL4 rfl rfl hown rfl (Src.ofReads Try.underlying42 _ hsrc (by intro u hu; simp only [List.mem_cons, List.not_mem_nil, or_false] at hu; rcases hu with rfl | rfl | rfl | rfl | rfl | rfl <;> rfl)) (by unfold maxLen; omega) (by omega) (fun A8 c8 v3 ho9 hg8 hat8 => ?_)
                      have hu8 : Upd (fun z => bOf A = some z) v2 v3 := (Upd.refl (fun z => bOf A = some z) _).grown hg8 (fun y e _ => e)
                      replace hq20 := hq20.upd hu8 (fun e => by have := hL5.lt e; omega)
                      have hat9 : ∀ z, bOf A8 = some z → bOf A = some z ∨ w5.heap.size ≤ z := fun z hz => by
                        rcases hat8 with e | e
                        · rw [e] at hz; exact .inl hz
                        · have h1 : v2.heap.size = z := by rw [e] at hz; injection hz
                          have h2 := hU.size
                          exact .inr (by omega)
                      replace hU : Upd (fun z => bOf A = some z) w5 v3 := (hU.mono (fun _ _ e => e.elim)).trans (hu8.mono (fun _ _ e => e)) (fun _ _ e => e)
                      clear hown hsrc hg8 hat8 hu8 hq8 hl8
                      refine hK _ _ _ (fun _ h => h) (hU.mono (fun _ _ e => .inl e)) ?_
                      clear hK K0
                      try simp only [Act.put, List.setIfInBounds_toArray, List.set_cons_zero, List.set_cons_succ]
                      refine altG_now _ rfl rfl rfl (fun K0 hK => ?_)
                      go_wp2_with fail
                      have hbN := (Below.refl v3.heap.size v3).alloc (Nat.le_refl _) (.cells #[.int .i64 0] 3)
                      have hq14 := Blk.new v3 3 #[.int .i64 0]
                      have hl14 : w5.heap.size ≤ v3.heap.size := hU.size
                      generalize v3.alloc (.cells #[.int .i64 0] 3) = v4 at *
                      replace hU := hU.trans (Upd.of_below_size (S := fun z => bOf A = some z) hbN) (fun _ _ e => e)
                      replace hq20 := hq20.below hbN hq20.lt
                      replace ho9 := ho9.below hbN (Nat.le_refl _)
                      obtain ⟨q14, hqe⟩ : ∃ y, v3.heap.size = y := ⟨_, rfl⟩
                      rw [hqe] at hq14 hl14
                      try rw [hqe]
                      clear hbN
                      refine hK _ _ _ (fun _ h => h) (hU.mono (fun _ _ e => .inl e)) ?_
                      clear hK K0
                      try simp only [Act.put, List.setIfInBounds_toArray, List.set_cons_zero, List.set_cons_succ]
                      refine altG_now _ rfl rfl rfl (fun K0 hK => ?_)
                      have hown := hA5.upd hU (fun y hy e => hL5.ne_own hA5 (by decide) y e hy)
                      have hsrc := blk_reads (size := 1) hq14 rfl
                      refine wp_append_mine _ _ 49 49 rfl 3 iA0 _ 1 8 Try.underlying49 iA1 iA2 iA3 iA4 rfl rfl hown rfl (Src.ofReads Try.underlying49 _ hsrc (by intro u hu; simp only [List.mem_cons, List.not_mem_nil, or_false] at hu; rcases hu with rfl <;> rfl)) (by unfold maxLen; omega) (by omega) (fun A9 c9 v5 ho15 hg8 hat8 => ?_)
                      have hu8 : Upd (fun z => bOf A3 = some z) v4 v5 := (Upd.refl (fun z => bOf A3 = some z) _).grown hg8 (fun y e _ => e)
                      replace ho9 := ho9.upd hu8 (fun y hy e => ho9.ne_own hown (by decide) y hy e)
                      replace hq20 := hq20.upd hu8 (fun e => by have := hA5.lt e; omega)
                      have hat15 : ∀ z, bOf A9 = some z → bOf A3 = some z ∨ w5.heap.size ≤ z := fun z hz => by
                        rcases hat8 with e | e
                        · rw [e] at hz; exact .inl hz
                        · have h1 : v4.heap.size = z := by rw [e] at hz; injection hz
                          have h2 := hU.size
                          exact .inr (by omega)
                      replace hU : Upd (fun z => (bOf A = some z ∨ bOf A3 = some z)) w5 v5 := (hU.mono (fun _ _ e => .inl e)).trans (hu8.mono (fun _ _ e => .inr e)) (fun _ _ e => e)
                      clear hown hsrc hg8 hat8 hu8 hq14 hl14
                      refine hK _ _ _ (fun _ h => h) (hU.mono (fun _ _ e => e.elim .inl (fun e => .inr (.inl e)))) ?_
                      clear hK K0
                      try simp only [Act.put, List.setIfInBounds_toArray, List.set_cons_zero, List.set_cons_succ]
                      refine altG_now _ rfl rfl rfl (fun K0 hK => ?_)
                      have hown := hG5.upd hU (fun y hy e => e.elim (fun e => hL5.ne_own hG5 (by decide) y e hy) (fun e => hA5.ne_own hG5 (by decide) y e hy))
                      have hsrc := blk_reads (size := 1) hq20 rfl
                      refine wp_append_mine _ _ 50 50 rfl 4 iB0 _ 1 1 Try.underlying50 iB1 iB2 iB3 iB4 rfl rfl hown rfl (Src.ofReads Try.underlying50 _ hsrc (by intro u hu; simp only [List.mem_cons, List.not_mem_nil, or_false] at hu; rcases hu with rfl <;> rfl)) (by unfold maxLen; omega) (by omega) (fun A10 c10 v6 ho21 hg8 hat8 => ?_)
                      have hu8 : Upd (fun z => bOf A4 = some z) v5 v6 := (Upd.refl (fun z => bOf A4 = some z) _).grown hg8 (fun y e _ => e)
                      replace ho9 := ho9.upd hu8 (fun y hy e => ho9.ne_own hown (by decide) y hy e)
                      replace ho15 := ho15.upd hu8 (fun y hy e => ho15.ne_own hown (by decide) y hy e)
                      have hat21 : ∀ z, bOf A10 = some z → bOf A4 = some z ∨ w5.heap.size ≤ z := fun z hz => by
                        rcases hat8 with e | e
                        · rw [e] at hz; exact .inl hz
                        · have h1 : v5.heap.size = z := by rw [e] at hz; injection hz
                          have h2 := hU.size
                          exact .inr (by omega)
                      replace hU : Upd (fun z => (bOf A = some z ∨ bOf A3 = some z ∨ bOf A4 = some z)) w5 v6 := (hU.mono (fun _ _ e => e.elim .inl (fun e => .inr (.inl e)))).trans (hu8.mono (fun _ _ e => .inr (.inr e))) (fun _ _ e => e)
                      clear hown hsrc hg8 hat8 hu8 hq20 hl20
                      refine hK _ _ _ (fun _ h => h) (hU.mono (fun _ _ e => e)) ?_
                      clear hK K0
                      try simp only [Act.put, List.setIfInBounds_toArray, List.set_cons_zero, List.set_cons_succ]
                      have b0 := hbs5.upd hU (fun e => hgn e)
                      have b1 := b0.set_ 2 (.slice A8 (N + 1) c8)
                      have b2 := b1.set_ 3 (.slice A9 (N + 1) c9)
                      have k2 := b0.cell 2
                      have f2 := b0.frozen 2
                      have k3 := b1.cell 3
                      have f3 := b1.frozen 3
                      have k4 := b2.cell 4
                      have f4 := b2.frozen 4
                      replace hU := Lib.hid hU
                      replace ho9 := Lib.hid ho9
                      replace ho15 := Lib.hid ho15
                      replace ho21 := Lib.hid ho21
                      replace hat9 := Lib.hid hat9
                      replace hat15 := Lib.hid hat15
                      replace hat21 := Lib.hid hat21
                      clear b0 b1 b2
                      repeat (first | (refine altG_take _ ?_ rfl rfl rfl rfl (fun _ => ?_) ?_; rotate_left; (focus (go_simp; with_reducible rfl)); try simp only [Act.put, List.setIfInBounds_toArray, List.set_cons_zero, List.set_cons_succ]) | (refine altG_held _ ?_ rfl rfl rfl rfl (by assumption) (fun _ hSw => ?_) ?_; rotate_left; (focus (skip; clear hSw; go_simp; with_reducible rfl)); try simp only [Act.put, List.setIfInBounds_toArray, List.set_cons_zero, List.set_cons_succ]) | (refine altG_skip _ rfl rfl (by assumption) ?_; try simp only [Act.put, List.setIfInBounds_toArray, List.set_cons_zero, List.set_cons_succ]))
                      refine altG_nowF _ rfl rfl rfl (by kernel_rfl) (fun K0 hK => ?_)
                      go_wp2_with fail
                      try simp only [Act.put, List.setIfInBounds_toArray, List.set_cons_zero, List.set_cons_succ]
                      repeat (first | (refine altG_take _ ?_ rfl rfl rfl rfl (fun _ => ?_) ?_; rotate_left; (focus (go_simp; with_reducible rfl)); try simp only [Act.put, List.setIfInBounds_toArray, List.set_cons_zero, List.set_cons_succ]) | (refine altG_held _ ?_ rfl rfl rfl rfl (by assumption) (fun _ hSw => ?_) ?_; rotate_left; (focus (skip; clear hSw; go_simp; with_reducible rfl)); try simp only [Act.put, List.setIfInBounds_toArray, List.set_cons_zero, List.set_cons_succ]) | (refine altG_skip _ rfl rfl (by assumption) ?_; try simp only [Act.put, List.setIfInBounds_toArray, List.set_cons_zero, List.set_cons_succ]))
                      refine altG_nowF _ rfl rfl rfl (by kernel_rfl) (fun K0 hK => ?_)
                      go_wp2_with fail
                      try simp only [Act.put, List.setIfInBounds_toArray, List.set_cons_zero, List.set_cons_succ]
                      repeat (first | (refine altG_take _ ?_ rfl rfl rfl rfl (fun _ => ?_) ?_; rotate_left; (focus (go_simp; with_reducible rfl)); try simp only [Act.put, List.setIfInBounds_toArray, List.set_cons_zero, List.set_cons_succ]) | (refine altG_held _ ?_ rfl rfl rfl rfl (by assumption) (fun _ hSw => ?_) ?_; rotate_left; (focus (skip; clear hSw; go_simp; with_reducible rfl)); try simp only [Act.put, List.setIfInBounds_toArray, List.set_cons_zero, List.set_cons_succ]) | (refine altG_skip _ rfl rfl (by assumption) ?_; try simp only [Act.put, List.setIfInBounds_toArray, List.set_cons_zero, List.set_cons_succ]))
                      refine altG_nowF _ rfl rfl rfl (by kernel_rfl) (fun K0 hK => ?_)
                      go_wp2_with fail
                      try simp only [Act.put, List.setIfInBounds_toArray, List.set_cons_zero, List.set_cons_succ]
                      refine altG_nil ?_
                      go_wp2_with fail
                      go_meet
                      exact ⟨v6, A8, c8, A9, c9, A10, c10, rfl, hU.out, ho9.out, ho15.out, ho21.out, hat9.out, hat15.out, hat21.out⟩
                    refine altG_now _ rfl rfl rfl (fun K0 hK => ?_)
                    go_wp2_with fail
                    have hbN := (Below.refl v2.heap.size v2).alloc (Nat.le_refl _) (.cells #[.int .i64 0] 3)
                    have hq14 := Blk.new v2 3 #[.int .i64 0]
                    have hl14 : w5.heap.size ≤ v2.heap.size := hU.size
                    generalize v2.alloc (.cells #[.int .i64 0] 3) = v3 at *
                    replace hU := hU.trans (Upd.of_below_size (S := fun z => False) hbN) (fun _ _ e => e)
                    replace hq8 := hq8.below hbN hq8.lt
                    replace hq20 := hq20.below hbN hq20.lt
                    obtain ⟨q14, hqe⟩ : ∃ y, v2.heap.size = y := ⟨_, rfl⟩
                    rw [hqe] at hq14 hl14
                    try rw [hqe]
                    clear hbN
                    refine hK _ _ _ (fun _ h => h) (hU.mono (fun _ _ e => e.elim)) ?_
                    clear hK K0
                    try simp only [Act.put, List.setIfInBounds_toArray, List.set_cons_zero, List.set_cons_succ]
                    refine altG_now _ rfl rfl rfl (fun K0 hK => ?_)
                    have hown := hL5.upd hU (fun y hy e => e)
                    have hsrc := blk_reads (size := 6) hq8 rfl
                    refine wp_append_mine _ _ 42 42 rfl 62 iL0 _ 6 72 Try.underlying42 iL1 iL2 iL3 iL4 rfl rfl hown rfl (Src.ofReads Try.underlying42 _ hsrc (by intro u hu; simp only [List.mem_cons, List.not_mem_nil, or_false] at hu; rcases hu with rfl | rfl | rfl | rfl | rfl | rfl <;> rfl)) (by unfold maxLen; omega) (by omega) (fun A8 c8 v4 ho9 hg8 hat8 => ?_)
                    have hu8 : Upd (fun z => bOf A = some z) v3 v4 := (Upd.refl (fun z => bOf A = some z) _).grown hg8 (fun y e _ => e)
                    replace hq14 := hq14.upd hu8 (fun e => by have := hL5.lt e; omega)
                    replace hq20 := hq20.upd hu8 (fun e => by have := hL5.lt e; omega)
                    have hat9 : ∀ z, bOf A8 = some z → bOf A = some z ∨ w5.heap.size ≤ z := fun z hz => by
                      rcases hat8 with e | e
                      · rw [e] at hz; exact .inl hz
                      · have h1 : v3.heap.size = z := by rw [e] at hz; injection hz
                        have h2 := hU.size
                        exact .inr (by omega)
                    replace hU : Upd (fun z => bOf A = some z) w5 v4 := (hU.mono (fun _ _ e => e.elim)).trans (hu8.mono (fun _ _ e => e)) (fun _ _ e => e)
                    clear hown hsrc hg8 hat8 hu8 hq8 hl8
                    refine hK _ _ _ (fun _ h => h) (hU.mono (fun _ _ e => .inl e)) ?_
                    clear hK K0
                    try simp only [Act.put, List.setIfInBounds_toArray, List.set_cons_zero, List.set_cons_succ]
                    refine altG_now _ rfl rfl rfl (fun K0 hK => ?_)
                    have hown := hA5.upd hU (fun y hy e => hL5.ne_own hA5 (by decide) y e hy)
                    have hsrc := blk_reads (size := 1) hq14 rfl
                    refine wp_append_mine _ _ 49 49 rfl 3 iA0 _ 1 8 Try.underlying49 iA1 iA2 iA3 iA4 rfl rfl hown rfl (Src.ofReads Try.underlying49 _ hsrc (by intro u hu; simp only [List.mem_cons, List.not_mem_nil, or_false] at hu; rcases hu with rfl <;> rfl)) (by unfold maxLen; omega) (by omega) (fun A9 c9 v5 ho15 hg8 hat8 => ?_)
                    have hu8 : Upd (fun z => bOf A3 = some z) v4 v5 := (Upd.refl (fun z => bOf A3 = some z) _).grown hg8 (fun y e _ => e)
                    replace ho9 := ho9.upd hu8 (fun y hy e => ho9.ne_own hown (by decide) y hy e)
                    replace hq20 := hq20.upd hu8 (fun e => by have := hA5.lt e; omega)
                    have hat15 : ∀ z, bOf A9 = some z → bOf A3 = some z ∨ w5.heap.size ≤ z := fun z hz => by
                      rcases hat8 with e | e
                      · rw [e] at hz; exact .inl hz
                      · have h1 : v4.heap.size = z := by rw [e] at hz; injection hz
                        have h2 := hU.size
                        exact .inr (by omega)
                    replace hU : Upd (fun z => (bOf A = some z ∨ bOf A3 = some z)) w5 v5 := (hU.mono (fun _ _ e => .inl e)).trans (hu8.mono (fun _ _ e => .inr e)) (fun _ _ e => e)
                    clear hown hsrc hg8 hat8 hu8 hq14 hl14
                    refine hK _ _ _ (fun _ h => h) (hU.mono (fun _ _ e => e.elim .inl (fun e => .inr (.inl e)))) ?_
                    clear hK K0
                    try simp only [Act.put, List.setIfInBounds_toArray, List.set_cons_zero, List.set_cons_succ]
                    refine altG_now _ rfl rfl rfl (fun K0 hK => ?_)
                    have hown := hG5.upd hU (fun y hy e => e.elim (fun e => hL5.ne_own hG5 (by decide) y e hy) (fun e => hA5.ne_own hG5 (by decide) y e hy))
                    have hsrc := blk_reads (size := 1) hq20 rfl
                    refine wp_append_mine _ _ 50 50 rfl 4 iB0 _ 1 1 Try.underlying50 iB1 iB2 iB3 iB4 rfl rfl hown rfl (Src.ofReads Try.underlying50 _ hsrc (by intro u hu; simp only [List.mem_cons, List.not_mem_nil, or_false] at hu; rcases hu with rfl <;> rfl)) (by unfold maxLen; omega) (by omega) (fun A10 c10 v6 ho21 hg8 hat8 => ?_)
                    have hu8 : Upd (fun z => bOf A4 = some z) v5 v6 := (Upd.refl (fun z => bOf A4 = some z) _).grown hg8 (fun y e _ => e)
                    replace ho9 := ho9.upd hu8 (fun y hy e => ho9.ne_own hown (by decide) y hy e)
                    replace ho15 := ho15.upd hu8 (fun y hy e => ho15.ne_own hown (by decide) y hy e)
                    have hat21 : ∀ z, bOf A10 = some z → bOf A4 = some z ∨ w5.heap.size ≤ z := fun z hz => by
                      rcases hat8 with e | e
                      · rw [e] at hz; exact .inl hz
                      · have h1 : v5.heap.size = z := by rw [e] at hz; injection hz
                        have h2 := hU.size
                        exact .inr (by omega)
                    replace hU : Upd (fun z => (bOf A = some z ∨ bOf A3 = some z ∨ bOf A4 = some z)) w5 v6 := (hU.mono (fun _ _ e => e.elim .inl (fun e => .inr (.inl e)))).trans (hu8.mono (fun _ _ e => .inr (.inr e))) (fun _ _ e => e)
                    clear hown hsrc hg8 hat8 hu8 hq20 hl20
                    refine hK _ _ _ (fun _ h => h) (hU.mono (fun _ _ e => e)) ?_
                    clear hK K0
                    try simp only [Act.put, List.setIfInBounds_toArray, List.set_cons_zero, List.set_cons_succ]
                    have b0 := hbs5.upd hU (fun e => hgn e)
                    have b1 := b0.set_ 2 (.slice A8 (N + 1) c8)
                    have b2 := b1.set_ 3 (.slice A9 (N + 1) c9)
                    have k2 := b0.cell 2
                    have f2 := b0.frozen 2
                    have k3 := b1.cell 3
                    have f3 := b1.frozen 3
                    have k4 := b2.cell 4
                    have f4 := b2.frozen 4
                    replace hU := Lib.hid hU
                    replace ho9 := Lib.hid ho9
                    replace ho15 := Lib.hid ho15
                    replace ho21 := Lib.hid ho21
                    replace hat9 := Lib.hid hat9
                    replace hat15 := Lib.hid hat15
                    replace hat21 := Lib.hid hat21
                    clear b0 b1 b2
                    repeat (first | (refine altG_take _ ?_ rfl rfl rfl rfl (fun _ => ?_) ?_; rotate_left; (focus (go_simp; with_reducible rfl)); try simp only [Act.put, List.setIfInBounds_toArray, List.set_cons_zero, List.set_cons_succ]) | (refine altG_held _ ?_ rfl rfl rfl rfl (by assumption) (fun _ hSw => ?_) ?_; rotate_left; (focus (skip; clear hSw; go_simp; with_reducible rfl)); try simp only [Act.put, List.setIfInBounds_toArray, List.set_cons_zero, List.set_cons_succ]) | (refine altG_skip _ rfl rfl (by assumption) ?_; try simp only [Act.put, List.setIfInBounds_toArray, List.set_cons_zero, List.set_cons_succ]))
                    refine altG_nowF _ rfl rfl rfl (by kernel_rfl) (fun K0 hK => ?_)
                    go_wp2_with fail
                    try simp only [Act.put, List.setIfInBounds_toArray, List.set_cons_zero, List.set_cons_succ]
                    repeat (first | (refine altG_take _ ?_ rfl rfl rfl rfl (fun _ => ?_) ?_; rotate_left; (focus (go_simp; with_reducible rfl)); try simp only [Act.put, List.setIfInBounds_toArray, List.set_cons_zero, List.set_cons_succ]) | (refine altG_held _ ?_ rfl rfl rfl rfl (by assumption) (fun _ hSw => ?_) ?_; rotate_left; (focus (skip; clear hSw; go_simp; with_reducible rfl)); try simp only [Act.put, List.setIfInBounds_toArray, List.set_cons_zero, List.set_cons_succ]) | (refine altG_skip _ rfl rfl (by assumption) ?_; try simp only [Act.put, List.setIfInBounds_toArray, List.set_cons_zero, List.set_cons_succ]))
                    refine altG_nowF _ rfl rfl rfl (by kernel_rfl) (fun K0 hK => ?_)
                    go_wp2_with fail
                    try simp only [Act.put, List.setIfInBounds_toArray, List.set_cons_zero, List.set_cons_succ]
                    repeat (first | (refine altG_take _ ?_ rfl rfl rfl rfl (fun _ => ?_) ?_; rotate_left; (focus (go_simp; with_reducible rfl)); try simp only [Act.put, List.setIfInBounds_toArray, List.set_cons_zero, List.set_cons_succ]) | (refine altG_held _ ?_ rfl rfl rfl rfl (by assumption) (fun _ hSw => ?_) ?_; rotate_left; (focus (skip; clear hSw; go_simp; with_reducible rfl)); try simp only [Act.put, List.setIfInBounds_toArray, List.set_cons_zero, List.set_cons_succ]) | (refine altG_skip _ rfl rfl (by assumption) ?_; try simp only [Act.put, List.setIfInBounds_toArray, List.set_cons_zero, List.set_cons_succ]))
                    refine altG_nowF _ rfl rfl rfl (by kernel_rfl) (fun K0 hK => ?_)
                    go_wp2_with fail
                    try simp only [Act.put, List.setIfInBounds_toArray, List.set_cons_zero, List.set_cons_succ]
                    refine altG_nil ?_
                    go_wp2_with fail
                    go_meet
                    exact ⟨v6, A8, c8, A9, c9, A10, c10, rfl, hU.out, ho9.out, ho15.out, ho21.out, hat9.out, hat15.out, hat21.out⟩
                  refine altG_alt rfl ?_ ?_
                  · skip
                    refine altG_now _ rfl rfl rfl (fun K0 hK => ?_)
                    go_wp2_with fail
                    have hbN := (Below.refl v0.heap.size v0).alloc (Nat.le_refl _) (.cells #[.int .i64 0] 3)
                    have hq14 := Blk.new v0 3 #[.int .i64 0]
                    have hl14 : w5.heap.size ≤ v0.heap.size := hU.size
                    generalize v0.alloc (.cells #[.int .i64 0] 3) = v1 at *
                    replace hU := hU.trans (Upd.of_below_size (S := fun z => False) hbN) (fun _ _ e => e)
                    obtain ⟨q14, hqe⟩ : ∃ y, v0.heap.size = y := ⟨_, rfl⟩
                    rw [hqe] at hq14 hl14
                    try rw [hqe]
                    clear hbN
                    refine hK _ _ _ (fun _ h => h) (hU.mono (fun _ _ e => e.elim)) ?_
                    clear hK K0
                    try simp only [Act.put, List.setIfInBounds_toArray, List.set_cons_zero, List.set_cons_succ]
                    refine altG_alt rfl ?_ ?_
                    · skip
                      refine altG_now _ rfl rfl rfl (fun K0 hK => ?_)
                      go_wp2_with fail
                      have hbN := (Below.refl v1.heap.size v1).alloc (Nat.le_refl _) (.cells #[.int .u32 (sid : Int), .int .u32 ((sq : Int) + 1), .int .u16 0, .string ⟨#[103]⟩, .string mm, .slice A' LL c'] 62)
                      have hq8 := Blk.new v1 62 #[.int .u32 (sid : Int), .int .u32 ((sq : Int) + 1), .int .u16 0, .string ⟨#[103]⟩, .string mm, .slice A' LL c']
                      have hl8 : w5.heap.size ≤ v1.heap.size := hU.size
                      generalize v1.alloc (.cells #[.int .u32 (sid : Int), .int .u32 ((sq : Int) + 1), .int .u16 0, .string ⟨#[103]⟩, .string mm, .slice A' LL c'] 62) = v2 at *
                      replace hU := hU.trans (Upd.of_below_size (S := fun z => False) hbN) (fun _ _ e => e)
                      replace hq14 := hq14.below hbN hq14.lt
                      obtain ⟨q8, hqe⟩ : ∃ y, v1.heap.size = y := ⟨_, rfl⟩
                      rw [hqe] at hq8 hl8
                      try rw [hqe]
                      clear hbN
                      refine hK _ _ _ (fun _ h => h) (hU.mono (fun _ _ e => e.elim)) ?_
                      clear hK K0
                      try simp only [Act.put, List.setIfInBounds_toArray, List.set_cons_zero, List.set_cons_succ]
                      refine altG_alt rfl ?_ ?_
                      · skip
                        refine altG_now _ rfl rfl rfl (fun K0 hK => ?_)
                        have hown := hL5.upd hU (fun y hy e => e)
                        have hsrc := blk_reads (size := 6) hq8 rfl
                        refine wp_append_mine _ _ 42 42 rfl 62 iL0 _ 6 72 Try.underlying42 iL1 iL2 iL3 iL4 rfl rfl hown rfl (Src.ofReads Try.underlying42 _ hsrc (by intro u hu; simp only [List.mem_cons, List.not_mem_nil, or_false] at hu; rcases hu with rfl | rfl | rfl | rfl | rfl | rfl <;> rfl)) (by unfold maxLen; omega) (by omega) (fun A8 c8 v3 ho9 hg8 hat8 => ?_)
                        have hu8 : Upd (fun z => bOf A = some z) v2 v3 := (Upd.refl (fun z => bOf A = some z) _).grown hg8 (fun y e _ => e)
                        replace hq14 := hq14.upd hu8 (fun e => by have := hL5.lt e; omega)
                        have hat9 : ∀ z, bOf A8 = some z → bOf A = some z ∨ w5.heap.size ≤ z := fun z hz => by
                          rcases hat8 with e | e
                          · rw [e] at hz; exact .inl hz
                          · have h1 : v2.heap.size = z := by rw [e] at hz; injection hz
                            have h2 := hU.size
                            exact .inr (by omega)
                        replace hU : Upd (fun z => bOf A = some z) w5 v3 := (hU.mono (fun _ _ e => e.elim)).trans (hu8.mono (fun _ _ e => e)) (fun _ _ e => e)
                        clear hown hsrc hg8 hat8 hu8 hq8 hl8
                        refine hK _ _ _ (fun _ h => h) (hU.mono (fun _ _ e => .inl e)) ?_
                        clear hK K0
                        try simp only [Act.put, List.setIfInBounds_toArray, List.set_cons_zero, List.set_cons_succ]
                        refine altG_alt rfl ?_ ?_
                        · skip
                          refine altG_now _ rfl rfl rfl (fun K0 hK => ?_)
                          have hown := hA5.upd hU (fun y hy e => hL5.ne_own hA5 (by decide) y e hy)
                          have hsrc := blk_reads (size := 1) hq14 rfl
                          refine wp_append_mine _ _ 49 49 rfl 3 iA0 _ 1 8 Try.underlying49 iA1 iA2 iA3 iA4 rfl rfl hown rfl (Src.ofReads Try.underlying49 _ hsrc (by intro u hu; simp only [List.mem_cons, List.not_mem_nil, or_false] at hu; rcases hu with rfl <;> rfl)) (by unfold maxLen; omega) (by omega) (fun A9 c9 v4 ho15 hg8 hat8 => ?_)
                          have hu8 : Upd (fun z => bOf A3 = some z) v3 v4 := (Upd.refl (fun z => bOf A3 = some z) _).grown hg8 (fun y e _ => e)
                          replace ho9 := ho9.upd hu8 (fun y hy e => ho9.ne_own hown (by decide) y hy e)
                          have hat15 : ∀ z, bOf A9 = some z → bOf A3 = some z ∨ w5.heap.size ≤ z := fun z hz => by
                            rcases hat8 with e | e
                            · rw [e] at hz; exact .inl hz
                            · have h1 : v3.heap.size = z := by rw [e] at hz; injection hz
                              have h2 := hU.size
                              exact .inr (by omega)
                          replace hU : Upd (fun z => (bOf A = some z ∨ bOf A3 = some z)) w5 v4 := (hU.mono (fun _ _ e => .inl e)).trans (hu8.mono (fun _ _ e => .inr e)) (fun _ _ e => e)
                          clear hown hsrc hg8 hat8 hu8 hq14 hl14
                          refine hK _ _ _ (fun _ h => h) (hU.mono (fun _ _ e => e.elim .inl (fun e => .inr (.inl e)))) ?_
                          clear hK K0
                          try simp only [Act.put, List.setIfInBounds_toArray, List.set_cons_zero, List.set_cons_succ]
                          refine altG_now _ rfl rfl rfl (fun K0 hK => ?_)
                          go_wp2_with fail
                          have hbN := (Below.refl v4.heap.size v4).alloc (Nat.le_refl _) (.cells #[.bool true] 4)
                          have hq20 := Blk.new v4 4 #[.bool true]
                          have hl20 : w5.heap.size ≤ v4.heap.size := hU.size
                          generalize v4.alloc (.cells #[.bool true] 4) = v5 at *
                          replace hU := hU.trans (Upd.of_below_size (S := fun z => (bOf A = some z ∨ bOf A3 = some z)) hbN) (fun _ _ e => e)
                          replace ho9 := ho9.below hbN (Nat.le_refl _)
                          replace ho15 := ho15.below hbN (Nat.le_refl _)
                          obtain ⟨q20, hqe⟩ : ∃ y, v4.heap.size = y := ⟨_, rfl⟩
                          rw [hqe] at hq20 hl20
                          try rw [hqe]
                          clear hbN
                          refine hK _ _ _ (fun _ h => h) (hU.mono (fun _ _ e => e.elim .inl (fun e => .inr (.inl e)))) ?_
                          clear hK K0
                          try simp only [Act.put, List.setIfInBounds_toArray, List.set_cons_zero, List.set_cons_succ]
                          refine altG_now _ rfl rfl rfl (fun K0 hK => ?_)
                          have hown := hG5.upd hU (fun y hy e => e.elim (fun e => hL5.ne_own hG5 (by decide) y e hy) (fun e => hA5.ne_own hG5 (by decide) y e hy))
                          have hsrc := blk_reads (size := 1) hq20 rfl
                          refine wp_append_mine _ _ 50 50 rfl 4 iB0 _ 1 1 Try.underlying50 iB1 iB2 iB3 iB4 rfl rfl hown rfl (Src.ofReads Try.underlying50 _ hsrc (by intro u hu; simp only [List.mem_cons, List.not_mem_nil, or_false] at hu; rcases hu with rfl <;> rfl)) (by unfold maxLen; omega) (by omega) (fun A10 c10 v6 ho21 hg8 hat8 => ?_)
                          have hu8 : Upd (fun z => bOf A4 = some z) v5 v6 := (Upd.refl (fun z => bOf A4 = some z) _).grown hg8 (fun y e _ => e)
                          replace ho9 := ho9.upd hu8 (fun y hy e => ho9.ne_own hown (by decide) y hy e)
                          replace ho15 := ho15.upd hu8 (fun y hy e => ho15.ne_own hown (by decide) y hy e)
                          have hat21 : ∀ z, bOf A10 = some z → bOf A4 = some z ∨ w5.heap.size ≤ z := fun z hz => by
                            rcases hat8 with e | e
                            · rw [e] at hz; exact .inl hz
                            · have h1 : v5.heap.size = z := by rw [e] at hz; injection hz
                              have h2 := hU.size
                              exact .inr (by omega)
                          replace hU : Upd (fun z => (bOf A = some z ∨ bOf A3 = some z ∨ bOf A4 = some z)) w5 v6 := (hU.mono (fun _ _ e => e.elim .inl (fun e => .inr (.inl e)))).trans (hu8.mono (fun _ _ e => .inr (.inr e))) (fun _ _ e => e)
                          clear hown hsrc hg8 hat8 hu8 hq20 hl20
                          refine hK _ _ _ (fun _ h => h) (hU.mono (fun _ _ e => e)) ?_
                          clear hK K0
                          try simp only [Act.put, List.setIfInBounds_toArray, List.set_cons_zero, List.set_cons_succ]
                          have b0 := hbs5.upd hU (fun e => hgn e)
                          have b1 := b0.set_ 2 (.slice A8 (N + 1) c8)
                          have b2 := b1.set_ 3 (.slice A9 (N + 1) c9)
                          have k2 := b0.cell 2
                          have f2 := b0.frozen 2
                          have k3 := b1.cell 3
                          have f3 := b1.frozen 3
                          have k4 := b2.cell 4
                          have f4 := b2.frozen 4
                          replace hU := Lib.hid hU
                          replace ho9 := Lib.hid ho9
                          replace ho15 := Lib.hid ho15
                          replace ho21 := Lib.hid ho21
                          replace hat9 := Lib.hid hat9
                          replace hat15 := Lib.hid hat15
                          replace hat21 := Lib.hid hat21
                          clear b0 b1 b2
                          repeat (first | (refine altG_take _ ?_ rfl rfl rfl rfl (fun _ => ?_) ?_; rotate_left; (focus (go_simp; with_reducible rfl)); try simp only [Act.put, List.setIfInBounds_toArray, List.set_cons_zero, List.set_cons_succ]) | (refine altG_held _ ?_ rfl rfl rfl rfl (by assumption) (fun _ hSw => ?_) ?_; rotate_left; (focus (skip; clear hSw; go_simp; with_reducible rfl)); try simp only [Act.put, List.setIfInBounds_toArray, List.set_cons_zero, List.set_cons_succ]) | (refine altG_skip _ rfl rfl (by assumption) ?_; try simp only [Act.put, List.setIfInBounds_toArray, List.set_cons_zero, List.set_cons_succ]))
                          refine altG_nowF _ rfl rfl rfl (by kernel_rfl) (fun K0 hK => ?_)
                          go_wp2_with fail
                          try simp only [Act.put, List.setIfInBounds_toArray, List.set_cons_zero, List.set_cons_succ]
                          repeat (first | (refine altG_take _ ?_ rfl rfl rfl rfl (fun _ => ?_) ?_; rotate_left; (focus (go_simp; with_reducible rfl)); try simp only [Act.put, List.setIfInBounds_toArray, List.set_cons_zero, List.set_cons_succ]) | (refine altG_held _ ?_ rfl rfl rfl rfl (by assumption) (fun _ hSw => ?_) ?_; rotate_left; (focus (skip; clear hSw; go_simp; with_reducible rfl)); try simp only [Act.put, List.setIfInBounds_toArray, List.set_cons_zero, List.set_cons_succ]) | (refine altG_skip _ rfl rfl (by assumption) ?_; try simp only [Act.put, List.setIfInBounds_toArray, List.set_cons_zero, List.set_cons_succ]))
                          refine altG_nowF _ rfl rfl rfl (by kernel_rfl) (fun K0 hK => ?_)
                          go_wp2_with fail
                          try simp only [Act.put, List.setIfInBounds_toArray, List.set_cons_zero, List.set_cons_succ]
                          repeat (first | (refine altG_take _ ?_ rfl rfl rfl rfl (fun _ => ?_) ?_; rotate_left; (focus (go_simp; with_reducible rfl)); try simp only [Act.put, List.setIfInBounds_toArray, List.set_cons_zero, List.set_cons_succ]) | (refine altG_held _ ?_ rfl rfl rfl rfl (by assumption) (fun _ hSw => ?_) ?_; rotate_left; (focus (skip; clear hSw; go_simp; with_reducible rfl)); try simp only [Act.put, List.setIfInBounds_toArray, List.set_cons_zero, List.set_cons_succ]) | (refine altG_skip _ rfl rfl (by assumption) ?_; try simp only [Act.put, List.setIfInBounds_toArray, List.set_cons_zero, List.set_cons_succ]))
                          refine altG_nowF _ rfl rfl rfl (by kernel_rfl) (fun K0 hK => ?_)
                          go_wp2_with fail
                          try simp only [Act.put, List.setIfInBounds_toArray, List.set_cons_zero, List.set_cons_succ]
                          refine altG_nil ?_
                          go_wp2_with fail
                          go_meet
                          exact ⟨v6, A8, c8, A9, c9, A10, c10, rfl, hU.out, ho9.out, ho15.out, ho21.out, hat9.out, hat15.out, hat21.out⟩
                        refine altG_now _ rfl rfl rfl (fun K0 hK => ?_)
                        go_wp2_with fail
                        have hbN := (Below.refl v3.heap.size v3).alloc (Nat.le_refl _) (.cells #[.bool true] 4)
                        have hq20 := Blk.new v3 4 #[.bool true]
                        have hl20 : w5.heap.size ≤ v3.heap.size := hU.size
                        generalize v3.alloc (.cells #[.bool true] 4) = v4 at *
                        replace hU := hU.trans (Upd.of_below_size (S := fun z => bOf A = some z) hbN) (fun _ _ e => e)
                        replace hq14 := hq14.below hbN hq14.lt
                        replace ho9 := ho9.below hbN (Nat.le_refl _)
                        obtain ⟨q20, hqe⟩ : ∃ y, v3.heap.size = y := ⟨_, rfl⟩
                        rw [hqe] at hq20 hl20
                        try rw [hqe]
                        clear hbN
                        refine hK _ _ _ (fun _ h => h) (hU.mono (fun _ _ e => .inl e)) ?_
                        clear hK K0
                        try simp only [Act.put, List.setIfInBounds_toArray, List.set_cons_zero, List.set_cons_succ]
                        refine altG_now _ rfl rfl rfl (fun K0 hK => ?_)
                        have hown := hA5.upd hU (fun y hy e => hL5.ne_own hA5 (by decide) y e hy)
                        have hsrc := blk_reads (size := 1) hq14 rfl
                        refine wp_append_mine _ _ 49 49 rfl 3 iA0 _ 1 8 Try.underlying49 iA1 iA2 iA3 iA4 rfl rfl hown rfl (Src.ofReads Try.underlying49 _ hsrc (by intro u hu; simp only [List.mem_cons, List.not_mem_nil, or_false] at hu; rcases hu with rfl <;> rfl)) (by unfold maxLen; omega) (by omega) (fun A9 c9 v5 ho15 hg8 hat8 => ?_)
                        have hu8 : Upd (fun z => bOf A3 = some z) v4 v5 := (Upd.refl (fun z => bOf A3 = some z) _).grown hg8 (fun y e _ => e)
                        replace ho9 := ho9.upd hu8 (fun y hy e => ho9.ne_own hown (by decide) y hy e)
                        replace hq20 := hq20.upd hu8 (fun e => by have := hA5.lt e; omega)
                        have hat15 : ∀ z, bOf A9 = some z → bOf A3 = some z ∨ w5.heap.size ≤ z := fun z hz => by
                          rcases hat8 with e | e
                          · rw [e] at hz; exact .inl hz
                          · have h1 : v4.heap.size = z := by rw [e] at hz; injection hz
                            have h2 := hU.size
                            exact .inr (by omega)
                        replace hU : Upd (fun z => (bOf A = some z ∨ bOf A3 = some z)) w5 v5 := (hU.mono (fun _ _ e => .inl e)).trans (hu8.mono (fun _ _ e => .inr e)) (fun _ _ e => e)
                        clear hown hsrc hg8 hat8 hu8 hq14 hl14
                        refine hK _ _ _ (fun _ h => h) (hU.mono (fun _ _ e => e.elim .inl (fun e => .inr (.inl e)))) ?_
                        clear hK K0
                        try simp only [Act.put, List.setIfInBounds_toArray, List.set_cons_zero, List.set_cons_succ]
                        refine altG_now _ rfl rfl rfl (fun K0 hK => ?_)
                        have hown := hG5.upd hU (fun y hy e => e.elim (fun e => hL5.ne_own hG5 (by decide) y e hy) (fun e => hA5.ne_own hG5 (by decide) y e hy))
                        have hsrc := blk_reads (size := 1) hq20 rfl
                        refine wp_append_mine _ _ 50 50 rfl 4 iB0 _ 1 1 Try.underlying50 iB1 iB2 iB3 iB4 rfl rfl hown rfl (Src.ofReads Try.underlying50 _ hsrc (by intro u hu; simp only [List.mem_cons, List.not_mem_nil, or_false] at hu; rcases hu with rfl <;> rfl)) (by unfold maxLen; omega) (by omega) (fun A10 c10 v6 ho21 hg8 hat8 => ?_)
                        have hu8 : Upd (fun z => bOf A4 = some z) v5 v6 := (Upd.refl (fun z => bOf A4 = some z) _).grown hg8 (fun y e _ => e)
                        replace ho9 := ho9.upd hu8 (fun y hy e => ho9.ne_own hown (by decide) y hy e)
                        replace ho15 := ho15.upd hu8 (fun y hy e => ho15.ne_own hown (by decide) y hy e)
                        have hat21 : ∀ z, bOf A10 = some z → bOf A4 = some z ∨ w5.heap.size ≤ z := fun z hz => by
                          rcases hat8 with e | e
                          · rw [e] at hz; exact .inl hz
                          · have h1 : v5.heap.size = z := by rw [e] at hz; injection hz
                            have h2 := hU.size
                            exact .inr (by omega)
                        replace hU : Upd (fun z => (bOf A = some z ∨ bOf A3 = some z ∨ bOf A4 = some z)) w5 v6 := (hU.mono (fun _ _ e => e.elim .inl (fun e => .inr (.inl e)))).trans (hu8.mono (fun _ _ e => .inr (.inr e))) (fun _ _ e => e)
                        clear hown hsrc hg8 hat8 hu8 hq20 hl20
                        refine hK _ _ _ (fun _ h => h) (hU.mono (fun _ _ e => e)) ?_
                        clear hK K0
                        try simp only [Act.put, List.setIfInBounds_toArray, List.set_cons_zero, List.set_cons_succ]
                        have b0 := hbs5.upd hU (fun e => hgn e)
                        have b1 := b0.set_ 2 (.slice A8 (N + 1) c8)
                        have b2 := b1.set_ 3 (.slice A9 (N + 1) c9)
                        have k2 := b0.cell 2
                        have f2 := b0.frozen 2
                        have k3 := b1.cell 3
                        have f3 := b1.frozen 3
                        have k4 := b2.cell 4
                        have f4 := b2.frozen 4
                        replace hU := Lib.hid hU
                        replace ho9 := Lib.hid ho9
                        replace ho15 := Lib.hid ho15
                        replace ho21 := Lib.hid ho21
                        replace hat9 := Lib.hid hat9
                        replace hat15 := Lib.hid hat15
                        replace hat21 := Lib.hid hat21
                        clear b0 b1 b2
                        repeat (first | (refine altG_take _ ?_ rfl rfl rfl rfl (fun _ => ?_) ?_; rotate_left; (focus (go_simp; with_reducible rfl)); try simp only [Act.put, List.setIfInBounds_toArray, List.set_cons_zero, List.set_cons_succ]) | (refine altG_held _ ?_ rfl rfl rfl rfl (by assumption) (fun _ hSw => ?_) ?_; rotate_left; (focus (skip; clear hSw; go_simp; with_reducible rfl)); try simp only [Act.put, List.setIfInBounds_toArray, List.set_cons_zero, List.set_cons_succ]) | (refine altG_skip _ rfl rfl (by assumption) ?_; try simp only [Act.put, List.setIfInBounds_toArray, List.set_cons_zero, List.set_cons_succ]))
                        refine altG_nowF _ rfl rfl rfl (by kernel_rfl) (fun K0 hK => ?_)
                        go_wp2_with fail
                        try simp only [Act.put, List.setIfInBounds_toArray, List.set_cons_zero, List.set_cons_succ]
                        repeat (first | (refine altG_take _ ?_ rfl rfl rfl rfl (fun _ => ?_) ?_; rotate_left; (focus (go_simp; with_reducible rfl)); try simp only [Act.put, List.setIfInBounds_toArray, List.set_cons_zero, List.set_cons_succ]) | (refine altG_held _ ?_ rfl rfl rfl rfl (by assumption) (fun _ hSw => ?_) ?_; rotate_left; (focus (skip; clear hSw; go_simp; with_reducible rfl)); try simp only [Act.put, List.setIfInBounds_toArray, List.set_cons_zero, List.set_cons_succ]) | (refine altG_skip _ rfl rfl (by assumption) ?_; try simp only [Act.put, List.setIfInBounds_toArray, List.set_cons_zero, List.set_cons_succ]))
                        refine altG_nowF _ rfl rfl rfl (by kernel_rfl) (fun K0 hK => ?_)
                        go_wp2_with fail
                        try simp only [Act.put, List.setIfInBounds_toArray, List.set_cons_zero, List.set_cons_succ]
                        repeat (first | (refine altG_take _ ?_ rfl rfl rfl rfl (fun _ => ?_) ?_; rotate_left; (focus (go_simp; with_reducible rfl)); try simp only [Act.put, List.setIfInBounds_toArray, List.set_cons_zero, List.set_cons_succ]) | (refine altG_held _ ?_ rfl rfl rfl rfl (by assumption) (fun _ hSw => ?_) ?_; rotate_left; (focus (skip; clear hSw; go_simp; with_reducible rfl)); try simp only [Act.put, List.setIfInBounds_toArray, List.set_cons_zero, List.set_cons_succ]) | (refine altG_skip _ rfl rfl (by assumption) ?_; try simp only [Act.put, List.setIfInBounds_toArray, List.set_cons_zero, List.set_cons_succ]))
                        refine altG_nowF _ rfl rfl rfl (by kernel_rfl) (fun K0 hK => ?_)
                        go_wp2_with fail
                        try simp only [Act.put, List.setIfInBounds_toArray, List.set_cons_zero, List.set_cons_succ]
                        refine altG_nil ?_
                        go_wp2_with fail
                        go_meet
                        exact ⟨v6, A8, c8, A9, c9, A10, c10, rfl, hU.out, ho9.out, ho15.out, ho21.out, hat9.out, hat15.out, hat21.out⟩
                      refine altG_now _ rfl rfl rfl (fun K0 hK => ?_)
                      go_wp2_with fail
                      have hbN := (Below.refl v2.heap.size v2).alloc (Nat.le_refl _) (.cells #[.bool true] 4)
                      have hq20 := Blk.new v2 4 #[.bool true]
                      have hl20 : w5.heap.size ≤ v2.heap.size := hU.size
                      generalize v2.alloc (.cells #[.bool true] 4) = v3 at *
                      replace hU := hU.trans (Upd.of_below_size (S := fun z => False) hbN) (fun _ _ e => e)
                      replace hq8 := hq8.below hbN hq8.lt
                      replace hq14 := hq14.below hbN hq14.lt
                      obtain ⟨q20, hqe⟩ : ∃ y, v2.heap.size = y := ⟨_, rfl⟩
                      rw [hqe] at hq20 hl20
                      try rw [hqe]
                      clear hbN
                      refine hK _ _ _ (fun _ h => h) (hU.mono (fun _ _ e => e.elim)) ?_
                      clear hK K0
                      try simp only [Act.put, List.setIfInBounds_toArray, List.set_cons_zero, List.set_cons_succ]
                      refine altG_now _ rfl rfl rfl (fun K0 hK => ?_)
                      have hown := hL5.upd hU (fun y hy e => e)
                      have hsrc := blk_reads (size := 6) hq8 rfl
                      refine wp_append_mine _ _ 42 42 rfl 62 iL0 _ 6 72 Try.underlying42 iL1 iL2 iL3 iL4 rfl rfl hown rfl (Src.ofReads Try.underlying42 _ hsrc (by intro u hu; simp only [List.mem_cons, List.not_mem_nil, or_false] at hu; rcases hu with rfl | rfl | rfl | rfl | rfl | rfl <;> rfl)) (by unfold maxLen; omega) (by omega) (fun A8 c8 v4 ho9 hg8 hat8 => ?_)
                      have hu8 : Upd (fun z => bOf A = some z) v3 v4 := (Upd.refl (fun z => bOf A = some z) _).grown hg8 (fun y e _ => e)
                      replace hq14 := hq14.upd hu8 (fun e => by have := hL5.lt e; omega)
                      replace hq20 := hq20.upd hu8 (fun e => by have := hL5.lt e; omega)
                      have hat9 : ∀ z, bOf A8 = some z → bOf A = some z ∨ w5.heap.size ≤ z := fun z hz => by
                        rcases hat8 with e | e
                        · rw [e] at hz; exact .inl hz
                        · have h1 : v3.heap.size = z := by rw [e] at hz; injection hz
                          have h2 := hU.size
                          exact .inr (by omega)
                      replace hU : Upd (fun z => bOf A = some z) w5 v4 := (hU.mono (fun _ _ e => e.elim)).trans (hu8.mono (fun _ _ e => e)) (fun _ _ e => e)
                      clear hown hsrc hg8 hat8 hu8 hq8 hl8
                      refine hK _ _ _ (fun _ h => h) (hU.mono (fun _ _ e => .inl e)) ?_
                      clear hK K0
                      try simp only [Act.put, List.setIfInBounds_toArray, List.set_cons_zero, List.set_cons_succ]
                      refine altG_now _ rfl rfl rfl (fun K0 hK => ?_)
                      have hown := hA5.upd hU (fun y hy e => hL5.ne_own hA5 (by decide) y e hy)
                      have hsrc := blk_reads (size := 1) hq14 rfl
                      refine wp_append_mine _ _ 49 49 rfl 3 iA0 _ 1 8 Try.underlying49 iA1 iA2 iA3 iA4 rfl rfl hown rfl (Src.ofReads Try.underlying49 _ hsrc (by intro u hu; simp only [List.mem_cons, List.not_mem_nil, or_false] at hu; rcases hu with rfl <;> rfl)) (by unfold maxLen; omega) (by omega) (fun A9 c9 v5 ho15 hg8 hat8 => ?_)
                      have hu8 : Upd (fun z => bOf A3 = some z) v4 v5 := (Upd.refl (fun z => bOf A3 = some z) _).grown hg8 (fun y e _ => e)
                      replace ho9 := ho9.upd hu8 (fun y hy e => ho9.ne_own hown (by decide) y hy e)
                      replace hq20 := hq20.upd hu8 (fun e => by have := hA5.lt e; omega)
                      have hat15 : ∀ z, bOf A9 = some z → bOf A3 = some z ∨ w5.heap.size ≤ z := fun z hz => by
                        rcases hat8 with e | e
                        · rw [e] at hz; exact .inl hz
                        · have h1 : v4.heap.size = z := by rw [e] at hz; injection hz
                          have h2 := hU.size
                          exact .inr (by omega)
                      replace hU : Upd (fun z => (bOf A = some z ∨ bOf A3 = some z)) w5 v5 := (hU.mono (fun _ _ e => .inl e)).trans (hu8.mono (fun _ _ e => .inr e)) (fun _ _ e => e)
                      clear hown hsrc hg8 hat8 hu8 hq14 hl14
                      refine hK _ _ _ (fun _ h => h) (hU.mono (fun _ _ e => e.elim .inl (fun e => .inr (.inl e)))) ?_
                      clear hK K0
                      try simp only [Act.put, List.setIfInBounds_toArray, List.set_cons_zero, List.set_cons_succ]
                      refine altG_now _ rfl rfl rfl (fun K0 hK => ?_)
                      have hown := hG5.upd hU (fun y hy e => e.elim (fun e => hL5.ne_own hG5 (by decide) y e hy) (fun e => hA5.ne_own hG5 (by decide) y e hy))
                      have hsrc := blk_reads (size := 1) hq20 rfl
                      refine wp_append_mine _ _ 50 50 rfl 4 iB0 _ 1 1 Try.underlying50 iB1 iB2 iB3 iB4 rfl rfl hown rfl (Src.ofReads Try.underlying50 _ hsrc (by intro u hu; simp only [List.mem_cons, List.not_mem_nil, or_false] at hu; rcases hu with rfl <;> rfl)) (by unfold maxLen; omega) (by omega) (fun A10 c10 v6 ho21 hg8 hat8 => ?_)
                      have hu8 : Upd (fun z => bOf A4 = some z) v5 v6 := (Upd.refl (fun z => bOf A4 = some z) _).grown hg8 (fun y e _ => e)
                      replace ho9 := ho9.upd hu8 (fun y hy e => ho9.ne_own hown (by decide) y hy e)
                      replace ho15 := ho15.upd hu8 (fun y hy e => ho15.ne_own hown (by decide) y hy e)
                      have hat21 : ∀ z, bOf A10 = some z → bOf A4 = some z ∨ w5.heap.size ≤ z := fun z hz => by
                        rcases hat8 with e | e
                        · rw [e] at hz; exact .inl hz
                        · have h1 : v5.heap.size = z := by rw [e] at hz; injection hz
                          have h2 := hU.size
                          exact .inr (by omega)
                      replace hU : Upd (fun z => (bOf A = some z ∨ bOf A3 = some z ∨ bOf A4 = some z)) w5 v6 := (hU.mono (fun _ _ e => e.elim .inl (fun e => .inr (.inl e)))).trans (hu8.mono (fun _ _ e => .inr (.inr e))) (fun _ _ e => e)
                      clear hown hsrc hg8 hat8 hu8 hq20 hl20
                      refine hK _ _ _ (fun _ h => h) (hU.mono (fun _ _ e => e)) ?_
                      clear hK K0
                      try simp only [Act.put, List.setIfInBounds_toArray, List.set_cons_zero, List.set_cons_succ]
                      have b0 := hbs5.upd hU (fun e => hgn e)
                      have b1 := b0.set_ 2 (.slice A8 (N + 1) c8)
                      have b2 := b1.set_ 3 (.slice A9 (N + 1) c9)
                      have k2 := b0.cell 2
                      have f2 := b0.frozen 2
                      have k3 := b1.cell 3
                      have f3 := b1.frozen 3
                      have k4 := b2.cell 4
                      have f4 := b2.frozen 4
                      replace hU := Lib.hid hU
                      replace ho9 := Lib.hid ho9
                      replace ho15 := Lib.hid ho15
                      replace ho21 := Lib.hid ho21
                      replace hat9 := Lib.hid hat9
                      replace hat15 := Lib.hid hat15
                      replace hat21 := Lib.hid hat21
                      clear b0 b1 b2
                      repeat (first | (refine altG_take _ ?_ rfl rfl rfl rfl (fun _ => ?_) ?_; rotate_left; (focus (go_simp; with_reducible rfl)); try simp only [Act.put, List.setIfInBounds_toArray, List.set_cons_zero, List.set_cons_succ]) | (refine altG_held _ ?_ rfl rfl rfl rfl (by assumption) (fun _ hSw => ?_) ?_; rotate_left; (focus (skip; clear hSw; go_simp; with_reducible rfl)); try simp only [Act.put, List.setIfInBounds_toArray, List.set_cons_zero, List.set_cons_succ]) | (refine altG_skip _ rfl rfl (by assumption) ?_; try simp only [Act.put, List.setIfInBounds_toArray, List.set_cons_zero, List.set_cons_succ]))
                      refine altG_nowF _ rfl rfl rfl (by kernel_rfl) (fun K0 hK => ?_)
                      go_wp2_with fail
                      try simp only [Act.put, List.setIfInBounds_toArray, List.set_cons_zero, List.set_cons_succ]
                      repeat (first | (refine altG_take _ ?_ rfl rfl rfl rfl (fun _ => ?_) ?_; rotate_left; (focus (go_simp; with_reducible rfl)); try simp only [Act.put, List.setIfInBounds_toArray, List.set_cons_zero, List.set_cons_succ]) | (refine altG_held _ ?_ rfl rfl rfl rfl (by assumption) (fun _ hSw => ?_) ?_; rotate_left; (focus (skip; clear hSw; go_simp; with_reducible rfl)); try simp only [Act.put, List.setIfInBounds_toArray, List.set_cons_zero, List.set_cons_succ]) | (refine altG_skip _ rfl rfl (by assumption) ?_; try simp only [Act.put, List.setIfInBounds_toArray, List.set_cons_zero, List.set_cons_succ]))
                      refine altG_nowF _ rfl rfl rfl (by kernel_rfl) (fun K0 hK => ?_)
                      go_wp2_with fail
                      try simp only [Act.put, List.setIfInBounds_toArray, List.set_cons_zero, List.set_cons_succ]
                      repeat (first | (refine altG_take _ ?_ rfl rfl rfl rfl (fun _ => ?_) ?_; rotate_left; (focus (go_simp; with_reducible rfl)); try simp only [Act.put, List.setIfInBounds_toArray, List.set_cons_zero, List.set_cons_succ]) | (refine altG_held _ ?_ rfl rfl rfl rfl (by assumption) (fun _ hSw => ?_) ?_; rotate_left; (focus (skip; clear hSw; go_simp; with_reducible rfl)); try simp only [Act.put, List.setIfInBounds_toArray, List.set_cons_zero, List.set_cons_succ]) | (refine altG_skip _ rfl rfl (by assumption) ?_; try simp only [Act.put, List.setIfInBounds_toArray, List.set_cons_zero, List.set_cons_succ]))
                      refine altG_nowF _ rfl rfl rfl (by kernel_rfl) (fun K0 hK => ?_)
                      go_wp2_with fail
                      try simp only [Act.put, List.setIfInBounds_toArray, List.set_cons_zero, List.set_cons_succ]
                      refine altG_nil ?_
                      go_wp2_with fail
                      go_meet
                      exact ⟨v6, A8, c8, A9, c9, A10, c10, rfl, hU.out, ho9.out, ho15.out, ho21.out, hat9.out, hat15.out, hat21.out⟩
                    refine altG_now _ rfl rfl rfl (fun K0 hK => ?_)
                    go_wp2_with fail
                    have hbN := (Below.refl v1.heap.size v1).alloc (Nat.le_refl _) (.cells #[.bool true] 4)
                    have hq20 := Blk.new v1 4 #[.bool true]
                    have hl20 : w5.heap.size ≤ v1.heap.size := hU.size
                    generalize v1.alloc (.cells #[.bool true] 4) = v2 at *
                    replace hU := hU.trans (Upd.of_below_size (S := fun z => False) hbN) (fun _ _ e => e)
                    replace hq14 := hq14.below hbN hq14.lt
                    obtain ⟨q20, hqe⟩ : ∃ y, v1.heap.size = y := ⟨_, rfl⟩
                    rw [hqe] at hq20 hl20
                    try rw [hqe]
                    clear hbN
                    refine hK _ _ _ (fun _ h => h) (hU.mono (fun _ _ e => e.elim)) ?_
                    clear hK K0
                    try simp only [Act.put, List.setIfInBounds_toArray, List.set_cons_zero, List.set_cons_succ]
                    refine altG_now _ rfl rfl rfl (fun K0 hK => ?_)
                    go_wp2_with fail
                    have hbN := (Below.refl v2.heap.size v2).alloc (Nat.le_refl _) (.cells #[.int .u32 (sid : Int), .int .u32 ((sq : Int) + 1), .int .u16 0, .string ⟨#[103]⟩, .string mm, .slice A' LL c'] 62)
                    have hq8 := Blk.new v2 62 #[.int .u32 (sid : Int), .int .u32 ((sq : Int) + 1), .int .u16 0, .string ⟨#[103]⟩, .string mm, .slice A' LL c']
                    have hl8 : w5.heap.size ≤ v2.heap.size := hU.size
                    generalize v2.alloc (.cells #[.int .u32 (sid : Int), .int .u32 ((sq : Int) + 1), .int .u16 0, .string ⟨#[103]⟩, .string mm, .slice A' LL c'] 62) = v3 at *
                    replace hU := hU.trans (Upd.of_below_size (S := fun z => False) hbN) (fun _ _ e => e)
                    replace hq14 := hq14.below hbN hq14.lt
                    replace hq20 := hq20.below hbN hq20.lt
                    obtain ⟨q8, hqe⟩ : ∃ y, v2.heap.size = y := ⟨_, rfl⟩
                    rw [hqe] at hq8 hl8
                    try rw [hqe]
                    clear hbN
                    refine hK _ _ _ (fun _ h => h) (hU.mono (fun _ _ e => e.elim)) ?_
                    clear hK K0
                    try simp only [Act.put, List.setIfInBounds_toArray, List.set_cons_zero, List.set_cons_succ]
                    refine altG_now _ rfl rfl rfl (fun K0 hK => ?_)
                    have hown := hL5.upd hU (fun y hy e => e)
                    have hsrc := blk_reads (size := 6) hq8 rfl
                    refine wp_append_mine _ _ 42 42 rfl 62 iL0 _ 6 72 Try.underlying42 iL1 iL2 iL3 iL4 rfl rfl hown rfl (Src.ofReads Try.underlying42 _ hsrc (by intro u hu; simp only [List.mem_cons, List.not_mem_nil, or_false] at hu; rcases hu with rfl | rfl | rfl | rfl | rfl | rfl <;> rfl)) (by unfold maxLen; omega) (by omega) (fun A8 c8 v4 ho9 hg8 hat8 => ?_)
                    have hu8 : Upd (fun z => bOf A = some z) v3 v4 := (Upd.refl (fun z => bOf A = some z) _).grown hg8 (fun y e _ => e)
                    replace hq14 := hq14.upd hu8 (fun e => by have := hL5.lt e; omega)
                    replace hq20 := hq20.upd hu8 (fun e => by have := hL5.lt e; omega)
                    have hat9 : ∀ z, bOf A8 = some z → bOf A = some z ∨ w5.heap.size ≤ z := fun z hz => by
                      rcases hat8 with e | e
                      · rw [e] at hz; exact .inl hz
                      · have h1 : v3.heap.size = z := by rw [e] at hz; injection hz
                        have h2 := hU.size
                        exact .inr (by omega)
                    replace hU : Upd (fun z => bOf A = some z) w5 v4 := (hU.mono (fun _ _ e => e.elim)).trans (hu8.mono (fun _ _ e => e)) (fun _ _ e => e)
                    clear hown hsrc hg8 hat8 hu8 hq8 hl8
                    refine hK _ _ _ (fun _ h => h) (hU.mono (fun _ _ e => .inl e)) ?_
                    clear hK K0
                    try simp only [Act.put, List.setIfInBounds_toArray, List.set_cons_zero, List.set_cons_succ]
                    refine altG_now _ rfl rfl rfl (fun K0 hK => ?_)
                    have hown := hA5.upd hU (fun y hy e => hL5.ne_own hA5 (by decide) y e hy)
                    have hsrc := blk_reads (size := 1) hq14 rfl
                    refine wp_append_mine _ _ 49 49 rfl 3 iA0 _ 1 8 Try.underlying49 iA1 iA2 iA3 iA4 rfl rfl hown rfl (Src.ofReads Try.underlying49 _ hsrc (by intro u hu; simp only [List.mem_cons, List.not_mem_nil, or_false] at hu; rcases hu with rfl <;> rfl)) (by unfold maxLen; omega) (by omega) (fun A9 c9 v5 ho15 hg8 hat8 => ?_)
                    have hu8 : Upd (fun z => bOf A3 = some z) v4 v5 := (Upd.refl (fun z => bOf A3 = some z) _).grown hg8 (fun y e _ => e)
                    replace ho9 := ho9.upd hu8 (fun y hy e => ho9.ne_own hown (by decide) y hy e)
                    replace hq20 := hq20.upd hu8 (fun e => by have := hA5.lt e; omega)
                    have hat15 : ∀ z, bOf A9 = some z → bOf A3 = some z ∨ w5.heap.size ≤ z := fun z hz => by
                      rcases hat8 with e | e
                      · rw [e] at hz; exact .inl hz
                      · have h1 : v4.heap.size = z := by rw [e] at hz; injection hz
                        have h2 := hU.size
                        exact .inr (by omega)
                    replace hU : Upd (fun z => (bOf A = some z ∨ bOf A3 = some z)) w5 v5 := (hU.mono (fun _ _ e => .inl e)).trans (hu8.mono (fun _ _ e => .inr e)) (fun _ _ e => e)
                    clear hown hsrc hg8 hat8 hu8 hq14 hl14
                    refine hK _ _ _ (fun _ h => h) (hU.mono (fun _ _ e => e.elim .inl (fun e => .inr (.inl e)))) ?_
                    clear hK K0
                    try simp only [Act.put, List.setIfInBounds_toArray, List.set_cons_zero, List.set_cons_succ]
                    refine altG_now _ rfl rfl rfl (fun K0 hK => ?_)
                    have hown := hG5.upd hU (fun y hy e => e.elim (fun e => hL5.ne_own hG5 (by decide) y e hy) (fun e => hA5.ne_own hG5 (by decide) y e hy))
                    have hsrc := blk_reads (size := 1) hq20 rfl
                    refine wp_append_mine _ _ 50 50 rfl 4 iB0 _ 1 1 Try.underlying50 iB1 iB2 iB3 iB4 rfl rfl hown rfl (Src.ofReads Try.underlying50 _ hsrc (by intro u hu; simp only [List.mem_cons, List.not_mem_nil, or_false] at hu; rcases hu with rfl <;> rfl)) (by unfold maxLen; omega) (by omega) (fun A10 c10 v6 ho21 hg8 hat8 => ?_)
                    have hu8 : Upd (fun z => bOf A4 = some z) v5 v6 := (Upd.refl (fun z => bOf A4 = some z) _).grown hg8 (fun y e _ => e)
                    replace ho9 := ho9.upd hu8 (fun y hy e => ho9.ne_own hown (by decide) y hy e)
                    replace ho15 := ho15.upd hu8 (fun y hy e => ho15.ne_own hown (by decide) y hy e)
                    have hat21 : ∀ z, bOf A10 = some z → bOf A4 = some z ∨ w5.heap.size ≤ z := fun z hz => by
                      rcases hat8 with e | e
                      · rw [e] at hz; exact .inl hz
                      · have h1 : v5.heap.size = z := by rw [e] at hz; injection hz
                        have h2 := hU.size
                        exact .inr (by omega)
                    replace hU : Upd (fun z => (bOf A = some z ∨ bOf A3 = some z ∨ bOf A4 = some z)) w5 v6 := (hU.mono (fun _ _ e => e.elim .inl (fun e => .inr (.inl e)))).trans (hu8.mono (fun _ _ e => .inr (.inr e))) (fun _ _ e => e)
                    clear hown hsrc hg8 hat8 hu8 hq20 hl20
                    refine hK _ _ _ (fun _ h => h) (hU.mono (fun _ _ e => e)) ?_
                    clear hK K0
                    try simp only [Act.put, List.setIfInBounds_toArray, List.set_cons_zero, List.set_cons_succ]
                    have b0 := hbs5.upd hU (fun e => hgn e)
                    have b1 := b0.set_ 2 (.slice A8 (N + 1) c8)
                    have b2 := b1.set_ 3 (.slice A9 (N + 1) c9)
                    have k2 := b0.cell 2
                    have f2 := b0.frozen 2
                    have k3 := b1.cell 3
                    have f3 := b1.frozen 3
                    have k4 := b2.cell 4
                    have f4 := b2.frozen 4
                    replace hU := Lib.hid hU
                    replace ho9 := Lib.hid ho9
                    replace ho15 := Lib.hid ho15
                    replace ho21 := Lib.hid ho21
                    replace hat9 := Lib.hid hat9
                    replace hat15 := Lib.hid hat15
                    replace hat21 := Lib.hid hat21
                    clear b0 b1 b2
                    repeat (first | (refine altG_take _ ?_ rfl rfl rfl rfl (fun _ => ?_) ?_; rotate_left; (focus (go_simp; with_reducible rfl)); try simp only [Act.put, List.setIfInBounds_toArray, List.set_cons_zero, List.set_cons_succ]) | (refine altG_held _ ?_ rfl rfl rfl rfl (by assumption) (fun _ hSw => ?_) ?_; rotate_left; (focus (skip; clear hSw; go_simp; with_reducible rfl)); try simp only [Act.put, List.setIfInBounds_toArray, List.set_cons_zero, List.set_cons_succ]) | (refine altG_skip _ rfl rfl (by assumption) ?_; try simp only [Act.put, List.setIfInBounds_toArray, List.set_cons_zero, List.set_cons_succ]))
                    refine altG_nowF _ rfl rfl rfl (by kernel_rfl) (fun K0 hK => ?_)
                    go_wp2_with fail
                    try simp only [Act.put, List.setIfInBounds_toArray, List.set_cons_zero, List.set_cons_succ]
                    repeat (first | (refine altG_take _ ?_ rfl rfl rfl rfl (fun _ => ?_) ?_; rotate_left; (focus (go_simp; with_reducible rfl)); try simp only [Act.put, List.setIfInBounds_toArray, List.set_cons_zero, List.set_cons_succ]) | (refine altG_held _ ?_ rfl rfl rfl rfl (by assumption) (fun _ hSw => ?_) ?_; rotate_left; (focus (skip; clear hSw; go_simp; with_reducible rfl)); try simp only [Act.put, List.setIfInBounds_toArray, List.set_cons_zero, List.set_cons_succ]) | (refine altG_skip _ rfl rfl (by assumption) ?_; try simp only [Act.put, List.setIfInBounds_toArray, List.set_cons_zero, List.set_cons_succ]))
                    refine altG_nowF _ rfl rfl rfl (by kernel_rfl) (fun K0 hK => ?_)
                    go_wp2_with fail
                    try simp only [Act.put, List.setIfInBounds_toArray, List.set_cons_zero, List.set_cons_succ]
                    repeat (first | (refine altG_take _ ?_ rfl rfl rfl rfl (fun _ => ?_) ?_; rotate_left; (focus (go_simp; with_reducible rfl)); try simp only [Act.put, List.setIfInBounds_toArray, List.set_cons_zero, List.set_cons_succ]) | (refine altG_held _ ?_ rfl rfl rfl rfl (by assumption) (fun _ hSw => ?_) ?_; rotate_left; (focus (skip; clear hSw; go_simp; with_reducible rfl)); try simp only [Act.put, List.setIfInBounds_toArray, List.set_cons_zero, List.set_cons_succ]) | (refine altG_skip _ rfl rfl (by assumption) ?_; try simp only [Act.put, List.setIfInBounds_toArray, List.set_cons_zero, List.set_cons_succ]))
                    refine altG_nowF _ rfl rfl rfl (by kernel_rfl) (fun K0 hK => ?_)
                    go_wp2_with fail
                    try simp only [Act.put, List.setIfInBounds_toArray, List.set_cons_zero, List.set_cons_succ]
                    refine altG_nil ?_
                    go_wp2_with fail
                    go_meet
                    exact ⟨v6, A8, c8, A9, c9, A10, c10, rfl, hU.out, ho9.out, ho15.out, ho21.out, hat9.out, hat15.out, hat21.out⟩
                  refine altG_now _ rfl rfl rfl (fun K0 hK => ?_)
                  go_wp2_with fail
                  have hbN := (Below.refl v0.heap.size v0).alloc (Nat.le_refl _) (.cells #[.bool true] 4)
                  have hq20 := Blk.new v0 4 #[.bool true]
                  have hl20 : w5.heap.size ≤ v0.heap.size := hU.size
                  generalize v0.alloc (.cells #[.bool true] 4) = v1 at *
                  replace hU := hU.trans (Upd.of_below_size (S := fun z => False) hbN) (fun _ _ e => e)
                  obtain ⟨q20, hqe⟩ : ∃ y, v0.heap.size = y := ⟨_, rfl⟩
                  rw [hqe] at hq20 hl20
                  try rw [hqe]
                  clear hbN
                  refine hK _ _ _ (fun _ h => h) (hU.mono (fun _ _ e => e.elim)) ?_
                  clear hK K0
                  try simp only [Act.put, List.setIfInBounds_toArray, List.set_cons_zero, List.set_cons_succ]
                  refine altG_alt rfl ?_ ?_
                  · skip
                    refine altG_now _ rfl rfl rfl (fun K0 hK => ?_)
                    go_wp2_with fail
                    have hbN := (Below.refl v1.heap.size v1).alloc (Nat.le_refl _) (.cells #[.int .u32 (sid : Int), .int .u32 ((sq : Int) + 1), .int .u16 0, .string ⟨#[103]⟩, .string mm, .slice A' LL c'] 62)
                    have hq8 := Blk.new v1 62 #[.int .u32 (sid : Int), .int .u32 ((sq : Int) + 1), .int .u16 0, .string ⟨#[103]⟩, .string mm, .slice A' LL c']
                    have hl8 : w5.heap.size ≤ v1.heap.size := hU.size
                    generalize v1.alloc (.cells #[.int .u32 (sid : Int), .int .u32 ((sq : Int) + 1), .int .u16 0, .string ⟨#[103]⟩, .string mm, .slice A' LL c'] 62) = v2 at *
                    replace hU := hU.trans (Upd.of_below_size (S := fun z => False) hbN) (fun _ _ e => e)
                    replace hq20 := hq20.below hbN hq20.lt
                    obtain ⟨q8, hqe⟩ : ∃ y, v1.heap.size = y := ⟨_, rfl⟩
                    rw [hqe] at hq8 hl8
                    try rw [hqe]
                    clear hbN
                    refine hK _ _ _ (fun _ h => h) (hU.mono (fun _ _ e => e.elim)) ?_
                    clear hK K0
                    try simp only [Act.put, List.setIfInBounds_toArray, List.set_cons_zero, List.set_cons_succ]
                    refine altG_alt rfl ?_ ?_
                    · skip
                      refine altG_now _ rfl rfl rfl (fun K0 hK => ?_)
                      have hown := hL5.upd hU (fun y hy e => e)
                      have hsrc := blk_reads (size := 6) hq8 rfl
                      refine wp_append_mine _ _ 42 42 rfl 62 iL0 _ 6 72 Try.underlying42 iL1 iL2 iL3 iL4 rfl rfl hown rfl (Src.ofReads Try.underlying42 _ hsrc (by intro u hu; simp only [List.mem_cons, List.not_mem_nil, or_false] at hu; rcases hu with rfl | rfl | rfl | rfl | rfl | rfl <;> rfl)) (by unfold maxLen; omega) (by omega) (fun A8 c8 v3 ho9 hg8 hat8 => ?_)
                      have hu8 : Upd (fun z => bOf A = some z) v2 v3 := (Upd.refl (fun z => bOf A = some z) _).grown hg8 (fun y e _ => e)
                      replace hq20 := hq20.upd hu8 (fun e => by have := hL5.lt e; omega)
                      have hat9 : ∀ z, bOf A8 = some z → bOf A = some z ∨ w5.heap.size ≤ z := fun z hz => by
                        rcases hat8 with e | e
                        · rw [e] at hz; exact .inl hz
                        · have h1 : v2.heap.size = z := by rw [e] at hz; injection hz
                          have h2 := hU.size
                          exact .inr (by omega)
                      replace hU : Upd (fun z => bOf A = some z) w5 v3 := (hU.mono (fun _ _ e => e.elim)).trans (hu8.mono (fun _ _ e => e)) (fun _ _ e => e)
                      clear hown hsrc hg8 hat8 hu8 hq8 hl8
                      refine hK _ _ _ (fun _ h => h) (hU.mono (fun _ _ e => .inl e)) ?_
                      clear hK K0
                      try simp only [Act.put, List.setIfInBounds_toArray, List.set_cons_zero, List.set_cons_succ]
                      refine altG_now _ rfl rfl rfl (fun K0 hK => ?_)
                      go_wp2_with fail
                      have hbN := (Below.refl v3.heap.size v3).alloc (Nat.le_refl _) (.cells #[.int .i64 0] 3)
                      have hq14 := Blk.new v3 3 #[.int .i64 0]
                      have hl14 : w5.heap.size ≤ v3.heap.size := hU.size
                      generalize v3.alloc (.cells #[.int .i64 0] 3) = v4 at *
                      replace hU := hU.trans (Upd.of_below_size (S := fun z => bOf A = some z) hbN) (fun _ _ e => e)
                      replace hq20 := hq20.below hbN hq20.lt
                      replace ho9 := ho9.below hbN (Nat.le_refl _)
                      obtain ⟨q14, hqe⟩ : ∃ y, v3.heap.size = y := ⟨_, rfl⟩
                      rw [hqe] at hq14 hl14
                      try rw [hqe]
                      clear hbN
                      refine hK _ _ _ (fun _ h => h) (hU.mono (fun _ _ e => .inl e)) ?_
                      clear hK K0
                      try simp only [Act.put, List.setIfInBounds_toArray, List.set_cons_zero, List.set_cons_succ]
                      refine altG_now _ rfl rfl rfl (fun K0 hK => ?_)
                      have hown := hA5.upd hU (fun y hy e => hL5.ne_own hA5 (by decide) y e hy)
                      have hsrc := blk_reads (size := 1) hq14 rfl
                      refine wp_append_mine _ _ 49 49 rfl 3 iA0 _ 1 8 Try.underlying49 iA1 iA2 iA3 iA4 rfl rfl hown rfl (Src.ofReads Try.underlying49 _ hsrc (by intro u hu; simp only [List.mem_cons, List.not_mem_nil, or_false] at hu; rcases hu with rfl <;> rfl)) (by unfold maxLen; omega) (by omega) (fun A9 c9 v5 ho15 hg8 hat8 => ?_)
                      have hu8 : Upd (fun z => bOf A3 = some z) v4 v5 := (Upd.refl (fun z => bOf A3 = some z) _).grown hg8 (fun y e _ => e)
                      replace ho9 := ho9.upd hu8 (fun y hy e => ho9.ne_own hown (by decide) y hy e)
                      replace hq20 := hq20.upd hu8 (fun e => by have := hA5.lt e; omega)
                      have hat15 : ∀ z, bOf A9 = some z → bOf A3 = some z ∨ w5.heap.size ≤ z := fun z hz => by
                        rcases hat8 with e | e
                        · rw [e] at hz; exact .inl hz
                        · have h1 : v4.heap.size = z := by rw [e] at hz; injection hz
                          have h2 := hU.size
                          exact .inr (by omega)
                      replace hU : Upd (fun z => (bOf A = some z ∨ bOf A3 = some z)) w5 v5 := (hU.mono (fun _ _ e => .inl e)).trans (hu8.mono (fun _ _ e => .inr e)) (fun _ _ e => e)
                      clear hown hsrc hg8 hat8 hu8 hq14 hl14
                      refine hK _ _ _ (fun _ h => h) (hU.mono (fun _ _ e => e.elim .inl (fun e => .inr (.inl e)))) ?_
                      clear hK K0
                      try simp only [Act.put, List.setIfInBounds_toArray, List.set_cons_zero, List.set_cons_succ]
                      refine altG_now _ rfl rfl rfl (fun K0 hK => ?_)
                      have hown := hG5.upd hU (fun y hy e => e.elim (fun e => hL5.ne_own hG5 (by decide) y e hy) (fun e => hA5.ne_own hG5 (by decide) y e hy))
                      have hsrc := blk_reads (size := 1) hq20 rfl
                      refine wp_append_mine _ _ 50 50 rfl 4 iB0 _ 1 1 Try.underlying50 iB1 iB2 iB3 iB4 rfl rfl hown rfl (Src.ofReads Try.underlying50 _ hsrc (by intro u hu; simp only [List.mem_cons, List.not_mem_nil, or_false] at hu; rcases hu with rfl <;> rfl)) (by unfold maxLen; omega) (by omega) (fun A10 c10 v6 ho21 hg8 hat8 => ?_)
                      have hu8 : Upd (fun z => bOf A4 = some z) v5 v6 := (Upd.refl (fun z => bOf A4 = some z) _).grown hg8 (fun y e _ => e)
                      replace ho9 := ho9.upd hu8 (fun y hy e => ho9.ne_own hown (by decide) y hy e)
                      replace ho15 := ho15.upd hu8 (fun y hy e => ho15.ne_own hown (by decide) y hy e)
                      have hat21 : ∀ z, bOf A10 = some z → bOf A4 = some z ∨ w5.heap.size ≤ z := fun z hz => by
                        rcases hat8 with e | e
                        · rw [e] at hz; exact .inl hz
                        · have h1 : v5.heap.size = z := by rw [e] at hz; injection hz
                          have h2 := hU.size
                          exact .inr (by omega)
                      replace hU : Upd (fun z => (bOf A = some z ∨ bOf A3 = some z ∨ bOf A4 = some z)) w5 v6 := (hU.mono (fun _ _ e => e.elim .inl (fun e => .inr (.inl e)))).trans (hu8.mono (fun _ _ e => .inr (.inr e))) (fun _ _ e => e)
                      clear hown hsrc hg8 hat8 hu8 hq20 hl20
                      refine hK _ _ _ (fun _ h => h) (hU.mono (fun _ _ e => e)) ?_
                      clear hK K0
                      try simp only [Act.put, List.setIfInBounds_toArray, List.set_cons_zero, List.set_cons_succ]
                      have b0 := hbs5.upd hU (fun e => hgn e)
                      have b1 := b0.set_ 2 (.slice A8 (N + 1) c8)
                      have b2 := b1.set_ 3 (.slice A9 (N + 1) c9)
                      have k2 := b0.cell 2
                      have f2 := b0.frozen 2
                      have k3 := b1.cell 3
                      have f3 := b1.frozen 3
                      have k4 := b2.cell 4
                      have f4 := b2.frozen 4
                      replace hU := Lib.hid hU
                      replace ho9 := Lib.hid ho9
                      replace ho15 := Lib.hid ho15
                      replace ho21 := Lib.hid ho21
                      replace hat9 := Lib.hid hat9
                      replace hat15 := Lib.hid hat15
                      replace hat21 := Lib.hid hat21
                      clear b0 b1 b2
                      repeat (first | (refine altG_take _ ?_ rfl rfl rfl rfl (fun _ => ?_) ?_; rotate_left; (focus (go_simp; with_reducible rfl)); try simp only [Act.put, List.setIfInBounds_toArray, List.set_cons_zero, List.set_cons_succ]) | (refine altG_held _ ?_ rfl rfl rfl rfl (by assumption) (fun _ hSw => ?_) ?_; rotate_left; (focus (skip; clear hSw; go_simp; with_reducible rfl)); try simp only [Act.put, List.setIfInBounds_toArray, List.set_cons_zero, List.set_cons_succ]) | (refine altG_skip _ rfl rfl (by assumption) ?_; try simp only [Act.put, List.setIfInBounds_toArray, List.set_cons_zero, List.set_cons_succ]))
                      refine altG_nowF _ rfl rfl rfl (by kernel_rfl) (fun K0 hK => ?_)
                      go_wp2_with fail
                      try simp only [Act.put, List.setIfInBounds_toArray, List.set_cons_zero, List.set_cons_succ]
                      repeat (first | (refine altG_take _ ?_ rfl rfl rfl rfl (fun _ => ?_) ?_; rotate_left; (focus (go_simp; with_reducible rfl)); try simp only [Act.put, List.setIfInBounds_toArray, List.set_cons_zero, List.set_cons_succ]) | (refine altG_held _ ?_ rfl rfl rfl rfl (by assumption) (fun _ hSw => ?_) ?_; rotate_left; (focus (skip; clear hSw; go_simp; with_reducible rfl)); try simp only [Act.put, List.setIfInBounds_toArray, List.set_cons_zero, List.set_cons_succ]) | (refine altG_skip _ rfl rfl (by assumption) ?_; try simp only [Act.put, List.setIfInBounds_toArray, List.set_cons_zero, List.set_cons_succ]))
                      refine altG_nowF _ rfl rfl rfl (by kernel_rfl) (fun K0 hK => ?_)
                      go_wp2_with fail
                      try simp only [Act.put, List.setIfInBounds_toArray, List.set_cons_zero, List.set_cons_succ]
                      repeat (first | (refine altG_take _ ?_ rfl rfl rfl rfl (fun _ => ?_) ?_; rotate_left; (focus (go_simp; with_reducible rfl)); try simp only [Act.put, List.setIfInBounds_toArray, List.set_cons_zero, List.set_cons_succ]) | (refine altG_held _ ?_ rfl rfl rfl rfl (by assumption) (fun _ hSw => ?_) ?_; rotate_left; (focus (skip; clear hSw; go_simp; with_reducible rfl)); try simp only [Act.put, List.setIfInBounds_toArray, List.set_cons_zero, List.set_cons_succ]) | (refine altG_skip _ rfl rfl (by assumption) ?_; try simp only [Act.put, List.setIfInBounds_toArray, List.set_cons_zero, List.set_cons_succ]))
                      refine altG_nowF _ rfl rfl rfl (by kernel_rfl) (fun K0 hK => ?_)
                      go_wp2_with fail
                      try simp only [Act.put, List.setIfInBounds_toArray, List.set_cons_zero, List.set_cons_succ]
                      refine altG_nil ?_
                      go_wp2_with fail
                      go_meet
                      exact ⟨v6, A8, c8, A9, c9, A10, c10, rfl, hU.out, ho9.out, ho15.out, ho21.out, hat9.out, hat15.out, hat21.out⟩
                    refine altG_now _ rfl rfl rfl (fun K0 hK => ?_)
                    go_wp2_with fail
                    have hbN := (Below.refl v2.heap.size v2).alloc (Nat.le_refl _) (.cells #[.int .i64 0] 3)
                    have hq14 := Blk.new v2 3 #[.int .i64 0]
                    have hl14 : w5.heap.size ≤ v2.heap.size := hU.size
                    generalize v2.alloc (.cells #[.int .i64 0] 3) = v3 at *
                    replace hU := hU.trans (Upd.of_below_size (S := fun z => False) hbN) (fun _ _ e => e)
                    replace hq8 := hq8.below hbN hq8.lt
                    replace hq20 := hq20.below hbN hq20.lt
                    obtain ⟨q14, hqe⟩ : ∃ y, v2.heap.size = y := ⟨_, rfl⟩
                    rw [hqe] at hq14 hl14
                    try rw [hqe]
                    clear hbN
                    refine hK _ _ _ (fun _ h => h) (hU.mono (fun _ _ e => e.elim)) ?_
                    clear hK K0
                    try simp only [Act.put, List.setIfInBounds_toArray, List.set_cons_zero, List.set_cons_succ]
                    refine altG_now _ rfl rfl rfl (fun K0 hK => ?_)
                    have hown := hL5.upd hU (fun y hy e => e)
                    have hsrc := blk_reads (size := 6) hq8 rfl
                    refine wp_append_mine _ _ 42 42 rfl 62 iL0 _ 6 72 Try.underlying42 iL1 iL2 iL3 iL4 rfl rfl hown rfl (Src.ofReads Try.underlying42 _ hsrc (by intro u hu; simp only [List.mem_cons, List.not_mem_nil, or_false] at hu; rcases hu with rfl | rfl | rfl | rfl | rfl | rfl <;> rfl)) (by unfold maxLen; omega) (by omega) (fun A8 c8 v4 ho9 hg8 hat8 => ?_)
                    have hu8 : Upd (fun z => bOf A = some z) v3 v4 := (Upd.refl (fun z => bOf A = some z) _).grown hg8 (fun y e _ => e)
                    replace hq14 := hq14.upd hu8 (fun e => by have := hL5.lt e; omega)
                    replace hq20 := hq20.upd hu8 (fun e => by have := hL5.lt e; omega)
                    have hat9 : ∀ z, bOf A8 = some z → bOf A = some z ∨ w5.heap.size ≤ z := fun z hz => by
                      rcases hat8 with e | e
                      · rw [e] at hz; exact .inl hz
                      · have h1 : v3.heap.size = z := by rw [e] at hz; injection hz
                        have h2 := hU.size
                        exact .inr (by omega)
                    replace hU : Upd (fun z => bOf A = some z) w5 v4 := (hU.mono (fun _ _ e => e.elim)).trans (hu8.mono (fun _ _ e => e)) (fun _ _ e => e)
                    clear hown hsrc hg8 hat8 hu8 hq8 hl8
                    refine hK _ _ _ (fun _ h => h) (hU.mono (fun _ _ e => .inl e)) ?_
                    clear hK K0
                    try simp only [Act.put, List.setIfInBounds_toArray, List.set_cons_zero, List.set_cons_succ]
                    refine altG_now _ rfl rfl rfl (fun K0 hK => ?_)
                    have hown := hA5.upd hU (fun y hy e => hL5.ne_own hA5 (by decide) y e hy)
                    have hsrc := blk_reads (size := 1) hq14 rfl
                    refine wp_append_mine _ _ 49 49 rfl 3 iA0 _ 1 8 Try.underlying49 iA1 iA2 iA3 iA4 rfl rfl hown rfl (Src.ofReads Try.underlying49 _ hsrc (by intro u hu; simp only [List.mem_cons, List.not_mem_nil, or_false] at hu; rcases hu with rfl <;> rfl)) (by unfold maxLen; omega) (by omega) (fun A9 c9 v5 ho15 hg8 hat8 => ?_)
                    have hu8 : Upd (fun z => bOf A3 = some z) v4 v5 := (Upd.refl (fun z => bOf A3 = some z) _).grown hg8 (fun y e _ => e)
                    replace ho9 := ho9.upd hu8 (fun y hy e => ho9.ne_own hown (by decide) y hy e)
                    replace hq20 := hq20.upd hu8 (fun e => by have := hA5.lt e; omega)
                    have hat15 : ∀ z, bOf A9 = some z → bOf A3 = some z ∨ w5.heap.size ≤ z := fun z hz => by
                      rcases hat8 with e | e
                      · rw [e] at hz; exact .inl hz
                      · have h1 : v4.heap.size = z := by rw [e] at hz; injection hz
                        have h2 := hU.size
                        exact .inr (by omega)
                    replace hU : Upd (fun z => (bOf A = some z ∨ bOf A3 = some z)) w5 v5 := (hU.mono (fun _ _ e => .inl e)).trans (hu8.mono (fun _ _ e => .inr e)) (fun _ _ e => e)
                    clear hown hsrc hg8 hat8 hu8 hq14 hl14
                    refine hK _ _ _ (fun _ h => h) (hU.mono (fun _ _ e => e.elim .inl (fun e => .inr (.inl e)))) ?_
                    clear hK K0
                    try simp only [Act.put, List.setIfInBounds_toArray, List.set_cons_zero, List.set_cons_succ]
                    refine altG_now _ rfl rfl rfl (fun K0 hK => ?_)
                    have hown := hG5.upd hU (fun y hy e => e.elim (fun e => hL5.ne_own hG5 (by decide) y e hy) (fun e => hA5.ne_own hG5 (by decide) y e hy))
                    have hsrc := blk_reads (size := 1) hq20 rfl
                    refine wp_append_mine _ _ 50 50 rfl 4 iB0 _ 1 1 Try.underlying50 iB1 iB2 iB3 iB4 rfl rfl hown rfl (Src.ofReads Try.underlying50 _ hsrc (by intro u hu; simp only [List.mem_cons, List.not_mem_nil, or_false] at hu; rcases hu with rfl <;> rfl)) (by unfold maxLen; omega) (by omega) (fun A10 c10 v6 ho21 hg8 hat8 => ?_)
                    have hu8 : Upd (fun z => bOf A4 = some z) v5 v6 := (Upd.refl (fun z => bOf A4 = some z) _).grown hg8 (fun y e _ => e)
                    replace ho9 := ho9.upd hu8 (fun y hy e => ho9.ne_own hown (by decide) y hy e)
                    replace ho15 := ho15.upd hu8 (fun y hy e => ho15.ne_own hown (by decide) y hy e)
                    have hat21 : ∀ z, bOf A10 = some z → bOf A4 = some z ∨ w5.heap.size ≤ z := fun z hz => by
                      rcases hat8 with e | e
                      · rw [e] at hz; exact .inl hz
                      · have h1 : v5.heap.size = z := by rw [e] at hz; injection hz
                        have h2 := hU.size
                        exact .inr (by omega)
                    replace hU : Upd (fun z => (bOf A = some z ∨ bOf A3 = some z ∨ bOf A4 = some z)) w5 v6 := (hU.mono (fun _ _ e => e.elim .inl (fun e => .inr (.inl e)))).trans (hu8.mono (fun _ _ e => .inr (.inr e))) (fun _ _ e => e)
                    clear hown hsrc hg8 hat8 hu8 hq20 hl20
                    refine hK _ _ _ (fun _ h => h) (hU.mono (fun _ _ e => e)) ?_
                    clear hK K0
                    try simp only [Act.put, List.setIfInBounds_toArray, List.set_cons_zero, List.set_cons_succ]
                    have b0 := hbs5.upd hU (fun e => hgn e)
                    have b1 := b0.set_ 2 (.slice A8 (N + 1) c8)
                    have b2 := b1.set_ 3 (.slice A9 (N + 1) c9)
                    have k2 := b0.cell 2
                    have f2 := b0.frozen 2
                    have k3 := b1.cell 3
                    have f3 := b1.frozen 3
                    have k4 := b2.cell 4
                    have f4 := b2.frozen 4
                    replace hU := Lib.hid hU
                    replace ho9 := Lib.hid ho9
                    replace ho15 := Lib.hid ho15
                    replace ho21 := Lib.hid ho21
                    replace hat9 := Lib.hid hat9
                    replace hat15 := Lib.hid hat15
                    replace hat21 := Lib.hid hat21
                    clear b0 b1 b2
                    repeat (first | (refine altG_take _ ?_ rfl rfl rfl rfl (fun _ => ?_) ?_; rotate_left; (focus (go_simp; with_reducible rfl)); try simp only [Act.put, List.setIfInBounds_toArray, List.set_cons_zero, List.set_cons_succ]) | (refine altG_held _ ?_ rfl rfl rfl rfl (by assumption) (fun _ hSw => ?_) ?_; rotate_left; (focus (skip; clear hSw; go_simp; with_reducible rfl)); try simp only [Act.put, List.setIfInBounds_toArray, List.set_cons_zero, List.set_cons_succ]) | (refine altG_skip _ rfl rfl (by assumption) ?_; try simp only [Act.put, List.setIfInBounds_toArray, List.set_cons_zero, List.set_cons_succ]))
                    refine altG_nowF _ rfl rfl rfl (by kernel_rfl) (fun K0 hK => ?_)
                    go_wp2_with fail
                    try simp only [Act.put, List.setIfInBounds_toArray, List.set_cons_zero, List.set_cons_succ]
                    repeat (first | (refine altG_take _ ?_ rfl rfl rfl rfl (fun _ => ?_) ?_; rotate_left; (focus (go_simp; with_reducible rfl)); try simp only [Act.put, List.setIfInBounds_toArray, List.set_cons_zero, List.set_cons_succ]) | (refine altG_held _ ?_ rfl rfl rfl rfl (by assumption) (fun _ hSw => ?_) ?_; rotate_left; (focus (skip; clear hSw; go_simp; with_reducible rfl)); try simp only [Act.put, List.setIfInBounds_toArray, List.set_cons_zero, List.set_cons_succ]) | (refine altG_skip _ rfl rfl (by assumption) ?_; try simp only [Act.put, List.setIfInBounds_toArray, List.set_cons_zero, List.set_cons_succ]))
                    refine altG_nowF _ rfl rfl rfl (by kernel_rfl) (fun K0 hK => ?_)
                    go_wp2_with fail
                    try simp only [Act.put, List.setIfInBounds_toArray, List.set_cons_zero, List.set_cons_succ]
                    repeat (first | (refine altG_take _ ?_ rfl rfl rfl rfl (fun _ => ?_) ?_; rotate_left; (focus (go_simp; with_reducible rfl)); try simp only [Act.put, List.setIfInBounds_toArray, List.set_cons_zero, List.set_cons_succ]) | (refine altG_held _ ?_ rfl rfl rfl rfl (by assumption) (fun _ hSw => ?_) ?_; rotate_left; (focus (skip; clear hSw; go_simp; with_reducible rfl)); try simp only [Act.put, List.setIfInBounds_toArray, List.set_cons_zero, List.set_cons_succ]) | (refine altG_skip _ rfl rfl (by assumption) ?_; try simp only [Act.put, List.setIfInBounds_toArray, List.set_cons_zero, List.set_cons_succ]))
                    refine altG_nowF _ rfl rfl rfl (by kernel_rfl) (fun K0 hK => ?_)
                    go_wp2_with fail
                    try simp only [Act.put, List.setIfInBounds_toArray, List.set_cons_zero, List.set_cons_succ]
                    refine altG_nil ?_
                    go_wp2_with fail
                    go_meet
                    exact ⟨v6, A8, c8, A9, c9, A10, c10, rfl, hU.out, ho9.out, ho15.out, ho21.out, hat9.out, hat15.out, hat21.out⟩
                  refine altG_now _ rfl rfl rfl (fun K0 hK => ?_)
                  go_wp2_with fail
                  have hbN := (Below.refl v1.heap.size v1).alloc (Nat.le_refl _) (.cells #[.int .i64 0] 3)
                  have hq14 := Blk.new v1 3 #[.int .i64 0]
                  have hl14 : w5.heap.size ≤ v1.heap.size := hU.size
                  generalize v1.alloc (.cells #[.int .i64 0] 3) = v2 at *
                  replace hU := hU.trans (Upd.of_below_size (S := fun z => False) hbN) (fun _ _ e => e)
                  replace hq20 := hq20.below hbN hq20.lt
                  obtain ⟨q14, hqe⟩ : ∃ y, v1.heap.size = y := ⟨_, rfl⟩
                  rw [hqe] at hq14 hl14
                  try rw [hqe]
                  clear hbN
                  refine hK _ _ _ (fun _ h => h) (hU.mono (fun _ _ e => e.elim)) ?_
                  clear hK K0
                  try simp only [Act.put, List.setIfInBounds_toArray, List.set_cons_zero, List.set_cons_succ]
                  refine altG_now _ rfl rfl rfl (fun K0 hK => ?_)
                  go_wp2_with fail
                  have hbN := (Below.refl v2.heap.size v2).alloc (Nat.le_refl _) (.cells #[.int .u32 (sid : Int), .int .u32 ((sq : Int) + 1), .int .u16 0, .string ⟨#[103]⟩, .string mm, .slice A' LL c'] 62)
                  have hq8 := Blk.new v2 62 #[.int .u32 (sid : Int), .int .u32 ((sq : Int) + 1), .int .u16 0, .string ⟨#[103]⟩, .string mm, .slice A' LL c']
                  have hl8 : w5.heap.size ≤ v2.heap.size := hU.size
                  generalize v2.alloc (.cells #[.int .u32 (sid : Int), .int .u32 ((sq : Int) + 1), .int .u16 0, .string ⟨#[103]⟩, .string mm, .slice A' LL c'] 62) = v3 at *
                  replace hU := hU.trans (Upd.of_below_size (S := fun z => False) hbN) (fun _ _ e => e)
                  replace hq14 := hq14.below hbN hq14.lt
                  replace hq20 := hq20.below hbN hq20.lt
                  obtain ⟨q8, hqe⟩ : ∃ y, v2.heap.size = y := ⟨_, rfl⟩
                  rw [hqe] at hq8 hl8
                  try rw [hqe]
                  clear hbN
                  refine hK _ _ _ (fun _ h => h) (hU.mono (fun _ _ e => e.elim)) ?_
                  clear hK K0
                  try simp only [Act.put, List.setIfInBounds_toArray, List.set_cons_zero, List.set_cons_succ]
                  refine altG_now _ rfl rfl rfl (fun K0 hK => ?_)
                  have hown := hL5.upd hU (fun y hy e => e)
                  have hsrc := blk_reads (size := 6) hq8 rfl
                  refine wp_append_mine _ _ 42 42 rfl 62 iL0 _ 6 72 Try.underlying42 iL1 iL2 iL3 iL4 rfl rfl hown rfl (Src.ofReads Try.underlying42 _ hsrc (by intro u hu; simp only [List.mem_cons, List.not_mem_nil, or_false] at hu; rcases hu with rfl | rfl | rfl | rfl | rfl | rfl <;> rfl)) (by unfold maxLen; omega) (by omega) (fun A8 c8 v4 ho9 hg8 hat8 => ?_)
                  have hu8 : Upd (fun z => bOf A = some z) v3 v4 := (Upd.refl (fun z => bOf A = some z) _).grown hg8 (fun y e _ => e)
                  replace hq14 := hq14.upd hu8 (fun e => by have := hL5.lt e; omega)
                  replace hq20 := hq20.upd hu8 (fun e => by have := hL5.lt e; omega)
                  have hat9 : ∀ z, bOf A8 = some z → bOf A = some z ∨ w5.heap.size ≤ z := fun z hz => by
                    rcases hat8 with e | e
                    · rw [e] at hz; exact .inl hz
                    · have h1 : v3.heap.size = z := by rw [e] at hz; injection hz
                      have h2 := hU.size
                      exact .inr (by omega)
                  replace hU : Upd (fun z => bOf A = some z) w5 v4 := (hU.mono (fun _ _ e => e.elim)).trans (hu8.mono (fun _ _ e => e)) (fun _ _ e => e)
                  clear hown hsrc hg8 hat8 hu8 hq8 hl8
                  refine hK _ _ _ (fun _ h => h) (hU.mono (fun _ _ e => .inl e)) ?_
                  clear hK K0
                  try simp only [Act.put, List.setIfInBounds_toArray, List.set_cons_zero, List.set_cons_succ]
                  refine altG_now _ rfl rfl rfl (fun K0 hK => ?_)
                  have hown := hA5.upd hU (fun y hy e => hL5.ne_own hA5 (by decide) y e hy)
                  have hsrc := blk_reads (size := 1) hq14 rfl
                  refine wp_append_mine _ _ 49 49 rfl 3 iA0 _ 1 8 Try.underlying49 iA1 iA2 iA3 iA4 rfl rfl hown rfl (Src.ofReads Try.underlying49 _ hsrc (by intro u hu; simp only [List.mem_cons, List.not_mem_nil, or_false] at hu; rcases hu with rfl <;> rfl)) (by unfold maxLen; omega) (by omega) (fun A9 c9 v5 ho15 hg8 hat8 => ?_)
                  have hu8 : Upd (fun z => bOf A3 = some z) v4 v5 := (Upd.refl (fun z => bOf A3 = some z) _).grown hg8 (fun y e _ => e)
                  replace ho9 := ho9.upd hu8 (fun y hy e => ho9.ne_own hown (by decide) y hy e)
                  replace hq20 := hq20.upd hu8 (fun e => by have := hA5.lt e; omega)
                  have hat15 : ∀ z, bOf A9 = some z → bOf A3 = some z ∨ w5.heap.size ≤ z := fun z hz => by
                    rcases hat8 with e | e
                    · rw [e] at hz; exact .inl hz
                    · have h1 : v4.heap.size = z := by rw [e] at hz; injection hz
                      have h2 := hU.size
                      exact .inr (by omega)
                  replace hU : Upd (fun z => (bOf A = some z ∨ bOf A3 = some z)) w5 v5 := (hU.mono (fun _ _ e => .inl e)).trans (hu8.mono (fun _ _ e => .inr e)) (fun _ _ e => e)
                  clear hown hsrc hg8 hat8 hu8 hq14 hl14
                  refine hK _ _ _ (fun _ h => h) (hU.mono (fun _ _ e => e.elim .inl (fun e => .inr (.inl e)))) ?_
                  clear hK K0
                  try simp only [Act.put, List.setIfInBounds_toArray, List.set_cons_zero, List.set_cons_succ]
                  refine altG_now _ rfl rfl rfl (fun K0 hK => ?_)
                  have hown := hG5.upd hU (fun y hy e => e.elim (fun e => hL5.ne_own hG5 (by decide) y e hy) (fun e => hA5.ne_own hG5 (by decide) y e hy))
                  have hsrc := blk_reads (size := 1) hq20 rfl
                  refine wp_append_mine _ _ 50 50 rfl 4 iB0 _ 1 1 Try.underlying50 iB1 iB2 iB3 iB4 rfl rfl hown rfl (Src.ofReads Try.underlying50 _ hsrc (by intro u hu; simp only [List.mem_cons, List.not_mem_nil, or_false] at hu; rcases hu with rfl <;> rfl)) (by unfold maxLen; omega) (by omega) (fun A10 c10 v6 ho21 hg8 hat8 => ?_)
                  have hu8 : Upd (fun z => bOf A4 = some z) v5 v6 := (Upd.refl (fun z => bOf A4 = some z) _).grown hg8 (fun y e _ => e)
                  replace ho9 := ho9.upd hu8 (fun y hy e => ho9.ne_own hown (by decide) y hy e)
                  replace ho15 := ho15.upd hu8 (fun y hy e => ho15.ne_own hown (by decide) y hy e)
                  have hat21 : ∀ z, bOf A10 = some z → bOf A4 = some z ∨ w5.heap.size ≤ z := fun z hz => by
                    rcases hat8 with e | e
                    · rw [e] at hz; exact .inl hz
                    · have h1 : v5.heap.size = z := by rw [e] at hz; injection hz
                      have h2 := hU.size
                      exact .inr (by omega)
                  replace hU : Upd (fun z => (bOf A = some z ∨ bOf A3 = some z ∨ bOf A4 = some z)) w5 v6 := (hU.mono (fun _ _ e => e.elim .inl (fun e => .inr (.inl e)))).trans (hu8.mono (fun _ _ e => .inr (.inr e))) (fun _ _ e => e)
                  clear hown hsrc hg8 hat8 hu8 hq20 hl20
                  refine hK _ _ _ (fun _ h => h) (hU.mono (fun _ _ e => e)) ?_
                  clear hK K0
                  try simp only [Act.put, List.setIfInBounds_toArray, List.set_cons_zero, List.set_cons_succ]
                  have b0 := hbs5.upd hU (fun e => hgn e)
                  have b1 := b0.set_ 2 (.slice A8 (N + 1) c8)
                  have b2 := b1.set_ 3 (.slice A9 (N + 1) c9)
                  have k2 := b0.cell 2
                  have f2 := b0.frozen 2
                  have k3 := b1.cell 3
                  have f3 := b1.frozen 3
                  have k4 := b2.cell 4
                  have f4 := b2.frozen 4
                  replace hU := Lib.hid hU
                  replace ho9 := Lib.hid ho9
                  replace ho15 := Lib.hid ho15
                  replace ho21 := Lib.hid ho21
                  replace hat9 := Lib.hid hat9
                  replace hat15 := Lib.hid hat15
                  replace hat21 := Lib.hid hat21
                  clear b0 b1 b2
                  repeat (first | (refine altG_take _ ?_ rfl rfl rfl rfl (fun _ => ?_) ?_; rotate_left; (focus (go_simp; with_reducible rfl)); try simp only [Act.put, List.setIfInBounds_toArray, List.set_cons_zero, List.set_cons_succ]) | (refine altG_held _ ?_ rfl rfl rfl rfl (by assumption) (fun _ hSw => ?_) ?_; rotate_left; (focus (skip; clear hSw; go_simp; with_reducible rfl)); try simp only [Act.put, List.setIfInBounds_toArray, List.set_cons_zero, List.set_cons_succ]) | (refine altG_skip _ rfl rfl (by assumption) ?_; try simp only [Act.put, List.setIfInBounds_toArray, List.set_cons_zero, List.set_cons_succ]))
                  refine altG_nowF _ rfl rfl rfl (by kernel_rfl) (fun K0 hK => ?_)
                  go_wp2_with fail
                  try simp only [Act.put, List.setIfInBounds_toArray, List.set_cons_zero, List.set_cons_succ]
                  repeat (first | (refine altG_take _ ?_ rfl rfl rfl rfl (fun _ => ?_) ?_; rotate_left; (focus (go_simp; with_reducible rfl)); try simp only [Act.put, List.setIfInBounds_toArray, List.set_cons_zero, List.set_cons_succ]) | (refine altG_held _ ?_ rfl rfl rfl rfl (by assumption) (fun _ hSw => ?_) ?_; rotate_left; (focus (skip; clear hSw; go_simp; with_reducible rfl)); try simp only [Act.put, List.setIfInBounds_toArray, List.set_cons_zero, List.set_cons_succ]) | (refine altG_skip _ rfl rfl (by assumption) ?_; try simp only [Act.put, List.setIfInBounds_toArray, List.set_cons_zero, List.set_cons_succ]))
                  refine altG_nowF _ rfl rfl rfl (by kernel_rfl) (fun K0 hK => ?_)
                  go_wp2_with fail
                  try simp only [Act.put, List.setIfInBounds_toArray, List.set_cons_zero, List.set_cons_succ]
                  repeat (first | (refine altG_take _ ?_ rfl rfl rfl rfl (fun _ => ?_) ?_; rotate_left; (focus (go_simp; with_reducible rfl)); try simp only [Act.put, List.setIfInBounds_toArray, List.set_cons_zero, List.set_cons_succ]) | (refine altG_held _ ?_ rfl rfl rfl rfl (by assumption) (fun _ hSw => ?_) ?_; rotate_left; (focus (skip; clear hSw; go_simp; with_reducible rfl)); try simp only [Act.put, List.setIfInBounds_toArray, List.set_cons_zero, List.set_cons_succ]) | (refine altG_skip _ rfl rfl (by assumption) ?_; try simp only [Act.put, List.setIfInBounds_toArray, List.set_cons_zero, List.set_cons_succ]))
                  refine altG_nowF _ rfl rfl rfl (by kernel_rfl) (fun K0 hK => ?_)
                  go_wp2_with fail
                  try simp only [Act.put, List.setIfInBounds_toArray, List.set_cons_zero, List.set_cons_succ]
                  refine altG_nil ?_
                  go_wp2_with fail
                  go_meet
                  exact ⟨v6, A8, c8, A9, c9, A10, c10, rfl, hU.out, ho9.out, ho15.out, ho21.out, hat9.out, hat15.out, hat21.out⟩
                case rest =>
                  obtain ⟨wq, A8, c8, A9, c9, A10, c10, hwc, hUq, ho9, ho15, ho21, hat9, hat15, hat21⟩ := hcut
                  have hw5s := hb5.size
                  have hqs := hUq.size
                  have ltA := fun z (e : bOf A = some z) => h.out.ho.lt e
                  have ltA3 := fun z (e : bOf A3 = some z) => h.out.ha.lt e
                  have ltA4 := fun z (e : bOf A4 = some z) => h.out.hg.lt e
                  have ltA2 := fun z (e : bOf A2 = some z) => h.out.hr.lt e
                  have hz4l := hz5.lt
                  have hSg8 : ¬ (bOf A = some g8 ∨ bOf A3 = some g8 ∨ bOf A4 = some g8) := fun e => by
                    rcases e with e | e | e
                    · have := ltA _ e; omega
                    · have := ltA3 _ e; omega
                    · have := ltA4 _ e; omega
                  have bq := hbs5.upd hUq hgn
                  have hbE : Blk wc g 52 #[.int .u32 (sid : Int), .int .u32 ((sq : Int) + 1), (.slice A8 (N + 1) c8), (.slice A9 (N + 1) c9), (.slice A10 (N + 1) c10), .slice A2 M c2] := by rw [hwc]; exact ((bq.set_ 2 (.slice A8 (N + 1) c8)).set_ 3 (.slice A9 (N + 1) c9)).set_ 4 (.slice A10 (N + 1) c10)
                  have hug : Upd (fun z => z = g) wq wc := by rw [hwc]; exact (((Upd.refl (fun z => z = g) wq).setCell (p := ⟨g, 2, none⟩) (fun _ => rfl) _).setCell (p := ⟨g, 3, none⟩) (fun _ => rfl) _).setCell (p := ⟨g, 4, none⟩) (fun _ => rfl) _
                  have hygn : y ≠ g := by omega
                  have hyE := (hy5.upd hUq hyn).upd hug hygn
                  have hzE := (hz5.upd hUq hSg8).upd hug (fun e => hgg8 e.symm)
                  have oL := ho9.upd hug (fun z hz e => ho9.ne_b bq (by decide) z hz e)
                  have oA := ho15.upd hug (fun z hz e => ho15.ne_b bq (by decide) z hz e)
                  have oG := ho21.upd hug (fun z hz e => ho21.ne_b bq (by decide) z hz e)
                  generalize wc = wd at *
                  clear hwc
                  have e0 : wd.cell? ⟨y, 0, none⟩ = some (.int .u32 (sid : Int)) := hyE.cell 0
                  have e1 : wd.cell? ⟨y, 1, none⟩ = some (.int .u32 ((sq : Int) + 1)) := hyE.cell 1
                  have e2 : wd.cell? ⟨y, 2, none⟩ = some (.int .u16 0) := hyE.cell 2
                  have p0 := hzE.frozen 0
                  have p1 := hzE.frozen 1
                  have p2 := hzE.frozen 2
                  have t0 := hzE.cell 0
                  have t1 := hzE.cell 1
                  have t2 := hzE.cell 2
                  have hzF := ((hzE.set_ 0 (.int .u32 (sid : Int))).set_ 1 (.int .u32 ((sq : Int) + 1))).set_ 2 (.int .u16 0)
                  have uF : Upd (fun z => z = g8) wd (((wd.setCell ⟨g8, 0, none⟩ (.int .u32 (sid : Int))).setCell ⟨g8, 1, none⟩ (.int .u32 ((sq : Int) + 1))).setCell ⟨g8, 2, none⟩ (.int .u16 0)) := (((Upd.refl (fun z => z = g8) wd).setCell (p := ⟨g8, 0, none⟩) (fun _ => rfl) _).setCell (p := ⟨g8, 1, none⟩) (fun _ => rfl) _).setCell (p := ⟨g8, 2, none⟩) (fun _ => rfl) _
                  obtain ⟨wE, hwE⟩ : ∃ q, q = (((wd.setCell ⟨g8, 0, none⟩ (.int .u32 (sid : Int))).setCell ⟨g8, 1, none⟩ (.int .u32 ((sq : Int) + 1))).setCell ⟨g8, 2, none⟩ (.int .u16 0)) := ⟨_, rfl⟩
                  rw [← hwE] at uF
                  have H5 := held_of_row (w := w4) (o := ⟨sid, sq + 1, 0, ((⟨#[103]⟩ : ByteArray)).toList, mm.toList, l.map cleanV⟩) (L := LL) (R5.out.toRow (fun z hz => hz.1)) hsLL (by have := hLL.out; omega) (fun u hu => by obtain ⟨v, hv, rfl⟩ := List.mem_map.1 hu; exact clean_okv (hokl.out v hv)) (by have := h.out.hid; have := hsid.out; show sid < _; omega) (by show sq + 1 < _; omega) (by show 0 < 65536; decide)
                  dsimp only at H5
                  rw [bstr_tl, bstr_tl] at H5
                  have h' := h.out
                  have nz8 : ∀ z, z < wq.heap.size → bOf A8 = some z → z ≠ g8 := fun z hz e e2 => by
                    rcases hat9 z e with e | e
                    · have := ltA z e; omega
                    · omega
                  have oL' := oL.upd uF (fun z hz e => by rcases hat9 z hz with e1 | e1; (have := ltA z e1; omega); omega)
                  have oA' := oA.upd uF (fun z hz e => by rcases hat15 z hz with e1 | e1; (have := ltA3 z e1; omega); omega)
                  have oG' := oG.upd uF (fun z hz e => by rcases hat21 z hz with e1 | e1; (have := ltA4 z e1; omega); omega)
                  have hbF := hbE.upd uF hgg8
                  obtain ⟨r, hr⟩ : ∃ q : RowsY, q = ⟨A, c, A3, c3, A4, c4, A2, c2, xs, xs2, css, css2⟩ := ⟨_, rfl⟩
                  rw [← hr] at h'
                  have hOr : ∀ z, OwnR r g z ↔ (z = g ∨ bOf A = some z ∨ bOf A3 = some z ∨ bOf A4 = some z ∨ bOf A2 = some z) := fun z => by rw [hr]; exact Iff.rfl
                  obtain ⟨r', hr'⟩ : ∃ q : RowsY, q = ⟨A8, c8, A9, c9, A10, c10, A2, c2, xs ++ [.int .u32 (sid : Int), .int .u32 ((sq : Int) + 1), .int .u16 0, .string ⟨#[103]⟩, .string mm, .slice A' LL c'], xs2, fun q => if q = N then #[.int .u32 (sid : Int), .int .u32 ((sq : Int) + 1), .int .u16 0, .string ⟨#[103]⟩, .string mm, .slice A' LL c'] else css q, css2⟩ := ⟨_, rfl⟩
                  have hOr' : ∀ z, OwnR r' g z ↔ (z = g ∨ bOf A8 = some z ∨ bOf A9 = some z ∨ bOf A10 = some z ∨ bOf A2 = some z) := fun z => by rw [hr']; exact Iff.rfl
                  have hu5d : Upd (fun z => z = g ∨ bOf A = some z ∨ bOf A3 = some z ∨ bOf A4 = some z) w5 wd := (hUq.mono (fun _ _ e => .inr e)).trans hug (fun _ _ e => .inl e)
                  have hu5E : Upd (fun z => z = g8 ∨ z = g ∨ bOf A = some z ∨ bOf A3 = some z ∨ bOf A4 = some z) w5 wE := (hu5d.mono (fun _ _ e => .inr e)).trans uF (fun _ _ e => .inl e)
                  have huE : Upd (OwnR r g) w wE := (hu04.trans (Upd.of_below_size hb5) (fun _ _ e => e)).mono (T := OwnR r g) (fun z _ e => (hOr z).2 (.inl e)) |>.trans hu5E (fun z hz e => by
                    rcases e with e | e | e | e | e
                    · omega
                    · exact (hOr z).2 (.inl e)
                    · exact (hOr z).2 (.inr (.inl e))
                    · exact (hOr z).2 (.inr (.inr (.inl e)))
                    · exact (hOr z).2 (.inr (.inr (.inr (.inl e)))))
                  have hOO : ∀ z, OwnR r' g z → OwnR r g z ∨ w.heap.size ≤ z := fun z hz => by
                    rcases (hOr' z).1 hz with e | e | e | e | e
                    · exact .inl ((hOr z).2 (.inl e))
                    · rcases hat9 z e with e | e
                      · exact .inl ((hOr z).2 (.inr (.inl e)))
                      · exact .inr (by omega)
                    · rcases hat15 z e with e | e
                      · exact .inl ((hOr z).2 (.inr (.inr (.inl e))))
                      · exact .inr (by omega)
                    · rcases hat21 z e with e | e
                      · exact .inl ((hOr z).2 (.inr (.inr (.inr (.inl e)))))
                      · exact .inr (by omega)
                    · exact .inl ((hOr z).2 (.inr (.inr (.inr (.inr e)))))
                  obtain ⟨hX, hR⟩ := h'.next huE hOO
                  have hOlt : ∀ z, OwnR r' g z → z < wE.heap.size := fun z hz => by
                    rcases (hOr' z).1 hz with e | e | e | e | e
                    · rw [e]; exact hbF.lt
                    · exact oL'.lt e
                    · exact oA'.lt e
                    · exact oG'.lt e
                    · have := ltA2 z e; have := huE.size; omega
                  have hlx : xs.length = N * 6 := by have := h.out.ho.len; rw [← hN.out]; exact this
                  have hnew : OpHeld wE (fun z => ¬ (F z ∨ (w.heap.size ≤ z ∧ z < wE.heap.size)) ∨ OwnR r' g z) ⟨sid, sq + 1, 0, ((⟨#[103]⟩ : ByteArray)).toList, mm.toList, l.map cleanV⟩ #[.int .u32 (sid : Int), .int .u32 ((sq : Int) + 1), .int .u16 0, .string ⟨#[103]⟩, .string mm, .slice A' LL c'] := H5.next hu5E (fun z hz e => by
                    rcases e with e | e | e | e | e
                    · omega
                    · omega
                    · have := ltA z e; omega
                    · have := ltA3 z e; omega
                    · have := ltA4 z e; omega) (fun z hz e => by
                    rcases e with e | e
                    · rcases Nat.lt_or_ge z w.heap.size with h1 | h1
                      · omega
                      · exact absurd (.inr ⟨h1, by have := hu5E.size; omega⟩) e
                    · rcases (hOr' z).1 e with e | e | e | e | e
                      · omega
                      · rcases hat9 z e with e | e
                        · have := ltA z e; omega
                        · omega
                      · rcases hat15 z e with e | e
                        · have := ltA3 z e; omega
                        · omega
                      · rcases hat21 z e with e | e
                        · have := ltA4 z e; omega
                        · omega
                      · have := ltA2 z e; omega)
                  have hle : (d.op ++ [(⟨⟨sid, sq + 1, 0, ((⟨#[103]⟩ : ByteArray)).toList, mm.toList, l.map cleanV⟩, 0, true⟩ : OpnD)]).length = N + 1 := by rw [List.length_append, hN.out]; rfl
                  have hdE : callD d (⟨#[103]⟩ : ByteArray) mm l = ⟨sid, sq + 1, d.op ++ [⟨⟨sid, sq + 1, 0, ((⟨#[103]⟩ : ByteArray)).toList, mm.toList, l.map cleanV⟩, 0, true⟩], d.rp⟩ := by unfold callD; rw [hE, if_pos rfl, hsid.out, hsq'.out]
                  have hfin : CliY w wE F g (callD d (⟨#[103]⟩ : ByteArray) mm l) := by
                    rw [hdE]
                    refine ⟨huE.mono (fun z _ e => h'.fo z e), fun z => F z ∨ (w.heap.size ≤ z ∧ z < wE.heap.size), ⟨r', ?_⟩, fun z hz => hz.elim .inl (fun e => .inr e.1)⟩
                    refine ⟨?blk, ?ho, ?ha, ?hg, ?hr, ?hx, ?hxs, ?rx, ?rxs, ?fo, ?ft, by have := h.out.hid; rw [← hsid.out]; exact this, by show sq + 1 ≤ 1000000; omega, by rw [hle]; omega, h'.hr4⟩
                    case blk => rw [hr']; show Blk wE g 52 #[.int .u32 (sid : Int), .int .u32 ((sq + 1 : Nat) : Int), .slice A8 (d.op ++ [(⟨⟨sid, sq + 1, 0, ((⟨#[103]⟩ : ByteArray)).toList, mm.toList, l.map cleanV⟩, 0, true⟩ : OpnD)]).length c8, .slice A9 (d.op ++ [(⟨⟨sid, sq + 1, 0, ((⟨#[103]⟩ : ByteArray)).toList, mm.toList, l.map cleanV⟩, 0, true⟩ : OpnD)]).length c9, .slice A10 (d.op ++ [(⟨⟨sid, sq + 1, 0, ((⟨#[103]⟩ : ByteArray)).toList, mm.toList, l.map cleanV⟩, 0, true⟩ : OpnD)]).length c10, .slice A2 d.rp.length c2]; rw [hle, hM.out]; exact hbF
                    case ho => rw [hr']; show Own wE 62 6 A8 _ c8 _; rw [hle]; exact oL'
                    case ha => rw [hr']; show Own wE 3 1 A9 _ c9 (agesR (d.op ++ _)); rw [hle, show agesR (d.op ++ [(⟨⟨sid, sq + 1, 0, ((⟨#[103]⟩ : ByteArray)).toList, mm.toList, l.map cleanV⟩, 0, true⟩ : OpnD)]) = agesR d.op ++ [.int .i64 0] by simp [agesR], hages.out]; exact oA'
                    case hg => rw [hr']; show Own wE 4 1 A10 _ c10 (nowsR (d.op ++ _)); rw [hle, show nowsR (d.op ++ [(⟨⟨sid, sq + 1, 0, ((⟨#[103]⟩ : ByteArray)).toList, mm.toList, l.map cleanV⟩, 0, true⟩ : OpnD)]) = nowsR d.op ++ [.bool true] by simp [nowsR], hnows.out]; exact oG'
                    case hr =>
                      rw [hr']
                      show Own wE 39 9 A2 d.rp.length c2 xs2
                      rw [hM.out]
                      refine hD5.out.upd hu5E (fun z hz e => ?_)
                      rcases e with e | e | e | e | e
                      · have := ltA2 z hz; omega
                      · exact hD5.out.ne_b hbs5 (by decide) z hz e
                      · exact hL5.ne_own hD5.out (by decide) z e hz
                      · exact hA5.ne_own hD5.out (by decide) z e hz
                      · exact hG5.ne_own hD5.out (by decide) z e hz
                    case hx =>
                      intro q x hq
                      dsimp only at hq
                      rcases Nat.lt_trichotomy q N with hl | hl | hl
                      · rw [show r'.css q = r.css q by rw [hr', hr]; exact if_neg (by omega)]
                        rw [List.getElem?_append_left (by rw [hN.out]; exact hl)] at hq
                        exact hX q x hq
                      · subst hl
                        rw [show r'.css q = #[.int .u32 (sid : Int), .int .u32 ((sq : Int) + 1), .int .u16 0, .string ⟨#[103]⟩, .string mm, .slice A' LL c'] by rw [hr']; exact if_pos rfl]
                        rw [List.getElem?_append_right (by rw [hN.out]; exact Nat.le_refl _), hN.out, Nat.sub_self] at hq
                        have hq2 := Option.some.inj (show some (⟨⟨sid, sq + 1, 0, ((⟨#[103]⟩ : ByteArray)).toList, mm.toList, l.map cleanV⟩, 0, true⟩ : OpnD) = some x from hq)
                        rw [← hq2]
                        exact hnew
                      · rw [List.getElem?_eq_none (by rw [hle]; omega)] at hq; cases hq
                    case hxs =>
                      intro q x hq
                      dsimp only at hq
                      rcases Nat.lt_trichotomy q N with hl | hl | hl
                      · rw [show r'.css q = r.css q by rw [hr', hr]; exact if_neg (by omega), show r'.xs = xs ++ [.int .u32 (sid : Int), .int .u32 ((sq : Int) + 1), .int .u16 0, .string ⟨#[103]⟩, .string mm, .slice A' LL c'] by rw [hr']]
                        rw [List.getElem?_append_left (by rw [hN.out]; exact hl)] at hq
                        rw [← h'.hxs q x hq, show r.xs = xs by rw [hr], List.drop_append_of_le_length (by omega), List.take_append_of_le_length (by rw [List.length_drop]; omega)]
                      · subst hl
                        rw [show r'.css q = #[.int .u32 (sid : Int), .int .u32 ((sq : Int) + 1), .int .u16 0, .string ⟨#[103]⟩, .string mm, .slice A' LL c'] by rw [hr']; exact if_pos rfl, show r'.xs = xs ++ [.int .u32 (sid : Int), .int .u32 ((sq : Int) + 1), .int .u16 0, .string ⟨#[103]⟩, .string mm, .slice A' LL c'] by rw [hr'], List.drop_left' hlx]
                        rfl
                      · rw [List.getElem?_eq_none (by rw [hle]; omega)] at hq; cases hq
                    case rx =>
                      intro q x hq
                      rw [show r'.css2 q = r.css2 q by rw [hr', hr]]
                      exact hR q x hq
                    case rxs =>
                      intro q x hq
                      rw [show r'.css2 q = r.css2 q by rw [hr', hr], show r'.xs2 = r.xs2 by rw [hr', hr]]
                      exact h'.rxs q x hq
                    case fo =>
                      intro z hz
                      rcases hOO z hz with e | e
                      · exact .inl (h'.fo z e)
                      · exact .inr ⟨e, hOlt z hz⟩
                    case ft =>
                      intro z hz
                      rcases hz with hz | hz
                      · have := h'.ft z hz; have := huE.size; omega
                      · exact hz.2
                  replace hfin := Lib.hid hfin
                  replace hzF := Lib.hid hzF
                  have hcC : callC d (⟨#[103]⟩ : ByteArray) mm l = sid := by unfold callC; rw [hE, if_pos rfl, hsid.out]
                  have hcS : callS d (⟨#[103]⟩ : ByteArray) mm l = sq + 1 := by unfold callS; rw [hE, if_pos rfl, hsq'.out]
                  clear hnew hX hR hu5E hu5d huE hbF oL' oA' oG' oL oA oG hyE hzE hbE uF H5 h' hUq hug
                  go_wp2_with fail
                  refine bodyPost_ret (v := .tuple #[.agg #[.int .u32 (sid : Int), .int .u32 ((sq : Int) + 1), .int .u16 0], .int .i64 0]) ?hr rfl ?_
                  case hr => exact results_ct rfl _ _ g8 29 _ (0, 0) _ _ rfl rfl hzF.out Try.underlying29 rfl (by kernel_rfl)
                  rw [← hwE, hE, hcC, hcS]
                  exact ⟨rfl, hfin.out⟩
    · have d2 : decide ((32 : Int) < (mm.size : Int)) = true := decide_eq_true (by omega)
      have hbd : badC (⟨#[103]⟩ : ByteArray) mm l = true := by rw [bad_iff]; unfold nameB; rw [decide_eq_false m2, Bool.and_false]; rfl
      have f0 := hz0.frozen 0
      have f1 := hz0.frozen 1
      have f2 := hz0.frozen 2
      have k0 := hz0.cell 0
      have k1 := hz0.cell 1
      have k2 := hz0.cell 2
      have hze := ((hz0.set_ 0 (.int .u32 0)).set_ 1 (.int .u32 0)).set_ 2 (.int .u16 0)
      have hbe := ((hb0.setCell (p := ⟨g8, 0, none⟩) hg8w (.int .u32 0)).setCell (p := ⟨g8, 1, none⟩) hg8w (.int .u32 0)).setCell (p := ⟨g8, 2, none⟩) hg8w (.int .u16 0)
      go_wp2_with fail
      refine bodyPost_ret (v := .tuple #[.agg #[.int .u32 0, .int .u32 0, .int .u16 0], .int .i64 31]) ?hr rfl ?_
      case hr => exact results_ct rfl _ _ g8 29 _ (0, 0) _ _ rfl rfl hze Try.underlying29 rfl (by kernel_rfl)
      have hE : callE d (⟨#[103]⟩ : ByteArray) mm l = 31 := by unfold callE; rw [if_pos (show badC _ mm l = true from hbd)]
      unfold callC callS callD
      rw [hE]
      exact ⟨rfl, Upd.of_below_size hbe, F, ⟨_, h.out.below hbe⟩, fun y hy => .inl hy⟩
  · have d1 : decide (1 ≤ mm.size) = false := decide_eq_false m1
    rw [d1] at e0
    have hbd : badC (⟨#[103]⟩ : ByteArray) mm l = true := by rw [bad_iff]; unfold nameB; rw [d1]; rfl
    have f0 := hz0.frozen 0
    have f1 := hz0.frozen 1
    have f2 := hz0.frozen 2
    have k0 := hz0.cell 0
    have k1 := hz0.cell 1
    have k2 := hz0.cell 2
    have hze := ((hz0.set_ 0 (.int .u32 0)).set_ 1 (.int .u32 0)).set_ 2 (.int .u16 0)
    have hbe := ((hb0.setCell (p := ⟨g8, 0, none⟩) hg8w (.int .u32 0)).setCell (p := ⟨g8, 1, none⟩) hg8w (.int .u32 0)).setCell (p := ⟨g8, 2, none⟩) hg8w (.int .u16 0)
    go_wp2_with fail
    refine bodyPost_ret (v := .tuple #[.agg #[.int .u32 0, .int .u32 0, .int .u16 0], .int .i64 31]) ?hr rfl ?_
    case hr => exact results_ct rfl _ _ g8 29 _ (0, 0) _ _ rfl rfl hze Try.underlying29 rfl (by kernel_rfl)
    have hE : callE d (⟨#[103]⟩ : ByteArray) mm l = 31 := by unfold callE; rw [if_pos (show badC _ mm l = true from hbd)]
    unfold callC callS callD
    rw [hE]
    exact ⟨rfl, Upd.of_below_size hbe, F, ⟨_, h.out.below hbe⟩, fun y hy => .inl hy⟩
end Go.Proofs.Ytgdhiihfcngjbaa
