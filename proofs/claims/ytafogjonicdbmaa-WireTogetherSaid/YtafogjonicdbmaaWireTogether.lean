/- WireTogether's walk. -/
import Derived.Test.YtafogjonicdbmaaOpenVals
import Derived.Test.YtafogjonicdbmaaPvEnc
namespace Go.Proofs.Ytafogjonicdbmaa
open Go.RowKit

def kept (l : List Val) : List Val := l.filter (fun v => checkV v == 0)
theorem kept_ok {l : List Val} {v : Val} (h : v ∈ kept l) : v ∈ l ∧ checkV v = 0 := by
  have := List.mem_filter.1 h
  exact ⟨this.1, by simpa using this.2⟩
theorem kept_yes {l : List Val} {j : Nat} (hlt : j < l.length) (h : checkV l[j] = 0) : kept (l.take (j + 1)) = kept (l.take j) ++ [l[j]] := by
  unfold kept
  rw [List.take_succ_eq_append_getElem hlt, List.filter_append]
  simp [h]
theorem kept_no {l : List Val} {j : Nat} (hlt : j < l.length) (h : checkV l[j] ≠ 0) : kept (l.take (j + 1)) = kept (l.take j) := by
  unfold kept
  rw [List.take_succ_eq_append_getElem hlt, List.filter_append]
  simp [h]
theorem kept_len (l : List Val) : (kept l).length ≤ l.length := List.length_filter_le _ _
theorem encL_snoc (l : List Val) (v : Val) : encL (l ++ [v]) = encL l ++ encV v := by
  induction l with
  | nil => show encV v ++ encL [] = encL [] ++ encV v; simp [encL]
  | cons x l ih => show encV x ++ encL (l ++ [v]) = (encV x ++ encL l) ++ encV v; rw [ih, List.append_assoc]
theorem encL_bound (l : List Val) (h : ∀ v, v ∈ l → checkV v = 0) : (encL l).length ≤ l.length * 4096 := by
  induction l with
  | nil => exact Nat.zero_le _
  | cons x l ih =>
    have h1 := (checkV_zero (h x (by simp))).2.2
    have h2 := ih (fun v hv => h v (by simp [hv]))
    show (encV x ++ encL l).length ≤ (l.length + 1) * 4096
    rw [List.length_append, encV_len]
    omega
theorem encL_drop (l : List Val) (j : Nat) (hlt : j < l.length) : encL (l.drop j) = encV l[j] ++ encL (l.drop (j + 1)) := by
  rw [List.drop_eq_getElem_cons hlt]
  rfl

theorem VReads.up {w : World} {B B' : Nat} {v : Val} {cs : Array Value} (h : VReads w B v cs) (hB : B ≤ B') : VReads w B' v cs := by
  induction h with
  | mk css hn hr hx hxs ih => exact .mk css hn (hr.more hB) (fun j v hv => ih j v hv) hxs

theorem sizeV_pos2 (v : Val) : 0 < sizeV v := by
  cases v with
  | mk k i f s l => unfold sizeV; repeat' split
                    all_goals omega

structure TRel (l : List Val) (w1 wr : World) (j : Nat) (Ab : Option Addr) (cb : Nat) (q : List UInt8) (Aw : Option Addr) (cw : Nat) (xs : List Value) (css : Nat → Array Value) : Prop where
  jl : j ≤ l.length
  hq : q = encL (kept (l.take j))
  ho : Own wr 5 1 Ab q.length cb (bys q)
  hb : ∀ g, bOf Ab = some g → w1.heap.size ≤ g
  R : VRow wr w1.heap.size ((kept (l.take j)).map cleanV) Aw cw xs css
  hB : Below w1.heap.size w1 wr

set_option maxHeartbeats 12800000 in
theorem wireTogether_walk (A : Option Addr) (c : Nat) (l : List Val) (xs0 : List Value) (css0 : Nat → Array Value) (w : World) (hr : Reads w w.heap.size 5 A l.length xs0) (hx : ∀ (j : Nat) (v : Val), l[j]? = some v → VReads w w.heap.size v (css0 j)) (hxs : ∀ j, j < l.length → (xs0.drop (j * 5)).take 5 = (css0 j).toList) (hok : ∀ v, v ∈ l → OkV v) (hl : l.length ≤ 140737488351232) :
    Calls Try.prog 8 #[.slice A l.length c] w (SaysTrue w) := by
  obtain ⟨i1, gi, gz0, gz1, gz2⟩ := info_parts info_val
  have hsf := fun a k x m w => run_store_float (P := Try.prog) a k x m w
  go_enter Try.func8, Try.ntmps8
  go_wp2_with fail
  refine (known_true _).mono ?_
  rintro e w0 ⟨rfl, hb0⟩
  dsimp only
  go_wp2_with fail
  refine (lights_any (c := c) hr hxs hx hb0 hb0.size hl).mono ?_
  rintro e w1 ⟨lq, rfl, h40, hb1'⟩
  dsimp only
  have hb1 := below_then hb1' hb0
  cases lq
  · go_wp2_with fail
    go_ret
    exact ⟨rfl, hb1⟩
  have h40 := h40 rfl
  clear hb1' hb0
  go_wp2_with fail
  go_loopw [3, 4, 5] (fun bb ww i wr => ∃ (j : Nat) (Ab : Option Addr) (cb : Nat) (q : List UInt8) (Aw : Option Addr) (cw : Nat) (xs : List Value) (css : Nat → Array Value), i = .int .i64 (j : Int) ∧ bb = .slice Ab q.length cb ∧ ww = .slice Aw (kept (l.take j)).length cw ∧ TRel l w1 wr j Ab cb q Aw cw xs css) (fun _ _ i _ => l.length - (intOf i).toNat)
  case atStart => exact ⟨0, none, 0, [], none, 0, [], _, rfl, rfl, rfl, ⟨Nat.zero_le _, rfl, Own.none_, by simp [bOf], VRow.nil _ _, Below.refl _ _⟩⟩
  case round =>
    rename_i hrel
    obtain ⟨j, Ab, cb, q, Aw, cw, xs, css, rfl, rfl, rfl, R⟩ := hrel
    have hjl := R.jl
    have hbs := R.hB.size
    have hcq := R.ho.le_cap
    have hqb : q.length ≤ 200000 := by
      have h1 := encL_bound (kept (l.take j)) (fun v hv => (kept_ok hv).2)
      have h2 := kept_len (l.take j)
      rw [List.length_take] at h2
      rw [R.hq]
      have h3 : (kept (l.take j)).length * 4096 ≤ 40 * 4096 := Nat.mul_le_mul_right _ (by omega)
      omega
    have hkl : (kept (l.take j)).length ≤ 40 := by
      have h2 := kept_len (l.take j)
      rw [List.length_take] at h2
      omega
    obtain ⟨m, hm⟩ : ∃ m, (kept (l.take j)).length = m := ⟨_, rfl⟩
    rw [hm] at hkl ⊢
    by_cases hlt : j < l.length
    · have hbb : Below w.heap.size w wr := hb1.trans (R.hB.mono hb1.size)
      obtain ⟨ad, k', i', f', s', A', n', c', hA, hform, hgk, g0, g1, g2, g3, g4⟩ := kid hr hx hxs hbb hlt
      subst hA
      have hvr := hx j l[j] hgk
      rw [hform] at hvr
      have hokj := hok l[j] (List.getElem_mem hlt)
      have hS : (wr.drew.cell? (ad.add (j * 5)) = some (.int .i64 k') ∧ wr.drew.cell? ⟨(ad.add (j * 5)).block, (ad.add (j * 5)).off + 1, none⟩ = some (.int .i64 i') ∧ wr.drew.cell? ⟨(ad.add (j * 5)).block, (ad.add (j * 5)).off + 2, none⟩ = some (.float .f64 f') ∧ wr.drew.cell? ⟨(ad.add (j * 5)).block, (ad.add (j * 5)).off + 3, none⟩ = some (.string s') ∧ wr.drew.cell? ⟨(ad.add (j * 5)).block, (ad.add (j * 5)).off + 4, none⟩ = some (.slice A' n' c')) ∧ Below wr.heap.size wr wr.drew := ⟨⟨g0, g1, g2, g3, g4⟩, (Below.refl _ _).drew⟩
      by_cases hck : checkV l[j] = 0
      · have hput := fun w4 (hb4 : Below wr.heap.size wr w4) => ref_put_ok (row := none) (c := q.length) hvr hokj hck (hbb.trans (hb4.mono (Nat.le_trans hb1.size hbs))) (Nat.le_trans (Nat.le_trans hb1.size hbs) hb4.size) (Grows.full ((R.ho.reads_).below hb4) hb4.size (Nat.le_refl _)) (by simp) (by omega)
        obtain ⟨r, hr2⟩ : ∃ r, q ++ encV l[j] = r := ⟨_, rfl⟩
        have hrq : r = encL (kept (l.take (j + 1))) := by rw [kept_yes hlt hck, encL_snoc, ← R.hq, hr2]
        have hkn : (kept (l.take (j + 1))).map cleanV = (kept (l.take j)).map cleanV ++ [cleanV l[j]] := by rw [kept_yes hlt hck, List.map_append]; rfl
        have hkm : (kept (l.take (j + 1))).length = m + 1 := by rw [kept_yes hlt hck, List.length_append, hm]; rfl
        obtain ⟨-, hg8, -⟩ := checkV_zero hck
        have hcl := fun w4 (hb4 : Below wr.heap.size wr w4) => ref_clean hvr 8 w4 hg8 (hbb.trans (hb4.mono (Nat.le_trans hb1.size hbs))) (Nat.le_trans (Nat.le_trans hb1.size hbs) hb4.size)
        rw [hr2] at hput
        generalize l[j] = v at *
        replace hput := Lib.hid hput
        replace hcl := Lib.hid hcl
        replace hrq := Lib.hid hrq
        replace hkn := Lib.hid hkn
        replace hkm := Lib.hid hkm
        clear hform hgk hr2 hck hg8 hokj
        go_wp2_with fail
        refine wp_region_lex (fun W => (W.cell? (ad.add (j * 5)) = some (.int .i64 k') ∧ W.cell? ⟨(ad.add (j * 5)).block, (ad.add (j * 5)).off + 1, none⟩ = some (.int .i64 i') ∧ W.cell? ⟨(ad.add (j * 5)).block, (ad.add (j * 5)).off + 2, none⟩ = some (.float .f64 f') ∧ W.cell? ⟨(ad.add (j * 5)).block, (ad.add (j * 5)).off + 3, none⟩ = some (.string s') ∧ W.cell? ⟨(ad.add (j * 5)).block, (ad.add (j * 5)).off + 4, none⟩ = some (.slice A' n' c')) ∧ Below wr.heap.size wr W) [9] [10] [0, 1, 2, 3, 4, 5, 6, 7, 8, 9, 10, 11, 12, 13, 14, 15] (by kernel_rfl) rfl (by kernel_rfl) (by kernel_rfl) (fun _ _ d _ _ h => by cases d <;> exact h) ?_
        repeat (first | (refine lexG_take _ ?_ rfl rfl rfl rfl (fun _ => ?_) ?_; rotate_left; (focus (go_simp; with_reducible rfl)); try simp only [Act.put, List.setIfInBounds_toArray, List.set_cons_zero, List.set_cons_succ]) | (refine lexG_held _ ?_ rfl rfl rfl rfl (by assumption) (fun _ hSw => ?_) ?_; rotate_left; (focus ((try dsimp only at hSw); go_simp; with_reducible rfl)); try simp only [Act.put, List.setIfInBounds_toArray, List.set_cons_zero, List.set_cons_succ]) | (refine lexG_skip _ rfl rfl (by assumption) ?_; try simp only [Act.put, List.setIfInBounds_toArray, List.set_cons_zero, List.set_cons_succ]))
        refine lexG_now _ rfl rfl rfl (fun K hK => ?_)
        go_wp2_with fail
        refine (hput.out wr.drew hS.2).mono ?_
        clear hput
        rintro e w5 ⟨A5, c5, rfl, ho5, hu5, hf5⟩
        dsimp only
        have hb5' : Below wr.heap.size wr w5 := below_of_drew (hu5.below (Nat.le_refl _) (fun k hk e => by cases e))
        have hA5 : ∀ g, bOf A5 = some g → wr.heap.size ≤ g := by
          rcases hf5 with e | e
          · intro g hg; rw [e] at hg; cases hg
          · exact e
        refine hK _ _ _ (fun _ h => h) ⟨⟨cell_keep hb5' g0, cell_keep hb5' g1, cell_keep hb5' g2, cell_keep hb5' g3, cell_keep hb5' g4⟩, hb5'⟩ ?_
        clear hK K hS hu5 hf5
        try simp only [Act.put, List.setIfInBounds_toArray, List.set_cons_zero, List.set_cons_succ]
        repeat (first | (refine lexG_take _ ?_ rfl rfl rfl rfl (fun _ => ?_) ?_; rotate_left; (focus (go_simp; with_reducible rfl)); try simp only [Act.put, List.setIfInBounds_toArray, List.set_cons_zero, List.set_cons_succ]) | (refine lexG_held _ ?_ rfl rfl rfl rfl (by assumption) (fun _ hSw => ?_) ?_; rotate_left; (focus ((try dsimp only at hSw); go_simp; with_reducible rfl)); try simp only [Act.put, List.setIfInBounds_toArray, List.set_cons_zero, List.set_cons_succ]) | (refine lexG_skip _ rfl rfl (by assumption) ?_; try simp only [Act.put, List.setIfInBounds_toArray, List.set_cons_zero, List.set_cons_succ]))
        refine lexG_nil ?_
        have e0 := cell_keep hb5' g0
        have e1 := cell_keep hb5' g1
        have e2 := cell_keep hb5' g2
        have e3 := cell_keep hb5' g3
        have e4 := cell_keep hb5' g4
        clear g0 g1 g2 g3 g4
        go_wp2_with fail
        refine (hcl.out w5 hb5').mono ?_
        clear hcl
        rintro e w6 ⟨cs6, rfl, hv6, hb6'⟩
        dsimp only
        have hb6 := below_then hb6' hb5'
        have hcs5 := hv6.size
        have hone := hv6.one
        obtain ⟨a0, a1, a2, a3, a4, rfl⟩ : ∃ a0 a1 a2 a3 a4, cs6 = #[a0, a1, a2, a3, a4] := by
          match cs6, hcs5 with
          | ⟨[a0, a1, a2, a3, a4]⟩, _ => exact ⟨a0, a1, a2, a3, a4, rfl⟩
        have hu6 := Upd.of_below_size (S := fun _ => False) hb6
        have hv6' : VOwn w6 (fun g => wr.heap.size ≤ g) (cleanV v) #[a0, a1, a2, a3, a4] := hv6.mono (fun g _ hg => Nat.le_trans hb5'.size hg)
        have how := (R.R.ho.upd hu6 (fun g _ h => h)).alloc (.cells #[a0, a1, a2, a3, a4] 26)
        rw [List.length_map, hm] at how
        have ho6 := (ho5.below hb6' (Nat.le_refl _)).alloc (.cells #[a0, a1, a2, a3, a4] 26)
        have hsrc := Reads.lit (size := 5) w6 #[a0, a1, a2, a3, a4] 26 (0, 0) 1 [a0, a1, a2, a3, a4] rfl rfl
        have hbw := R.hB.trans (hb6.mono hbs)
        clear e0 e1 e2 e3 e4 hcs5
        go_wp2_with (at_builtin; go_must (refine wpList_append_mine rfl _ _ 24 24 rfl 26 i1 _ 5 64 Try.underlying24 gi gz0 gz1 gz2 rfl rfl how rfl (Src.ofReads Try.underlying24 _ hsrc (by intro u hu; exact hone u (by simpa using hu))) ?b1 ?b2 ?grow))
        case b1 => unfold maxLen; omega
        case b2 => omega
        case grow =>
          intro A8 c8 w8 ho8 hg8 hat8
          have R8 := R.R.push hbs hu6 (fun _ h => h.elim) hv6' ⟨_, rfl⟩ (by rw [List.length_map, hm]; exact ho8) hg8 (by rw [World.size_alloc]; exact hat8)
          rw [← hkn.out] at R8
          have ho8b := ho6.upd ((Upd.refl (fun g => some g = bOf Aw) _).grown hg8 (fun k e _ => e.symm)) (fun g hg e => ho6.ne_own how (by decide) g hg e.symm)
          have hb8 : Below w1.heap.size w1 w8 := (hbw.alloc (Nat.le_trans hbs hb6.size) (.cells #[a0, a1, a2, a3, a4] 26)).grown hg8 (Nat.le_trans (Nat.le_trans hbs hb6.size) (by simp)) (fun k hk => R.R.hA k hk)
          have hnew : TRel l w1 w8 (j + 1) A5 c5 r A8 c8 _ _ := ⟨hlt, hrq.out, ho8b, fun g hg => Nat.le_trans hbs (hA5 g hg), R8, hb8⟩
          clear R8 ho8b hb8 R how ho6 hsrc hbw hv6' hv6 hone hu6 ho8 hg8 hat8 ho5 hb6 hb6' hb5'
          replace hnew := Lib.hid hnew
          go_wp2_with fail
          go_roundw
          case rel => exact ⟨j + 1, A5, c5, r, A8, c8, _, _, by simp, rfl, by rw [hkm.out], hnew.out⟩
          case measure => simp [intOf]; omega
      · have hput := fun w4 (hb4 : Below wr.heap.size wr w4) => ref_put_no (A := Ab) (m := q.length) (c := q.length) hvr hck (hbb.trans (hb4.mono (Nat.le_trans hb1.size hbs))) (Nat.le_trans (Nat.le_trans hb1.size hbs) hb4.size)
        have hkn := kept_no hlt hck
        have hne : ((checkV l[j] : Int) == 0) = false := by rw [beq_eq_false_iff_ne]; omega
        generalize checkV l[j] = x at *
        replace hput := Lib.hid hput
        replace hkn := Lib.hid hkn
        clear hform hgk hck hokj
        go_wp2_with fail
        refine wp_region_lex (fun W => (W.cell? (ad.add (j * 5)) = some (.int .i64 k') ∧ W.cell? ⟨(ad.add (j * 5)).block, (ad.add (j * 5)).off + 1, none⟩ = some (.int .i64 i') ∧ W.cell? ⟨(ad.add (j * 5)).block, (ad.add (j * 5)).off + 2, none⟩ = some (.float .f64 f') ∧ W.cell? ⟨(ad.add (j * 5)).block, (ad.add (j * 5)).off + 3, none⟩ = some (.string s') ∧ W.cell? ⟨(ad.add (j * 5)).block, (ad.add (j * 5)).off + 4, none⟩ = some (.slice A' n' c')) ∧ Below wr.heap.size wr W) [9] [10] [0, 1, 2, 3, 4, 5, 6, 7, 8, 9, 10, 11, 12, 13, 14, 15] (by kernel_rfl) rfl (by kernel_rfl) (by kernel_rfl) (fun _ _ d _ _ h => by cases d <;> exact h) ?_
        repeat (first | (refine lexG_take _ ?_ rfl rfl rfl rfl (fun _ => ?_) ?_; rotate_left; (focus (go_simp; with_reducible rfl)); try simp only [Act.put, List.setIfInBounds_toArray, List.set_cons_zero, List.set_cons_succ]) | (refine lexG_held _ ?_ rfl rfl rfl rfl (by assumption) (fun _ hSw => ?_) ?_; rotate_left; (focus ((try dsimp only at hSw); go_simp; with_reducible rfl)); try simp only [Act.put, List.setIfInBounds_toArray, List.set_cons_zero, List.set_cons_succ]) | (refine lexG_skip _ rfl rfl (by assumption) ?_; try simp only [Act.put, List.setIfInBounds_toArray, List.set_cons_zero, List.set_cons_succ]))
        refine lexG_now _ rfl rfl rfl (fun K hK => ?_)
        go_wp2_with fail
        refine (hput.out wr.drew hS.2).mono ?_
        clear hput
        rintro e w5 ⟨rfl, hb5⟩
        dsimp only
        have hb5' : Below wr.heap.size wr w5 := below_of_drew hb5
        refine hK _ _ _ (fun _ h => h) ⟨⟨cell_keep hb5' g0, cell_keep hb5' g1, cell_keep hb5' g2, cell_keep hb5' g3, cell_keep hb5' g4⟩, hb5'⟩ ?_
        clear hK K hS
        try simp only [Act.put, List.setIfInBounds_toArray, List.set_cons_zero, List.set_cons_succ]
        repeat (first | (refine lexG_take _ ?_ rfl rfl rfl rfl (fun _ => ?_) ?_; rotate_left; (focus (go_simp; with_reducible rfl)); try simp only [Act.put, List.setIfInBounds_toArray, List.set_cons_zero, List.set_cons_succ]) | (refine lexG_held _ ?_ rfl rfl rfl rfl (by assumption) (fun _ hSw => ?_) ?_; rotate_left; (focus ((try dsimp only at hSw); go_simp; with_reducible rfl)); try simp only [Act.put, List.setIfInBounds_toArray, List.set_cons_zero, List.set_cons_succ]) | (refine lexG_skip _ rfl rfl (by assumption) ?_; try simp only [Act.put, List.setIfInBounds_toArray, List.set_cons_zero, List.set_cons_succ]))
        refine lexG_nil ?_
        have hnew : TRel l w1 w5 (j + 1) Ab cb q Aw cw xs css := ⟨hlt, by rw [hkn.out]; exact R.hq, R.ho.below hb5' (Nat.le_refl _), R.hb, by rw [hkn.out]; exact R.R.upd (Upd.of_below_size (S := fun _ => False) hb5') (fun _ _ h => h), R.hB.trans (hb5'.mono hbs)⟩
        clear R g0 g1 g2 g3 g4 hb5 hb5'
        replace hnew := Lib.hid hnew
        go_wp2_with fail
        go_roundw
        case rel => exact ⟨j + 1, Ab, cb, q, Aw, cw, _, _, by simp, rfl, by rw [hkn.out, hm], hnew.out⟩
        case measure => simp [intOf]; omega
    · have hj' : j = l.length := by omega
      subst hj'
      obtain ⟨K, hK⟩ : ∃ K, kept l = K := ⟨_, rfl⟩
      have hq := R.hq
      have hR := R.R
      rw [List.take_length, hK] at hq hR hm
      have hKok : ∀ v, v ∈ K → OkV v ∧ checkV v = 0 := fun v hv => by
        rw [← hK] at hv
        exact ⟨hok v (kept_ok hv).1, (kept_ok hv).2⟩
      have hrw : Reads wr wr.heap.size 5 Aw (K.map cleanV).length xs := hR.ho.reads_
      have hxw : ∀ (j : Nat) (v : Val), (K.map cleanV)[j]? = some v → VReads wr wr.heap.size v (css j) := fun j v h => (hR.hx j v h).reads
      have hxsw := hR.hxs
      have hrb := R.ho.reads_
      have hcb := R.ho.le_cap
      have hAb := fun h => R.ho.none_cap h
      have hBw := R.hB
      have hmK : m = K.length := hm.symm
      subst hmK
      clear R hR hr hx hxs hok hm hK hbs
      go_wp2_with fail
      generalize wr = w2 at *
      have hb2 := below_then hBw hb1
      go_loopw [3, 8] (fun bb ii wr => ∃ (j2 : Nat) (A3 : Option Addr) (c3 : Nat) (t : List UInt8), ii = .int .i64 (j2 : Int) ∧ bb = .slice A3 t.length c3 ∧ j2 ≤ K.length ∧ t = encL (K.drop j2) ∧ Reads wr w2.heap.size 1 A3 t.length (bys t) ∧ t.length ≤ c3 ∧ (A3 = none → c3 = 0) ∧ Below w2.heap.size w2 wr) (fun _ ii _ => K.length - (intOf ii).toNat)
      case atStart => exact ⟨0, Ab, cb, q, rfl, rfl, Nat.zero_le _, hq, hrb, hcb, hAb, Below.refl _ _⟩
      case round =>
        obtain ⟨j2, A3, c3, t, rfl, rfl, hj2, ht, hrt, hct, hAt, hbt⟩ := hrel
        by_cases hlt : j2 < K.length
        · have hlw : j2 < (K.map cleanV).length := by simpa using hlt
          obtain ⟨hok2, hck2⟩ := hKok K[j2] (List.getElem_mem hlt)
          obtain ⟨hst, hg8, hz8⟩ := checkV_zero hck2
          have htb : t.length ≤ 200000 := by
            have h1 := encL_bound (K.drop j2) (fun v hv => (hKok v (List.mem_of_mem_drop hv)).2)
            rw [List.length_drop] at h1
            have h3 : (K.length - j2) * 4096 ≤ 40 * 4096 := Nat.mul_le_mul_right _ (by omega)
            rw [ht]
            omega
          obtain ⟨t2, ht2⟩ : ∃ t2, encL (K.drop (j2 + 1)) = t2 := ⟨_, rfl⟩
          have htt : t = encV K[j2] ++ t2 := by rw [ht, encL_drop K j2 hlt, ht2]
          have hpv : pv 8 t = some (cleanV K[j2], sizeV K[j2]) := by rw [htt]; exact pv_enc _ 8 _ hok2 hst hg8
          have hdrop : t.drop (sizeV K[j2]) = t2 := by rw [htt, ← encV_len, List.drop_left]
          have hlen : t.length = sizeV K[j2] + t2.length := by rw [htt, List.length_append, encV_len]
          have hvp := sizeV_pos2 K[j2]
          have hwe := (kid (wr := w2) hrw hxw hxsw (Below.refl _ _) hlw)
          obtain ⟨ae, k9, i9, f9, s9, A9, n9, c9, hAw, hform9, hgk9, g0, g1, g2, g3, g4⟩ := hwe
          have hvw := hxw j2 _ hgk9
          rw [hform9] at hvw
          have hgc : (K.map cleanV)[j2] = cleanV K[j2] := by simp
          rw [hgc] at hvw
          clear hform9 hgk9 hgc
          generalize cleanV K[j2] = V at *
          obtain ⟨Z, hZ⟩ : ∃ Z, sizeV K[j2] = Z := ⟨_, rfl⟩
          rw [hZ] at hpv hdrop hlen hz8 hvp
          clear hZ hst hg8 hok2 hck2 htt ht
          have hrd := wire_read_all (hrt.more hbt.size) hAt hct (by omega) _ hpv (fun v' m' e => by cases e; exact hz8)
          obtain ⟨at7, hA3, -, -⟩ := hrt.2 (by omega)
          have hcut := hrt.cut (k := Z) (cap := c3) (by omega) hct
          subst hA3 hAw
          rw [Nat.mul_one, bys_drop, hdrop] at hcut
          have ht2l : t.length - Z = t2.length := by omega
          rw [ht2l] at hcut
          have hZt : Z ≤ t.length := by omega
          obtain ⟨N, hN⟩ : ∃ N, t.length = N := ⟨_, rfl⟩
          rw [hN] at hrd hct hlen ht2l htb hZt ⊢
          replace ht2l := Lib.hid ht2l
          replace hlen := Lib.hid hlen
          replace ht2 := Lib.hid ht2.symm
          have hKm : (K.map cleanV).length = K.length := by simp
          rw [hKm] at hlw
          clear hpv hdrop hrt hN hKm
          go_wp2_with fail
          refine hrd.mono ?_
          clear hrd
          rintro e w7 ⟨cs7, rfl, hv7, hb7⟩
          dsimp only
          obtain ⟨k7, i7, f7, s7, A7, n7, c7, hform⟩ := hv7.reads.form
          subst hform
          have hbx7 := Blk.new w7 26 #[.int .i64 k7, .int .i64 i7, .float .f64 f7, .string s7, .slice A7 n7 c7]
          have hv77 := hv7.upd ((Upd.refl (fun _ => False) w7).alloc (.cells #[.int .i64 k7, .int .i64 i7, .float .f64 f7, .string s7, .slice A7 n7 c7] 26)) (fun _ _ h => h)
          have hb77 := (below_then hb7 hbt).alloc (below_then hb7 hbt).size (.cells #[.int .i64 k7, .int .i64 i7, .float .f64 f7, .string s7, .slice A7 n7 c7] 26)
          have hb78 := (hb7.mono hbt.size).alloc (Nat.le_trans hbt.size hb7.size) (.cells #[.int .i64 k7, .int .i64 i7, .float .f64 f7, .string s7, .slice A7 n7 c7] 26)
          go_wp2_with fail
          generalize hw8 : w7.alloc (.cells #[.int .i64 k7, .int .i64 i7, .float .f64 f7, .string s7, .slice A7 n7 c7] 26) = w8 at *
          have hS : (w8.drew.cell? ⟨w7.heap.size, 0, none⟩ = some (.int .i64 k7) ∧ w8.drew.cell? ⟨w7.heap.size, 1, none⟩ = some (.int .i64 i7) ∧ w8.drew.cell? ⟨w7.heap.size, 2, none⟩ = some (.float .f64 f7) ∧ w8.drew.cell? ⟨w7.heap.size, 3, none⟩ = some (.string s7) ∧ w8.drew.cell? ⟨w7.heap.size, 4, none⟩ = some (.slice A7 n7 c7)) ∧ (w8.drew.cell? (ae.add (j2 * 5)) = some (.int .i64 k9) ∧ w8.drew.cell? ⟨(ae.add (j2 * 5)).block, (ae.add (j2 * 5)).off + 1, none⟩ = some (.int .i64 i9) ∧ w8.drew.cell? ⟨(ae.add (j2 * 5)).block, (ae.add (j2 * 5)).off + 2, none⟩ = some (.float .f64 f9) ∧ w8.drew.cell? ⟨(ae.add (j2 * 5)).block, (ae.add (j2 * 5)).off + 3, none⟩ = some (.string s9) ∧ w8.drew.cell? ⟨(ae.add (j2 * 5)).block, (ae.add (j2 * 5)).off + 4, none⟩ = some (.slice A9 n9 c9)) ∧ Below w8.heap.size w8 w8.drew := ⟨⟨hbx7.cell 0, hbx7.cell 1, hbx7.cell 2, hbx7.cell 3, hbx7.cell 4⟩, ⟨cell_keep hb77.drew g0, cell_keep hb77.drew g1, cell_keep hb77.drew g2, cell_keep hb77.drew g3, cell_keep hb77.drew g4⟩, (Below.refl _ _).drew⟩
          have hsm := fun w9 (hb9 : Below w8.heap.size w8 w9) => same_true ((hv77.upd (Upd.of_below_size (S := fun _ => False) hb9) (fun _ _ h => h)).reads) #[.int .i64 k9, .int .i64 i9, .float .f64 f9, .string s9, .slice A9 n9 c9] w9 ((hvw.under (hb77.trans (hb9.mono hb77.size))).up (Nat.le_trans hb77.size hb9.size)) (Below.refl _ _) (Nat.le_refl _)
          replace hw8 := Lib.hid hw8
          replace hsm := Lib.hid hsm
          clear hv7 hb7 hbx7 hv77 g0 g1 g2 g3 g4
          refine wp_region_lex (fun W => (W.cell? ⟨w7.heap.size, 0, none⟩ = some (.int .i64 k7) ∧ W.cell? ⟨w7.heap.size, 1, none⟩ = some (.int .i64 i7) ∧ W.cell? ⟨w7.heap.size, 2, none⟩ = some (.float .f64 f7) ∧ W.cell? ⟨w7.heap.size, 3, none⟩ = some (.string s7) ∧ W.cell? ⟨w7.heap.size, 4, none⟩ = some (.slice A7 n7 c7)) ∧ (W.cell? (ae.add (j2 * 5)) = some (.int .i64 k9) ∧ W.cell? ⟨(ae.add (j2 * 5)).block, (ae.add (j2 * 5)).off + 1, none⟩ = some (.int .i64 i9) ∧ W.cell? ⟨(ae.add (j2 * 5)).block, (ae.add (j2 * 5)).off + 2, none⟩ = some (.float .f64 f9) ∧ W.cell? ⟨(ae.add (j2 * 5)).block, (ae.add (j2 * 5)).off + 3, none⟩ = some (.string s9) ∧ W.cell? ⟨(ae.add (j2 * 5)).block, (ae.add (j2 * 5)).off + 4, none⟩ = some (.slice A9 n9 c9)) ∧ Below w8.heap.size w8 W) [3, 7] [8] [0, 1, 2, 3, 4, 5, 6, 7, 8, 9, 10] (by kernel_rfl) rfl (by kernel_rfl) (by kernel_rfl) (fun _ _ d _ _ h => by cases d <;> exact h) ?_
          repeat (first | (refine lexG_take _ ?_ rfl rfl rfl rfl (fun _ => ?_) ?_; rotate_left; (focus (go_simp; with_reducible rfl)); try simp only [Act.put, List.setIfInBounds_toArray, List.set_cons_zero, List.set_cons_succ]) | (refine lexG_held _ ?_ rfl rfl rfl rfl (by assumption) (fun _ hSw => ?_) ?_; rotate_left; (focus ((try dsimp only at hSw); go_simp; with_reducible rfl)); try simp only [Act.put, List.setIfInBounds_toArray, List.set_cons_zero, List.set_cons_succ]) | (refine lexG_skip _ rfl rfl (by assumption) ?_; try simp only [Act.put, List.setIfInBounds_toArray, List.set_cons_zero, List.set_cons_succ]))
          refine lexG_now _ rfl rfl rfl (fun K hK => ?_)
          go_wp2_with fail
          refine (hsm.out w8.drew hS.2.2).mono ?_
          clear hsm
          rintro e w9 ⟨rfl, hb9⟩
          dsimp only
          obtain ⟨⟨p0, p1, p2, p3, p4⟩, ⟨g0, g1, g2, g3, g4⟩, hb8⟩ := hS
          have hb9' := below_then hb9 hb8
          have hb99 := below_then hb9' hb77
          have hb99' := hb9'
          refine hK _ _ _ (fun _ h => h) ⟨⟨cell_keep hb9 p0, cell_keep hb9 p1, cell_keep hb9 p2, cell_keep hb9 p3, cell_keep hb9 p4⟩, ⟨cell_keep hb9 g0, cell_keep hb9 g1, cell_keep hb9 g2, cell_keep hb9 g3, cell_keep hb9 g4⟩, hb9'⟩ ?_
          clear hK K p0 p1 p2 p3 p4 g0 g1 g2 g3 g4 hb8 hb9 hb9'
          try simp only [Act.put, List.setIfInBounds_toArray, List.set_cons_zero, List.set_cons_succ]
          repeat (first | (refine lexG_take _ ?_ rfl rfl rfl rfl (fun _ => ?_) ?_; rotate_left; (focus (go_simp; with_reducible rfl)); try simp only [Act.put, List.setIfInBounds_toArray, List.set_cons_zero, List.set_cons_succ]) | (refine lexG_held _ ?_ rfl rfl rfl rfl (by assumption) (fun _ hSw => ?_) ?_; rotate_left; (focus ((try dsimp only at hSw); go_simp; with_reducible rfl)); try simp only [Act.put, List.setIfInBounds_toArray, List.set_cons_zero, List.set_cons_succ]) | (refine lexG_skip _ rfl rfl (by assumption) ?_; try simp only [Act.put, List.setIfInBounds_toArray, List.set_cons_zero, List.set_cons_succ]))
          refine lexG_nil ?_
          by_cases hcn : c3 = Z
          · rw [if_pos hcn] at hcut
            have hcut' := hcut.below (hb78.trans (hb99'.mono hb77.size))
            have hct2 : t2.length ≤ 0 := by have := hlen.out; omega
            go_wp2_with fail
            go_roundw
            case rel => exact ⟨j2 + 1, some at7, 0, t2, by simp, by rw [ht2l.out], hlt, ht2.out, hcut', hct2, by simp, by assumption⟩
            case measure => simp [intOf]; omega
          · rw [if_neg hcn, Option.map_some] at hcut
            have hcut' := hcut.below (hb78.trans (hb99'.mono hb77.size))
            have hct2 : t2.length ≤ c3 - Z := by have := hlen.out; omega
            go_wp2_with fail
            go_roundw
            case rel => exact ⟨j2 + 1, some (at7.add Z), c3 - Z, t2, by simp, by rw [ht2l.out], hlt, ht2.out, hcut', hct2, by simp, by assumption⟩
            case measure => simp [intOf]; omega
        · have hj3 : j2 = K.length := by omega
          subst hj3
          rw [List.drop_length] at ht
          have ht0 : t.length = 0 := by rw [ht]; rfl
          rw [ht0]
          have hfin := below_then hbt hb2
          clear hrt hct
          go_wp2_with fail
          go_ret
          exact ⟨rfl, hfin⟩
end Go.Proofs.Ytafogjonicdbmaa
