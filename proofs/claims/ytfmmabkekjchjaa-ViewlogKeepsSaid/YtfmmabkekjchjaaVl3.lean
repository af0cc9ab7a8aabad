/- Fresh: whether a call may come into a log. -/
import Derived.Test.YtfmmabkekjchjaaVl2
set_option linter.unusedSimpArgs false
set_option linter.unusedVariables false
namespace Go.Proofs.Ytfmmabkekjchjaa
open Go.RowKit
set_option maxRecDepth 100000

def idE (oc os on : Nat) (x : Nat × OpD) : Bool := (x.2.c : Int) == (oc : Int) && ((x.2.s : Int) == (os : Int) && (x.2.n : Int) == (on : Int))
def freshB (l : List (Nat × OpD)) (oc os on : Nat) : Bool := decide (l.length < 400) && !(l.any (idE oc os on))

theorem fresh1 {w : World} {v c s n K cc b oc os_ on oL occ : Nat} {gg mm og om : ByteArray} {A oA : Option Addr} {q : Bool} (hb : Blk w b 50 #[.int .u32 (oc : Int), .int .u32 (os_ : Int), .int .u16 (on : Int), .string og, .string om, .slice oA oL occ]) (hq : ((c : Int) == (oc : Int) && ((s : Int) == (os_ : Int) && (n : Int) == (on : Int))) = q) :
    Calls Try.prog 33 #[.agg #[.int .u64 (v : Int), .int .u32 (c : Int), .int .u32 (s : Int), .int .u16 (n : Int), .string gg, .string mm, .slice A K cc], .pointer (some ⟨b, 0, none⟩)] w (Says w (.bool q)) := by
  have h1 := (hb.alloc (.cells #[.int .u64 (v : Int), .int .u32 (c : Int), .int .u32 (s : Int), .int .u16 (n : Int), .string gg, .string mm, .slice A K cc] 54)).op6
  have h2 := (Blk.new w 54 #[.int .u64 (v : Int), .int .u32 (c : Int), .int .u32 (s : Int), .int .u16 (n : Int), .string gg, .string mm, .slice A K cc]).ent7
  have hbl := fun x => (Below.refl w.heap.size w).alloc (Nat.le_refl _) x
  clear hb
  by_cases hid : c = oc ∧ s = os_ ∧ n = on
  · obtain ⟨rfl, rfl, rfl⟩ := hid
    have hqt : q = true := by rw [← hq]; simp
    subst hqt
    clear hq
    go_enter Try.func33, Try.ntmps33
    go_wp2_with fail
    go_ret
    exact ⟨rfl, hbl _⟩
  · have hqf : q = false := by
      cases q
      · rfl
      · simp only [Bool.and_eq_true, beq_iff_eq] at hq
        exact absurd ⟨by omega, by omega, by omega⟩ hid
    subst hqf
    go_enter Try.func33, Try.ntmps33
    go_wp2_with fail
    all_goals (go_ret; exact ⟨rfl, hbl _⟩)

def IdxL (w : World) (p : Nat × OpD → Bool) (l : List (Nat × OpD)) (e : Ending) (w' : World) : Prop := ∃ z : Int, e = .returned (.int .i64 z) ∧ (decide (0 ≤ z)) = l.any p ∧ Below w.heap.size w w'
set_option maxHeartbeats 1600000 in
theorem index_fresh {w : World} {b oc os_ on oL occ : Nat} {og om : ByteArray} {oA : Option Addr} {B c : Nat} {A : Option Addr} {l : List (Nat × OpD)} {xs : List Value} {css : Nat → Array Value} (h : LogR w B A c l xs css) (hB : B ≤ w.heap.size) (hl : l.length ≤ 1000000) (hb : Blk w b 50 #[.int .u32 (oc : Int), .int .u32 (os_ : Int), .int .u16 (on : Int), .string og, .string om, .slice oA oL occ]) :
    Calls Try.prog 50 #[.slice A l.length c, .func (Fn.func 33) #[] #[.pointer (some ⟨b, 0, none⟩)]] w (IdxL w (idE oc os_ on) l) := by
  have hcall : ∀ (x : Nat × OpD) (w1 : World) (A1 : Option Addr) (c1 : Nat), Below w.heap.size w w1 → Calls Try.prog 33 #[.agg #[.int .u64 (x.1 : Int), .int .u32 (x.2.c : Int), .int .u32 (x.2.s : Int), .int .u16 (x.2.n : Int), .string (bstr x.2.g), .string (bstr x.2.m), .slice A1 x.2.l.length c1], .pointer (some ⟨b, 0, none⟩)] w1 (Says w1 (.bool (idE oc os_ on x))) :=
    fun x w1 A1 c1 hw1 => fresh1 (hb.below hw1 hb.lt) rfl
  replace hcall := Lib.hid hcall
  generalize idE oc os_ on = p at *
  obtain ⟨N, hN⟩ : ∃ N, l.length = N := ⟨_, rfl⟩
  rw [hN] at hl ⊢
  replace hN := Lib.hid hN
  replace h := Lib.hid h
  go_enter Try.func50, Try.ntmps50
  go_wp2_with fail
  go_loopw [8] (fun i wr => ∃ k : Nat, k ≤ N ∧ i = .int .i64 (k : Int) ∧ (l.take k).any p = false ∧ Below w.heap.size w wr) (fun i _ => N - (intOf i).toNat)
  case atStart => exact ⟨0, Nat.zero_le _, rfl, by simp, Below.refl _ _⟩
  case round =>
    rename_i hrel
    obtain ⟨k, hk, rfl, hany, hbr⟩ := hrel
    by_cases hlt : k < N
    · have hlt' : k < l.length := by rw [hN.out]; exact hlt
      have hx : l[k]? = some l[k] := List.getElem?_eq_getElem _
      have hLr := h.out.below (hbr.mono hB)
      have htk : (l.take (k + 1)).any p = ((l.take k).any p || p l[k]) := by rw [List.take_succ_eq_append_getElem hlt', List.any_append]; simp
      have hall : p l[k] = true → l.any p = true := fun hp => List.any_eq_true.2 ⟨l[k], List.getElem_mem hlt', hp⟩
      generalize l[k] = x at hx htk hall
      obtain ⟨ad, A1, c1, rfl, hcs1, ho⟩ := hLr.form hx
      have hcells := hLr.cells7 hx hcs1
      have hcl := hcall.out x wr A1 c1 hbr
      obtain ⟨v, ⟨oc', os', on', og', om', ol⟩⟩ := x
      dsimp only at hcells hcl
      obtain ⟨og, hog⟩ : ∃ og, bstr og' = og := ⟨_, rfl⟩
      obtain ⟨om, hom⟩ : ∃ om, bstr om' = om := ⟨_, rfl⟩
      obtain ⟨oL, hoL⟩ : ∃ oL, ol.length = oL := ⟨_, rfl⟩
      rw [hog, hom, hoL] at hcells hcl
      generalize p (v, ⟨oc', os', on', og', om', ol⟩) = q at hcl htk hall
      replace hany := Lib.hid hany
      replace htk := Lib.hid htk
      replace hall := Lib.hid hall
      have d2 : decide ((k : Int) < (N : Int)) = true := decide_eq_true (by omega)
      have hnw : IntKind.i64.wrap ((k : Int) + 1) = ((k + 1 : Nat) : Int) := by rw [IntKind.wrap_i64]; omega
      clear hog hom hoL hx ho hcs1 hLr hb hcall
      go_wp2_with fail
      refine hcl.mono ?_
      clear hcl
      rintro e w2 ⟨rfl, hb2⟩
      try dsimp only
      have hb2' := below_then hb2 hbr
      clear hcells
      cases q
      · go_wp2_with fail
        exact ⟨⟨k + 1, by omega, by simp [hnw], by rw [htk.out, hany.out]; rfl, hb2'⟩, by simp [intOf]; omega⟩
      · go_wp2_with fail
        go_ret
        exact ⟨_, rfl, by rw [hall.out (by trivial)]; exact decide_eq_true (by omega), hb2'⟩
    · have hk' : k = N := by omega
      rw [List.take_of_length_le (by rw [hN.out]; omega)] at hany
      subst hk'
      replace hany := Lib.hid hany
      have d2 : decide ((k : Int) < (k : Int)) = false := decide_eq_false (by omega)
      go_wp2_with fail
      go_ret
      exact ⟨_, rfl, by rw [hany.out]; simp, hbr⟩

theorem contains_fresh {w : World} {b oc os_ on oL occ : Nat} {og om : ByteArray} {oA : Option Addr} {B c : Nat} {A : Option Addr} {l : List (Nat × OpD)} {xs : List Value} {css : Nat → Array Value} (h : LogR w B A c l xs css) (hB : B ≤ w.heap.size) (hl : l.length ≤ 1000000) (hb : Blk w b 50 #[.int .u32 (oc : Int), .int .u32 (os_ : Int), .int .u16 (on : Int), .string og, .string om, .slice oA oL occ]) :
    Calls Try.prog 32 #[.slice A l.length c, .func (Fn.func 33) #[] #[.pointer (some ⟨b, 0, none⟩)]] w (Says w (.bool (l.any (idE oc os_ on)))) := by
  have hidx := Lib.hid (index_fresh h hB hl hb)
  clear h hb
  go_enter Try.func32, Try.ntmps32
  go_wp2_with fail
  refine hidx.out.mono ?_
  rintro e w1 ⟨z, rfl, hz, hb⟩
  dsimp only
  replace hz := Lib.hid hz
  go_wp2_with fail
  go_ret
  refine ⟨?_, hb⟩
  rw [← hz.out]
  rfl

set_option maxHeartbeats 1600000 in
theorem vl_fresh {w : World} {oc os_ on oL occ : Nat} {og om : ByteArray} {oA : Option Addr} {B c : Nat} {A : Option Addr} {l : List (Nat × OpD)} {xs : List Value} {css : Nat → Array Value} (h : LogR w B A c l xs css) (hB : B ≤ w.heap.size) (hl : l.length ≤ 1000000) :
    Calls Try.prog 20 #[.slice A l.length c, .agg #[.int .u32 (oc : Int), .int .u32 (os_ : Int), .int .u16 (on : Int), .string og, .string om, .slice oA oL occ]] w (Says w (.bool (freshB l oc os_ on))) := by
  have hb := Blk.new w 50 #[.int .u32 (oc : Int), .int .u32 (os_ : Int), .int .u16 (on : Int), .string og, .string om, .slice oA oL occ]
  have hbl := (Below.refl w.heap.size w).alloc (Nat.le_refl _) (.cells #[.int .u32 (oc : Int), .int .u32 (os_ : Int), .int .u16 (on : Int), .string og, .string om, .slice oA oL occ] 50)
  have hc := fun W (hW : Below (w.alloc (.cells #[.int .u32 (oc : Int), .int .u32 (os_ : Int), .int .u16 (on : Int), .string og, .string om, .slice oA oL occ] 50)).heap.size (w.alloc (.cells #[.int .u32 (oc : Int), .int .u32 (os_ : Int), .int .u16 (on : Int), .string og, .string om, .slice oA oL occ] 50)) W) => contains_fresh (h.below ((below_then hW hbl).mono hB)) (Nat.le_trans hB (below_then hW hbl).size) hl (hb.below hW hb.lt)
  unfold freshB
  obtain ⟨N, hN⟩ : ∃ N, l.length = N := ⟨_, rfl⟩
  rw [hN] at hc ⊢
  generalize l.any (idE oc os_ on) = q at hc ⊢
  replace hc := Lib.hid hc
  clear hb
  go_enter Try.func20, Try.ntmps20
  by_cases hlt : N < 400
  · have d1 : decide ((N : Int) < 400) = true := decide_eq_true (by omega)
    have d2 : decide (N < 400) = true := decide_eq_true hlt
    go_wp2_with fail
    refine (hc.out _ (Below.refl _ _)).mono ?_
    rintro e w2 ⟨rfl, hb2⟩
    try dsimp only
    have hb2' := below_then hb2 hbl
    go_wp2_with fail
    go_ret
    exact ⟨by rw [d2]; cases q <;> rfl, hb2'⟩
  · have d1 : decide ((N : Int) < 400) = false := decide_eq_false (by omega)
    have d2 : decide (N < 400) = false := decide_eq_false hlt
    go_wp2_with fail
    go_ret
    exact ⟨by rw [d2]; rfl, hbl⟩

set_option maxHeartbeats 1600000 in
theorem ref_fresh {w : World} {oc os_ on oL occ : Nat} {og om : ByteArray} {oA : Option Addr} {B c : Nat} {A : Option Addr} {l : List (Nat × OpD)} {xs : List Value} {css : Nat → Array Value} (h : LogR w B A c l xs css) (hB : B ≤ w.heap.size) (hl : l.length ≤ 1000000) :
    Calls Try.prog 21 #[.slice A l.length c, .agg #[.int .u32 (oc : Int), .int .u32 (os_ : Int), .int .u16 (on : Int), .string og, .string om, .slice oA oL occ]] w (Says w (.bool (freshB l oc os_ on))) := by
  have hb0 := Blk.new w 50 #[.int .u32 (oc : Int), .int .u32 (os_ : Int), .int .u16 (on : Int), .string og, .string om, .slice oA oL occ]
  have hbl := (Below.refl w.heap.size w).alloc (Nat.le_refl _) (.cells #[.int .u32 (oc : Int), .int .u32 (os_ : Int), .int .u16 (on : Int), .string og, .string om, .slice oA oL occ] 50)
  unfold freshB
  have hpx : ∀ x : Nat × OpD, idE oc os_ on x = ((x.2.c : Int) == (oc : Int) && ((x.2.s : Int) == (os_ : Int) && (x.2.n : Int) == (on : Int))) := fun _ => rfl
  generalize idE oc os_ on = p at *
  obtain ⟨N, hN⟩ : ∃ N, l.length = N := ⟨_, rfl⟩
  rw [hN] at hl ⊢
  replace hN := Lib.hid hN
  replace h := Lib.hid h
  replace hpx := Lib.hid hpx
  go_enter Try.func21, Try.ntmps21
  go_wp2_with fail
  go_loopw [5] (fun i wr => ∃ k : Nat, k ≤ N ∧ i = .int .i64 (k : Int) ∧ (l.take k).any p = false ∧ Below w.heap.size w wr ∧ Blk wr w.heap.size 50 #[.int .u32 (oc : Int), .int .u32 (os_ : Int), .int .u16 (on : Int), .string og, .string om, .slice oA oL occ]) (fun i _ => N - (intOf i).toNat)
  case atStart => exact ⟨0, Nat.zero_le _, rfl, by simp, hbl, hb0⟩
  case round =>
    rename_i hrel
    obtain ⟨k, hk, rfl, hany, hbr, hyr⟩ := hrel
    by_cases hlt : k < N
    · have hlt' : k < l.length := by rw [hN.out]; exact hlt
      have hx : l[k]? = some l[k] := List.getElem?_eq_getElem _
      have hLr := h.out.below (hbr.mono hB)
      have htk : (l.take (k + 1)).any p = ((l.take k).any p || p l[k]) := by rw [List.take_succ_eq_append_getElem hlt', List.any_append]; simp
      have hall : p l[k] = true → l.any p = true := fun hp => List.any_eq_true.2 ⟨l[k], List.getElem_mem hlt', hp⟩
      have hpk := hpx.out l[k]
      generalize l[k] = x at hx htk hall hpk
      obtain ⟨ad, A1, c1, rfl, hcs1, ho⟩ := hLr.form hx
      have hcells := hLr.cells7 hx hcs1
      have hcl7 := fun W (hW : Below wr.heap.size wr W) => (hLr.below (hW.mono (Nat.le_trans hB hbr.size))).cells7 hx hcs1
      obtain ⟨v, ⟨oc', os', on', og', om', ol⟩⟩ := x
      dsimp only at hcells hpk hcl7
      have hy6 := hyr.op6
      generalize p (v, ⟨oc', os', on', og', om', ol⟩) = q at hpk htk hall
      have hpk' := hpk.symm
      clear hpk
      replace hany := Lib.hid hany
      replace htk := Lib.hid htk
      replace hall := Lib.hid hall
      have d2 : decide ((k : Int) < (N : Int)) = true := decide_eq_true (by omega)
      have hnw : IntKind.i64.wrap ((k : Int) + 1) = ((k + 1 : Nat) : Int) := by rw [IntKind.wrap_i64]; omega
      have hw : ∀ n, Below w.heap.size w (wr.drewN n) ∧ Blk (wr.drewN n) w.heap.size 50 #[.int .u32 (oc : Int), .int .u32 (os_ : Int), .int .u16 (on : Int), .string og, .string om, .slice oA oL occ] := fun n => ⟨below_drewN hbr n, hyr⟩
      clear hx ho hcs1 hLr
      have hS0 : Below wr.heap.size wr wr.drew := (Below.refl _ _).drew
      have hcw := fun W (hW : Below wr.heap.size wr W) => And.intro (hcl7 W hW) (hyr.below hW hyr.lt).op6
      clear hcl7 hcells hy6
      by_cases hid : oc' = oc ∧ os' = os_ ∧ on' = on
      · obtain ⟨rfl, rfl, rfl⟩ := hid
        have hqt : q = true := by rw [← hpk']; simp
        subst hqt
        clear hpk'
        go_wp2_with fail
        refine wp_region_lex (fun W => Below wr.heap.size wr W) [5, 7] [] [0, 1, 2, 3, 4, 5, 6, 7, 8] (by kernel_rfl) rfl (by kernel_rfl) (by kernel_rfl) (fun _ _ d _ _ h => by cases d <;> exact h) ?_
        repeat (first | (refine lexG_take _ ?_ rfl rfl rfl rfl (fun _ => ?_) ?_; rotate_left; (focus (go_simp; with_reducible rfl)); try simp only [Act.put, List.setIfInBounds_toArray, List.set_cons_zero, List.set_cons_succ]) | (refine lexG_held _ ?_ rfl rfl rfl rfl (by assumption) (fun _ hSw => ?_) ?_; rotate_left; (focus (have h1 := hcw _ hSw; clear hSw; go_simp; with_reducible rfl)); try simp only [Act.put, List.setIfInBounds_toArray, List.set_cons_zero, List.set_cons_succ]) | (refine lexG_skip _ rfl rfl (by assumption) ?_; try simp only [Act.put, List.setIfInBounds_toArray, List.set_cons_zero, List.set_cons_succ]))
        refine lexG_nil ?_
        go_wp2_with fail
        go_ret
        exact ⟨by rw [hall.out (by trivial)]; simp, hbr.drew⟩
      · have hqf : q = false := by
          cases q
          · rfl
          · simp only [Bool.and_eq_true, beq_iff_eq] at hpk'
            exact absurd ⟨by omega, by omega, by omega⟩ hid
        subst hqf
        clear hpk'
        have hcase : oc' ≠ oc ∨ (oc' = oc ∧ os' ≠ os_) ∨ (oc' = oc ∧ os' = os_ ∧ on' ≠ on) := by omega
        clear hid
        rcases hcase with hne | ⟨rfl, hne⟩ | ⟨rfl, rfl, hne⟩
        · have e1 : ((oc' : Int) == (oc : Int)) = false := by rw [beq_eq_false_iff_ne]; omega
          have e2 : (oc' == oc) = false := by rw [beq_eq_false_iff_ne]; exact hne
          go_wp2_with fail
          refine wp_region_lex (fun W => Below wr.heap.size wr W) [5, 7] [] [0, 1, 2, 3, 4, 5, 6, 7, 8] (by kernel_rfl) rfl (by kernel_rfl) (by kernel_rfl) (fun _ _ d _ _ h => by cases d <;> exact h) ?_
          repeat (first | (refine lexG_take _ ?_ rfl rfl rfl rfl (fun _ => ?_) ?_; rotate_left; (focus (go_simp; with_reducible rfl)); try simp only [Act.put, List.setIfInBounds_toArray, List.set_cons_zero, List.set_cons_succ]) | (refine lexG_held _ ?_ rfl rfl rfl rfl (by assumption) (fun _ hSw => ?_) ?_; rotate_left; (focus (have h1 := hcw _ hSw; clear hSw; go_simp; with_reducible rfl)); try simp only [Act.put, List.setIfInBounds_toArray, List.set_cons_zero, List.set_cons_succ]) | (refine lexG_skip _ rfl rfl (by assumption) ?_; try simp only [Act.put, List.setIfInBounds_toArray, List.set_cons_zero, List.set_cons_succ]))
          refine lexG_nil ?_
          go_wp2_with fail
          exact ⟨⟨k + 1, by omega, by simp [hnw], by rw [htk.out, hany.out]; rfl, hbr.drew, hyr⟩, by simp [intOf]; omega⟩
        · have e1 : ((os' : Int) == (os_ : Int)) = false := by rw [beq_eq_false_iff_ne]; omega
          have e2 : (os' == os_) = false := by rw [beq_eq_false_iff_ne]; exact hne
          go_wp2_with fail
          refine wp_region_lex (fun W => Below wr.heap.size wr W) [5, 7] [] [0, 1, 2, 3, 4, 5, 6, 7, 8] (by kernel_rfl) rfl (by kernel_rfl) (by kernel_rfl) (fun _ _ d _ _ h => by cases d <;> exact h) ?_
          repeat (first | (refine lexG_take _ ?_ rfl rfl rfl rfl (fun _ => ?_) ?_; rotate_left; (focus (go_simp; with_reducible rfl)); try simp only [Act.put, List.setIfInBounds_toArray, List.set_cons_zero, List.set_cons_succ]) | (refine lexG_held _ ?_ rfl rfl rfl rfl (by assumption) (fun _ hSw => ?_) ?_; rotate_left; (focus (have h1 := hcw _ hSw; clear hSw; go_simp; with_reducible rfl)); try simp only [Act.put, List.setIfInBounds_toArray, List.set_cons_zero, List.set_cons_succ]) | (refine lexG_skip _ rfl rfl (by assumption) ?_; try simp only [Act.put, List.setIfInBounds_toArray, List.set_cons_zero, List.set_cons_succ]))
          refine lexG_nil ?_
          go_wp2_with fail
          exact ⟨⟨k + 1, by omega, by simp [hnw], by rw [htk.out, hany.out]; rfl, hbr.drew, hyr⟩, by simp [intOf]; omega⟩
        · have e1 : ((on' : Int) == (on : Int)) = false := by rw [beq_eq_false_iff_ne]; omega
          have e2 : (on' == on) = false := by rw [beq_eq_false_iff_ne]; exact hne
          go_wp2_with fail
          refine wp_region_lex (fun W => Below wr.heap.size wr W) [5, 7] [] [0, 1, 2, 3, 4, 5, 6, 7, 8] (by kernel_rfl) rfl (by kernel_rfl) (by kernel_rfl) (fun _ _ d _ _ h => by cases d <;> exact h) ?_
          repeat (first | (refine lexG_take _ ?_ rfl rfl rfl rfl (fun _ => ?_) ?_; rotate_left; (focus (go_simp; with_reducible rfl)); try simp only [Act.put, List.setIfInBounds_toArray, List.set_cons_zero, List.set_cons_succ]) | (refine lexG_held _ ?_ rfl rfl rfl rfl (by assumption) (fun _ hSw => ?_) ?_; rotate_left; (focus (have h1 := hcw _ hSw; clear hSw; go_simp; with_reducible rfl)); try simp only [Act.put, List.setIfInBounds_toArray, List.set_cons_zero, List.set_cons_succ]) | (refine lexG_skip _ rfl rfl (by assumption) ?_; try simp only [Act.put, List.setIfInBounds_toArray, List.set_cons_zero, List.set_cons_succ]))
          refine lexG_nil ?_
          go_wp2_with fail
          exact ⟨⟨k + 1, by omega, by simp [hnw], by rw [htk.out, hany.out]; rfl, hbr.drew, hyr⟩, by simp [intOf]; omega⟩
    · have hk' : k = N := by omega
      rw [List.take_of_length_le (by rw [hN.out]; omega)] at hany
      subst hk'
      replace hany := Lib.hid hany
      have d2 : decide ((k : Int) < (k : Int)) = false := decide_eq_false (by omega)
      by_cases h4 : k < 400
      · have d1 : decide ((k : Int) < 400) = true := decide_eq_true (by omega)
        have d3 : decide (k < 400) = true := decide_eq_true h4
        go_wp2_with fail
        go_ret
        exact ⟨by rw [hany.out]; simp [h4], hbr⟩
      · have d1 : decide ((k : Int) < 400) = false := decide_eq_false (by omega)
        have d3 : decide (k < 400) = false := decide_eq_false h4
        go_wp2_with fail
        go_ret
        exact ⟨by simp [h4], hbr⟩
end Go.Proofs.Ytfmmabkekjchjaa
