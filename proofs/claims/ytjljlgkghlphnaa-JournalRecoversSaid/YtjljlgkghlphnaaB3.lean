/- value.Clean, value.Clone (the program's) at any value that is not great. -/
import Derived.Test.YtjljlgkghlphnaaW4
import Derived.Lib.Bytealg
import Derived.Test.YtjljlgkghlphnaaW6
set_option linter.unusedSimpArgs false
set_option linter.unusedVariables false
namespace Go.Proofs.Ytjljlgkghlphnaa
open Go.RowKit

theorem num_canon (x : Nat) (w : World) : Calls Try.prog 93 #[.float .f64 x] w fun e w' => e = .returned (.float .f64 (cb x)) ∧ w = w' := by
  have ho := order_self x
  have hcan : ∀ w, (callFunc 103 #[.int .u64 9221120237041090561]).run Try.prog w = .ok (.value (.float .f64 9221120237041090561)) w := fun w => run_frombits 9221120237041090561 w
  by_cases h : nanB x = true
  · rw [h] at ho
    have hc : cb x = 9221120237041090561 := by unfold cb; rw [if_pos h]
    rw [hc]
    clear h hc
    go_enter Try.func93, Try.ntmps93
    go_wp2
    go_ret
    exact ⟨rfl, rfl⟩
  · rw [Bool.not_eq_true] at h
    rw [h] at ho
    have hc : cb x = x := by unfold cb; rw [h]; rfl
    rw [hc]
    clear h hc
    go_enter Try.func93, Try.ntmps93
    go_wp2
    go_ret
    exact ⟨rfl, rfl⟩

/-- A list's items, cleaned: Clean's list arm. -/
structure CRel (w wr : World) (b : Nat) (l : List Val) (j : Nat) (A1 : Option Addr) (c1 : Nat) (xs1 : List Value) (css1 : Nat → Array Value) : Prop where
  jl : j ≤ l.length
  hz : Blk wr (b + 1) 110 #[.int .i64 0, .int .i64 0, .float .f64 0, .string ⟨#[]⟩, .slice none 0 0]
  hy : Blk wr (b + 2) 110 #[.int .i64 4, .int .i64 0, .float .f64 0, .string ⟨#[]⟩, .slice A1 j c1]
  R : VRow wr (b + 3) ((l.take j).map cleanV) A1 c1 xs1 css1
  hb : Below b w wr

set_option maxHeartbeats 3200000 in
theorem val_clean_list {A : Option Addr} {c B : Nat} {l : List Val} {xs : List Value} {css : Nat → Array Value} {k i : Int} {f : Nat} {s : List UInt8} {w : World} (hk : k = 4) (hr : Reads w B 5 A l.length xs) (hB : B ≤ w.heap.size) (hxs : ∀ j, j < l.length → (xs.drop (j * 5)).take 5 = (css j).toList) (hx : ∀ (j : Nat) (v : Val), l[j]? = some v → VReads w B v (css j)) (hlen : l.length ≤ 2199023255488)
    (hcall : ∀ j v, l[j]? = some v → ∀ w1, Below w.heap.size w w1 → Calls Try.prog 66 #[.agg (css j)] w1 (CleanRes w1 v)) :
    Calls Try.prog 66 #[.agg #[.int .i64 k, .int .i64 i, .float .f64 f, .string (bstr s), .slice A l.length c]] w (CleanRes w (.mk k i f s l)) := by
  subst hk
  obtain ⟨i1, gi, gz0, gz1, gz2⟩ := info_parts info_val
  have hsf := fun a k x m w => run_store_float (P := Try.prog) a k x m w
  have hout : cleanV (.mk 4 i f s l) = .mk 4 0 0 [] (l.map cleanV) := by unfold cleanV; rw [if_neg (by decide), if_neg (by decide), if_neg (by decide), if_pos rfl, cleanL_map]
  unfold CleanRes
  rw [hout]
  clear hout
  have e1 : (w.alloc (.cells #[.int .i64 4, .int .i64 i, .float .f64 f, .string (bstr s), .slice A l.length c] 110)).heap.size = w.heap.size + 1 := by simp
  have e2 : ((w.alloc (.cells #[.int .i64 4, .int .i64 i, .float .f64 f, .string (bstr s), .slice A l.length c] 110)).alloc (.cells #[.int .i64 0, .int .i64 0, .float .f64 0, .string ⟨#[]⟩, .slice none 0 0] 110)).heap.size = w.heap.size + 1 + 1 := by simp
  have hz := Blk.new (w.alloc (.cells #[.int .i64 4, .int .i64 i, .float .f64 f, .string (bstr s), .slice A l.length c] 110)) 110 #[.int .i64 0, .int .i64 0, .float .f64 0, .string ⟨#[]⟩, .slice none 0 0]
  have hy := Blk.new ((w.alloc (.cells #[.int .i64 4, .int .i64 i, .float .f64 f, .string (bstr s), .slice A l.length c] 110)).alloc (.cells #[.int .i64 0, .int .i64 0, .float .f64 0, .string ⟨#[]⟩, .slice none 0 0] 110)) 110 #[.int .i64 4, .int .i64 0, .float .f64 0, .string ⟨#[]⟩, .slice none 0 0]
  have hz2 := hz.alloc (.cells #[.int .i64 4, .int .i64 0, .float .f64 0, .string ⟨#[]⟩, .slice none 0 0] 110)
  have hb := (((Below.refl w.heap.size w).alloc (Nat.le_refl _) (.cells #[.int .i64 4, .int .i64 i, .float .f64 f, .string (bstr s), .slice A l.length c] 110)).alloc (by simp) (.cells #[.int .i64 0, .int .i64 0, .float .f64 0, .string ⟨#[]⟩, .slice none 0 0] 110)).alloc (by simp; omega) (.cells #[.int .i64 4, .int .i64 0, .float .f64 0, .string ⟨#[]⟩, .slice none 0 0] 110)
  rw [e1] at hz2
  rw [e2] at hy
  replace hcall := Lib.hid hcall
  clear hz e1 e2
  go_enter Try.func66, Try.ntmps66
  go_wp2_with fail
  generalize ((w.alloc (.cells #[.int .i64 4, .int .i64 i, .float .f64 f, .string (bstr s), .slice A l.length c] 110)).alloc (.cells #[.int .i64 0, .int .i64 0, .float .f64 0, .string ⟨#[]⟩, .slice none 0 0] 110)).alloc (.cells #[.int .i64 4, .int .i64 0, .float .f64 0, .string ⟨#[]⟩, .slice none 0 0] 110) = w2 at *
  obtain ⟨b, hbb⟩ : ∃ b, w.heap.size = b := ⟨_, rfl⟩
  rw [hbb] at hz2 hy hb ⊢
  replace hbb := Lib.hid hbb
  go_loopw [30] (fun ii wr => ∃ (j : Nat) (A1 : Option Addr) (c1 : Nat) (xs1 : List Value) (css1 : Nat → Array Value), ii = .int .i64 (j : Int) ∧ CRel w wr b l j A1 c1 xs1 css1) (fun ii _ => l.length - (intOf ii).toNat)
  case atStart => exact ⟨0, none, 0, [], _, rfl, ⟨Nat.zero_le _, hz2, hy, VRow.nil _ _, hb⟩⟩
  case round =>
    obtain ⟨j, A1, c1, xs1, css1, rfl, R⟩ := hrel
    have hjl := R.jl
    have hml : ((l.take j).map cleanV).length = j := by simp; omega
    have hyl : b + 2 < wr.heap.size := R.hy.lt
    have hbw : Below w.heap.size w wr := by rw [hbb.out]; exact R.hb
    by_cases hlt : j < l.length
    · obtain ⟨ad, k', i', f', s', A', n', c', rfl, hform, hgk, g0, g1, g2, g3, g4⟩ := kid hr hx hxs (hbw.mono hB) hlt
      have htk : (l.take (j + 1)).map cleanV = (l.take j).map cleanV ++ [cleanV l[j]] := by rw [List.take_succ_eq_append_getElem hlt, List.map_append]; rfl
      have hcl := fun w1 (hb1 : Below w.heap.size w w1) => hcall.out j l[j] hgk w1 hb1
      rw [hform] at hcl
      have hbx := Blk.new wr 110 #[.int .i64 k', .int .i64 i', .float .f64 f', .string s', .slice A' n' c']
      have hy1 := R.hy.alloc (.cells #[.int .i64 k', .int .i64 i', .float .f64 f', .string s', .slice A' n' c'] 110)
      have hz1 := R.hz.alloc (.cells #[.int .i64 k', .int .i64 i', .float .f64 f', .string s', .slice A' n' c'] 110)
      have hb1 := hbw.alloc hbw.size (.cells #[.int .i64 k', .int .i64 i', .float .f64 f', .string s', .slice A' n' c'] 110)
      have hu1 := (Upd.refl (fun _ => False) wr).alloc (.cells #[.int .i64 k', .int .i64 i', .float .f64 f', .string s', .slice A' n' c'] 110)
      replace htk := Lib.hid htk
      replace hcl := Lib.hid hcl
      clear hform hgk
      go_wp2_with fail
      clear g0 g1 g2 g3 g4
      generalize hw3 : wr.alloc (.cells #[.int .i64 k', .int .i64 i', .float .f64 f', .string s', .slice A' n' c'] 110) = w3 at *
      have hw3s : w3.heap.size = wr.heap.size + 1 := by rw [← hw3]; simp
      replace hw3 := Lib.hid hw3
      have hS : (w3.drew.cell? ⟨b + 2, 4, none⟩ = some (.slice A1 j c1)) ∧ w3.drew.cell? ⟨wr.heap.size, 0, none⟩ = some (.int .i64 k') ∧ w3.drew.cell? ⟨wr.heap.size, 1, none⟩ = some (.int .i64 i') ∧ w3.drew.cell? ⟨wr.heap.size, 2, none⟩ = some (.float .f64 f') ∧ w3.drew.cell? ⟨wr.heap.size, 3, none⟩ = some (.string s') ∧ w3.drew.cell? ⟨wr.heap.size, 4, none⟩ = some (.slice A' n' c') := ⟨hy1.cell 4, hbx.cell 0, hbx.cell 1, hbx.cell 2, hbx.cell 3, hbx.cell 4⟩
      refine wp_region_lex (fun W => (W.cell? ⟨b + 2, 4, none⟩ = some (.slice A1 j c1)) ∧ W.cell? ⟨wr.heap.size, 0, none⟩ = some (.int .i64 k') ∧ W.cell? ⟨wr.heap.size, 1, none⟩ = some (.int .i64 i') ∧ W.cell? ⟨wr.heap.size, 2, none⟩ = some (.float .f64 f') ∧ W.cell? ⟨wr.heap.size, 3, none⟩ = some (.string s') ∧ W.cell? ⟨wr.heap.size, 4, none⟩ = some (.slice A' n' c')) [1, 2] [3, 4, 5, 7] [0, 1, 2, 3, 4, 5, 6, 7] (by kernel_rfl) rfl (by kernel_rfl) (by kernel_rfl) (fun _ _ d _ _ h => by cases d <;> exact h) ?_
      repeat (first | (refine lexG_take _ ?_ rfl rfl rfl rfl (fun _ => ?_) ?_; rotate_left; (focus (go_simp; with_reducible rfl)); try simp only [Act.put, List.setIfInBounds_toArray, List.set_cons_zero, List.set_cons_succ]) | (refine lexG_held _ ?_ rfl rfl rfl rfl (by assumption) (fun _ hSw => ?_) ?_; rotate_left; (focus ((try dsimp only at hSw); go_simp; with_reducible rfl)); try simp only [Act.put, List.setIfInBounds_toArray, List.set_cons_zero, List.set_cons_succ]) | (refine lexG_skip _ rfl rfl (by assumption) ?_; try simp only [Act.put, List.setIfInBounds_toArray, List.set_cons_zero, List.set_cons_succ]))
      refine lexG_now _ rfl rfl rfl (fun K hK => ?_)
      go_wp2_with fail
      refine (hcl.out w3.drew hb1.drew).mono ?_
      rintro e w6 ⟨cs, rfl, hv6, hb6⟩
      dsimp only
      have hb6' : Below w3.heap.size w3 w6 := below_of_drew hb6
      have hcs5 := hv6.size
      have hone := hv6.one
      obtain ⟨a0, a1, a2, a3, a4, rfl⟩ : ∃ a0 a1 a2 a3 a4, cs = #[a0, a1, a2, a3, a4] := by
        match cs, hcs5 with
        | ⟨[a0, a1, a2, a3, a4]⟩, _ => exact ⟨a0, a1, a2, a3, a4, rfl⟩
      have hy6 := hy1.below hb6' hy1.lt
      have hz6 := hz1.below hb6' hz1.lt
      have hbx6 := hbx.below hb6' hbx.lt
      have hu6 := hu1.thenBelow hb6' (by omega)
      have ho6 := R.R.ho.upd hu6 (fun g _ h => h)
      rw [hml] at ho6
      have hv6' : VOwn w6 (fun g => wr.heap.size ≤ g) (cleanV l[j]) #[a0, a1, a2, a3, a4] := hv6.mono (fun g _ hg => by have : w3.heap.size ≤ g := hg; omega)
      refine hK _ _ _ (fun _ h => h) ⟨hy6.cell 4, hbx6.cell 0, hbx6.cell 1, hbx6.cell 2, hbx6.cell 3, hbx6.cell 4⟩ ?_
      clear hK K hS
      try simp only [Act.put, List.setIfInBounds_toArray, List.set_cons_zero, List.set_cons_succ]
      have hy7 := hy6.alloc (.cells #[a0, a1, a2, a3, a4] 110)
      have hz7 := hz6.alloc (.cells #[a0, a1, a2, a3, a4] 110)
      have hbx7 := hbx6.alloc (.cells #[a0, a1, a2, a3, a4] 110)
      have ho7 := ho6.alloc (.cells #[a0, a1, a2, a3, a4] 110)
      have hsrc := Reads.lit (size := 5) w6 #[a0, a1, a2, a3, a4] 110 (0, 0) 1 [a0, a1, a2, a3, a4] rfl rfl
      refine lexG_now _ rfl rfl rfl (fun K hK => ?_)
      go_wp2_with fail
      refine hK _ _ _ (fun _ h => h) ⟨hy7.cell 4, hbx7.cell 0, hbx7.cell 1, hbx7.cell 2, hbx7.cell 3, hbx7.cell 4⟩ ?_
      clear hK K
      try simp only [Act.put, List.setIfInBounds_toArray, List.set_cons_zero, List.set_cons_succ]
      repeat (first | (refine lexG_take _ ?_ rfl rfl rfl rfl (fun _ => ?_) ?_; rotate_left; (focus (go_simp; with_reducible rfl)); try simp only [Act.put, List.setIfInBounds_toArray, List.set_cons_zero, List.set_cons_succ]) | (refine lexG_held _ ?_ rfl rfl rfl rfl (by assumption) (fun _ hSw => ?_) ?_; rotate_left; (focus ((try dsimp only at hSw); go_simp; with_reducible rfl)); try simp only [Act.put, List.setIfInBounds_toArray, List.set_cons_zero, List.set_cons_succ]) | (refine lexG_skip _ rfl rfl (by assumption) ?_; try simp only [Act.put, List.setIfInBounds_toArray, List.set_cons_zero, List.set_cons_succ]))
      refine lexG_now _ rfl rfl rfl (fun K hK => ?_)
      refine wp_append_mine _ _ 28 28 rfl 110 i1 _ 5 64 Try.underlying28 gi gz0 gz1 gz2 rfl rfl ho7 rfl (Src.ofReads Try.underlying28 _ hsrc (by intro u hu; exact hone u (by simpa using hu))) (by unfold maxLen; omega) (by omega) (fun A8 c8 w8 ho8 hg8 hat8 => ?_)
      have hAz : ∀ g, bOf A1 = some g → b + 3 ≤ g := R.R.hA
      have hy8 := hy7.grown hg8 (fun e => by have := hAz _ e.symm; omega)
      have hz8 := hz7.grown hg8 (fun e => by have := hAz _ e.symm; omega)
      have hbx8 := hbx7.grown hg8 (fun e => by have := R.R.ho.lt e.symm; omega)
      refine hK _ _ _ (fun _ h => h) ⟨hy8.cell 4, hbx8.cell 0, hbx8.cell 1, hbx8.cell 2, hbx8.cell 3, hbx8.cell 4⟩ ?_
      clear hK K
      try simp only [Act.put, List.setIfInBounds_toArray, List.set_cons_zero, List.set_cons_succ]
      repeat (first | (refine lexG_take _ ?_ rfl rfl rfl rfl (fun _ => ?_) ?_; rotate_left; (focus (go_simp; with_reducible rfl)); try simp only [Act.put, List.setIfInBounds_toArray, List.set_cons_zero, List.set_cons_succ]) | (refine lexG_held _ ?_ rfl rfl rfl rfl (by assumption) (fun _ hSw => ?_) ?_; rotate_left; (focus ((try dsimp only at hSw); go_simp; with_reducible rfl)); try simp only [Act.put, List.setIfInBounds_toArray, List.set_cons_zero, List.set_cons_succ]) | (refine lexG_skip _ rfl rfl (by assumption) ?_; try simp only [Act.put, List.setIfInBounds_toArray, List.set_cons_zero, List.set_cons_succ]))
      refine lexG_nowF _ rfl rfl rfl (by kernel_rfl) (fun K hK => ?_)
      have y84 := hy8.cell 4
      have yf8 := hy8.frozen 4
      go_simp
      refine hK _ _ ?_
      clear hK K
      refine lexG_nil ?_
      have R8 := R.R.push (b := b + 3) (by omega) hu6 (fun _ h => h.elim) hv6' ⟨_, rfl⟩ (by rw [hml]; exact ho8) hg8 hat8
      rw [← htk.out, hml] at R8
      have hb8 : Below b w w8 := ((by rw [← hbb.out]; exact ((hb1.trans (hb6'.mono hb1.size)).alloc (Nat.le_trans hb1.size hb6'.size) (.cells #[a0, a1, a2, a3, a4] 110)) : Below b w (w6.alloc (.cells #[a0, a1, a2, a3, a4] 110)))).grown hg8 (by rw [World.size_alloc]; have := hb6'.size; omega) (fun k e => by have := hAz k e; omega)
      have hnew : CRel w (w8.setCell ⟨b + 2, 4, none⟩ (.slice A8 (j + 1) c8)) b l (j + 1) A8 c8 _ _ := ⟨hlt, hz8.far (p := ⟨b + 2, 4, none⟩) (by show b + 1 ≠ b + 2; omega) _, hy8.set_ 4 (.slice A8 (j + 1) c8), R8.upd ((Upd.refl (fun x => x = b + 2) w8).setCell (p := ⟨b + 2, 4, none⟩) (fun _ => rfl) (.slice A8 (j + 1) c8)) (fun g hg e => by omega), hb8.setCell (p := ⟨b + 2, 4, none⟩) (by show b ≤ b + 2; omega) _⟩
      clear R8 hb8 hy8 hz8 hbx8 hy7 hz7 hbx7 ho7 hsrc ho8 hg8 hat8 hv6 hv6' hu6 ho6 hy6 hz6 hbx6 hb6 hb6' R hone hcs5 hy1 hz1 hbx hb1 hu1 y84 yf8
      replace hnew := Lib.hid hnew
      go_wp2_with fail
      go_roundw
      case rel => exact ⟨j + 1, A8, c8, _, _, by simp, hnew.out⟩
      case measure => simp [intOf]; omega
    · have hj' : j = l.length := by omega
      subst hj'
      have y0 := R.hy.cell 0
      have y1 := R.hy.cell 1
      have y2 := R.hy.cell 2
      have y3 := R.hy.cell 3
      have y4 := R.hy.cell 4
      have hzz := R.hz
      have hz7 := R.hz.row #[.int .i64 4, .int .i64 0, .float .f64 0, .string ⟨#[]⟩, .slice A1 l.length c1]
      have hb8 := below_row R.hb (g := b + 1) (by omega) #[.int .i64 4, .int .i64 0, .float .f64 0, .string ⟨#[]⟩, .slice A1 l.length c1]
      have hR := R.R
      rw [List.take_length] at hR
      have hml2 : (l.map cleanV).length = l.length := by simp
      have V4 := (hR.upd ((Upd.refl (fun x => x = b + 1) wr).setRow (g := b + 1) (fun _ => rfl) #[.int .i64 4, .int .i64 0, .float .f64 0, .string ⟨#[]⟩, .slice A1 l.length c1]) (fun g hg e => by omega)).own (by omega) 4 0 0 []
      rw [hml2] at V4
      clear R hR
      go_wp2_with (refine store_row_gen rfl 110 (Operand.tmp 2) _ rfl (b + 1) #[.int .i64 4, .int .i64 0, .float .f64 0, .string ⟨#[]⟩, .slice A1 l.length c1] rfl rfl 110 _ hzz (by kernel_rfl) rfl (by simp [Value.oneCell']) (fun w6 hw6 => ?_); rw [← hw6] at hz7 hb8 V4; clear hw6)
      refine bodyPost_ret (v := .agg #[.int .i64 4, .int .i64 0, .float .f64 0, .string ⟨#[]⟩, .slice A1 l.length c1]) ?hr rfl ?_
      case hr => exact results_cell_row rfl _ _ (b + 1) 110 _ (0, 0) _ rfl hz7 Try.underlying110 rfl (by kernel_rfl)
      exact ⟨_, rfl, V4.mono (fun g _ hg => by rw [hbb.out]; omega), by rw [hbb.out]; exact hb8⟩

set_option maxHeartbeats 1600000 in
theorem val_clean_s {w : World} {B : Nat} {v : Val} {cs : Array Value} (h : VReads w B v cs) : ∀ (w1 : World), ShortV v → Below B w w1 → B ≤ w1.heap.size → Calls Try.prog 66 #[.agg cs] w1 (CleanRes w1 v) := by
  induction h with
  | @mk k i f s l A c xs css hn hr hx hxs ih =>
    intro w1 hg hb1 hB1
    obtain ⟨hg1, hg2⟩ := hg
    by_cases h4 : k = 4
    · have h64 := hg1 h4
      have hgl := hg2 h4
      have hgi : ∀ (j : Nat) (v : Val), l[j]? = some v → ShortV v := fun j v hv => hgl v (List.mem_of_getElem? hv)
      exact val_clean_list h4 (hr.below hb1) hB1 hxs (fun j v hv => (hx j v hv).under hb1) (by omega) (fun j v hv w2 hb2 => ih j v hv w2 (hgi j v hv) (hb1.trans (hb2.mono hB1)) (Nat.le_trans hB1 hb2.size))
    have hS := (Below.refl w1.heap.size w1).alloc (Nat.le_refl _) (.cells #[.int .i64 k, .int .i64 i, .float .f64 f, .string (bstr s), .slice A l.length c] 110)
    have hb4 := hS.alloc hS.size (.cells #[.int .i64 0, .int .i64 0, .float .f64 0, .string ⟨#[]⟩, .slice none 0 0] 110)
    have hz3 := Blk.new (w1.alloc (.cells #[.int .i64 k, .int .i64 i, .float .f64 f, .string (bstr s), .slice A l.length c] 110)) 110 #[.int .i64 0, .int .i64 0, .float .f64 0, .string ⟨#[]⟩, .slice none 0 0]
    have hsz : (w1.alloc (.cells #[.int .i64 k, .int .i64 i, .float .f64 f, .string (bstr s), .slice A l.length c] 110)).heap.size = w1.heap.size + 1 := by simp
    rw [hsz] at hz3
    clear hS hsz ih hx hxs hr hg1 hg2
    unfold CleanRes cleanV
    generalize hsb : bstr s = sb at *
    by_cases h1 : k = 1
    · rw [if_pos h1]
      subst h1
      go_enter Try.func66, Try.ntmps66
      have hz4 := hz3.row #[.int .i64 1, .int .i64 i, .float .f64 0, .string ⟨#[]⟩, .slice none 0 0]
      have hb5 := below_row hb4 (g := w1.heap.size + 1) (by omega) #[.int .i64 1, .int .i64 i, .float .f64 0, .string ⟨#[]⟩, .slice none 0 0]
      go_wp2_with (refine store_row_gen rfl 110 (Operand.tmp 2) _ rfl (w1.heap.size + 1) #[.int .i64 1, .int .i64 i, .float .f64 0, .string ⟨#[]⟩, .slice none 0 0] (by simp [go_sem]) (by simp [go_sem]) 110 _ hz3 (by kernel_rfl) rfl (by simp [Value.oneCell']) (fun w6 hw6 => ?_); rw [← hw6] at hz4 hb5; clear hw6)
      refine bodyPost_ret (v := .agg #[.int .i64 1, .int .i64 i, .float .f64 0, .string ⟨#[]⟩, .slice none 0 0]) ?hr rfl ?_
      case hr => exact results_cell_row rfl _ _ (w1.heap.size + 1) 110 _ (0, 0) _ rfl hz4 Try.underlying110 rfl (by kernel_rfl)
      exact ⟨_, rfl, VOwn.flat _ _ 1 i 0 [], hb5⟩
    by_cases h2 : k = 2
    · rw [if_neg h1, if_pos h2]
      subst h2
      obtain ⟨y, hy⟩ : ∃ y, cb f = y := ⟨_, rfl⟩
      have hc := fun w => num_canon f w
      rw [hy] at hc ⊢
      clear hy
      go_enter Try.func66, Try.ntmps66
      go_wp2_with fail
      refine (hc _).mono ?_
      rintro e w3 ⟨rfl, rfl⟩
      dsimp only
      have hz4 := hz3.row #[.int .i64 2, .int .i64 0, .float .f64 y, .string ⟨#[]⟩, .slice none 0 0]
      have hb5 := below_row hb4 (g := w1.heap.size + 1) (by omega) #[.int .i64 2, .int .i64 0, .float .f64 y, .string ⟨#[]⟩, .slice none 0 0]
      go_wp2_with (refine store_row_gen rfl 110 (Operand.tmp 2) _ rfl (w1.heap.size + 1) #[.int .i64 2, .int .i64 0, .float .f64 y, .string ⟨#[]⟩, .slice none 0 0] (by simp [go_sem]) (by simp [go_sem]) 110 _ hz3 (by kernel_rfl) rfl (by simp [Value.oneCell']) (fun w6 hw6 => ?_); rw [← hw6] at hz4 hb5; clear hw6)
      refine bodyPost_ret (v := .agg #[.int .i64 2, .int .i64 0, .float .f64 y, .string ⟨#[]⟩, .slice none 0 0]) ?hr rfl ?_
      case hr => exact results_cell_row rfl _ _ (w1.heap.size + 1) 110 _ (0, 0) _ rfl hz4 Try.underlying110 rfl (by kernel_rfl)
      exact ⟨_, rfl, VOwn.flat _ _ 2 0 y [], hb5⟩
    by_cases h3 : k = 3
    · rw [if_neg h1, if_neg h2, if_pos h3]
      subst h3
      go_enter Try.func66, Try.ntmps66
      have hz4 := hz3.row #[.int .i64 3, .int .i64 0, .float .f64 0, .string sb, .slice none 0 0]
      have hb5 := below_row hb4 (g := w1.heap.size + 1) (by omega) #[.int .i64 3, .int .i64 0, .float .f64 0, .string sb, .slice none 0 0]
      go_wp2_with (refine store_row_gen rfl 110 (Operand.tmp 2) _ rfl (w1.heap.size + 1) #[.int .i64 3, .int .i64 0, .float .f64 0, .string sb, .slice none 0 0] (by simp [go_sem]) (by simp [go_sem]) 110 _ hz3 (by kernel_rfl) rfl (by simp [Value.oneCell']) (fun w6 hw6 => ?_); rw [← hw6] at hz4 hb5; clear hw6)
      refine bodyPost_ret (v := .agg #[.int .i64 3, .int .i64 0, .float .f64 0, .string sb, .slice none 0 0]) ?hr rfl ?_
      case hr => exact results_cell_row rfl _ _ (w1.heap.size + 1) 110 _ (0, 0) _ rfl hz4 Try.underlying110 rfl (by kernel_rfl)
      have hv := VOwn.flat w6 (fun g => w1.heap.size ≤ g) 3 0 0 s
      rw [hsb] at hv
      exact ⟨_, rfl, hv, hb5⟩
    · rw [if_neg h1, if_neg h2, if_neg h3, if_neg h4]
      have k1 : (k == 1) = false := by rw [beq_eq_false_iff_ne]; exact h1
      have k2 : (k == 2) = false := by rw [beq_eq_false_iff_ne]; exact h2
      have k3 : (k == 3) = false := by rw [beq_eq_false_iff_ne]; exact h3
      have k4 : (k == 4) = false := by rw [beq_eq_false_iff_ne]; exact h4
      go_enter Try.func66, Try.ntmps66
      have hz4 := hz3.row #[.int .i64 0, .int .i64 0, .float .f64 0, .string ⟨#[]⟩, .slice none 0 0]
      have hb5 := below_row hb4 (g := w1.heap.size + 1) (by omega) #[.int .i64 0, .int .i64 0, .float .f64 0, .string ⟨#[]⟩, .slice none 0 0]
      go_wp2_with (refine store_row_gen rfl 110 (Operand.tmp 2) _ rfl (w1.heap.size + 1) #[.int .i64 0, .int .i64 0, .float .f64 0, .string ⟨#[]⟩, .slice none 0 0] (by simp [go_sem]) (by simp [go_sem]) 110 _ hz3 (by kernel_rfl) rfl (by simp [Value.oneCell']) (fun w6 hw6 => ?_); rw [← hw6] at hz4 hb5; clear hw6)
      refine bodyPost_ret (v := .agg #[.int .i64 0, .int .i64 0, .float .f64 0, .string ⟨#[]⟩, .slice none 0 0]) ?hr rfl ?_
      case hr => exact results_cell_row rfl _ _ (w1.heap.size + 1) 110 _ (0, 0) _ rfl hz4 Try.underlying110 rfl (by kernel_rfl)
      exact ⟨_, rfl, VOwn.flat _ _ 0 0 0 [], hb5⟩

theorem val_clean {w : World} {B : Nat} {v : Val} {cs : Array Value} (h : VReads w B v cs) (d : Int) (w1 : World) (hg : greatV v d = false) (hb1 : Below B w w1) (hB1 : B ≤ w1.heap.size) : Calls Try.prog 66 #[.agg cs] w1 (CleanRes w1 v) :=
  val_clean_s h w1 (short_of_great h d hg) hb1 hB1

end Go.Proofs.Ytjljlgkghlphnaa
namespace Go.Proofs.Ytjljlgkghlphnaa
open Go.RowKit

def cmpI (x y : Int) : Int := if x < y then -1 else if y < x then 1 else 0
theorem cmpI_lt {x y : Int} (h : x < y) : cmpI x y = -1 := if_pos h
theorem cmpI_gt {x y : Int} (h : y < x) : cmpI x y = 1 := by unfold cmpI; rw [if_neg (by omega), if_pos h]
theorem cmpI_eq (x : Int) : cmpI x x = 0 := by unfold cmpI; rw [if_neg (by omega), if_neg (by omega)]

def nanBits : Nat := 9221120237041090561
theorem nan_zero : (FloatKind.f64.format.order nanBits 0 == some .eq) = false := by decide +kernel

def ordF (k i k' i' : Int) : Int := if k = k' then (if k = 1 then cmpI i i' else 0) else cmpI k k'
/-- Nil, an Int, the one NaN. -/
def FlatV (k : Int) (f : Nat) : Prop := k = 0 ∨ k = 1 ∨ (k = 2 ∧ f = nanBits)

end Go.Proofs.Ytjljlgkghlphnaa
namespace Go.Proofs.Ytjljlgkghlphnaa
open Go.RowKit

def magF (r : Nat) : Nat := if r < 4503599627370496 then r else (4503599627370496 + r % 4503599627370496) * 2 ^ (r / 4503599627370496 - 1)
theorem magF_succ (r : Nat) : magF r < magF (r + 1) := by
  unfold magF
  by_cases h1 : r + 1 < 4503599627370496
  · rw [if_pos h1, if_pos (by omega)]; omega
  by_cases h2 : r < 4503599627370496
  · have : r = 4503599627370495 := by omega
    subst this
    decide
  rw [if_neg h1, if_neg h2]
  obtain ⟨q, hq⟩ : ∃ q, r / 4503599627370496 = q + 1 := ⟨r / 4503599627370496 - 1, by omega⟩
  have hp : 0 < 2 ^ q := Nat.two_pow_pos q
  by_cases h3 : r % 4503599627370496 + 1 < 4503599627370496
  · have e1 : (r + 1) / 4503599627370496 = q + 1 := by omega
    have e2 : (r + 1) % 4503599627370496 = r % 4503599627370496 + 1 := by omega
    rw [e1, e2, hq, Nat.add_sub_cancel]
    exact Nat.mul_lt_mul_of_pos_right (by omega) hp
  · have e1 : (r + 1) / 4503599627370496 = q + 2 := by omega
    have e2 : (r + 1) % 4503599627370496 = 0 := by omega
    have e3 : r % 4503599627370496 = 4503599627370495 := by omega
    rw [e1, e2, e3, hq, Nat.add_sub_cancel, show q + 2 - 1 = q + 1 from rfl, Nat.pow_succ]
    omega
theorem magF_lt {a b : Nat} (h : a < b) : magF a < magF b := by
  induction b with
  | zero => omega
  | succ b ih =>
    by_cases hb : a = b
    · subst hb; exact magF_succ a
    · exact Nat.lt_trans (ih (by omega)) (magF_succ b)
theorem magF_inj {a b : Nat} (h : magF a = magF b) : a = b := by
  rcases Nat.lt_trichotomy a b with h1 | h1 | h1
  · have := magF_lt h1; omega
  · exact h1
  · have := magF_lt h1; omega
theorem magF_zero : magF 0 = 0 := rfl

def sgF (x : Nat) : Bool := x / 9223372036854775808 % 2 == 1
/-- A number's place in the order of all. -/
def keyF (x : Nat) : Int := if sgF x then -(magF (x % 9223372036854775808) : Int) else (magF (x % 9223372036854775808) : Int)

theorem read_num (x : Nat) (h : x % 9223372036854775808 < 9218868437227405312) : ∃ m i : Nat, Ieee.double.read x = .number (sgF x) m (-1074 + (i : Int)) ∧ m * 2 ^ i = magF (x % 9223372036854775808) := by
  have hs : Ieee.double.signWeight = 9223372036854775808 := by decide
  have hb : Ieee.double.binade = 4503599627370496 := by decide
  have hi : Ieee.double.infRung = 9218868437227405312 := by decide
  have hl : Ieee.double.leastPlace = -1074 := by decide
  unfold Ieee.Format.read
  simp only [hs, hb, hi, hl]
  by_cases h1 : x % 9223372036854775808 < 4503599627370496
  · rw [if_pos h1]
    exact ⟨x % 9223372036854775808, 0, rfl, by unfold magF; rw [if_pos h1]; simp⟩
  · rw [if_neg h1, if_pos h]
    exact ⟨_, x % 9223372036854775808 / 4503599627370496 - 1, rfl, by unfold magF; rw [if_neg h1]⟩
theorem read_inf (x : Nat) (h : x % 9223372036854775808 = 9218868437227405312) : Ieee.double.read x = .infinity (sgF x) := by
  have hs : Ieee.double.signWeight = 9223372036854775808 := by decide
  have hb : Ieee.double.binade = 4503599627370496 := by decide
  have hi : Ieee.double.infRung = 9218868437227405312 := by decide
  unfold Ieee.Format.read
  simp only [hs, hb, hi]
  rw [if_neg (by omega), if_neg (by omega), if_pos h]
  rfl
theorem read_isnan (x : Nat) (h : nanB x = true) : ∃ s f, Ieee.double.read x = .nan s f := by
  have hn := read_nan x
  rw [h] at hn
  cases hr : Ieee.double.read x with
  | nan s f => exact ⟨s, f, rfl⟩
  | number s m e => rw [hr] at hn; simp [Ieee.Datum.isNaN] at hn
  | infinity s => rw [hr] at hn; simp [Ieee.Datum.isNaN] at hn

theorem cmp_int_mul (a b : Int) (c : Nat) (hc : 0 < c) : compare (a * (c : Int)) (b * (c : Int)) = compare a b := by
  have hc' : (0 : Int) < (c : Int) := by omega
  have e1 : a * (c : Int) < b * (c : Int) ↔ a < b := Int.mul_lt_mul_right hc'
  have e2 : a * (c : Int) = b * (c : Int) ↔ a = b := Int.mul_eq_mul_right_iff (by omega)
  simp only [compare, compareOfLessAndEq, e1, e2]
theorem signed_key (s : Bool) (m i b : Nat) (h : b ≤ i) : Ieee.signed s m (i - b) * ((2 ^ b : Nat) : Int) = if s then -((m * 2 ^ i : Nat) : Int) else ((m * 2 ^ i : Nat) : Int) := by
  have e : m * 2 ^ (i - b) * 2 ^ b = m * 2 ^ i := by rw [Nat.mul_assoc, ← Nat.pow_add, Nat.sub_add_cancel h]
  unfold Ieee.signed
  rw [Nat.shiftLeft_eq]
  cases s
  · simp only [Bool.false_eq_true, if_false]
    rw [← e]; push_cast; rfl
  · simp only [if_true]
    rw [← e, Int.neg_mul]; push_cast; rfl

theorem nanB_false {x : Nat} (h : nanB x = false) : x % 9223372036854775808 < 9218868437227405312 ∨ x % 9223372036854775808 = 9218868437227405312 := by
  unfold nanB at h
  have := of_decide_eq_false h
  omega
theorem cmp_lt {a b : Int} (h : a < b) : compare a b = .lt := by simp [compare, compareOfLessAndEq, h]
theorem cmp_gt {a b : Int} (h : b < a) : compare a b = .gt := by
  have h1 : ¬ a < b := by omega
  have h2 : ¬ a = b := by omega
  simp [compare, compareOfLessAndEq, h1, h2]

theorem order_key (x y : Nat) (hx : nanB x = false) (hy : nanB y = false) : FloatKind.f64.format.order x y = some (compare (keyF x) (keyF y)) := by
  show (Ieee.double.read x).order (Ieee.double.read y) = _
  rcases nanB_false hx with h1 | h1 <;> rcases nanB_false hy with h2 | h2
  · obtain ⟨m, i, ex, em⟩ := read_num x h1
    obtain ⟨n, j, ey, en⟩ := read_num y h2
    rw [ex, ey]
    unfold Ieee.Datum.order
    simp only []
    obtain ⟨b, hb⟩ : ∃ b : Nat, min i j = b := ⟨_, rfl⟩
    have e1 : (-1074 + (i : Int) - min (-1074 + (i : Int)) (-1074 + (j : Int))).toNat = i - b := by omega
    have e2 : (-1074 + (j : Int) - min (-1074 + (i : Int)) (-1074 + (j : Int))).toNat = j - b := by omega
    rw [e1, e2]
    have k1 : keyF x = Ieee.signed (sgF x) m (i - b) * ((2 ^ b : Nat) : Int) := by rw [signed_key _ _ _ _ (by omega), em]; rfl
    have k2 : keyF y = Ieee.signed (sgF y) n (j - b) * ((2 ^ b : Nat) : Int) := by rw [signed_key _ _ _ _ (by omega), en]; rfl
    rw [k1, k2, cmp_int_mul _ _ _ (Nat.two_pow_pos b)]
  · obtain ⟨m, i, ex, em⟩ := read_num x h1
    rw [ex, read_inf y h2]
    unfold Ieee.Datum.order keyF
    simp only []
    have hm := magF_lt h1
    rw [h2]
    cases sgF y <;> cases sgF x <;> simp only [Bool.false_eq_true, if_false, if_true]
    · rw [cmp_lt (by omega)]
    · rw [cmp_lt (by omega)]
    · rw [cmp_gt (by omega)]
    · rw [cmp_gt (by omega)]
  · obtain ⟨m, i, ey, em⟩ := read_num y h2
    rw [ey, read_inf x h1]
    unfold Ieee.Datum.order keyF
    simp only []
    have hm := magF_lt h2
    rw [h1]
    cases sgF x <;> cases sgF y <;> simp only [Bool.false_eq_true, if_false, if_true]
    · rw [cmp_gt (by omega)]
    · rw [cmp_gt (by omega)]
    · rw [cmp_lt (by omega)]
    · rw [cmp_lt (by omega)]
  · rw [read_inf x h1, read_inf y h2]
    unfold Ieee.Datum.order keyF
    rw [h1, h2]
    have hp : 0 < magF 9218868437227405312 := by have := magF_lt (a := 0) (b := 9218868437227405312) (by omega); rw [magF_zero] at this; exact this
    generalize magF 9218868437227405312 = g at *
    cases sgF x <;> cases sgF y <;> simp only [Bool.false_eq_true, if_false, if_true]
    · simp [compare, compareOfLessAndEq]
    · rw [cmp_gt (by omega)]; rfl
    · rw [cmp_lt (by omega)]; rfl
    · simp [compare, compareOfLessAndEq]
theorem order_nan (x y : Nat) (h : nanB x = true ∨ nanB y = true) : FloatKind.f64.format.order x y = none := by
  show (Ieee.double.read x).order (Ieee.double.read y) = _
  rcases h with h | h
  · obtain ⟨s, f, e⟩ := read_isnan x h
    rw [e]; rfl
  · obtain ⟨s, f, e⟩ := read_isnan y h
    rw [e]
    cases Ieee.double.read x <;> rfl
theorem ord_lt (x y : Nat) : (FloatKind.f64.format.order x y == some .lt) = (!nanB x && !nanB y && decide (keyF x < keyF y)) := by
  cases hx : nanB x
  · cases hy : nanB y
    · rw [order_key x y hx hy]
      by_cases h1 : keyF x < keyF y
      · simp [compare, compareOfLessAndEq, h1]
      · by_cases h2 : keyF x = keyF y <;> simp [compare, compareOfLessAndEq, h1, h2]
    · rw [order_nan x y (.inr hy)]; rfl
  · rw [order_nan x y (.inl hx)]; rfl
theorem ord_gt (x y : Nat) : (FloatKind.f64.format.order x y == some .gt) = (!nanB x && !nanB y && decide (keyF y < keyF x)) := by
  cases hx : nanB x
  · cases hy : nanB y
    · rw [order_key x y hx hy]
      by_cases h1 : keyF x < keyF y
      · have : ¬ keyF y < keyF x := by omega
        simp [compare, compareOfLessAndEq, h1, this]
      · by_cases h2 : keyF x = keyF y
        · simp [compare, compareOfLessAndEq, h2]
        · have : keyF y < keyF x := by omega
          simp [compare, compareOfLessAndEq, h1, h2, this]
    · rw [order_nan x y (.inr hy)]; rfl
  · rw [order_nan x y (.inl hx)]; rfl
theorem ord_eq (x y : Nat) : (FloatKind.f64.format.order x y == some .eq) = (!nanB x && !nanB y && decide (keyF x = keyF y)) := by
  cases hx : nanB x
  · cases hy : nanB y
    · rw [order_key x y hx hy]
      by_cases h1 : keyF x < keyF y
      · have : ¬ keyF x = keyF y := by omega
        simp [compare, compareOfLessAndEq, h1, this]
      · by_cases h2 : keyF x = keyF y <;> simp [compare, compareOfLessAndEq, h1, h2]
    · rw [order_nan x y (.inr hy)]; rfl
  · rw [order_nan x y (.inl hx)]; rfl
theorem keyF_zero : keyF 0 = 0 := rfl
theorem nanB_zero : nanB 0 = false := by decide
theorem ord_zero (x : Nat) : (FloatKind.f64.format.order x 0 == some .eq) = decide (keyF x = 0) := by
  rw [ord_eq, nanB_zero, keyF_zero]
  cases hx : nanB x
  · rfl
  · have : ¬ keyF x = 0 := by
      have h1 : 9218868437227405312 < x % 9223372036854775808 := of_decide_eq_true hx
      have h2 := magF_lt (a := 0) (b := x % 9223372036854775808) (by omega)
      rw [magF_zero] at h2
      unfold keyF
      split <;> omega
    rw [decide_eq_false this]; rfl
theorem key_zero {x : Nat} (h : keyF x = 0) : x % 9223372036854775808 = 0 := by
  by_cases h0 : x % 9223372036854775808 = 0
  · exact h0
  · have h2 := magF_lt (a := 0) (b := x % 9223372036854775808) (by omega)
    rw [magF_zero] at h2
    unfold keyF at h
    split at h <;> omega

/-- The order of numbers (the document's). -/
def ordFl (x y : Nat) : Int :=
  if nanB x then (if nanB y then 0 else -1) else if nanB y then 1
  else if keyF x = 0 ∧ keyF y = 0 then cmpI (if sgF x then 0 else 1) (if sgF y then 0 else 1) else cmpI (keyF x) (keyF y)
theorem cmpI_zero_iff (a b : Int) : cmpI a b = 0 ↔ a = b := by
  unfold cmpI
  constructor
  · intro h
    by_cases h1 : a < b
    · rw [if_pos h1] at h; cases h
    · rw [if_neg h1] at h
      by_cases h2 : b < a
      · rw [if_pos h2] at h; cases h
      · omega
  · rintro rfl; rw [if_neg (by omega), if_neg (by omega)]
theorem sgF_split (x : Nat) (hx : x < 18446744073709551616) : x = (if sgF x then 9223372036854775808 else 0) + x % 9223372036854775808 := by
  unfold sgF
  by_cases h : x / 9223372036854775808 % 2 = 1
  · rw [h]; simp; omega
  · have : (x / 9223372036854775808 % 2 == 1) = false := by simp; omega
    rw [this]; simp; omega
theorem ordFl_zero (x y : Nat) (hx : x < 18446744073709551616) (hy : y < 18446744073709551616) : ordFl x y = 0 ↔ cb x = cb y := by
  unfold ordFl cb
  cases h1 : nanB x <;> cases h2 : nanB y <;> simp only [Bool.false_eq_true, if_false, if_true]
  · by_cases hz : keyF x = 0 ∧ keyF y = 0
    · rw [if_pos hz, cmpI_zero_iff]
      have e1 := key_zero hz.1
      have e2 := key_zero hz.2
      have s1 := sgF_split x hx
      have s2 := sgF_split y hy
      rw [e1] at s1
      rw [e2] at s2
      constructor
      · intro h
        cases hsx : sgF x <;> cases hsy : sgF y <;> rw [hsx, hsy] at h <;> simp at h
        · rw [s1, s2, hsx, hsy]
        · rw [s1, s2, hsx, hsy]
      · intro h
        rw [h]
    · rw [if_neg hz, cmpI_zero_iff]
      constructor
      · intro h
        have s1 := sgF_split x hx
        have s2 := sgF_split y hy
        have hk := h
        unfold keyF at hk
        cases hsx : sgF x <;> cases hsy : sgF y <;> rw [hsx, hsy] at hk <;> simp only [Bool.false_eq_true, if_false, if_true] at hk
        · have := magF_inj (a := x % 9223372036854775808) (b := y % 9223372036854775808) (by omega)
          rw [s1, s2, hsx, hsy, this]
        · exact absurd (show keyF x = 0 ∧ keyF y = 0 by unfold keyF; rw [hsx, hsy]; simp only [Bool.false_eq_true, if_false, if_true]; omega) hz
        · exact absurd (show keyF x = 0 ∧ keyF y = 0 by unfold keyF; rw [hsx, hsy]; simp only [Bool.false_eq_true, if_false, if_true]; omega) hz
        · have := magF_inj (a := x % 9223372036854775808) (b := y % 9223372036854775808) (by omega)
          rw [s1, s2, hsx, hsy, this]
      · intro h; rw [h]
  · constructor
    · intro h; cases h
    · intro h; subst h; rw [show nanB 9221120237041090561 = true by decide] at h1; cases h1
  · constructor
    · intro h; cases h
    · intro h; subst h; rw [show nanB 9221120237041090561 = true by decide] at h2; cases h2

/-! ### strings -/
theorem less_compare : ∀ (a b : List UInt8), Op.bytesLess a b = decide (Lib.compareBytes a b = -1)
  | [], [] => by simp [Op.bytesLess, Lib.compareBytes]
  | [], y :: b => by simp [Op.bytesLess, Lib.compareBytes]
  | x :: a, [] => by simp [Op.bytesLess, Lib.compareBytes]
  | x :: a, y :: b => by
    have ih := less_compare a b
    unfold Op.bytesLess Lib.compareBytes
    by_cases h1 : x < y
    · simp [h1]
    · by_cases h2 : y < x
      · have h3 : ¬ x = y := fun e => by subst e; exact h1 h2
        simp [h1, h2, h3]
      · have h3 : x = y := UInt8.le_antisymm (UInt8.not_lt.1 h2) (UInt8.not_lt.1 h1)
        subst h3
        simp [ih]
theorem compare_swap : ∀ (a b : List UInt8), Lib.compareBytes a b = -(Lib.compareBytes b a)
  | [], [] => rfl
  | [], y :: b => rfl
  | x :: a, [] => rfl
  | x :: a, y :: b => by
    have ih := compare_swap a b
    unfold Lib.compareBytes
    by_cases h1 : x < y
    · have h2 : ¬ y < x := fun h => by have := UInt8.lt_iff_toNat_lt.1 h; have := UInt8.lt_iff_toNat_lt.1 h1; omega
      simp [h1, h2]
    · by_cases h2 : y < x
      · simp [h1, h2]
      · simp [h1, h2, ih]
theorem compare_three (a b : List UInt8) : Lib.compareBytes a b = -1 ∨ Lib.compareBytes a b = 0 ∨ Lib.compareBytes a b = 1 := by
  induction a generalizing b with
  | nil => cases b <;> simp [Lib.compareBytes]
  | cons x a ih =>
    cases b with
    | nil => simp [Lib.compareBytes]
    | cons y b =>
      unfold Lib.compareBytes
      split
      · simp
      · split
        · simp
        · exact ih b
theorem compare_eq_zero : ∀ (a b : List UInt8), Lib.compareBytes a b = 0 ↔ a = b
  | [], [] => by simp [Lib.compareBytes]
  | [], y :: b => by simp [Lib.compareBytes]
  | x :: a, [] => by simp [Lib.compareBytes]
  | x :: a, y :: b => by
    have ih := compare_eq_zero a b
    unfold Lib.compareBytes
    by_cases h1 : x < y
    · have : x ≠ y := fun e => by subst e; exact UInt8.lt_irrefl _ h1
      simp [h1, this]
    · by_cases h2 : y < x
      · have : x ≠ y := fun e => by subst e; exact UInt8.lt_irrefl _ h2
        simp [h1, h2, this]
      · have h3 : x = y := UInt8.le_antisymm (UInt8.not_lt.1 h2) (UInt8.not_lt.1 h1)
        subst h3
        simp [ih]
end Go.Proofs.Ytjljlgkghlphnaa
namespace Go.Proofs.Ytjljlgkghlphnaa
open Go.RowKit

def wayB (a b : Bool) : Int := if a then -1 else if b then 1 else 0
theorem way_cmp (a b : Int) : wayB (decide (a < b)) (decide (b < a)) = cmpI a b := by
  unfold wayB cmpI
  by_cases h1 : a < b <;> by_cases h2 : b < a <;> simp [h1, h2]

def cmpFl (x y : Nat) : Int := if nanB x then (if nanB y then 0 else -1) else if nanB y then 1 else cmpI (keyF x) (keyF y)
end Go.Proofs.Ytjljlgkghlphnaa
namespace Go.Proofs.Ytjljlgkghlphnaa
open Go.RowKit

/-- What the order of two values is, their lists' given. -/
def ordC (k1 i1 k2 i2 : Int) (f1 f2 : Nat) (s1 s2 : ByteArray) (rl : Int) : Int :=
  if kindOf k1 = kindOf k2 then (if kindOf k1 = 1 then cmpI i1 i2 else if kindOf k1 = 2 then ordFl f1 f2 else if kindOf k1 = 3 then Lib.compareBytes s1.data.toList s2.data.toList else if kindOf k1 = 4 then rl else 0) else cmpI (kindOf k1) (kindOf k2)
theorem kindOf_range (k : Int) : 0 ≤ kindOf k ∧ kindOf k ≤ 4 := by unfold kindOf; split <;> omega

end Go.Proofs.Ytjljlgkghlphnaa
namespace Go.Proofs.Ytjljlgkghlphnaa
open Go.RowKit

mutual
def ordV : Val → Val → Int
  | .mk k i f s l, .mk k' i' f' s' l' => ordC k i k' i' f f' (bstr s) (bstr s') (ordL l l')
def ordL : List Val → List Val → Int
  | [], [] => 0
  | [], _ :: _ => -1
  | _ :: _, [] => 1
  | v :: l, v' :: l' => if ordV v v' = 0 then ordL l l' else ordV v v'
end
theorem ordL_step {l l' : List Val} {k : Nat} (h1 : k < l.length) (h2 : k < l'.length) : ordL (l.drop k) (l'.drop k) = if ordV l[k] l'[k] = 0 then ordL (l.drop (k + 1)) (l'.drop (k + 1)) else ordV l[k] l'[k] := by
  rw [List.drop_eq_getElem_cons h1, List.drop_eq_getElem_cons h2, ordL]
theorem ordL_over {l l' : List Val} {k : Nat} (h1 : k < l.length) (h2 : l'.length ≤ k) : ordL (l.drop k) (l'.drop k) = 1 := by
  rw [List.drop_eq_getElem_cons h1, List.drop_eq_nil_of_le h2, ordL]
theorem ordL_end {l l' : List Val} {k : Nat} (h1 : l.length ≤ k) (h2 : k ≤ l'.length) : ordL (l.drop k) (l'.drop k) = if k < l'.length then -1 else 0 := by
  rw [List.drop_eq_nil_of_le h1]
  by_cases h : k < l'.length
  · rw [if_pos h, List.drop_eq_getElem_cons h, ordL]
  · rw [if_neg h, List.drop_eq_nil_of_le (by omega), ordL]

theorem kindOf_four {k : Int} : kindOf k = 4 ↔ k = 4 := by unfold kindOf; split <;> omega
end Go.Proofs.Ytjljlgkghlphnaa
namespace Go.Proofs.Ytjljlgkghlphnaa
open Go.RowKit

theorem way_less (s1 s2 : ByteArray) : wayB (Op.bytesLess s1.toList s2.toList) (!Op.bytesLess s1.toList s2.toList && !s1.toList == s2.toList) = Lib.compareBytes s1.data.toList s2.data.toList := by
  have e1 : s1.toList = s1.data.toList := ByteArray.toList_eq s1
  have e2 : s2.toList = s2.data.toList := ByteArray.toList_eq s2
  rw [e1, e2, less_compare]
  have h0 := compare_eq_zero s1.data.toList s2.data.toList
  rcases compare_three s1.data.toList s2.data.toList with h | h | h
  · rw [h]; rfl
  · rw [h]
    have := h0.1 h
    rw [this]; simp [wayB]
  · rw [h]
    have : ¬ s1.data.toList = s2.data.toList := fun e => by have := h0.2 e; rw [h] at this; cases this
    have hb : (s1.data.toList == s2.data.toList) = false := beq_eq_false_iff_ne.2 this
    rw [hb]; simp [wayB]

end Go.Proofs.Ytjljlgkghlphnaa
namespace Go.Proofs.Ytjljlgkghlphnaa
open Go.RowKit

/-- A call: its id, names, args. -/
structure OpD where
  c : Nat
  s : Nat
  n : Nat
  g : List UInt8
  m : List UInt8
  l : List Val

/-- A call that the machine reads. -/
def OpReads (w : World) (B : Nat) (o : OpD) (cs : Array Value) : Prop :=
  ∃ (A : Option Addr) (cc : Nat) (xs : List Value) (css : Nat → Array Value), cs = #[.int .u32 o.c, .int .u32 o.s, .int .u16 o.n, .string (bstr o.g), .string (bstr o.m), .slice A o.l.length cc] ∧ Reads w B 5 A o.l.length xs ∧ (∀ j v, o.l[j]? = some v → VReads w B v (css j)) ∧ (∀ j, j < o.l.length → (xs.drop (j * 5)).take 5 = (css j).toList) ∧ o.l.length ≤ 2199023255488 ∧ (∀ v ∈ o.l, OkV v) ∧ o.c < 4294967296 ∧ o.s < 4294967296 ∧ o.n < 65536
theorem OpReads.below {w w' : World} {B : Nat} {o : OpD} {cs : Array Value} (h : OpReads w B o cs) (hb : Below B w w') : OpReads w' B o cs := by
  obtain ⟨A, cc, xs, css, h1, h2, h3, h4, h5, h6⟩ := h
  exact ⟨A, cc, xs, css, h1, h2.below hb, fun j v hv => (h3 j v hv).under hb, h4, h5, h6⟩

def OpCleanRes (w : World) (c0 s0 n0 : Int) (gg mm : ByteArray) (l : List Val) (e : Ending) (w' : World) : Prop :=
  ∃ A' c' xs' css', e = .returned (.agg #[.int .u32 c0, .int .u32 s0, .int .u16 n0, .string gg, .string mm, .slice A' l.length c']) ∧ VRow w' w.heap.size (l.map cleanV) A' c' xs' css' ∧ Below w.heap.size w w'

theorem VRow.down {w : World} {b b' : Nat} {l : List Val} {A : Option Addr} {c : Nat} {xs : List Value} {css : Nat → Array Value} (R : VRow w b l A c xs css) (hb : b' ≤ b) : VRow w b' l A c xs css :=
  ⟨R.ho, fun g hg => Nat.le_trans hb (R.hA g hg), fun k v hv => (R.hx k v hv).mono (fun g _ hg => ⟨Nat.le_trans hb hg.1, hg.2⟩), R.hxs⟩

structure ORel (w wr : World) (b : Nat) (c0 s0 n0 : Int) (gg mm : ByteArray) (l : List Val) (j : Nat) (A1 : Option Addr) (c1 : Nat) (xs1 : List Value) (css1 : Nat → Array Value) : Prop where
  jl : j ≤ l.length
  hz : Blk wr (b + 1) 30 #[.int .u32 0, .int .u32 0, .int .u16 0, .string ⟨#[]⟩, .string ⟨#[]⟩, .slice none 0 0]
  hy : Blk wr (b + 2) 30 #[.int .u32 c0, .int .u32 s0, .int .u16 n0, .string gg, .string mm, .slice A1 j c1]
  R : VRow wr (b + 3) ((l.take j).map cleanV) A1 c1 xs1 css1
  hb : Below b w wr

set_option maxHeartbeats 3200000 in
theorem op_clean {A : Option Addr} {c B : Nat} {l : List Val} {xs : List Value} {css : Nat → Array Value} {c0 s0 n0 : Int} {gg mm : ByteArray} {w : World} (hr : Reads w B 5 A l.length xs) (hB : B ≤ w.heap.size) (hxs : ∀ j, j < l.length → (xs.drop (j * 5)).take 5 = (css j).toList) (hx : ∀ (j : Nat) (v : Val), l[j]? = some v → VReads w B v (css j)) (hlen : l.length ≤ 2199023255488)
    (hcall : ∀ j v, l[j]? = some v → ∀ w1, Below w.heap.size w w1 → Calls Try.prog 66 #[.agg (css j)] w1 (CleanRes w1 v)) :
    Calls Try.prog 41 #[.agg #[.int .u32 c0, .int .u32 s0, .int .u16 n0, .string gg, .string mm, .slice A l.length c]] w (OpCleanRes w c0 s0 n0 gg mm l) := by
  obtain ⟨i1, gi, gz0, gz1, gz2⟩ := info_parts info_val
  have hsf := fun a k x m w => run_store_float (P := Try.prog) a k x m w
  have e1 : (w.alloc (.cells #[.int .u32 c0, .int .u32 s0, .int .u16 n0, .string gg, .string mm, .slice A l.length c] 30)).heap.size = w.heap.size + 1 := by simp
  have e2 : ((w.alloc (.cells #[.int .u32 c0, .int .u32 s0, .int .u16 n0, .string gg, .string mm, .slice A l.length c] 30)).alloc (.cells #[.int .u32 0, .int .u32 0, .int .u16 0, .string ⟨#[]⟩, .string ⟨#[]⟩, .slice none 0 0] 30)).heap.size = w.heap.size + 1 + 1 := by simp
  have hz := Blk.new (w.alloc (.cells #[.int .u32 c0, .int .u32 s0, .int .u16 n0, .string gg, .string mm, .slice A l.length c] 30)) 30 #[.int .u32 0, .int .u32 0, .int .u16 0, .string ⟨#[]⟩, .string ⟨#[]⟩, .slice none 0 0]
  have hy := Blk.new ((w.alloc (.cells #[.int .u32 c0, .int .u32 s0, .int .u16 n0, .string gg, .string mm, .slice A l.length c] 30)).alloc (.cells #[.int .u32 0, .int .u32 0, .int .u16 0, .string ⟨#[]⟩, .string ⟨#[]⟩, .slice none 0 0] 30)) 30 #[.int .u32 c0, .int .u32 s0, .int .u16 n0, .string gg, .string mm, .slice none 0 0]
  have hz2 := hz.alloc (.cells #[.int .u32 c0, .int .u32 s0, .int .u16 n0, .string gg, .string mm, .slice none 0 0] 30)
  have hb := (((Below.refl w.heap.size w).alloc (Nat.le_refl _) (.cells #[.int .u32 c0, .int .u32 s0, .int .u16 n0, .string gg, .string mm, .slice A l.length c] 30)).alloc (by simp) (.cells #[.int .u32 0, .int .u32 0, .int .u16 0, .string ⟨#[]⟩, .string ⟨#[]⟩, .slice none 0 0] 30)).alloc (by simp; omega) (.cells #[.int .u32 c0, .int .u32 s0, .int .u16 n0, .string gg, .string mm, .slice none 0 0] 30)
  rw [e1] at hz2
  rw [e2] at hy
  replace hcall := Lib.hid hcall
  clear hz e1 e2
  go_enter Try.func41, Try.ntmps41
  go_wp2_with fail
  generalize ((w.alloc (.cells #[.int .u32 c0, .int .u32 s0, .int .u16 n0, .string gg, .string mm, .slice A l.length c] 30)).alloc (.cells #[.int .u32 0, .int .u32 0, .int .u16 0, .string ⟨#[]⟩, .string ⟨#[]⟩, .slice none 0 0] 30)).alloc (.cells #[.int .u32 c0, .int .u32 s0, .int .u16 n0, .string gg, .string mm, .slice none 0 0] 30) = w2 at *
  obtain ⟨b, hbb⟩ : ∃ b, w.heap.size = b := ⟨_, rfl⟩
  rw [hbb] at hz2 hy hb ⊢
  replace hbb := Lib.hid hbb
  go_loopw [16] (fun ii wr => ∃ (j : Nat) (A1 : Option Addr) (c1 : Nat) (xs1 : List Value) (css1 : Nat → Array Value), ii = .int .i64 (j : Int) ∧ ORel w wr b c0 s0 n0 gg mm l j A1 c1 xs1 css1) (fun ii _ => l.length - (intOf ii).toNat)
  case atStart => exact ⟨0, none, 0, [], _, rfl, ⟨Nat.zero_le _, hz2, hy, VRow.nil _ _, hb⟩⟩
  case round =>
    obtain ⟨j, A1, c1, xs1, css1, rfl, R⟩ := hrel
    have hjl := R.jl
    have hml : ((l.take j).map cleanV).length = j := by simp; omega
    have hyl : b + 2 < wr.heap.size := R.hy.lt
    have hbw : Below w.heap.size w wr := by rw [hbb.out]; exact R.hb
    by_cases hlt : j < l.length
    · obtain ⟨ad, k', i', f', s', A', n', c', rfl, hform, hgk, g0, g1, g2, g3, g4⟩ := kid hr hx hxs (hbw.mono hB) hlt
      have htk : (l.take (j + 1)).map cleanV = (l.take j).map cleanV ++ [cleanV l[j]] := by rw [List.take_succ_eq_append_getElem hlt, List.map_append]; rfl
      have hcl := fun w1 (hb1 : Below w.heap.size w w1) => hcall.out j l[j] hgk w1 hb1
      rw [hform] at hcl
      have hbx := Blk.new wr 110 #[.int .i64 k', .int .i64 i', .float .f64 f', .string s', .slice A' n' c']
      have hy1 := R.hy.alloc (.cells #[.int .i64 k', .int .i64 i', .float .f64 f', .string s', .slice A' n' c'] 110)
      have hz1 := R.hz.alloc (.cells #[.int .i64 k', .int .i64 i', .float .f64 f', .string s', .slice A' n' c'] 110)
      have hb1 := hbw.alloc hbw.size (.cells #[.int .i64 k', .int .i64 i', .float .f64 f', .string s', .slice A' n' c'] 110)
      have hu1 := (Upd.refl (fun _ => False) wr).alloc (.cells #[.int .i64 k', .int .i64 i', .float .f64 f', .string s', .slice A' n' c'] 110)
      replace htk := Lib.hid htk
      replace hcl := Lib.hid hcl
      clear hform hgk
      go_wp2_with fail
      clear g0 g1 g2 g3 g4
      generalize hw3 : wr.alloc (.cells #[.int .i64 k', .int .i64 i', .float .f64 f', .string s', .slice A' n' c'] 110) = w3 at *
      have hw3s : w3.heap.size = wr.heap.size + 1 := by rw [← hw3]; simp
      replace hw3 := Lib.hid hw3
      have hS : (w3.drew.cell? ⟨b + 2, 5, none⟩ = some (.slice A1 j c1)) ∧ w3.drew.cell? ⟨wr.heap.size, 0, none⟩ = some (.int .i64 k') ∧ w3.drew.cell? ⟨wr.heap.size, 1, none⟩ = some (.int .i64 i') ∧ w3.drew.cell? ⟨wr.heap.size, 2, none⟩ = some (.float .f64 f') ∧ w3.drew.cell? ⟨wr.heap.size, 3, none⟩ = some (.string s') ∧ w3.drew.cell? ⟨wr.heap.size, 4, none⟩ = some (.slice A' n' c') := ⟨hy1.cell 5, hbx.cell 0, hbx.cell 1, hbx.cell 2, hbx.cell 3, hbx.cell 4⟩
      refine wp_region_lex (fun W => (W.cell? ⟨b + 2, 5, none⟩ = some (.slice A1 j c1)) ∧ W.cell? ⟨wr.heap.size, 0, none⟩ = some (.int .i64 k') ∧ W.cell? ⟨wr.heap.size, 1, none⟩ = some (.int .i64 i') ∧ W.cell? ⟨wr.heap.size, 2, none⟩ = some (.float .f64 f') ∧ W.cell? ⟨wr.heap.size, 3, none⟩ = some (.string s') ∧ W.cell? ⟨wr.heap.size, 4, none⟩ = some (.slice A' n' c')) [1, 2] [3, 4, 5, 7] [0, 1, 2, 3, 4, 5, 6, 7] (by kernel_rfl) rfl (by kernel_rfl) (by kernel_rfl) (fun _ _ d _ _ h => by cases d <;> exact h) ?_
      repeat (first | (refine lexG_take _ ?_ rfl rfl rfl rfl (fun _ => ?_) ?_; rotate_left; (focus (go_simp; with_reducible rfl)); try simp only [Act.put, List.setIfInBounds_toArray, List.set_cons_zero, List.set_cons_succ]) | (refine lexG_held _ ?_ rfl rfl rfl rfl (by assumption) (fun _ hSw => ?_) ?_; rotate_left; (focus ((try dsimp only at hSw); go_simp; with_reducible rfl)); try simp only [Act.put, List.setIfInBounds_toArray, List.set_cons_zero, List.set_cons_succ]) | (refine lexG_skip _ rfl rfl (by assumption) ?_; try simp only [Act.put, List.setIfInBounds_toArray, List.set_cons_zero, List.set_cons_succ]))
      refine lexG_now _ rfl rfl rfl (fun K hK => ?_)
      go_wp2_with fail
      refine (hcl.out w3.drew hb1.drew).mono ?_
      rintro e w6 ⟨cs, rfl, hv6, hb6⟩
      dsimp only
      have hb6' : Below w3.heap.size w3 w6 := below_of_drew hb6
      have hcs5 := hv6.size
      have hone := hv6.one
      obtain ⟨a0, a1, a2, a3, a4, rfl⟩ : ∃ a0 a1 a2 a3 a4, cs = #[a0, a1, a2, a3, a4] := by
        match cs, hcs5 with
        | ⟨[a0, a1, a2, a3, a4]⟩, _ => exact ⟨a0, a1, a2, a3, a4, rfl⟩
      have hy6 := hy1.below hb6' hy1.lt
      have hz6 := hz1.below hb6' hz1.lt
      have hbx6 := hbx.below hb6' hbx.lt
      have hu6 := hu1.thenBelow hb6' (by omega)
      have ho6 := R.R.ho.upd hu6 (fun g _ h => h)
      rw [hml] at ho6
      have hv6' : VOwn w6 (fun g => wr.heap.size ≤ g) (cleanV l[j]) #[a0, a1, a2, a3, a4] := hv6.mono (fun g _ hg => by have : w3.heap.size ≤ g := hg; omega)
      refine hK _ _ _ (fun _ h => h) ⟨hy6.cell 5, hbx6.cell 0, hbx6.cell 1, hbx6.cell 2, hbx6.cell 3, hbx6.cell 4⟩ ?_
      clear hK K hS
      try simp only [Act.put, List.setIfInBounds_toArray, List.set_cons_zero, List.set_cons_succ]
      have hy7 := hy6.alloc (.cells #[a0, a1, a2, a3, a4] 110)
      have hz7 := hz6.alloc (.cells #[a0, a1, a2, a3, a4] 110)
      have hbx7 := hbx6.alloc (.cells #[a0, a1, a2, a3, a4] 110)
      have ho7 := ho6.alloc (.cells #[a0, a1, a2, a3, a4] 110)
      have hsrc := Reads.lit (size := 5) w6 #[a0, a1, a2, a3, a4] 110 (0, 0) 1 [a0, a1, a2, a3, a4] rfl rfl
      refine lexG_now _ rfl rfl rfl (fun K hK => ?_)
      go_wp2_with fail
      refine hK _ _ _ (fun _ h => h) ⟨hy7.cell 5, hbx7.cell 0, hbx7.cell 1, hbx7.cell 2, hbx7.cell 3, hbx7.cell 4⟩ ?_
      clear hK K
      try simp only [Act.put, List.setIfInBounds_toArray, List.set_cons_zero, List.set_cons_succ]
      repeat (first | (refine lexG_take _ ?_ rfl rfl rfl rfl (fun _ => ?_) ?_; rotate_left; (focus (go_simp; with_reducible rfl)); try simp only [Act.put, List.setIfInBounds_toArray, List.set_cons_zero, List.set_cons_succ]) | (refine lexG_held _ ?_ rfl rfl rfl rfl (by assumption) (fun _ hSw => ?_) ?_; rotate_left; (focus ((try dsimp only at hSw); go_simp; with_reducible rfl)); try simp only [Act.put, List.setIfInBounds_toArray, List.set_cons_zero, List.set_cons_succ]) | (refine lexG_skip _ rfl rfl (by assumption) ?_; try simp only [Act.put, List.setIfInBounds_toArray, List.set_cons_zero, List.set_cons_succ]))
      refine lexG_now _ rfl rfl rfl (fun K hK => ?_)
      refine wp_append_mine _ _ 28 28 rfl 110 i1 _ 5 64 Try.underlying28 gi gz0 gz1 gz2 rfl rfl ho7 rfl (Src.ofReads Try.underlying28 _ hsrc (by intro u hu; exact hone u (by simpa using hu))) (by unfold maxLen; omega) (by omega) (fun A8 c8 w8 ho8 hg8 hat8 => ?_)
      have hAz : ∀ g, bOf A1 = some g → b + 3 ≤ g := R.R.hA
      have hy8 := hy7.grown hg8 (fun e => by have := hAz _ e.symm; omega)
      have hz8 := hz7.grown hg8 (fun e => by have := hAz _ e.symm; omega)
      have hbx8 := hbx7.grown hg8 (fun e => by have := R.R.ho.lt e.symm; omega)
      refine hK _ _ _ (fun _ h => h) ⟨hy8.cell 5, hbx8.cell 0, hbx8.cell 1, hbx8.cell 2, hbx8.cell 3, hbx8.cell 4⟩ ?_
      clear hK K
      try simp only [Act.put, List.setIfInBounds_toArray, List.set_cons_zero, List.set_cons_succ]
      repeat (first | (refine lexG_take _ ?_ rfl rfl rfl rfl (fun _ => ?_) ?_; rotate_left; (focus (go_simp; with_reducible rfl)); try simp only [Act.put, List.setIfInBounds_toArray, List.set_cons_zero, List.set_cons_succ]) | (refine lexG_held _ ?_ rfl rfl rfl rfl (by assumption) (fun _ hSw => ?_) ?_; rotate_left; (focus ((try dsimp only at hSw); go_simp; with_reducible rfl)); try simp only [Act.put, List.setIfInBounds_toArray, List.set_cons_zero, List.set_cons_succ]) | (refine lexG_skip _ rfl rfl (by assumption) ?_; try simp only [Act.put, List.setIfInBounds_toArray, List.set_cons_zero, List.set_cons_succ]))
      refine lexG_nowF _ rfl rfl rfl (by kernel_rfl) (fun K hK => ?_)
      have y84 := hy8.cell 5
      have yf8 := hy8.frozen 5
      go_simp
      refine hK _ _ ?_
      clear hK K
      refine lexG_nil ?_
      have R8 := R.R.push (b := b + 3) (by omega) hu6 (fun _ h => h.elim) hv6' ⟨_, rfl⟩ (by rw [hml]; exact ho8) hg8 hat8
      rw [← htk.out, hml] at R8
      have hb8 : Below b w w8 := ((by rw [← hbb.out]; exact ((hb1.trans (hb6'.mono hb1.size)).alloc (Nat.le_trans hb1.size hb6'.size) (.cells #[a0, a1, a2, a3, a4] 110)) : Below b w (w6.alloc (.cells #[a0, a1, a2, a3, a4] 110)))).grown hg8 (by rw [World.size_alloc]; have := hb6'.size; omega) (fun k e => by have := hAz k e; omega)
      have hnew : ORel w (w8.setCell ⟨b + 2, 5, none⟩ (.slice A8 (j + 1) c8)) b c0 s0 n0 gg mm l (j + 1) A8 c8 _ _ := ⟨hlt, hz8.far (p := ⟨b + 2, 5, none⟩) (by show b + 1 ≠ b + 2; omega) _, hy8.set_ 5 (.slice A8 (j + 1) c8), R8.upd ((Upd.refl (fun x => x = b + 2) w8).setCell (p := ⟨b + 2, 5, none⟩) (fun _ => rfl) (.slice A8 (j + 1) c8)) (fun g hg e => by omega), hb8.setCell (p := ⟨b + 2, 5, none⟩) (by show b ≤ b + 2; omega) _⟩
      clear R8 hb8 hy8 hz8 hbx8 hy7 hz7 hbx7 ho7 hsrc ho8 hg8 hat8 hv6 hv6' hu6 ho6 hy6 hz6 hbx6 hb6 hb6' R hone hcs5 hy1 hz1 hbx hb1 hu1 y84 yf8
      replace hnew := Lib.hid hnew
      go_wp2_with fail
      go_roundw
      case rel => exact ⟨j + 1, A8, c8, _, _, by simp, hnew.out⟩
      case measure => simp [intOf]; omega
    · have hj' : j = l.length := by omega
      subst hj'
      have y0 := R.hy.cell 0
      have y1 := R.hy.cell 1
      have y2 := R.hy.cell 2
      have y3 := R.hy.cell 3
      have y4 := R.hy.cell 4
      have y5 := R.hy.cell 5
      have hzz := R.hz
      have hz7 := R.hz.row #[.int .u32 c0, .int .u32 s0, .int .u16 n0, .string gg, .string mm, .slice A1 l.length c1]
      have hb8 := below_row R.hb (g := b + 1) (by omega) #[.int .u32 c0, .int .u32 s0, .int .u16 n0, .string gg, .string mm, .slice A1 l.length c1]
      have hR := R.R
      rw [List.take_length] at hR
      have hml2 : (l.map cleanV).length = l.length := by simp
      have V4 := hR.upd ((Upd.refl (fun x => x = b + 1) wr).setRow (g := b + 1) (fun _ => rfl) #[.int .u32 c0, .int .u32 s0, .int .u16 n0, .string gg, .string mm, .slice A1 l.length c1]) (fun g hg e => by omega)
      clear R hR
      go_wp2_with (refine store_row_gen rfl 30 (Operand.tmp 2) _ rfl (b + 1) #[.int .u32 c0, .int .u32 s0, .int .u16 n0, .string gg, .string mm, .slice A1 l.length c1] rfl rfl 30 _ hzz (by kernel_rfl) rfl (by simp [Value.oneCell']) (fun w6 hw6 => ?_); rw [← hw6] at hz7 hb8 V4; clear hw6)
      refine bodyPost_ret (v := .agg #[.int .u32 c0, .int .u32 s0, .int .u16 n0, .string gg, .string mm, .slice A1 l.length c1]) ?hr rfl ?_
      case hr => exact results_cell_row rfl _ _ (b + 1) 30 _ (0, 0) _ rfl hz7 Try.underlying30 rfl (by kernel_rfl)
      exact ⟨_, _, _, _, rfl, V4.down (by rw [hbb.out]; omega), by rw [hbb.out]; exact hb8⟩

end Go.Proofs.Ytjljlgkghlphnaa
namespace Go.Proofs.Ytjljlgkghlphnaa
open Go.RowKit

theorem Blk.id3 {w : World} {g : Nat} {t : TypeId} {a b c : Value} (h : Blk w g t #[a, b, c]) : w.cell? ⟨g, 0, none⟩ = some a ∧ w.cell? ⟨g, 1, none⟩ = some b ∧ w.cell? ⟨g, 2, none⟩ = some c := ⟨h.cell 0, h.cell 1, h.cell 2⟩
theorem bstr_len (s : List UInt8) : (bstr s).size = s.length := by simp [bstr, ByteArray.size]

theorem light_op {w : World} {B : Nat} {o : OpD} {cs : Array Value} (h : OpReads w B o cs) (w1 : World) (hb1 : Below B w w1) (hB1 : B ≤ w1.heap.size) :
    Calls Try.prog 9 #[.agg cs] w1 (fun e w' => ∃ q, e = .returned (.bool q) ∧ (q = true → o.g.length ≤ 100 ∧ o.m.length ≤ 100 ∧ o.l.length ≤ 40) ∧ Below w1.heap.size w1 w') := by
  obtain ⟨A, cc, xs, css, rfl, hr, hx, hxs, hl, hok⟩ := h
  have hli := fun w2 (hb2 : Below w1.heap.size w1 w2) => lights_any (c := cc) hr hxs hx (hb1.trans (hb2.mono hB1)) (Nat.le_trans hB1 hb2.size) (by omega)
  obtain ⟨c, s, n, g, m, l⟩ := o
  dsimp only at *
  have hg := bstr_len g
  have hm := bstr_len m
  generalize bstr g = gg at *
  generalize bstr m = mm at *
  have hbl := (Below.refl w1.heap.size w1).alloc (Nat.le_refl _) (.cells #[.int .u32 c, .int .u32 s, .int .u16 n, .string gg, .string mm, .slice A l.length cc] 30)
  replace hli := Lib.hid hli
  clear hr hxs hx hl hok
  by_cases hg1 : g.length ≤ 100
  · by_cases hm1 : m.length ≤ 100
    · have d1 : decide ((gg.size : Int) ≤ 100) = true := decide_eq_true (by omega)
      have d2 : decide ((mm.size : Int) ≤ 100) = true := decide_eq_true (by omega)
      clear hg hm
      go_enter Try.func9, Try.ntmps9
      go_wp2_with fail
      refine (hli.out _ hbl).mono ?_
      rintro e w2 ⟨q, rfl, hq, hb2⟩
      dsimp only
      have hb3 := below_then hb2 hbl
      go_wp2_with fail
      go_ret
      exact ⟨q, rfl, fun h => ⟨hg1, hm1, hq h⟩, hb3⟩
    · have d1 : decide ((gg.size : Int) ≤ 100) = true := decide_eq_true (by omega)
      have d2 : decide ((mm.size : Int) ≤ 100) = false := decide_eq_false (by omega)
      clear hg hm
      go_enter Try.func9, Try.ntmps9
      go_wp2_with fail
      go_ret
      exact ⟨false, rfl, fun h => (by cases h), hbl⟩
  · have d1 : decide ((gg.size : Int) ≤ 100) = false := decide_eq_false (by omega)
    clear hg hm
    go_enter Try.func9, Try.ntmps9
    go_wp2_with fail
    go_ret
    exact ⟨false, rfl, fun h => (by cases h), hbl⟩

set_option maxHeartbeats 1600000 in
theorem ref_clean_op {A : Option Addr} {cc B : Nat} {l : List Val} {xs : List Value} {css : Nat → Array Value} {c s n : Int} {gg mm : ByteArray} {w : World} (hr : Reads w B 5 A l.length xs) (hB : B ≤ w.heap.size) (hxs : ∀ j, j < l.length → (xs.drop (j * 5)).take 5 = (css j).toList) (hx : ∀ (j : Nat) (v : Val), l[j]? = some v → VReads w B v (css j)) (hlen : l.length ≤ 2199023255488) (hok : ∀ v ∈ l, OkV v) :
    Calls Try.prog 65 #[.agg #[.int .u32 c, .int .u32 s, .int .u16 n, .string gg, .string mm, .slice A l.length cc]] w (OpCleanRes w c s n gg mm l) := by
  have hcs : ∀ w2, Below w.heap.size w w2 → Calls Try.prog 92 #[.slice A l.length cc] w2 (CleansRes w2 l) := fun w2 hb2 =>
    ref_cleans (hr.below (hb2.mono hB)) (Nat.le_trans hB hb2.size) hxs (fun j v hv => (hx j v hv).under (hb2.mono hB)) hlen (fun j v hv w3 hb3 => ref_clean_s (hx j v hv) w3 (short_of_ok (hok v (List.mem_of_getElem? hv))) ((hb2.mono hB).trans (hb3.mono (Nat.le_trans hB hb2.size))) (Nat.le_trans hB (Nat.le_trans hb2.size hb3.size)))
  have b1 := Blk.new w 30 #[.int .u32 c, .int .u32 s, .int .u16 n, .string gg, .string mm, .slice A l.length cc]
  have b1' := b1.alloc (.cells #[.int .u32 0, .int .u32 0, .int .u16 0, .string ⟨#[]⟩, .string ⟨#[]⟩, .slice none 0 0] 30)
  have b2 := Blk.new (w.alloc (.cells #[.int .u32 c, .int .u32 s, .int .u16 n, .string gg, .string mm, .slice A l.length cc] 30)) 30 #[.int .u32 0, .int .u32 0, .int .u16 0, .string ⟨#[]⟩, .string ⟨#[]⟩, .slice none 0 0]
  have hsz : (w.alloc (.cells #[.int .u32 c, .int .u32 s, .int .u16 n, .string gg, .string mm, .slice A l.length cc] 30)).heap.size = w.heap.size + 1 := by simp
  rw [hsz] at b2
  have hbl := ((Below.refl w.heap.size w).alloc (Nat.le_refl _) (.cells #[.int .u32 c, .int .u32 s, .int .u16 n, .string gg, .string mm, .slice A l.length cc] 30)).alloc (by simp) (.cells #[.int .u32 0, .int .u32 0, .int .u16 0, .string ⟨#[]⟩, .string ⟨#[]⟩, .slice none 0 0] 30)
  have hs2 : ((w.alloc (.cells #[.int .u32 c, .int .u32 s, .int .u16 n, .string gg, .string mm, .slice A l.length cc] 30)).alloc (.cells #[.int .u32 0, .int .u32 0, .int .u16 0, .string ⟨#[]⟩, .string ⟨#[]⟩, .slice none 0 0] 30)).heap.size = w.heap.size + 2 := by simp
  replace hcs := Lib.hid hcs
  clear hr hxs hx hlen hok b1 hsz
  go_enter Try.func65, Try.ntmps65
  go_wp2_with fail
  refine (hcs.out _ hbl).mono ?_
  rintro e w3 ⟨A3, c3, xs3, css3, rfl, R, hb3⟩
  dsimp only
  have B1 := b1'.below hb3 b1'.lt
  have B2 := b2.below hb3 b2.lt
  have hb4 := below_then hb3 hbl
  rw [hs2] at R
  clear b1' b2 hbl hb3 hs2
  have y0 := B1.cell 0
  have y1 := B1.cell 1
  have y2 := B1.cell 2
  have y3 := B1.cell 3
  have y4 := B1.cell 4
  have y5 := B1.cell 5
  have z5 := B1.frozen 5
  have B1s := B1.set_ 5 (.slice A3 l.length c3)
  have B2s := B2.far (p := ⟨w.heap.size, 5, none⟩) (show w.heap.size + 1 ≠ w.heap.size by omega) (.slice A3 l.length c3)
  have hb5 := hb4.setCell (p := ⟨w.heap.size, 5, none⟩) (Nat.le_refl _) (.slice A3 l.length c3)
  have R5 := R.upd ((Upd.refl (fun x => x = w.heap.size) w3).setCell (p := ⟨w.heap.size, 5, none⟩) (fun _ => rfl) (.slice A3 l.length c3)) (fun g hg e => by omega)
  have B2r := B2s.row #[.int .u32 c, .int .u32 s, .int .u16 n, .string gg, .string mm, .slice A3 l.length c3]
  have hb6 := below_row hb5 (g := w.heap.size + 1) (by omega) #[.int .u32 c, .int .u32 s, .int .u16 n, .string gg, .string mm, .slice A3 l.length c3]
  have R6 := R5.upd ((Upd.refl (fun x => x = w.heap.size + 1) (w3.setCell ⟨w.heap.size, 5, none⟩ (.slice A3 l.length c3))).setRow (g := w.heap.size + 1) (fun _ => rfl) #[.int .u32 c, .int .u32 s, .int .u16 n, .string gg, .string mm, .slice A3 l.length c3]) (fun g hg e => by omega)
  clear R R5 hb4 hb5 B1 B2
  go_wp2_with (refine store_row_gen rfl 30 (Operand.tmp 2) _ rfl (w.heap.size + 1) #[.int .u32 c, .int .u32 s, .int .u16 n, .string gg, .string mm, .slice A3 l.length c3] (by simp [go_sem]) (by simp [go_sem]) 30 _ B2s (by kernel_rfl) rfl (by simp [Value.oneCell']) (fun w6 hw6 => ?_); rw [← hw6] at B2r hb6 R6; clear hw6)
  refine bodyPost_ret (v := .agg #[.int .u32 c, .int .u32 s, .int .u16 n, .string gg, .string mm, .slice A3 l.length c3]) ?hr rfl ?_
  case hr => exact results_cell_row rfl _ _ (w.heap.size + 1) 30 _ (0, 0) _ rfl B2r Try.underlying30 rfl (by kernel_rfl)
  exact ⟨_, _, _, _, rfl, R6.down (by omega), hb6⟩

set_option maxHeartbeats 1600000 in
theorem values_true {A A' : Option Addr} {c c' B : Nat} {l : List Val} {xs xs' : List Value} {css css' : Nat → Array Value} {w : World} (hr : Reads w B 5 A l.length xs) (hr' : Reads w B 5 A' l.length xs') (hB : B ≤ w.heap.size) (hxs : ∀ j, j < l.length → (xs.drop (j * 5)).take 5 = (css j).toList) (hxs' : ∀ j, j < l.length → (xs'.drop (j * 5)).take 5 = (css' j).toList)
    (hx : ∀ j v, l[j]? = some v → VReads w B v (css j)) (hx' : ∀ j v, l[j]? = some v → VReads w B v (css' j)) (hn : l.length ≤ 140737488351232) :
    Calls Try.prog 36 #[.slice A l.length c, .slice A' l.length c'] w (Says w (.bool true)) := by
  have l0 : ((l.length : Int) != (l.length : Int)) = false := by simp
  go_enter Try.func36, Try.ntmps36
  go_wp2_with fail
  clear l0
  go_loopw [5] (fun i wr => ∃ j : Nat, j ≤ l.length ∧ i = .int .i64 (j : Int) ∧ Below w.heap.size w wr) (fun i _ => l.length - (intOf i).toNat)
  case atStart => exact ⟨0, Nat.zero_le _, rfl, Below.refl _ _⟩
  case round =>
    rename_i hrel
    obtain ⟨j, hj, rfl, hb⟩ := hrel
    by_cases hlt : j < l.length
    · obtain ⟨ad, k1, i1, f1, s1, A1, n1, c1, rfl, hform, hgk, g0, g1, g2, g3, g4⟩ := kid hr hx hxs (hb.mono hB) hlt
      obtain ⟨ad', k2, i2, f2, s2, A2, n2, c2, rfl, hform', -, d0, d1, d2, d3, d4⟩ := kid hr' hx' hxs' (hb.mono hB) hlt
      have hcl := fun w4 (hb4 : Below w.heap.size w w4) => same_true (hx j l[j] hgk) (css' j) w4 (hx' j l[j] hgk) (hb4.mono hB) (Nat.le_trans hB hb4.size)
      rw [hform, hform'] at hcl
      replace hcl := Lib.hid hcl
      clear hform hform' hgk
      have hS : (wr.drew.cell? (ad.add (j * 5)) = some (.int .i64 k1) ∧ wr.drew.cell? ⟨(ad.add (j * 5)).block, (ad.add (j * 5)).off + 1, none⟩ = some (.int .i64 i1) ∧ wr.drew.cell? ⟨(ad.add (j * 5)).block, (ad.add (j * 5)).off + 2, none⟩ = some (.float .f64 f1) ∧ wr.drew.cell? ⟨(ad.add (j * 5)).block, (ad.add (j * 5)).off + 3, none⟩ = some (.string s1) ∧ wr.drew.cell? ⟨(ad.add (j * 5)).block, (ad.add (j * 5)).off + 4, none⟩ = some (.slice A1 n1 c1)) ∧ (wr.drew.cell? (ad'.add (j * 5)) = some (.int .i64 k2) ∧ wr.drew.cell? ⟨(ad'.add (j * 5)).block, (ad'.add (j * 5)).off + 1, none⟩ = some (.int .i64 i2) ∧ wr.drew.cell? ⟨(ad'.add (j * 5)).block, (ad'.add (j * 5)).off + 2, none⟩ = some (.float .f64 f2) ∧ wr.drew.cell? ⟨(ad'.add (j * 5)).block, (ad'.add (j * 5)).off + 3, none⟩ = some (.string s2) ∧ wr.drew.cell? ⟨(ad'.add (j * 5)).block, (ad'.add (j * 5)).off + 4, none⟩ = some (.slice A2 n2 c2)) ∧ Below w.heap.size w wr.drew := ⟨⟨g0, g1, g2, g3, g4⟩, ⟨d0, d1, d2, d3, d4⟩, ⟨hb.os, hb.tape, hb.output, hb.size, hb.block⟩⟩
      go_wp2_with fail
      clear g0 g1 g2 g3 g4 d0 d1 d2 d3 d4
      refine wp_region_lex (fun W => (W.cell? (ad.add (j * 5)) = some (.int .i64 k1) ∧ W.cell? ⟨(ad.add (j * 5)).block, (ad.add (j * 5)).off + 1, none⟩ = some (.int .i64 i1) ∧ W.cell? ⟨(ad.add (j * 5)).block, (ad.add (j * 5)).off + 2, none⟩ = some (.float .f64 f1) ∧ W.cell? ⟨(ad.add (j * 5)).block, (ad.add (j * 5)).off + 3, none⟩ = some (.string s1) ∧ W.cell? ⟨(ad.add (j * 5)).block, (ad.add (j * 5)).off + 4, none⟩ = some (.slice A1 n1 c1)) ∧ (W.cell? (ad'.add (j * 5)) = some (.int .i64 k2) ∧ W.cell? ⟨(ad'.add (j * 5)).block, (ad'.add (j * 5)).off + 1, none⟩ = some (.int .i64 i2) ∧ W.cell? ⟨(ad'.add (j * 5)).block, (ad'.add (j * 5)).off + 2, none⟩ = some (.float .f64 f2) ∧ W.cell? ⟨(ad'.add (j * 5)).block, (ad'.add (j * 5)).off + 3, none⟩ = some (.string s2) ∧ W.cell? ⟨(ad'.add (j * 5)).block, (ad'.add (j * 5)).off + 4, none⟩ = some (.slice A2 n2 c2)) ∧ Below w.heap.size w W) [3, 7] [8] [0, 1, 2, 3, 4, 5, 6, 7, 8, 9] (by kernel_rfl) rfl (by kernel_rfl) (by kernel_rfl) (fun _ _ d _ _ h => by cases d <;> exact h) ?_
      repeat (first | (refine lexG_take _ ?_ rfl rfl rfl rfl (fun _ => ?_) ?_; rotate_left; (focus (go_simp; with_reducible rfl)); try simp only [Act.put, List.setIfInBounds_toArray, List.set_cons_zero, List.set_cons_succ]) | (refine lexG_held _ ?_ rfl rfl rfl rfl (by assumption) (fun _ hSw => ?_) ?_; rotate_left; (focus ((try dsimp only at hSw); go_simp; with_reducible rfl)); try simp only [Act.put, List.setIfInBounds_toArray, List.set_cons_zero, List.set_cons_succ]) | (refine lexG_skip _ rfl rfl (by assumption) ?_; try simp only [Act.put, List.setIfInBounds_toArray, List.set_cons_zero, List.set_cons_succ]))
      refine lexG_now _ rfl rfl rfl (fun K hK => ?_)
      go_wp2_with fail
      refine (hcl.out wr.drew hS.2.2).mono ?_
      rintro e w4 ⟨rfl, hb4⟩
      dsimp only
      have hb4' := below_then hb4 hS.2.2
      obtain ⟨⟨g0, g1, g2, g3, g4⟩, ⟨d0, d1, d2, d3, d4⟩, -⟩ := hS
      refine hK _ _ _ (fun _ h => h) ⟨⟨cell_keep hb4 g0, cell_keep hb4 g1, cell_keep hb4 g2, cell_keep hb4 g3, cell_keep hb4 g4⟩, ⟨cell_keep hb4 d0, cell_keep hb4 d1, cell_keep hb4 d2, cell_keep hb4 d3, cell_keep hb4 d4⟩, hb4'⟩ ?_
      clear hK K g0 g1 g2 g3 g4 d0 d1 d2 d3 d4 hb4
      try simp only [Act.put, List.setIfInBounds_toArray, List.set_cons_zero, List.set_cons_succ]
      repeat (first | (refine lexG_take _ ?_ rfl rfl rfl rfl (fun _ => ?_) ?_; rotate_left; (focus (go_simp; with_reducible rfl)); try simp only [Act.put, List.setIfInBounds_toArray, List.set_cons_zero, List.set_cons_succ]) | (refine lexG_held _ ?_ rfl rfl rfl rfl (by assumption) (fun _ hSw => ?_) ?_; rotate_left; (focus ((try dsimp only at hSw); go_simp; with_reducible rfl)); try simp only [Act.put, List.setIfInBounds_toArray, List.set_cons_zero, List.set_cons_succ]) | (refine lexG_skip _ rfl rfl (by assumption) ?_; try simp only [Act.put, List.setIfInBounds_toArray, List.set_cons_zero, List.set_cons_succ]))
      refine lexG_nil ?_
      go_wp2_with fail
      go_roundw
      case rel => exact ⟨j + 1, by omega, by simp, hb4'⟩
      case measure => simp [intOf]; omega
    · have hj' : j = l.length := by omega
      subst hj'
      go_wp2_with fail
      go_ret
      exact ⟨rfl, hb⟩

theorem op_same {w : World} {B : Nat} {o : OpD} {cs cs' : Array Value} (h : OpReads w B o cs) (h' : OpReads w B o cs') (w1 : World) (hb1 : Below B w w1) (hB1 : B ≤ w1.heap.size) :
    Calls Try.prog 16 #[.agg cs, .agg cs'] w1 (Says w1 (.bool true)) := by
  obtain ⟨A, cc, xs, css, rfl, hr, hx, hxs, hl, hok⟩ := h
  obtain ⟨A', cc', xs', css', rfl, hr', hx', hxs', -, -⟩ := h'
  have hva := fun w2 (hb2 : Below w1.heap.size w1 w2) => values_true (c := cc) (c' := cc') (hr.below (hb1.trans (hb2.mono hB1))) (hr'.below (hb1.trans (hb2.mono hB1))) (Nat.le_trans hB1 hb2.size) hxs hxs' (fun j v hv => (hx j v hv).under (hb1.trans (hb2.mono hB1))) (fun j v hv => (hx' j v hv).under (hb1.trans (hb2.mono hB1))) (by omega)
  obtain ⟨c, s, n, g, m, l⟩ := o
  dsimp only at *
  generalize bstr g = gg at *
  generalize bstr m = mm at *
  have d1 : decide (gg = gg) = true := decide_eq_true rfl
  have d2 : decide (mm = mm) = true := decide_eq_true rfl
  have b1 := Blk.new w1 30 #[.int .u32 c, .int .u32 s, .int .u16 n, .string gg, .string mm, .slice A l.length cc]
  have b1' := b1.alloc (.cells #[.int .u32 c, .int .u32 s, .int .u16 n, .string gg, .string mm, .slice A' l.length cc'] 30)
  have b2 := Blk.new (w1.alloc (.cells #[.int .u32 c, .int .u32 s, .int .u16 n, .string gg, .string mm, .slice A l.length cc] 30)) 30 #[.int .u32 c, .int .u32 s, .int .u16 n, .string gg, .string mm, .slice A' l.length cc']
  have hsz : (w1.alloc (.cells #[.int .u32 c, .int .u32 s, .int .u16 n, .string gg, .string mm, .slice A l.length cc] 30)).heap.size = w1.heap.size + 1 := by simp
  rw [hsz] at b2
  have hbl := ((Below.refl w1.heap.size w1).alloc (Nat.le_refl _) (.cells #[.int .u32 c, .int .u32 s, .int .u16 n, .string gg, .string mm, .slice A l.length cc] 30)).alloc (by simp) (.cells #[.int .u32 c, .int .u32 s, .int .u16 n, .string gg, .string mm, .slice A' l.length cc'] 30)
  replace hva := Lib.hid hva
  clear hr hx hxs hr' hx' hxs' hl hok b1 hsz
  go_enter Try.func16, Try.ntmps16
  go_wp2_with fail
  refine (hva.out _ hbl).mono ?_
  rintro e w2 ⟨rfl, hb2⟩
  dsimp only
  have hb3 := below_then hb2 hbl
  go_wp2_with fail
  go_ret
  exact ⟨rfl, hb3⟩
end Go.Proofs.Ytjljlgkghlphnaa
namespace Go.Proofs.Ytjljlgkghlphnaa
open Go.RowKit
set_option maxRecDepth 100000

/-- An id's bytes. -/
def idB (c s n : Nat) : List UInt8 := putU c 4 ++ putU s 4 ++ putU n 2
theorem idB_len (c s n : Nat) : (idB c s n).length = 10 := by simp [idB, putU_len]
theorem idB_cons (bs : List UInt8) (c s n : Nat) : bs ++ putU c 4 ++ putU s 4 ++ putU n 2 = bs ++ idB c s n := by simp [idB]

theorem wrap_w32 (n : Nat) (h : n < 4294967296) : IntKind.u64.wrap (n : Int) = (n : Int) := by
  simp [IntKind.wrap, IntKind.bits, IntKind.signed]
  omega

theorem lt64 {n : Nat} (h : n < 4294967296) : n < 18446744073709551616 := by omega
theorem lt64' {n : Nat} (h : n < 65536) : n < 18446744073709551616 := by omega

theorem put_id {A : Option Addr} {cc B : Nat} {bs : List UInt8} {c s n : Nat} {w : World} (hr : Reads w B 1 A bs.length (bys bs)) (hB : B ≤ w.heap.size) (hl : bs.length ≤ 1000000000) (hc : c < 4294967296) (hs : s < 4294967296) (hn : n < 65536) :
    Calls Try.prog 77 #[.slice A bs.length cc, .agg #[.int .u32 (c : Int), .int .u32 (s : Int), .int .u16 (n : Int)]] w (NewBytes w (bs ++ idB c s n)) := by
  have b1 := Blk.new w 27 #[.int .u32 (c : Int), .int .u32 (s : Int), .int .u16 (n : Int)]
  have hbl := (Below.refl w.heap.size w).alloc (Nat.le_refl _) (.cells #[.int .u32 (c : Int), .int .u32 (s : Int), .int .u16 (n : Int)] 27)
  obtain ⟨b, hb0⟩ : ∃ b, w.heap.size = b := ⟨_, rfl⟩
  have n4 : n8 4 = 4 := by decide
  obtain ⟨q1, hq1⟩ : ∃ q, bs ++ putU c 4 = q := ⟨_, rfl⟩
  obtain ⟨q2, hq2⟩ : ∃ q, q1 ++ putU s 4 = q := ⟨_, rfl⟩
  obtain ⟨q3, hq3⟩ : ∃ q, q2 ++ putU n 2 = q := ⟨_, rfl⟩
  have hl1 : q1.length = bs.length + 4 := by rw [← hq1, List.length_append, putU_len]
  have hl2 : q2.length = bs.length + 8 := by rw [← hq2, List.length_append, putU_len, hl1]
  have hq : bs ++ idB c s n = q3 := by rw [← idB_cons, hq1, hq2, hq3]
  rw [hq]
  clear hq
  replace hq1 := Lib.hid hq1
  replace hq2 := Lib.hid hq2
  replace hq3 := Lib.hid hq3
  replace hl1 := Lib.hid hl1
  replace hl2 := Lib.hid hl2
  have hwc := wrap_w32 c hc
  have hws_ := wrap_w32 s hs
  have hwn := wrap_w32 n (by omega)
  replace hc := Lib.hid hc
  replace hs := Lib.hid hs
  replace hn := Lib.hid hn
  have n2 : n8 2 = 2 := by decide
  have hws : (w.alloc (.cells #[.int .u32 (c : Int), .int .u32 (s : Int), .int .u16 (n : Int)] 27)).heap.size = w.heap.size + 1 := by simp
  go_enter Try.func77, Try.ntmps77
  go_wp2_with fail
  generalize w.alloc (.cells #[.int .u32 (c : Int), .int .u32 (s : Int), .int .u16 (n : Int)] 27) = w1 at *
  rw [hb0] at b1
  have hS : w1.drew.cell? ⟨b, 0, none⟩ = some (.int .u32 (c : Int)) ∧ w1.drew.cell? ⟨b, 1, none⟩ = some (.int .u32 (s : Int)) ∧ w1.drew.cell? ⟨b, 2, none⟩ = some (.int .u16 (n : Int)) := b1.id3
  replace hb0 := Lib.hid hb0
  refine wp_region_lex (fun W => W.cell? ⟨b, 0, none⟩ = some (.int .u32 (c : Int)) ∧ W.cell? ⟨b, 1, none⟩ = some (.int .u32 (s : Int)) ∧ W.cell? ⟨b, 2, none⟩ = some (.int .u16 (n : Int))) [2, 6, 10] [4, 8, 12] [0, 1, 2, 3, 5, 6, 7, 9, 10, 11, 4, 8, 12, 13] (by kernel_rfl) rfl (by kernel_rfl) (by kernel_rfl) (fun _ _ d _ _ h => by cases d <;> exact h) ?_
  repeat (first | (refine lexG_take _ ?_ rfl rfl rfl rfl (fun _ => ?_) ?_; rotate_left; (focus (go_simp; with_reducible rfl)); try simp only [Act.put, List.setIfInBounds_toArray, List.set_cons_zero, List.set_cons_succ]) | (refine lexG_held _ ?_ rfl rfl rfl rfl (by assumption) (fun _ hSw => ?_) ?_; rotate_left; (focus ((try dsimp only at hSw); go_simp; with_reducible rfl)); try simp only [Act.put, List.setIfInBounds_toArray, List.set_cons_zero, List.set_cons_succ]) | (refine lexG_skip _ rfl rfl (by assumption) ?_; try simp only [Act.put, List.setIfInBounds_toArray, List.set_cons_zero, List.set_cons_succ]))
  clear hwc hws_ hwn
  refine lexG_now _ rfl rfl rfl (fun K hK => ?_)
  go_wp2_with fail
  refine (wire_put (m := 4) ((hr.below (hbl.mono hB)).drew) (Nat.le_trans hB hbl.size) (by omega) (lt64 hc.out)).mono ?_
  rintro e w2 ⟨A2, c2, rfl, ho2, hb2, hf2⟩
  rw [n4, hq1.out] at ho2 ⊢
  dsimp only
  have hb2' : Below w1.heap.size w1 w2 := below_of_drew hb2
  have b2 := b1.below hb2' b1.lt
  have hB2 := below_then hb2' hbl
  refine hK _ _ _ (fun _ h => h) b2.id3 ?_
  clear hK K hS
  try simp only [Act.put, List.setIfInBounds_toArray, List.set_cons_zero, List.set_cons_succ]
  repeat (first | (refine lexG_take _ ?_ rfl rfl rfl rfl (fun _ => ?_) ?_; rotate_left; (focus (go_simp; with_reducible rfl)); try simp only [Act.put, List.setIfInBounds_toArray, List.set_cons_zero, List.set_cons_succ]) | (refine lexG_held _ ?_ rfl rfl rfl rfl (by assumption) (fun _ hSw => ?_) ?_; rotate_left; (focus ((try dsimp only at hSw); go_simp; with_reducible rfl)); try simp only [Act.put, List.setIfInBounds_toArray, List.set_cons_zero, List.set_cons_succ]) | (refine lexG_skip _ rfl rfl (by assumption) ?_; try simp only [Act.put, List.setIfInBounds_toArray, List.set_cons_zero, List.set_cons_succ]))
  refine lexG_now _ rfl rfl rfl (fun K hK => ?_)
  go_wp2_with fail
  refine (wire_put (m := 4) ho2.reads_ (Nat.le_refl _) (by rw [hl1.out]; omega) (lt64 hs.out)).mono ?_
  rintro e w3 ⟨A3, c3, rfl, ho3, hb3, hf3⟩
  rw [n4, hq2.out] at ho3 ⊢
  dsimp only
  have b3 := b2.below hb3 b2.lt
  have hB3 := below_then hb3 hB2
  refine hK _ _ _ (fun _ h => h) b3.id3 ?_
  clear hK K ho2 b2
  try simp only [Act.put, List.setIfInBounds_toArray, List.set_cons_zero, List.set_cons_succ]
  repeat (first | (refine lexG_take _ ?_ rfl rfl rfl rfl (fun _ => ?_) ?_; rotate_left; (focus (go_simp; with_reducible rfl)); try simp only [Act.put, List.setIfInBounds_toArray, List.set_cons_zero, List.set_cons_succ]) | (refine lexG_held _ ?_ rfl rfl rfl rfl (by assumption) (fun _ hSw => ?_) ?_; rotate_left; (focus ((try dsimp only at hSw); go_simp; with_reducible rfl)); try simp only [Act.put, List.setIfInBounds_toArray, List.set_cons_zero, List.set_cons_succ]) | (refine lexG_skip _ rfl rfl (by assumption) ?_; try simp only [Act.put, List.setIfInBounds_toArray, List.set_cons_zero, List.set_cons_succ]))
  refine lexG_now _ rfl rfl rfl (fun K hK => ?_)
  go_wp2_with fail
  refine (wire_put (m := 2) ho3.reads_ (Nat.le_refl _) (by rw [hl2.out]; omega) (lt64' hn.out)).mono ?_
  rintro e w4 ⟨A4, c4, rfl, ho4, hb4, hf4⟩
  rw [n2, hq3.out] at ho4 ⊢
  dsimp only
  have b4 := b3.below hb4 b3.lt
  have hB4 := below_then hb4 hB3
  refine hK _ _ _ (fun _ h => h) b4.id3 ?_
  clear hK K
  try simp only [Act.put, List.setIfInBounds_toArray, List.set_cons_zero, List.set_cons_succ]
  repeat (first | (refine lexG_take _ ?_ rfl rfl rfl rfl (fun _ => ?_) ?_; rotate_left; (focus (go_simp; with_reducible rfl)); try simp only [Act.put, List.setIfInBounds_toArray, List.set_cons_zero, List.set_cons_succ]) | (refine lexG_held _ ?_ rfl rfl rfl rfl (by assumption) (fun _ hSw => ?_) ?_; rotate_left; (focus ((try dsimp only at hSw); go_simp; with_reducible rfl)); try simp only [Act.put, List.setIfInBounds_toArray, List.set_cons_zero, List.set_cons_succ]) | (refine lexG_skip _ rfl rfl (by assumption) ?_; try simp only [Act.put, List.setIfInBounds_toArray, List.set_cons_zero, List.set_cons_succ]))
  refine lexG_nil ?_
  have hlo : w.heap.size ≤ w3.heap.size := hB3.size
  clear ho3 b3 b4
  go_wp2_with fail
  go_ret
  exact ⟨A4, c4, rfl, ho4, hB4, fun g hg => Nat.le_trans hlo (hf4 g hg)⟩

theorem ref_put_id {A : Option Addr} {B : Nat} {bs : List UInt8} {c s n : Nat} {w : World} (hr : Reads w B 1 A bs.length (bys bs)) (hB : B ≤ w.heap.size) (hl : bs.length ≤ 1000000000) (hc : c < 4294967296) (hs : s < 4294967296) (hn : n < 65536) :
    Calls Try.prog 54 #[.slice A bs.length bs.length, .agg #[.int .u32 (c : Int), .int .u32 (s : Int), .int .u16 (n : Int)]] w (NewBytes w (bs ++ idB c s n)) := by
  have b1 := Blk.new w 27 #[.int .u32 (c : Int), .int .u32 (s : Int), .int .u16 (n : Int)]
  have hbl := (Below.refl w.heap.size w).alloc (Nat.le_refl _) (.cells #[.int .u32 (c : Int), .int .u32 (s : Int), .int .u16 (n : Int)] 27)
  obtain ⟨b, hb0⟩ : ∃ b, w.heap.size = b := ⟨_, rfl⟩
  have n4 : n8 4 = 4 := by decide
  obtain ⟨q1, hq1⟩ : ∃ q, bs ++ putU c 4 = q := ⟨_, rfl⟩
  obtain ⟨q2, hq2⟩ : ∃ q, q1 ++ putU s 4 = q := ⟨_, rfl⟩
  obtain ⟨q3, hq3⟩ : ∃ q, q2 ++ putU n 2 = q := ⟨_, rfl⟩
  have hl1 : q1.length = bs.length + 4 := by rw [← hq1, List.length_append, putU_len]
  have hl2 : q2.length = bs.length + 8 := by rw [← hq2, List.length_append, putU_len, hl1]
  have hq : bs ++ idB c s n = q3 := by rw [← idB_cons, hq1, hq2, hq3]
  rw [hq]
  clear hq
  replace hq1 := Lib.hid hq1
  replace hq2 := Lib.hid hq2
  replace hq3 := Lib.hid hq3
  replace hl1 := Lib.hid hl1
  replace hl2 := Lib.hid hl2
  have hwc := wrap_w32 c hc
  have hws_ := wrap_w32 s hs
  have hwn := wrap_w32 n (by omega)
  replace hc := Lib.hid hc
  replace hs := Lib.hid hs
  replace hn := Lib.hid hn
  have n2 : n8 2 = 2 := by decide
  have hws : (w.alloc (.cells #[.int .u32 (c : Int), .int .u32 (s : Int), .int .u16 (n : Int)] 27)).heap.size = w.heap.size + 1 := by simp
  go_enter Try.func54, Try.ntmps54
  go_wp2_with fail
  generalize w.alloc (.cells #[.int .u32 (c : Int), .int .u32 (s : Int), .int .u16 (n : Int)] 27) = w1 at *
  rw [hb0] at b1
  have hS : w1.drew.cell? ⟨b, 0, none⟩ = some (.int .u32 (c : Int)) ∧ w1.drew.cell? ⟨b, 1, none⟩ = some (.int .u32 (s : Int)) ∧ w1.drew.cell? ⟨b, 2, none⟩ = some (.int .u16 (n : Int)) := b1.id3
  replace hb0 := Lib.hid hb0
  refine wp_region_lex (fun W => W.cell? ⟨b, 0, none⟩ = some (.int .u32 (c : Int)) ∧ W.cell? ⟨b, 1, none⟩ = some (.int .u32 (s : Int)) ∧ W.cell? ⟨b, 2, none⟩ = some (.int .u16 (n : Int))) [2, 6, 10] [4, 8, 12] [0, 1, 2, 3, 5, 6, 7, 9, 10, 11, 4, 8, 12, 13] (by kernel_rfl) rfl (by kernel_rfl) (by kernel_rfl) (fun _ _ d _ _ h => by cases d <;> exact h) ?_
  repeat (first | (refine lexG_take _ ?_ rfl rfl rfl rfl (fun _ => ?_) ?_; rotate_left; (focus (go_simp; with_reducible rfl)); try simp only [Act.put, List.setIfInBounds_toArray, List.set_cons_zero, List.set_cons_succ]) | (refine lexG_held _ ?_ rfl rfl rfl rfl (by assumption) (fun _ hSw => ?_) ?_; rotate_left; (focus ((try dsimp only at hSw); go_simp; with_reducible rfl)); try simp only [Act.put, List.setIfInBounds_toArray, List.set_cons_zero, List.set_cons_succ]) | (refine lexG_skip _ rfl rfl (by assumption) ?_; try simp only [Act.put, List.setIfInBounds_toArray, List.set_cons_zero, List.set_cons_succ]))
  clear hwc hws_ hwn
  refine lexG_now _ rfl rfl rfl (fun K hK => ?_)
  go_wp2_with fail
  refine (ref_put_full (m := 4) ((hr.below (hbl.mono hB)).drew) (Nat.le_trans hB hbl.size) (by omega) (lt64 hc.out)).mono ?_
  rintro e w2 ⟨A2, c2, rfl, -, hb2, hown⟩
  rw [n4, hq1.out] at hown ⊢
  dsimp only
  obtain ⟨ho2, hf2⟩ := hown (by rw [hl1.out]; omega)
  have hb2' : Below w1.heap.size w1 w2 := below_of_drew hb2
  have hf2' : ∀ g, bOf A2 = some g → w1.heap.size ≤ g := hf2
  have b2 := b1.below hb2' b1.lt
  have hB2 := below_then hb2' hbl
  have hbb := hb0.out
  refine hK _ _ _ (fun _ h => h) b2.id3 ?_
  clear hK K hS hown hf2 hb2
  try simp only [Act.put, List.setIfInBounds_toArray, List.set_cons_zero, List.set_cons_succ]
  repeat (first | (refine lexG_take _ ?_ rfl rfl rfl rfl (fun _ => ?_) ?_; rotate_left; (focus (go_simp; with_reducible rfl)); try simp only [Act.put, List.setIfInBounds_toArray, List.set_cons_zero, List.set_cons_succ]) | (refine lexG_held _ ?_ rfl rfl rfl rfl (by assumption) (fun _ hSw => ?_) ?_; rotate_left; (focus ((try dsimp only at hSw); go_simp; with_reducible rfl)); try simp only [Act.put, List.setIfInBounds_toArray, List.set_cons_zero, List.set_cons_succ]) | (refine lexG_skip _ rfl rfl (by assumption) ?_; try simp only [Act.put, List.setIfInBounds_toArray, List.set_cons_zero, List.set_cons_succ]))
  refine lexG_now _ rfl rfl rfl (fun K hK => ?_)
  go_wp2_with fail
  refine (ref_put (m := 4) ho2 (by rw [hl1.out]; omega) (lt64 hs.out)).mono ?_
  rintro e w3 ⟨A3, c3, rfl, ho3, hu3, hf3⟩
  rw [n4, hq2.out] at ho3 ⊢
  dsimp only
  have b3 := b2.upd hu3 (fun e => by have := hf2' b e.symm; omega)
  have hB3 := hB2.trans (hu3.below (B := w.heap.size) hB2.size (fun k hk e => by have := hf2' k e.symm; omega))
  have hf3' : ∀ g, bOf A3 = some g → w1.heap.size ≤ g := fun g hg => by rcases hf3 with h | h; (rw [h] at hg; exact hf2' g hg); (have := h g hg; have := hb2'.size; omega)
  refine hK _ _ _ (fun _ h => h) b3.id3 ?_
  clear hK K ho2 b2 hu3 hf3
  try simp only [Act.put, List.setIfInBounds_toArray, List.set_cons_zero, List.set_cons_succ]
  repeat (first | (refine lexG_take _ ?_ rfl rfl rfl rfl (fun _ => ?_) ?_; rotate_left; (focus (go_simp; with_reducible rfl)); try simp only [Act.put, List.setIfInBounds_toArray, List.set_cons_zero, List.set_cons_succ]) | (refine lexG_held _ ?_ rfl rfl rfl rfl (by assumption) (fun _ hSw => ?_) ?_; rotate_left; (focus ((try dsimp only at hSw); go_simp; with_reducible rfl)); try simp only [Act.put, List.setIfInBounds_toArray, List.set_cons_zero, List.set_cons_succ]) | (refine lexG_skip _ rfl rfl (by assumption) ?_; try simp only [Act.put, List.setIfInBounds_toArray, List.set_cons_zero, List.set_cons_succ]))
  refine lexG_now _ rfl rfl rfl (fun K hK => ?_)
  go_wp2_with fail
  refine (ref_put (m := 2) ho3 (by rw [hl2.out]; omega) (lt64' hn.out)).mono ?_
  rintro e w4 ⟨A4, c4, rfl, ho4, hu4, hf4⟩
  rw [n2, hq3.out] at ho4 ⊢
  dsimp only
  have b4 := b3.upd hu4 (fun e => by have := hf3' b e.symm; omega)
  have hB4 := hB3.trans (hu4.below (B := w.heap.size) hB3.size (fun k hk e => by have := hf3' k e.symm; omega))
  have hf4' : ∀ g, bOf A4 = some g → w.heap.size ≤ g := fun g hg => by rcases hf4 with h | h; (rw [h] at hg; have := hf3' g hg; omega); (have := h g hg; have := hB3.size; omega)
  refine hK _ _ _ (fun _ h => h) b4.id3 ?_
  clear hK K
  try simp only [Act.put, List.setIfInBounds_toArray, List.set_cons_zero, List.set_cons_succ]
  repeat (first | (refine lexG_take _ ?_ rfl rfl rfl rfl (fun _ => ?_) ?_; rotate_left; (focus (go_simp; with_reducible rfl)); try simp only [Act.put, List.setIfInBounds_toArray, List.set_cons_zero, List.set_cons_succ]) | (refine lexG_held _ ?_ rfl rfl rfl rfl (by assumption) (fun _ hSw => ?_) ?_; rotate_left; (focus ((try dsimp only at hSw); go_simp; with_reducible rfl)); try simp only [Act.put, List.setIfInBounds_toArray, List.set_cons_zero, List.set_cons_succ]) | (refine lexG_skip _ rfl rfl (by assumption) ?_; try simp only [Act.put, List.setIfInBounds_toArray, List.set_cons_zero, List.set_cons_succ]))
  refine lexG_nil ?_
  clear ho3 b3 b4
  go_wp2_with fail
  go_ret
  exact ⟨A4, c4, rfl, ho4, hB4, hf4'⟩
end Go.Proofs.Ytjljlgkghlphnaa
namespace Go.Proofs.Ytjljlgkghlphnaa
open Go.RowKit
set_option maxRecDepth 100000

def errL : List Val → Nat
  | [] => 0
  | v :: l => if checkV v ≠ 0 then checkV v else errL l
def errO (o : OpD) : Nat := if 16 < o.l.length then 22 else if 32 < o.g.length then 22 else if 32 < o.m.length then 22 else errL o.l
def headO (o : OpD) : List UInt8 := idB o.c o.s o.n ++ (putU o.g.length 2 ++ o.g) ++ (putU o.m.length 2 ++ o.m) ++ [UInt8.ofNat o.l.length]
def bytesO (o : OpD) : List UInt8 := headO o ++ encL o.l
def OpPut (w : World) (bs : List UInt8) (o : OpD) (e : Ending) (w' : World) : Prop := (errO o = 0 → PutOk w (bs ++ bytesO o) e w') ∧ (errO o ≠ 0 → PutNo w (errO o) e w')
theorem errL_step {l : List Val} {j : Nat} (h : j < l.length) : errL (l.drop j) = if checkV l[j] ≠ 0 then checkV l[j] else errL (l.drop (j + 1)) := by
  rw [List.drop_eq_getElem_cons h, errL]
theorem encL_snoc {l : List Val} {j : Nat} (h : j < l.length) : encL (l.take (j + 1)) = encL (l.take j) ++ encV l[j] := encL_next l j h
theorem encV_small {v : Val} (h : checkV v = 0) : (encV v).length ≤ 4096 := by
  rw [encV_len]
  rcases checkV_cases v with ⟨_, e⟩ | ⟨_, _, e⟩ | ⟨_, _, _, e⟩ | ⟨h1, h2, h3, _⟩
  · rw [e] at h; cases h
  · rw [e] at h; cases h
  · rw [e] at h; cases h
  · exact h3

/-- The row that a put grows. -/
structure PRel (w wr : World) (l : List Val) (q4 : List UInt8) (er : Nat) (j : Nat) (A1 : Option Addr) (c1 : Nat) (q : List UInt8) : Prop where
  jl : j ≤ l.length
  own : Own wr 5 1 A1 q.length c1 (bys q)
  fresh : ∀ g, bOf A1 = some g → w.heap.size ≤ g
  hq : Hid (q = q4 ++ encL (l.take j))
  hlen : Hid (q.length ≤ q4.length + j * 4096)
  he : Hid (errL (l.drop j) = er)
  hb : Below w.heap.size w wr

set_option maxHeartbeats 6400000 in
theorem call_put {w : World} {B : Nat} {o : OpD} {cs : Array Value} {A0 : Option Addr} {ca : Nat} {bs : List UInt8} (h : OpReads w B o cs) (hB : B ≤ w.heap.size) (hA : Reads w w.heap.size 1 A0 bs.length (bys bs)) (hl : bs.length ≤ 100000) (hg100 : o.g.length ≤ 1000) (hm100 : o.m.length ≤ 1000) :
    Calls Try.prog 52 #[.slice A0 bs.length ca, .agg cs] w (OpPut w bs o) := by
  obtain ⟨A, cc, xs, css, rfl, hr, hx, hxs, hll, hok, hc, hs, hn⟩ := h
  obtain ⟨c, s, n, g, m, l⟩ := o
  dsimp only at *
  obtain ⟨i0, hi, hz0, hz1, hz2⟩ := info_parts info_u8
  have hsf := fun a k x m w => run_store_float (P := Try.prog) a k x m w
  obtain ⟨gg, hgg⟩ : ∃ gg, bstr g = gg := ⟨_, rfl⟩
  obtain ⟨mm, hmm⟩ : ∃ mm, bstr m = mm := ⟨_, rfl⟩
  rw [hgg, hmm]
  have b1 := Blk.new w 30 #[.int .u32 (c : Int), .int .u32 (s : Int), .int .u16 (n : Int), .string gg, .string mm, .slice A l.length cc]
  have hbl := (Below.refl w.heap.size w).alloc (Nat.le_refl _) (.cells #[.int .u32 (c : Int), .int .u32 (s : Int), .int .u16 (n : Int), .string gg, .string mm, .slice A l.length cc] 30)
  obtain ⟨b, hb0⟩ : ∃ b, w.heap.size = b := ⟨_, rfl⟩
  by_cases h16 : 16 < l.length
  · have herr : errO ⟨c, s, n, g, m, l⟩ = 22 := by unfold errO; rw [if_pos h16]
    have hd : decide ((16 : Int) < (l.length : Int)) = true := decide_eq_true (by omega)
    have b15 := b1.cell 5
    clear hr hx hxs hll hok hc hs hn hA hg100 hm100 hl b1
    go_enter Try.func52, Try.ntmps52
    go_wp2_with fail
    go_ret2
    exact ⟨fun e => absurd (herr.symm.trans e) (by decide), fun _ => ⟨by rw [herr]; rfl, hbl⟩⟩
  have hd : decide ((16 : Int) < (l.length : Int)) = false := decide_eq_false (by omega)
  have hpi := fun w2 (hb2 : Below w.heap.size w w2) => put_id (cc := ca) (bs := bs) (hA.below hb2) hb2.size (by omega) hc hs hn
  obtain ⟨q0, hq0⟩ : ∃ q, bs ++ idB c s n = q := ⟨_, rfl⟩
  have hl0 : q0.length = bs.length + 10 := by rw [← hq0, List.length_append, idB_len]
  rw [hq0] at hpi
  obtain ⟨q1, hq1⟩ : ∃ q, q0 ++ putU g.length 2 ++ g = q := ⟨_, rfl⟩
  obtain ⟨q2, hq2⟩ : ∃ q, q1 ++ putU m.length 2 ++ m = q := ⟨_, rfl⟩
  obtain ⟨q3, hq3⟩ : ∃ q, q2 ++ [UInt8.ofNat l.length] = q := ⟨_, rfl⟩
  have hl1 : q1.length = q0.length + 2 + g.length := by rw [← hq1, List.length_append, List.length_append, putU_len]
  have hl2 : q2.length = q1.length + 2 + m.length := by rw [← hq2, List.length_append, List.length_append, putU_len]
  have hl3 : q3.length = q2.length + 1 := by rw [← hq3, List.length_append]; rfl
  have hb3 : bys q3 = bys q2 ++ bys [UInt8.ofNat l.length] := by rw [← hq3, bys_append]
  have hhead : bs ++ headO ⟨c, s, n, g, m, l⟩ = q3 := by rw [← hq3, ← hq2, ← hq1, ← hq0]; unfold headO; simp only [List.append_assoc]
  have hgno : 32 < g.length → ∀ (A : Option Addr) (c3 : Nat) (w3 : World), Calls Try.prog 78 #[.slice A q0.length c3, .string gg, .int .i64 32] w3 (fun e w' => e = .returned (.tuple #[.slice none 0 0, .int .i64 22]) ∧ w3 = w') := fun h32 A c3 w3 => by
    rw [← hgg]; exact put_text_no (m := 32) (.inl (by omega)) (by omega)
  have hmno : 32 < m.length → ∀ (A : Option Addr) (c3 : Nat) (w3 : World), Calls Try.prog 78 #[.slice A q1.length c3, .string mm, .int .i64 32] w3 (fun e w' => e = .returned (.tuple #[.slice none 0 0, .int .i64 22]) ∧ w3 = w') := fun h32 A c3 w3 => by
    rw [← hmm]; exact put_text_no (m := 32) (.inl (by omega)) (by omega)
  have hgok : ¬ 32 < g.length → ∀ (A : Option Addr) (c3 : Nat) (w3 : World), Reads w3 w3.heap.size 1 A q0.length (bys q0) → Calls Try.prog 78 #[.slice A q0.length c3, .string gg, .int .i64 32] w3 (TextPut w3 q1) := fun h32 A c3 w3 hR => by
    rw [← hgg]; exact put_text (m := 32) hR (Nat.le_refl _) (by omega) (by omega) (by omega) hq1
  have hmok : ¬ 32 < m.length → ∀ (A : Option Addr) (c3 : Nat) (w3 : World), q1.length ≤ 1000000 → Reads w3 w3.heap.size 1 A q1.length (bys q1) → Calls Try.prog 78 #[.slice A q1.length c3, .string mm, .int .i64 32] w3 (TextPut w3 q2) := fun h32 A c3 w3 hl1 hR => by
    rw [← hmm]; exact put_text (m := 32) hR (Nat.le_refl _) (by omega) (by omega) (by omega) hq2
  have hwb : IntKind.u8.wrap (l.length : Int) = (l.length : Int) := by simp [IntKind.wrap, IntKind.bits, IntKind.signed]; omega
  have hbyte : (#[Value.int .u8 (l.length : Int)] : Array Value).toList = bys [UInt8.ofNat l.length] := by
    have : l.length % 256 = l.length := by omega
    simp [bys, byv, this]
  have herr : errO ⟨c, s, n, g, m, l⟩ = if 32 < g.length then 22 else if 32 < m.length then 22 else errL l := by unfold errO; rw [if_neg h16]
  have hby : bs ++ bytesO ⟨c, s, n, g, m, l⟩ = q3 ++ encL l := by unfold bytesO; rw [← List.append_assoc, hhead]
  unfold OpPut
  rw [herr, hby]
  obtain ⟨er, her⟩ : ∃ er, (if 32 < g.length then 22 else if 32 < m.length then 22 else errL l) = er := ⟨_, rfl⟩
  rw [her]
  clear herr hby hhead hq0 hgg hmm hq3
  replace her := Lib.hid her
  replace hq1 := Lib.hid hq1
  replace hq2 := Lib.hid hq2
  replace hl0 := Lib.hid hl0
  replace hl1 := Lib.hid hl1
  replace hl2 := Lib.hid hl2
  replace hl3 := Lib.hid hl3
  replace hb3 := Lib.hid hb3
  replace hbyte := Lib.hid hbyte
  replace hgno := Lib.hid hgno
  replace hmno := Lib.hid hmno
  replace hgok := Lib.hid hgok
  replace hmok := Lib.hid hmok
  replace hpi := Lib.hid hpi
  replace hc := Lib.hid hc
  replace hs := Lib.hid hs
  replace hn := Lib.hid hn
  have hrx := Lib.hid hr
  have hxx := Lib.hid hx
  have hxxs := Lib.hid hxs
  have hokx := Lib.hid hok
  have hbl' := hbl
  have B1 := b1
  rw [hb0] at B1
  have b10 := b1.cell 0
  have b11 := b1.cell 1
  have b12 := b1.cell 2
  have b13 := b1.cell 3
  have b14 := b1.cell 4
  have b15 := b1.cell 5
  clear hr hx hxs hok hA
  go_enter Try.func52, Try.ntmps52
  go_wp2_with fail
  refine (hpi.out _ hbl).mono ?_
  rintro e w2 ⟨A2, c2, rfl, ho2, hb2, hf2⟩
  dsimp only
  have B2 := B1.below hb2 B1.lt
  have hB2 := below_then hb2 hbl
  have d3 := B2.cell 3
  have d4 := B2.cell 4
  have d5 := B2.cell 5
  clear b10 b11 b12 b13 b14 b15 hbl hbl' hb2 B1
  go_wp2_with fail
  refine wp_loop_rounds 3 ?_
  rw [rounds_succ]
  go_wp2_with fail
  have hst := Blk.new w2 9 #[.string gg, .string mm]
  have ho3 := ho2.alloc (.cells #[.string gg, .string mm] 9)
  have hB3 := hB2.alloc hB2.size (.cells #[.string gg, .string mm] 9)
  have B3 := B2.alloc (.cells #[.string gg, .string mm] 9)
  have hw2 : w.heap.size ≤ w2.heap.size := hB2.size
  by_cases hg32 : 32 < g.length
  · have he22 : er = 22 := by rw [← her.out, if_pos hg32]
    subst he22
    refine (hgno.out hg32 _ _ _).mono ?_
    rintro e w4 ⟨rfl, rfl⟩
    dsimp only
    go_wp2_with fail
    go_ret2
    exact ⟨fun e => absurd e (by decide), fun _ => ⟨rfl, hB3⟩⟩
  refine (hgok.out hg32 _ _ _ ho3.reads_).mono ?_
  rintro e w4 ⟨A4, c4, rfl, ho4, hb4, hf4⟩
  dsimp only
  have hst4 := hst.below hb4 hst.lt
  have B4 := B3.below hb4 B3.lt
  have hB4 := below_then hb4 hB3
  have hw24 : w.heap.size ≤ (w2.alloc (.cells #[.string gg, .string mm] 9)).heap.size := hB3.size
  have hf4' : ∀ g, bOf A4 = some g → w.heap.size ≤ g := fun g hg => Nat.le_trans hw24 (hf4 g hg)
  have st0 := hst4.cell 0
  have st1 := hst4.cell 1
  clear ho2 ho3 hst B3 hB3 hf4 hb4 d3 d4 d5 B2 hB2 hf2 hw24
  go_wp2_with fail
  try rw [rounds_succ]
  go_wp2_with fail
  by_cases hm32 : 32 < m.length
  · have he22 : er = 22 := by rw [← her.out, if_neg hg32, if_pos hm32]
    subst he22
    refine (hmno.out hm32 _ _ _).mono ?_
    rintro e w5 ⟨rfl, rfl⟩
    dsimp only
    go_wp2_with fail
    go_ret2
    exact ⟨fun e => absurd e (by decide), fun _ => ⟨rfl, hB4⟩⟩
  have her' : errL l = er := by rw [← her.out, if_neg hg32, if_neg hm32]
  replace her' := Lib.hid her'
  clear her
  refine (hmok.out hm32 _ _ _ (by rw [hl1.out, hl0.out]; omega) ho4.reads_).mono ?_
  rintro e w5 ⟨A5, c5, rfl, ho5, hb5, hf5⟩
  dsimp only
  have B5 := B4.below hb5 B4.lt
  have hB5 := below_then hb5 hB4
  have hf5' : ∀ g, bOf A5 = some g → b < g := fun g hg => Nat.lt_of_lt_of_le B4.lt (hf5 g hg)
  have d5 := B5.cell 5
  clear ho4 st0 st1 hst4 hB4 hf4' hf5 hb5 B4
  go_wp2_with fail
  try rw [rounds_succ]
  go_wp2_with (at_builtin; go_must (refine wpList_append_mine rfl _ _ 22 22 rfl 5 i0 (.int .u8 0) 1 1 Try.underlying22 hi hz0 hz1 hz2 rfl rfl (ho5.alloc _) rfl (Src.ofReads Try.underlying22 _ (Reads.lit _ _ _ _ 1 _ hbyte.out rfl) (bys_one _)) ?b1 ?b2 ?grow))
  case b1 =>
    have e1 := hl2.out
    have e2 := hl1.out
    have e3 := hl0.out
    unfold maxLen
    omega
  case b2 =>
    have e1 := hl2.out
    have e2 := hl1.out
    have e3 := hl0.out
    omega
  case grow =>
    intro A6 c6 w6 ho6 hg6 hat6
    have hb5s : w5.heap.size ≤ (w5.alloc (.cells #[.int .u8 (l.length : Int)] 5)).heap.size := by simp
    have B6 := (B5.alloc (.cells #[.int .u8 (l.length : Int)] 5)).grown hg6 (fun e => by have := hf5' b e.symm; omega)
    have hbw : w.heap.size ≤ b := by omega
    have hB6 := (hB5.alloc hB5.size (.cells #[.int .u8 (l.length : Int)] 5)).grown hg6 (Nat.le_trans hB5.size hb5s) (fun k hk => by have := hf5' k hk; omega)
    have hf6 : ∀ g, bOf A6 = some g → w.heap.size ≤ g := fun g hg => by
      rcases hat6 with h | h
      · rw [h] at hg; have := hf5' g hg; omega
      · rw [h] at hg; cases hg; have := hB5.size; omega
    rw [← hb3.out, ← hl3.out] at ho6
    rw [← hl3.out]
    have d5' := B6.cell 5
    have hql : q3.length ≤ 200000 := by have e0 := hl3.out; have e1 := hl2.out; have e2 := hl1.out; have e3 := hl0.out; omega
    replace hql := Lib.hid hql
    clear B5 hB5 ho5 hf5' hg6 hat6 hb5s B6 d5
    go_wp2_with fail
    clear d5' hgno hmno hgok hmok hpi
    go_loopw [6, 7, 11, 50] (fun out ev x ii wr => ∃ (j : Nat) (A1 : Option Addr) (c1 : Nat) (q : List UInt8), out = .slice A1 q.length c1 ∧ ii = .int .i64 (j : Int) ∧ PRel w wr l q3 er j A1 c1 q) (fun _ _ _ ii _ => l.length - (intOf ii).toNat)
    case atStart => exact ⟨0, A6, c6, q3, rfl, rfl, Nat.zero_le _, ho6, hf6, Lib.hid (by simp [encL]), Lib.hid (by simp), Lib.hid (by rw [List.drop_zero]; exact her'.out), hB6⟩
    case round =>
      rename_i hrel
      obtain ⟨j, A1, c1, q, rfl, rfl, R⟩ := hrel
      by_cases hlt : j < l.length
      · obtain ⟨ad, k', i', f', s', A', n', c', rfl, hform, hgk, g0, g1, g2, g3, g4⟩ := kid hrx.out hxx.out hxxs.out (R.hb.mono hB) hlt
        have hstep := errL_step hlt
        have hen := encL_snoc hlt
        have hb7 := R.hb.alloc R.hb.size (.cells #[.int .i64 k', .int .i64 i', .float .f64 f', .string s', .slice A' n' c'] 110)
        have ho7 := R.own.alloc (.cells #[.int .i64 k', .int .i64 i', .float .f64 f', .string s', .slice A' n' c'] 110)
        have hjl := R.hlen.out
        have hql' := hql.out
        have hj16 : j < 16 := by omega
        have hsz7 : wr.heap.size ≤ (wr.alloc (.cells #[.int .i64 k', .int .i64 i', .float .f64 f', .string s', .slice A' n' c'] 110)).heap.size := by simp
        by_cases hck : checkV l[j] = 0
        · have hpo := wire_put_ok (c := c1) (hxx.out j l[j] hgk) (hokx.out l[j] (List.getElem_mem hlt)) hck (hb7.mono hB) (Nat.le_trans hB hb7.size) ho7.reads_ (Nat.le_refl _) (by omega)
          have hsm := encV_small hck
          obtain ⟨q', hq'⟩ : ∃ q', q ++ encV l[j] = q' := ⟨_, rfl⟩
          have hql2 : q'.length ≤ q3.length + (j + 1) * 4096 := by rw [← hq', List.length_append]; omega
          have hq2' : q' = q3 ++ encL (l.take (j + 1)) := by rw [← hq', R.hq.out, hen, List.append_assoc]
          have he2 : errL (l.drop (j + 1)) = er := by rw [← R.he.out, hstep, if_neg (by rw [hck]; simp)]
          rw [hform, hq'] at hpo
          replace hpo := Lib.hid hpo
          replace hql2 := Lib.hid hql2
          replace hq2' := Lib.hid hq2'
          replace he2 := Lib.hid he2
          have hfr : w.heap.size ≤ (wr.alloc (.cells #[.int .i64 k', .int .i64 i', .float .f64 f', .string s', .slice A' n' c'] 110)).heap.size := hb7.size
          clear hform hgk hstep hen R hjl hck hq' ho7 hsm hql'
          go_wp2_with fail
          refine hpo.out.mono ?_
          rintro e w8 ⟨A8, c8, rfl, ho8, hb8, hf8⟩
          dsimp only
          have hB8 := below_then hb8 hb7
          have hf8' : ∀ g, bOf A8 = some g → w.heap.size ≤ g := fun g hg => Nat.le_trans hfr (hf8 g hg)
          clear hb7 hb8 hf8 hpo g0 g1 g2 g3 g4
          go_wp2_with fail
          go_roundw
          case rel => exact ⟨j + 1, A8, c8, q', rfl, by simp, by omega, ho8, hf8', hq2', hql2, he2, hB8⟩
          case measure => simp [intOf]; omega
        · have hpo := wire_put_no (A := A1) (m := q.length) (c := c1) (hxx.out j l[j] hgk) hck (hb7.mono hB) (Nat.le_trans hB hb7.size)
          have hern : checkV l[j] = er := by rw [← R.he.out, hstep, if_pos hck]
          rw [hform, hern] at hpo
          rw [hern] at hck
          have hne : ((er : Int) != 0) = true := bne_iff_ne.2 (by omega)
          replace hpo := Lib.hid hpo
          replace hck := Lib.hid hck
          clear hform hgk hstep hen R hjl hern ho7 hql'
          go_wp2_with fail
          refine hpo.out.mono ?_
          rintro e w8 ⟨rfl, hb8⟩
          dsimp only
          have hB8 := below_then hb8 hb7
          go_wp2_with fail
          go_ret2
          exact ⟨fun e => absurd e hck.out, fun _ => ⟨rfl, hB8⟩⟩
      · have hj' : j = l.length := by have := R.jl; omega
        subst hj'
        have he0 : er = 0 := by rw [← R.he.out, List.drop_length]; rfl
        have hq0 : q3 ++ encL l = q := by rw [R.hq.out, List.take_length]
        have ho := R.own
        have hfr := R.fresh
        have hbf := R.hb
        subst he0
        replace hq0 := Lib.hid hq0
        clear R
        go_wp2_with fail
        go_ret2
        rw [hq0.out]
        exact ⟨A1, c1, rfl, ho, hbf, hfr⟩
end Go.Proofs.Ytjljlgkghlphnaa
namespace Go.Proofs.Ytjljlgkghlphnaa
open Go.RowKit
set_option maxRecDepth 100000

def TextRow (w : World) (row : Option Nat) (r : List UInt8) (e : Ending) (w' : World) : Prop :=
  ∃ A' c', e = .returned (.tuple #[.slice A' r.length c', .int .i64 0]) ∧ Own w' 5 1 A' r.length c' (bys r) ∧ Upd (fun k => some k = row) w w' ∧ (bOf A' = row ∨ ∀ g, bOf A' = some g → w.heap.size ≤ g)
theorem ref_put_text_own {A : Option Addr} {c : Nat} {bs s r : List UInt8} {m : Int} {w : World} (h : Own w 5 1 A bs.length c (bys bs)) (hl : bs.length ≤ 1000000000) (hs : (s.length : Int) ≤ m) (h65 : s.length ≤ 65535) (hr : bs ++ putU s.length 2 ++ s = r) :
    Calls Try.prog 55 #[.slice A bs.length c, .string (bstr s), .int .i64 m] w (TextRow w (bOf A) r) := by
  obtain ⟨i0, hi, hz0, hz1, hz2⟩ := info_parts info_u8
  obtain ⟨q, hq⟩ : ∃ q, bs ++ putU s.length 2 = q := ⟨_, rfl⟩
  have hqr : q.length + s.length = r.length := by rw [← hr, ← hq]; simp only [List.length_append]
  have hqs : bys q ++ bys s = bys r := by rw [← bys_append, ← hr, ← hq]
  have hql : q.length ≤ 1000000100 := by rw [← hq]; simp [putU_len]; omega
  have hsz : (bstr s).size = s.length := bstr_size s
  clear hr
  replace hq := Lib.hid hq
  replace hqr := Lib.hid hqr
  replace hqs := Lib.hid hqs
  go_enter Try.func55, Try.ntmps55
  go_wp2_with fail
  refine (ref_put (m := 2) h (by omega) (by omega)).mono ?_
  rw [show n8 2 = 2 from rfl, hq.out]
  rintro e w1 ⟨A1, c1, rfl, ho1, hu1, hf1⟩
  dsimp only
  go_wp2_with (at_builtin; refine wpList_append_mine rfl _ _ 22 9 rfl 5 i0 (.int .u8 0) 1 1 Try.underlying22 hi hz0 hz1 hz2 rfl rfl ho1 rfl (text_src _ s) (by unfold maxLen; omega) (by omega) (fun A3 c3 w3 ho3 hg3 hat3 => ?_); rw [hqs.out, hqr.out] at ho3; rw [hqr.out])
  go_ret2
  have hu3 : Upd (fun k => some k = bOf A) w w3 := hu1.grown hg3 (fun k hk hkl => by rcases hf1 with e | e; (rw [e] at hk; exact hk.symm); (have := e k hk; omega))
  refine ⟨A3, c3, rfl, ho3, hu3, ?_⟩
  rcases hat3 with e | e
  · rcases hf1 with e1 | e1
    · exact .inl (e.trans e1)
    · exact .inr (fun g hg => by rw [e] at hg; exact e1 g hg)
  · exact .inr (fun g hg => by rw [e] at hg; cases hg; exact hu1.size)

structure PRel2 (w wr : World) (b c s n : Nat) (gg mm : ByteArray) (A : Option Addr) (cc : Nat) (l : List Val) (q4 : List UInt8) (er : Nat) (j : Nat) (A1 : Option Addr) (c1 : Nat) (q : List UInt8) : Prop where
  jl : j ≤ l.length
  own : Own wr 5 1 A1 q.length c1 (bys q)
  fresh : ∀ g, bOf A1 = some g → b < g
  hq : Hid (q = q4 ++ encL (l.take j))
  hlen : Hid (q.length ≤ q4.length + j * 4096)
  he : Hid (errL (l.drop j) = er)
  hb : Below w.heap.size w wr
  box : Blk wr b 30 #[.int .u32 (c : Int), .int .u32 (s : Int), .int .u16 (n : Int), .string gg, .string mm, .slice A l.length cc]

set_option maxHeartbeats 6400000 in
theorem ref_put_op {w : World} {B : Nat} {o : OpD} {cs : Array Value} {A0 : Option Addr} {bs : List UInt8} (h : OpReads w B o cs) (hB : B ≤ w.heap.size) (hA : Reads w w.heap.size 1 A0 bs.length (bys bs)) (hl : bs.length ≤ 100000) (hg100 : o.g.length ≤ 1000) (hm100 : o.m.length ≤ 1000) :
    Calls Try.prog 30 #[.slice A0 bs.length bs.length, .agg cs] w (OpPut w bs o) := by
  obtain ⟨A, cc, xs, css, rfl, hr, hx, hxs, hll, hok, hc, hs, hn⟩ := h
  obtain ⟨c, s, n, g, m, l⟩ := o
  dsimp only at *
  obtain ⟨i0, hi, hz0, hz1, hz2⟩ := info_parts info_u8
  have hsf := fun a k x m w => run_store_float (P := Try.prog) a k x m w
  obtain ⟨gg, hgg⟩ : ∃ gg, bstr g = gg := ⟨_, rfl⟩
  obtain ⟨mm, hmm⟩ : ∃ mm, bstr m = mm := ⟨_, rfl⟩
  rw [hgg, hmm]
  have b1 := Blk.new w 30 #[.int .u32 (c : Int), .int .u32 (s : Int), .int .u16 (n : Int), .string gg, .string mm, .slice A l.length cc]
  have hbl := (Below.refl w.heap.size w).alloc (Nat.le_refl _) (.cells #[.int .u32 (c : Int), .int .u32 (s : Int), .int .u16 (n : Int), .string gg, .string mm, .slice A l.length cc] 30)
  obtain ⟨b, hb0⟩ : ∃ b, w.heap.size = b := ⟨_, rfl⟩
  by_cases h16 : 16 < l.length
  · have herr : errO ⟨c, s, n, g, m, l⟩ = 22 := by unfold errO; rw [if_pos h16]
    have hd : decide ((16 : Int) < (l.length : Int)) = true := decide_eq_true (by omega)
    have b15 := b1.cell 5
    clear hr hx hxs hll hok hc hs hn hA hg100 hm100 hl b1
    go_enter Try.func30, Try.ntmps30
    go_wp2_with fail
    go_ret2
    exact ⟨fun e => absurd (herr.symm.trans e) (by decide), fun _ => ⟨by rw [herr]; rfl, hbl⟩⟩
  have hd : decide ((16 : Int) < (l.length : Int)) = false := decide_eq_false (by omega)
  have hpi := fun w2 (hb2 : Below w.heap.size w w2) => ref_put_id (bs := bs) (hA.below hb2) hb2.size (by omega) hc hs hn
  obtain ⟨q0, hq0⟩ : ∃ q, bs ++ idB c s n = q := ⟨_, rfl⟩
  have hl0 : q0.length = bs.length + 10 := by rw [← hq0, List.length_append, idB_len]
  rw [hq0] at hpi
  obtain ⟨q1, hq1⟩ : ∃ q, q0 ++ putU g.length 2 ++ g = q := ⟨_, rfl⟩
  obtain ⟨q2, hq2⟩ : ∃ q, q1 ++ putU m.length 2 ++ m = q := ⟨_, rfl⟩
  obtain ⟨q3, hq3⟩ : ∃ q, q2 ++ [UInt8.ofNat l.length] = q := ⟨_, rfl⟩
  have hl1 : q1.length = q0.length + 2 + g.length := by rw [← hq1, List.length_append, List.length_append, putU_len]
  have hl2 : q2.length = q1.length + 2 + m.length := by rw [← hq2, List.length_append, List.length_append, putU_len]
  have hl3 : q3.length = q2.length + 1 := by rw [← hq3, List.length_append]; rfl
  have hb3 : bys q3 = bys q2 ++ bys [UInt8.ofNat l.length] := by rw [← hq3, bys_append]
  have hhead : bs ++ headO ⟨c, s, n, g, m, l⟩ = q3 := by rw [← hq3, ← hq2, ← hq1, ← hq0]; unfold headO; simp only [List.append_assoc]
  have hgno : 32 < g.length → ∀ (A : Option Addr) (c3 : Nat) (w3 : World), Calls Try.prog 55 #[.slice A q0.length c3, .string gg, .int .i64 32] w3 (fun e w' => e = .returned (.tuple #[.slice none 0 0, .int .i64 22]) ∧ w3 = w') := fun h32 A c3 w3 => by
    rw [← hgg]; exact ref_put_text_no (m := 32) (.inl (by omega)) (by omega)
  have hmno : 32 < m.length → ∀ (A : Option Addr) (c3 : Nat) (w3 : World), Calls Try.prog 55 #[.slice A q1.length c3, .string mm, .int .i64 32] w3 (fun e w' => e = .returned (.tuple #[.slice none 0 0, .int .i64 22]) ∧ w3 = w') := fun h32 A c3 w3 => by
    rw [← hmm]; exact ref_put_text_no (m := 32) (.inl (by omega)) (by omega)
  have hgok : ¬ 32 < g.length → ∀ (A : Option Addr) (c3 : Nat) (w3 : World), Own w3 5 1 A q0.length c3 (bys q0) → Calls Try.prog 55 #[.slice A q0.length c3, .string gg, .int .i64 32] w3 (TextRow w3 (bOf A) q1) := fun h32 A c3 w3 hR => by
    rw [← hgg]; exact ref_put_text_own (m := 32) hR (by omega) (by omega) (by omega) hq1
  have hmok : ¬ 32 < m.length → ∀ (A : Option Addr) (c3 : Nat) (w3 : World), q1.length ≤ 1000000 → Own w3 5 1 A q1.length c3 (bys q1) → Calls Try.prog 55 #[.slice A q1.length c3, .string mm, .int .i64 32] w3 (TextRow w3 (bOf A) q2) := fun h32 A c3 w3 hl1 hR => by
    rw [← hmm]; exact ref_put_text_own (m := 32) hR (by omega) (by omega) (by omega) hq2
  have hwb : IntKind.u8.wrap (l.length : Int) = (l.length : Int) := by simp [IntKind.wrap, IntKind.bits, IntKind.signed]; omega
  have hbyte : (#[Value.int .u8 (l.length : Int)] : Array Value).toList = bys [UInt8.ofNat l.length] := by
    have : l.length % 256 = l.length := by omega
    simp [bys, byv, this]
  have herr : errO ⟨c, s, n, g, m, l⟩ = if 32 < g.length then 22 else if 32 < m.length then 22 else errL l := by unfold errO; rw [if_neg h16]
  have hby : bs ++ bytesO ⟨c, s, n, g, m, l⟩ = q3 ++ encL l := by unfold bytesO; rw [← List.append_assoc, hhead]
  unfold OpPut
  rw [herr, hby]
  obtain ⟨er, her⟩ : ∃ er, (if 32 < g.length then 22 else if 32 < m.length then 22 else errL l) = er := ⟨_, rfl⟩
  rw [her]
  clear herr hby hhead hq0 hgg hmm hq3
  replace her := Lib.hid her
  replace hq1 := Lib.hid hq1
  replace hq2 := Lib.hid hq2
  replace hl0 := Lib.hid hl0
  replace hl1 := Lib.hid hl1
  replace hl2 := Lib.hid hl2
  replace hl3 := Lib.hid hl3
  replace hb3 := Lib.hid hb3
  replace hbyte := Lib.hid hbyte
  replace hgno := Lib.hid hgno
  replace hmno := Lib.hid hmno
  replace hgok := Lib.hid hgok
  replace hmok := Lib.hid hmok
  replace hpi := Lib.hid hpi
  replace hc := Lib.hid hc
  replace hs := Lib.hid hs
  replace hn := Lib.hid hn
  have hrx := Lib.hid hr
  have hxx := Lib.hid hx
  have hxxs := Lib.hid hxs
  have hokx := Lib.hid hok
  have hbl' := hbl
  have B1 := b1
  rw [hb0] at B1
  have b10 := b1.cell 0
  have b11 := b1.cell 1
  have b12 := b1.cell 2
  have b13 := b1.cell 3
  have b14 := b1.cell 4
  have b15 := b1.cell 5
  clear hr hx hxs hok hA
  go_enter Try.func30, Try.ntmps30
  go_wp2_with fail
  refine (hpi.out _ hbl).mono ?_
  rintro e w2 ⟨A2, c2, rfl, ho2, hb2, hf2⟩
  dsimp only
  have B2 := B1.below hb2 B1.lt
  have hB2 := below_then hb2 hbl
  have d3 := B2.cell 3
  have hf2' : ∀ g, bOf A2 = some g → b < g := fun g hg => by have h1 : (w.alloc (.cells #[.int .u32 (c : Int), .int .u32 (s : Int), .int .u16 (n : Int), .string gg, .string mm, .slice A l.length cc] 30)).heap.size ≤ g := hf2 g hg; rw [World.size_alloc] at h1; omega
  clear b10 b11 b12 b13 b14 b15 hbl hbl' hb2 B1 hf2
  go_wp2_with fail
  by_cases hg32 : 32 < g.length
  · have he22 : er = 22 := by rw [← her.out, if_pos hg32]
    subst he22
    refine (hgno.out hg32 _ _ _).mono ?_
    rintro e w4 ⟨rfl, rfl⟩
    dsimp only
    go_wp2_with fail
    go_ret2
    exact ⟨fun e => absurd e (by decide), fun _ => ⟨rfl, hB2⟩⟩
  refine (hgok.out hg32 _ _ _ ho2).mono ?_
  rintro e w4 ⟨A4, c4, rfl, ho4, hu4, hf4⟩
  dsimp only
  have B4 := B2.upd hu4 (fun e => by have := hf2' b e.symm; omega)
  have hB4 := hB2.trans (hu4.below (B := w.heap.size) hB2.size (fun k hk e => by have := hf2' k e.symm; omega))
  have hbl4 := B2.lt
  have hf4' : ∀ g, bOf A4 = some g → b < g := fun g hg => by rcases hf4 with h | h; (rw [h] at hg; exact hf2' g hg); (have := h g hg; omega)
  have d4 := B4.cell 4
  clear ho2 d3 hf4 hu4 B2 hB2 hf2' hbl4
  go_wp2_with fail
  by_cases hm32 : 32 < m.length
  · have he22 : er = 22 := by rw [← her.out, if_neg hg32, if_pos hm32]
    subst he22
    refine (hmno.out hm32 _ _ _).mono ?_
    rintro e w5 ⟨rfl, rfl⟩
    dsimp only
    go_wp2_with fail
    go_ret2
    exact ⟨fun e => absurd e (by decide), fun _ => ⟨rfl, hB4⟩⟩
  have her' : errL l = er := by rw [← her.out, if_neg hg32, if_neg hm32]
  replace her' := Lib.hid her'
  clear her
  refine (hmok.out hm32 _ _ _ (by rw [hl1.out, hl0.out]; omega) ho4).mono ?_
  rintro e w5 ⟨A5, c5, rfl, ho5, hu5, hf5⟩
  dsimp only
  have B5 := B4.upd hu5 (fun e => by have := hf4' b e.symm; omega)
  have hB5 := hB4.trans (hu5.below (B := w.heap.size) hB4.size (fun k hk e => by have := hf4' k e.symm; omega))
  have hbl5 := B4.lt
  have hf5' : ∀ g, bOf A5 = some g → b < g := fun g hg => by rcases hf5 with h | h; (rw [h] at hg; exact hf4' g hg); (have := h g hg; omega)
  have d5 := B5.cell 5
  clear ho4 hB4 hf4' hf5 hu5 B4 d4 hbl5
  go_wp2_with (at_builtin; go_must (refine wpList_append_mine rfl _ _ 22 22 rfl 5 i0 (.int .u8 0) 1 1 Try.underlying22 hi hz0 hz1 hz2 rfl rfl (ho5.alloc _) rfl (Src.ofReads Try.underlying22 _ (Reads.lit _ _ _ _ 1 _ hbyte.out rfl) (bys_one _)) ?b1 ?b2 ?grow))
  case b1 =>
    have e1 := hl2.out
    have e2 := hl1.out
    have e3 := hl0.out
    unfold maxLen
    omega
  case b2 =>
    have e1 := hl2.out
    have e2 := hl1.out
    have e3 := hl0.out
    omega
  case grow =>
    intro A6 c6 w6 ho6 hg6 hat6
    have hb5s : w5.heap.size ≤ (w5.alloc (.cells #[.int .u8 (l.length : Int)] 5)).heap.size := by simp
    have B6 := (B5.alloc (.cells #[.int .u8 (l.length : Int)] 5)).grown hg6 (fun e => by have := hf5' b e.symm; omega)
    have hbw : w.heap.size ≤ b := by omega
    have hB6 := (hB5.alloc hB5.size (.cells #[.int .u8 (l.length : Int)] 5)).grown hg6 (Nat.le_trans hB5.size hb5s) (fun k hk => by have := hf5' k hk; omega)
    have hf6 : ∀ g, bOf A6 = some g → b < g := fun g hg => by
      rcases hat6 with h | h
      · rw [h] at hg; exact hf5' g hg
      · rw [h] at hg; cases hg; have := B5.lt; omega
    rw [← hb3.out, ← hl3.out] at ho6
    rw [← hl3.out]
    have d5' := B6.cell 5
    have hql : q3.length ≤ 200000 := by have e0 := hl3.out; have e1 := hl2.out; have e2 := hl1.out; have e3 := hl0.out; omega
    replace hql := Lib.hid hql
    clear B5 hB5 ho5 hf5' hg6 hat6 hb5s d5
    go_wp2_with fail
    clear d5' hgno hmno hgok hmok hpi
    go_loopw [0, 6, 7] (fun out ev ii wr => ∃ (j : Nat) (A1 : Option Addr) (c1 : Nat) (q : List UInt8), out = .slice A1 q.length c1 ∧ ii = .int .i64 (j : Int) ∧ PRel2 w wr b c s n gg mm A cc l q3 er j A1 c1 q) (fun _ _ ii _ => l.length - (intOf ii).toNat)
    case atStart => exact ⟨0, A6, c6, q3, rfl, rfl, Nat.zero_le _, ho6, hf6, Lib.hid (by simp [encL]), Lib.hid (by simp), Lib.hid (by rw [List.drop_zero]; exact her'.out), hB6, B6⟩
    case round =>
      rename_i hrel
      obtain ⟨j, A1, c1, q, rfl, rfl, R⟩ := hrel
      have y5 := R.box.cell 5
      by_cases hlt : j < l.length
      · obtain ⟨ad, k', i', f', s', A', n', c', rfl, hform, hgk, g0, g1, g2, g3, g4⟩ := kid hrx.out hxx.out hxxs.out (R.hb.mono hB) hlt
        have hstep := errL_step hlt
        have hen := encL_snoc hlt
        have hb7 := R.hb
        have ho7 := R.own
        have hbx := R.box
        have hjl := R.hlen.out
        have hql' := hql.out
        have hj16 : j < 16 := by omega
        have hfr := R.fresh
        have hbwr := R.box.lt
        by_cases hck : checkV l[j] = 0
        · have hpo := ref_put_ok (c := c1) (hxx.out j l[j] hgk) (hokx.out l[j] (List.getElem_mem hlt)) hck (hb7.mono hB) (Nat.le_trans hB hb7.size) (Grows.own ho7) (fun g hg => by have := hfr g hg; omega) (by omega)
          have hsm := encV_small hck
          obtain ⟨q', hq'⟩ : ∃ q', q ++ encV l[j] = q' := ⟨_, rfl⟩
          have hql2 : q'.length ≤ q3.length + (j + 1) * 4096 := by rw [← hq', List.length_append]; omega
          have hq2' : q' = q3 ++ encL (l.take (j + 1)) := by rw [← hq', R.hq.out, hen, List.append_assoc]
          have he2 : errL (l.drop (j + 1)) = er := by rw [← R.he.out, hstep, if_neg (by rw [hck]; simp)]
          rw [hform, hq'] at hpo
          replace hpo := Lib.hid hpo
          replace hql2 := Lib.hid hql2
          replace hq2' := Lib.hid hq2'
          replace he2 := Lib.hid he2
          clear hform hgk hstep hen R hjl hck hq' ho7 hsm hql'
          go_wp2_with fail
          refine hpo.out.mono ?_
          rintro e w8 ⟨A8, c8, rfl, ho8, hu8, hf8⟩
          dsimp only
          have hB8 := hb7.trans (hu8.below (B := w.heap.size) hb7.size (fun k hk e => by have := hfr k e.symm; omega))
          have B8 := hbx.upd hu8 (fun e => by have := hfr b e.symm; omega)
          have hf8' : ∀ g, bOf A8 = some g → b < g := fun g hg => by rcases hf8 with h | h; (rw [h] at hg; exact hfr g hg); (have := h g hg; omega)
          clear hb7 hu8 hf8 hpo g0 g1 g2 g3 g4 y5 hbx
          go_wp2_with fail
          go_roundw
          case rel => exact ⟨j + 1, A8, c8, q', rfl, by simp, by omega, ho8, hf8', hq2', hql2, he2, hB8, B8⟩
          case measure => simp [intOf]; omega
        · have hpo := ref_put_no (A := A1) (m := q.length) (c := c1) (hxx.out j l[j] hgk) hck (hb7.mono hB) (Nat.le_trans hB hb7.size)
          have hern : checkV l[j] = er := by rw [← R.he.out, hstep, if_pos hck]
          rw [hform, hern] at hpo
          rw [hern] at hck
          have hne : ((er : Int) != 0) = true := bne_iff_ne.2 (by omega)
          replace hpo := Lib.hid hpo
          replace hck := Lib.hid hck
          clear hform hgk hstep hen R hjl hern ho7 hql'
          go_wp2_with fail
          refine hpo.out.mono ?_
          rintro e w8 ⟨rfl, hb8⟩
          dsimp only
          have hB8 := below_then hb8 hb7
          go_wp2_with fail
          go_ret2
          exact ⟨fun e => absurd e hck.out, fun _ => ⟨rfl, hB8⟩⟩
      · have hj' : j = l.length := by have := R.jl; omega
        subst hj'
        have he0 : er = 0 := by rw [← R.he.out, List.drop_length]; rfl
        have hq0 : q3 ++ encL l = q := by rw [R.hq.out, List.take_length]
        have ho := R.own
        have hfr := R.fresh
        have hbf := R.hb
        subst he0
        replace hq0 := Lib.hid hq0
        clear R
        go_wp2_with fail
        go_ret2
        rw [hq0.out]
        exact ⟨A1, c1, rfl, ho, hbf, fun g hg => by have := hfr g hg; omega⟩
end Go.Proofs.Ytjljlgkghlphnaa
