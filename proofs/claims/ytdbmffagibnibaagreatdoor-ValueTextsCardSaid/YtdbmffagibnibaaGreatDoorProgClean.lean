/- value.Clean, value.Clone (the program's) at any value that is not great. -/
import Derived.Test.YtdbmffagibnibaaGreatDoorVals2
set_option linter.unusedSimpArgs false
set_option linter.unusedVariables false
namespace Go.Proofs.YtdbmffagibnibaaGreatDoor
set_option maxRecDepth 100000
open Go.RowKit

theorem num_canon (x : Nat) (w : World) : Calls Tryz.prog 68 #[.float .f64 x] w fun e w' => e = .returned (.float .f64 (cb x)) ∧ w = w' := by
  have ho := order_self x
  have hcan : ∀ w, (callFunc 51 #[.int .u64 9221120237041090561]).run Tryz.prog w = .ok (.value (.float .f64 9221120237041090561)) w := fun w => run_frombits 9221120237041090561 w
  by_cases h : nanB x = true
  · rw [h] at ho
    have hc : cb x = 9221120237041090561 := by unfold cb; rw [if_pos h]
    rw [hc]
    clear h hc
    go_enter Tryz.func68, Tryz.ntmps68
    go_wp2
    go_ret
    exact ⟨rfl, rfl⟩
  · rw [Bool.not_eq_true] at h
    rw [h] at ho
    have hc : cb x = x := by unfold cb; rw [h]; rfl
    rw [hc]
    clear h hc
    go_enter Tryz.func68, Tryz.ntmps68
    go_wp2
    go_ret
    exact ⟨rfl, rfl⟩

/-- A list's items, cleaned: Clean's list arm. -/
structure CRel (w wr : World) (b : Nat) (l : List Val) (j : Nat) (A1 : Option Addr) (c1 : Nat) (xs1 : List Value) (css1 : Nat → Array Value) : Prop where
  jl : j ≤ l.length
  hz : Blk wr (b + 1) 25 #[.int .i64 0, .int .i64 0, .float .f64 0, .string ⟨#[]⟩, .slice none 0 0]
  hy : Blk wr (b + 2) 25 #[.int .i64 4, .int .i64 0, .float .f64 0, .string ⟨#[]⟩, .slice A1 j c1]
  R : VRow wr (b + 3) ((l.take j).map cleanV) A1 c1 xs1 css1
  hb : Below b w wr

set_option maxHeartbeats 3200000 in
theorem val_clean_list {A : Option Addr} {c B : Nat} {l : List Val} {xs : List Value} {css : Nat → Array Value} {k i : Int} {f : Nat} {s : List UInt8} {w : World} (hk : k = 4) (hr : Reads w B 5 A l.length xs) (hB : B ≤ w.heap.size) (hxs : ∀ j, j < l.length → (xs.drop (j * 5)).take 5 = (css j).toList) (hx : ∀ (j : Nat) (v : Val), l[j]? = some v → VReads w B v (css j)) (hlen : l.length ≤ 2199023255488)
    (hcall : ∀ j v, l[j]? = some v → ∀ w1, Below w.heap.size w w1 → Calls Tryz.prog 50 #[.agg (css j)] w1 (CleanRes w1 v)) :
    Calls Tryz.prog 50 #[.agg #[.int .i64 k, .int .i64 i, .float .f64 f, .string (bstr s), .slice A l.length c]] w (CleanRes w (.mk k i f s l)) := by
  subst hk
  obtain ⟨i1, gi, gz0, gz1, gz2⟩ := info_parts info_val
  have hsf := fun a k x m w => run_store_float (P := Tryz.prog) a k x m w
  have hout : cleanV (.mk 4 i f s l) = .mk 4 0 0 [] (l.map cleanV) := by unfold cleanV; rw [if_neg (by decide), if_neg (by decide), if_neg (by decide), if_pos rfl, cleanL_map]
  unfold CleanRes
  rw [hout]
  clear hout
  have e1 : (w.alloc (.cells #[.int .i64 4, .int .i64 i, .float .f64 f, .string (bstr s), .slice A l.length c] 25)).heap.size = w.heap.size + 1 := by simp
  have e2 : ((w.alloc (.cells #[.int .i64 4, .int .i64 i, .float .f64 f, .string (bstr s), .slice A l.length c] 25)).alloc (.cells #[.int .i64 0, .int .i64 0, .float .f64 0, .string ⟨#[]⟩, .slice none 0 0] 25)).heap.size = w.heap.size + 1 + 1 := by simp
  have hz := Blk.new (w.alloc (.cells #[.int .i64 4, .int .i64 i, .float .f64 f, .string (bstr s), .slice A l.length c] 25)) 25 #[.int .i64 0, .int .i64 0, .float .f64 0, .string ⟨#[]⟩, .slice none 0 0]
  have hy := Blk.new ((w.alloc (.cells #[.int .i64 4, .int .i64 i, .float .f64 f, .string (bstr s), .slice A l.length c] 25)).alloc (.cells #[.int .i64 0, .int .i64 0, .float .f64 0, .string ⟨#[]⟩, .slice none 0 0] 25)) 25 #[.int .i64 4, .int .i64 0, .float .f64 0, .string ⟨#[]⟩, .slice none 0 0]
  have hz2 := hz.alloc (.cells #[.int .i64 4, .int .i64 0, .float .f64 0, .string ⟨#[]⟩, .slice none 0 0] 25)
  have hb := (((Below.refl w.heap.size w).alloc (Nat.le_refl _) (.cells #[.int .i64 4, .int .i64 i, .float .f64 f, .string (bstr s), .slice A l.length c] 25)).alloc (by simp) (.cells #[.int .i64 0, .int .i64 0, .float .f64 0, .string ⟨#[]⟩, .slice none 0 0] 25)).alloc (by simp; omega) (.cells #[.int .i64 4, .int .i64 0, .float .f64 0, .string ⟨#[]⟩, .slice none 0 0] 25)
  rw [e1] at hz2
  rw [e2] at hy
  replace hcall := Lib.hid hcall
  clear hz e1 e2
  go_enter Tryz.func50, Tryz.ntmps50
  go_wp2_with fail
  generalize ((w.alloc (.cells #[.int .i64 4, .int .i64 i, .float .f64 f, .string (bstr s), .slice A l.length c] 25)).alloc (.cells #[.int .i64 0, .int .i64 0, .float .f64 0, .string ⟨#[]⟩, .slice none 0 0] 25)).alloc (.cells #[.int .i64 4, .int .i64 0, .float .f64 0, .string ⟨#[]⟩, .slice none 0 0] 25) = w2 at *
  obtain ⟨b, hbb⟩ : ∃ b, w.heap.size = b := ⟨_, rfl⟩
  rw [hbb] at hz2 hy hb ⊢
  replace hbb := Lib.hid hbb
  go_loopw [30] (fun ii wr => ∃ (j : Nat) (A1 : Option Addr) (c1 : Nat) (xs1 : List Value) (css1 : Nat → Array Value), ii = .int .i64 (j : Int) ∧ CRel w wr b l j A1 c1 xs1 css1) (fun ii _ => l.length - (intOf ii).toNat)
  case atStart => exact ⟨0, none, 0, [], _, rfl, ⟨Nat.zero_le _, hz2, hy, VRow.nil _ _, hb⟩⟩
  case round =>
    obtain ⟨j, A1, c1, xs1, css1, rfl, R⟩ := hrel
    have hjl := R.jl
    have hml : ((l.take j).map cleanV).length = j := by simp; omega
    have hyl : b + 2 < wr.heap.size := R.hy.lt
    have hbw : Below w.heap.size w wr := by rw [hbb.out]; exact R.hb
    by_cases hlt : j < l.length
    · obtain ⟨ad, k', i', f', s', A', n', c', rfl, hform, hgk, g0, g1, g2, g3, g4⟩ := kid hr hx hxs (hbw.mono hB) hlt
      have htk : (l.take (j + 1)).map cleanV = (l.take j).map cleanV ++ [cleanV l[j]] := by rw [List.take_succ_eq_append_getElem hlt, List.map_append]; rfl
      have hcl := fun w1 (hb1 : Below w.heap.size w w1) => hcall.out j l[j] hgk w1 hb1
      rw [hform] at hcl
      have hbx := Blk.new wr 25 #[.int .i64 k', .int .i64 i', .float .f64 f', .string s', .slice A' n' c']
      have hy1 := R.hy.alloc (.cells #[.int .i64 k', .int .i64 i', .float .f64 f', .string s', .slice A' n' c'] 25)
      have hz1 := R.hz.alloc (.cells #[.int .i64 k', .int .i64 i', .float .f64 f', .string s', .slice A' n' c'] 25)
      have hb1 := hbw.alloc hbw.size (.cells #[.int .i64 k', .int .i64 i', .float .f64 f', .string s', .slice A' n' c'] 25)
      have hu1 := (Upd.refl (fun _ => False) wr).alloc (.cells #[.int .i64 k', .int .i64 i', .float .f64 f', .string s', .slice A' n' c'] 25)
      replace htk := Lib.hid htk
      replace hcl := Lib.hid hcl
      clear hform hgk
      go_wp2_with fail
      clear g0 g1 g2 g3 g4
      generalize hw3 : wr.alloc (.cells #[.int .i64 k', .int .i64 i', .float .f64 f', .string s', .slice A' n' c'] 25) = w3 at *
      have hw3s : w3.heap.size = wr.heap.size + 1 := by rw [← hw3]; simp
      replace hw3 := Lib.hid hw3
      have hS : (w3.drew.cell? ⟨b + 2, 4, none⟩ = some (.slice A1 j c1)) ∧ w3.drew.cell? ⟨wr.heap.size, 0, none⟩ = some (.int .i64 k') ∧ w3.drew.cell? ⟨wr.heap.size, 1, none⟩ = some (.int .i64 i') ∧ w3.drew.cell? ⟨wr.heap.size, 2, none⟩ = some (.float .f64 f') ∧ w3.drew.cell? ⟨wr.heap.size, 3, none⟩ = some (.string s') ∧ w3.drew.cell? ⟨wr.heap.size, 4, none⟩ = some (.slice A' n' c') := ⟨hy1.cell 4, hbx.cell 0, hbx.cell 1, hbx.cell 2, hbx.cell 3, hbx.cell 4⟩
      refine wp_region_lex (fun W => (W.cell? ⟨b + 2, 4, none⟩ = some (.slice A1 j c1)) ∧ W.cell? ⟨wr.heap.size, 0, none⟩ = some (.int .i64 k') ∧ W.cell? ⟨wr.heap.size, 1, none⟩ = some (.int .i64 i') ∧ W.cell? ⟨wr.heap.size, 2, none⟩ = some (.float .f64 f') ∧ W.cell? ⟨wr.heap.size, 3, none⟩ = some (.string s') ∧ W.cell? ⟨wr.heap.size, 4, none⟩ = some (.slice A' n' c')) [1, 2] [3, 4, 5, 7] [0, 1, 2, 3, 4, 5, 6, 7] (by kernel_rfl) rfl (by kernel_rfl) (by kernel_rfl) (fun _ _ d _ _ h => by cases d <;> exact h) ?_
      repeat (first | (refine lexG_take _ ?_ rfl rfl rfl rfl (fun _ => ?_) ?_; rotate_left; (focus (go_simp; with_reducible rfl)); try simp only [Act.put, List.setIfInBounds_toArray, List.set_cons_zero, List.set_cons_succ]) | (refine lexG_held _ ?_ rfl rfl rfl rfl (by assumption) (fun _ hSw => ?_) ?_; rotate_left; (focus ((try dsimp only at hSw); go_simp; with_reducible rfl)); try simp only [Act.put, List.setIfInBounds_toArray, List.set_cons_zero, List.set_cons_succ]) | (refine lexG_skip _ rfl rfl (by assumption) ?_; try simp only [Act.put, List.setIfInBounds_toArray, List.set_cons_zero, List.set_cons_succ]))
      refine lexG_now _ rfl rfl rfl (fun K hK => ?_)
      go_wp2_with fail
      refine (hcl.out w3.drew hb1.drew).mono ?_
      rintro e w6 ⟨cs, rfl, hv6, hb6⟩
      dsimp only
      have hb6' : Below w3.heap.size w3 w6 := below_of_drew hb6
      have hcs5 := hv6.size
      have hone := hv6.one
      obtain ⟨a0, a1, a2, a3, a4, rfl⟩ : ∃ a0 a1 a2 a3 a4, cs = #[a0, a1, a2, a3, a4] := by
        match cs, hcs5 with
        | ⟨[a0, a1, a2, a3, a4]⟩, _ => exact ⟨a0, a1, a2, a3, a4, rfl⟩
      have hy6 := hy1.below hb6' hy1.lt
      have hz6 := hz1.below hb6' hz1.lt
      have hbx6 := hbx.below hb6' hbx.lt
      have hu6 := hu1.thenBelow hb6' (by omega)
      have ho6 := R.R.ho.upd hu6 (fun g _ h => h)
      rw [hml] at ho6
      have hv6' : VOwn w6 (fun g => wr.heap.size ≤ g) (cleanV l[j]) #[a0, a1, a2, a3, a4] := hv6.mono (fun g _ hg => by have : w3.heap.size ≤ g := hg; omega)
      refine hK _ _ _ (fun _ h => h) ⟨hy6.cell 4, hbx6.cell 0, hbx6.cell 1, hbx6.cell 2, hbx6.cell 3, hbx6.cell 4⟩ ?_
      clear hK K hS
      try simp only [Act.put, List.setIfInBounds_toArray, List.set_cons_zero, List.set_cons_succ]
      have hy7 := hy6.alloc (.cells #[a0, a1, a2, a3, a4] 25)
      have hz7 := hz6.alloc (.cells #[a0, a1, a2, a3, a4] 25)
      have hbx7 := hbx6.alloc (.cells #[a0, a1, a2, a3, a4] 25)
      have ho7 := ho6.alloc (.cells #[a0, a1, a2, a3, a4] 25)
      have hsrc := Reads.lit (size := 5) w6 #[a0, a1, a2, a3, a4] 25 (0, 0) 1 [a0, a1, a2, a3, a4] rfl rfl
      refine lexG_now _ rfl rfl rfl (fun K hK => ?_)
      go_wp2_with fail
      refine hK _ _ _ (fun _ h => h) ⟨hy7.cell 4, hbx7.cell 0, hbx7.cell 1, hbx7.cell 2, hbx7.cell 3, hbx7.cell 4⟩ ?_
      clear hK K
      try simp only [Act.put, List.setIfInBounds_toArray, List.set_cons_zero, List.set_cons_succ]
      repeat (first | (refine lexG_take _ ?_ rfl rfl rfl rfl (fun _ => ?_) ?_; rotate_left; (focus (go_simp; with_reducible rfl)); try simp only [Act.put, List.setIfInBounds_toArray, List.set_cons_zero, List.set_cons_succ]) | (refine lexG_held _ ?_ rfl rfl rfl rfl (by assumption) (fun _ hSw => ?_) ?_; rotate_left; (focus ((try dsimp only at hSw); go_simp; with_reducible rfl)); try simp only [Act.put, List.setIfInBounds_toArray, List.set_cons_zero, List.set_cons_succ]) | (refine lexG_skip _ rfl rfl (by assumption) ?_; try simp only [Act.put, List.setIfInBounds_toArray, List.set_cons_zero, List.set_cons_succ]))
      refine lexG_now _ rfl rfl rfl (fun K hK => ?_)
      refine wp_append_mine _ _ 23 23 rfl 25 i1 _ 5 64 Tryz.underlying23 gi gz0 gz1 gz2 rfl rfl ho7 rfl (Src.ofReads Tryz.underlying23 _ hsrc (by intro u hu; exact hone u (by simpa using hu))) (by unfold maxLen; omega) (by omega) (fun A8 c8 w8 ho8 hg8 hat8 => ?_)
      have hAz : ∀ g, bOf A1 = some g → b + 3 ≤ g := R.R.hA
      have hy8 := hy7.grown hg8 (fun e => by have := hAz _ e.symm; omega)
      have hz8 := hz7.grown hg8 (fun e => by have := hAz _ e.symm; omega)
      have hbx8 := hbx7.grown hg8 (fun e => by have := R.R.ho.lt e.symm; omega)
      refine hK _ _ _ (fun _ h => h) ⟨hy8.cell 4, hbx8.cell 0, hbx8.cell 1, hbx8.cell 2, hbx8.cell 3, hbx8.cell 4⟩ ?_
      clear hK K
      try simp only [Act.put, List.setIfInBounds_toArray, List.set_cons_zero, List.set_cons_succ]
      repeat (first | (refine lexG_take _ ?_ rfl rfl rfl rfl (fun _ => ?_) ?_; rotate_left; (focus (go_simp; with_reducible rfl)); try simp only [Act.put, List.setIfInBounds_toArray, List.set_cons_zero, List.set_cons_succ]) | (refine lexG_held _ ?_ rfl rfl rfl rfl (by assumption) (fun _ hSw => ?_) ?_; rotate_left; (focus ((try dsimp only at hSw); go_simp; with_reducible rfl)); try simp only [Act.put, List.setIfInBounds_toArray, List.set_cons_zero, List.set_cons_succ]) | (refine lexG_skip _ rfl rfl (by assumption) ?_; try simp only [Act.put, List.setIfInBounds_toArray, List.set_cons_zero, List.set_cons_succ]))
      refine lexG_nowF _ rfl rfl rfl (by kernel_rfl) (fun K hK => ?_)
      have y84 := hy8.cell 4
      have yf8 := hy8.frozen 4
      go_simp
      refine hK _ _ ?_
      clear hK K
      refine lexG_nil ?_
      have R8 := R.R.push (b := b + 3) (by omega) hu6 (fun _ h => h.elim) hv6' ⟨_, rfl⟩ (by rw [hml]; exact ho8) hg8 hat8
      rw [← htk.out, hml] at R8
      have hb8 : Below b w w8 := ((by rw [← hbb.out]; exact ((hb1.trans (hb6'.mono hb1.size)).alloc (Nat.le_trans hb1.size hb6'.size) (.cells #[a0, a1, a2, a3, a4] 25)) : Below b w (w6.alloc (.cells #[a0, a1, a2, a3, a4] 25)))).grown hg8 (by rw [World.size_alloc]; have := hb6'.size; omega) (fun k e => by have := hAz k e; omega)
      have hnew : CRel w (w8.setCell ⟨b + 2, 4, none⟩ (.slice A8 (j + 1) c8)) b l (j + 1) A8 c8 _ _ := ⟨hlt, hz8.far (p := ⟨b + 2, 4, none⟩) (by show b + 1 ≠ b + 2; omega) _, hy8.set_ 4 (.slice A8 (j + 1) c8), R8.upd ((Upd.refl (fun x => x = b + 2) w8).setCell (p := ⟨b + 2, 4, none⟩) (fun _ => rfl) (.slice A8 (j + 1) c8)) (fun g hg e => by omega), hb8.setCell (p := ⟨b + 2, 4, none⟩) (by show b ≤ b + 2; omega) _⟩
      clear R8 hb8 hy8 hz8 hbx8 hy7 hz7 hbx7 ho7 hsrc ho8 hg8 hat8 hv6 hv6' hu6 ho6 hy6 hz6 hbx6 hb6 hb6' R hone hcs5 hy1 hz1 hbx hb1 hu1 y84 yf8
      replace hnew := Lib.hid hnew
      go_wp2_with fail
      go_roundw
      case rel => exact ⟨j + 1, A8, c8, _, _, by simp, hnew.out⟩
      case measure => simp [intOf]; omega
    · have hj' : j = l.length := by omega
      subst hj'
      have y0 := R.hy.cell 0
      have y1 := R.hy.cell 1
      have y2 := R.hy.cell 2
      have y3 := R.hy.cell 3
      have y4 := R.hy.cell 4
      have hzz := R.hz
      have hz7 := R.hz.row #[.int .i64 4, .int .i64 0, .float .f64 0, .string ⟨#[]⟩, .slice A1 l.length c1]
      have hb8 := below_row R.hb (g := b + 1) (by omega) #[.int .i64 4, .int .i64 0, .float .f64 0, .string ⟨#[]⟩, .slice A1 l.length c1]
      have hR := R.R
      rw [List.take_length] at hR
      have hml2 : (l.map cleanV).length = l.length := by simp
      have V4 := (hR.upd ((Upd.refl (fun x => x = b + 1) wr).setRow (g := b + 1) (fun _ => rfl) #[.int .i64 4, .int .i64 0, .float .f64 0, .string ⟨#[]⟩, .slice A1 l.length c1]) (fun g hg e => by omega)).own (by omega) 4 0 0 []
      rw [hml2] at V4
      clear R hR
      go_wp2_with (refine store_row_gen rfl 25 (Operand.tmp 2) _ rfl (b + 1) #[.int .i64 4, .int .i64 0, .float .f64 0, .string ⟨#[]⟩, .slice A1 l.length c1] rfl rfl 25 _ hzz (by kernel_rfl) rfl (by simp [Value.oneCell']) (fun w6 hw6 => ?_); rw [← hw6] at hz7 hb8 V4; clear hw6)
      refine bodyPost_ret (v := .agg #[.int .i64 4, .int .i64 0, .float .f64 0, .string ⟨#[]⟩, .slice A1 l.length c1]) ?hr rfl ?_
      case hr => exact results_cell_row rfl _ _ (b + 1) 25 _ (0, 0) _ rfl hz7 Tryz.underlying25 rfl (by kernel_rfl)
      exact ⟨_, rfl, V4.mono (fun g _ hg => by rw [hbb.out]; omega), by rw [hbb.out]; exact hb8⟩

set_option maxHeartbeats 1600000 in
theorem val_clean_s {w : World} {B : Nat} {v : Val} {cs : Array Value} (h : VReads w B v cs) : ∀ (w1 : World), ShortV v → Below B w w1 → B ≤ w1.heap.size → Calls Tryz.prog 50 #[.agg cs] w1 (CleanRes w1 v) := by
  induction h with
  | @mk k i f s l A c xs css hn hr hx hxs ih =>
    intro w1 hg hb1 hB1
    obtain ⟨hg1, hg2⟩ := hg
    by_cases h4 : k = 4
    · have h64 := hg1 h4
      have hgl := hg2 h4
      have hgi : ∀ (j : Nat) (v : Val), l[j]? = some v → ShortV v := fun j v hv => hgl v (List.mem_of_getElem? hv)
      exact val_clean_list h4 (hr.below hb1) hB1 hxs (fun j v hv => (hx j v hv).under hb1) (by omega) (fun j v hv w2 hb2 => ih j v hv w2 (hgi j v hv) (hb1.trans (hb2.mono hB1)) (Nat.le_trans hB1 hb2.size))
    have hS := (Below.refl w1.heap.size w1).alloc (Nat.le_refl _) (.cells #[.int .i64 k, .int .i64 i, .float .f64 f, .string (bstr s), .slice A l.length c] 25)
    have hb4 := hS.alloc hS.size (.cells #[.int .i64 0, .int .i64 0, .float .f64 0, .string ⟨#[]⟩, .slice none 0 0] 25)
    have hz3 := Blk.new (w1.alloc (.cells #[.int .i64 k, .int .i64 i, .float .f64 f, .string (bstr s), .slice A l.length c] 25)) 25 #[.int .i64 0, .int .i64 0, .float .f64 0, .string ⟨#[]⟩, .slice none 0 0]
    have hsz : (w1.alloc (.cells #[.int .i64 k, .int .i64 i, .float .f64 f, .string (bstr s), .slice A l.length c] 25)).heap.size = w1.heap.size + 1 := by simp
    rw [hsz] at hz3
    clear hS hsz ih hx hxs hr hg1 hg2
    unfold CleanRes cleanV
    generalize hsb : bstr s = sb at *
    by_cases h1 : k = 1
    · rw [if_pos h1]
      subst h1
      go_enter Tryz.func50, Tryz.ntmps50
      have hz4 := hz3.row #[.int .i64 1, .int .i64 i, .float .f64 0, .string ⟨#[]⟩, .slice none 0 0]
      have hb5 := below_row hb4 (g := w1.heap.size + 1) (by omega) #[.int .i64 1, .int .i64 i, .float .f64 0, .string ⟨#[]⟩, .slice none 0 0]
      go_wp2_with (refine store_row_gen rfl 25 (Operand.tmp 2) _ rfl (w1.heap.size + 1) #[.int .i64 1, .int .i64 i, .float .f64 0, .string ⟨#[]⟩, .slice none 0 0] (by simp [go_sem]) (by simp [go_sem]) 25 _ hz3 (by kernel_rfl) rfl (by simp [Value.oneCell']) (fun w6 hw6 => ?_); rw [← hw6] at hz4 hb5; clear hw6)
      refine bodyPost_ret (v := .agg #[.int .i64 1, .int .i64 i, .float .f64 0, .string ⟨#[]⟩, .slice none 0 0]) ?hr rfl ?_
      case hr => exact results_cell_row rfl _ _ (w1.heap.size + 1) 25 _ (0, 0) _ rfl hz4 Tryz.underlying25 rfl (by kernel_rfl)
      exact ⟨_, rfl, VOwn.flat _ _ 1 i 0 [], hb5⟩
    by_cases h2 : k = 2
    · rw [if_neg h1, if_pos h2]
      subst h2
      obtain ⟨y, hy⟩ : ∃ y, cb f = y := ⟨_, rfl⟩
      have hc := fun w => num_canon f w
      rw [hy] at hc ⊢
      clear hy
      go_enter Tryz.func50, Tryz.ntmps50
      go_wp2_with fail
      refine (hc _).mono ?_
      rintro e w3 ⟨rfl, rfl⟩
      dsimp only
      have hz4 := hz3.row #[.int .i64 2, .int .i64 0, .float .f64 y, .string ⟨#[]⟩, .slice none 0 0]
      have hb5 := below_row hb4 (g := w1.heap.size + 1) (by omega) #[.int .i64 2, .int .i64 0, .float .f64 y, .string ⟨#[]⟩, .slice none 0 0]
      go_wp2_with (refine store_row_gen rfl 25 (Operand.tmp 2) _ rfl (w1.heap.size + 1) #[.int .i64 2, .int .i64 0, .float .f64 y, .string ⟨#[]⟩, .slice none 0 0] (by simp [go_sem]) (by simp [go_sem]) 25 _ hz3 (by kernel_rfl) rfl (by simp [Value.oneCell']) (fun w6 hw6 => ?_); rw [← hw6] at hz4 hb5; clear hw6)
      refine bodyPost_ret (v := .agg #[.int .i64 2, .int .i64 0, .float .f64 y, .string ⟨#[]⟩, .slice none 0 0]) ?hr rfl ?_
      case hr => exact results_cell_row rfl _ _ (w1.heap.size + 1) 25 _ (0, 0) _ rfl hz4 Tryz.underlying25 rfl (by kernel_rfl)
      exact ⟨_, rfl, VOwn.flat _ _ 2 0 y [], hb5⟩
    by_cases h3 : k = 3
    · rw [if_neg h1, if_neg h2, if_pos h3]
      subst h3
      go_enter Tryz.func50, Tryz.ntmps50
      have hz4 := hz3.row #[.int .i64 3, .int .i64 0, .float .f64 0, .string sb, .slice none 0 0]
      have hb5 := below_row hb4 (g := w1.heap.size + 1) (by omega) #[.int .i64 3, .int .i64 0, .float .f64 0, .string sb, .slice none 0 0]
      go_wp2_with (refine store_row_gen rfl 25 (Operand.tmp 2) _ rfl (w1.heap.size + 1) #[.int .i64 3, .int .i64 0, .float .f64 0, .string sb, .slice none 0 0] (by simp [go_sem]) (by simp [go_sem]) 25 _ hz3 (by kernel_rfl) rfl (by simp [Value.oneCell']) (fun w6 hw6 => ?_); rw [← hw6] at hz4 hb5; clear hw6)
      refine bodyPost_ret (v := .agg #[.int .i64 3, .int .i64 0, .float .f64 0, .string sb, .slice none 0 0]) ?hr rfl ?_
      case hr => exact results_cell_row rfl _ _ (w1.heap.size + 1) 25 _ (0, 0) _ rfl hz4 Tryz.underlying25 rfl (by kernel_rfl)
      have hv := VOwn.flat w6 (fun g => w1.heap.size ≤ g) 3 0 0 s
      rw [hsb] at hv
      exact ⟨_, rfl, hv, hb5⟩
    · rw [if_neg h1, if_neg h2, if_neg h3, if_neg h4]
      have k1 : (k == 1) = false := by rw [beq_eq_false_iff_ne]; exact h1
      have k2 : (k == 2) = false := by rw [beq_eq_false_iff_ne]; exact h2
      have k3 : (k == 3) = false := by rw [beq_eq_false_iff_ne]; exact h3
      have k4 : (k == 4) = false := by rw [beq_eq_false_iff_ne]; exact h4
      go_enter Tryz.func50, Tryz.ntmps50
      have hz4 := hz3.row #[.int .i64 0, .int .i64 0, .float .f64 0, .string ⟨#[]⟩, .slice none 0 0]
      have hb5 := below_row hb4 (g := w1.heap.size + 1) (by omega) #[.int .i64 0, .int .i64 0, .float .f64 0, .string ⟨#[]⟩, .slice none 0 0]
      go_wp2_with (refine store_row_gen rfl 25 (Operand.tmp 2) _ rfl (w1.heap.size + 1) #[.int .i64 0, .int .i64 0, .float .f64 0, .string ⟨#[]⟩, .slice none 0 0] (by simp [go_sem]) (by simp [go_sem]) 25 _ hz3 (by kernel_rfl) rfl (by simp [Value.oneCell']) (fun w6 hw6 => ?_); rw [← hw6] at hz4 hb5; clear hw6)
      refine bodyPost_ret (v := .agg #[.int .i64 0, .int .i64 0, .float .f64 0, .string ⟨#[]⟩, .slice none 0 0]) ?hr rfl ?_
      case hr => exact results_cell_row rfl _ _ (w1.heap.size + 1) 25 _ (0, 0) _ rfl hz4 Tryz.underlying25 rfl (by kernel_rfl)
      exact ⟨_, rfl, VOwn.flat _ _ 0 0 0 [], hb5⟩

theorem val_clean {w : World} {B : Nat} {v : Val} {cs : Array Value} (h : VReads w B v cs) (d : Int) (w1 : World) (hg : greatV v d = false) (hb1 : Below B w w1) (hB1 : B ≤ w1.heap.size) : Calls Tryz.prog 50 #[.agg cs] w1 (CleanRes w1 v) :=
  val_clean_s h w1 (short_of_great h d hg) hb1 hB1

theorem val_clone_s {w : World} {B : Nat} {v : Val} {cs : Array Value} (h : VReads w B v cs) (w1 : World) (hg : ShortV v) (hb1 : Below B w w1) (hB1 : B ≤ w1.heap.size) : Calls Tryz.prog 26 #[.agg cs] w1 (CleanRes w1 v) := by
  have hcl := fun w2 (hb : Below w1.heap.size w1 w2) => val_clean_s h w2 hg (hb1.trans (hb.mono hB1)) (Nat.le_trans hB1 hb.size)
  obtain ⟨k, i, f, s, A, n, c, hform⟩ := h.form
  subst hform
  have hS := (Below.refl w1.heap.size w1).alloc (Nat.le_refl _) (.cells #[.int .i64 k, .int .i64 i, .float .f64 f, .string s, .slice A n c] 25)
  have hb4 := hS.alloc hS.size (.cells #[.int .i64 0, .int .i64 0, .float .f64 0, .string ⟨#[]⟩, .slice none 0 0] 25)
  have hz3 := Blk.new (w1.alloc (.cells #[.int .i64 k, .int .i64 i, .float .f64 f, .string s, .slice A n c] 25)) 25 #[.int .i64 0, .int .i64 0, .float .f64 0, .string ⟨#[]⟩, .slice none 0 0]
  have hsz : (w1.alloc (.cells #[.int .i64 k, .int .i64 i, .float .f64 f, .string s, .slice A n c] 25)).heap.size = w1.heap.size + 1 := by simp
  rw [hsz] at hz3
  replace hcl := Lib.hid hcl
  clear hS hsz h hg hb1 hB1
  go_enter Tryz.func26, Tryz.ntmps26
  go_wp2_with fail
  refine (hcl.out _ hb4).mono ?_
  rintro e w3 ⟨cs3, rfl, hv3, hb3⟩
  dsimp only
  obtain ⟨k', i', f', s', A', n', c', hform⟩ := hv3.reads.form
  subst hform
  have hz3' := hz3.below hb3 hz3.lt
  have hb4' := below_then hb3 hb4
  have hz4 := hz3'.row #[.int .i64 k', .int .i64 i', .float .f64 f', .string s', .slice A' n' c']
  have hb5 := below_row hb4' (g := w1.heap.size + 1) (by omega) #[.int .i64 k', .int .i64 i', .float .f64 f', .string s', .slice A' n' c']
  have e2 : ((w1.alloc (.cells #[.int .i64 k, .int .i64 i, .float .f64 f, .string s, .slice A n c] 25)).alloc (.cells #[.int .i64 0, .int .i64 0, .float .f64 0, .string ⟨#[]⟩, .slice none 0 0] 25)).heap.size = w1.heap.size + 1 + 1 := by simp
  have hv5 := (hv3.mono (Q := fun g => w1.heap.size + 1 < g) (fun g _ hg => by have : ((w1.alloc (.cells #[.int .i64 k, .int .i64 i, .float .f64 f, .string s, .slice A n c] 25)).alloc (.cells #[.int .i64 0, .int .i64 0, .float .f64 0, .string ⟨#[]⟩, .slice none 0 0] 25)).heap.size ≤ g := hg; omega)).upd ((Upd.refl (fun x => x = w1.heap.size + 1) w3).setRow (g := w1.heap.size + 1) (fun _ => rfl) #[.int .i64 k', .int .i64 i', .float .f64 f', .string s', .slice A' n' c']) (fun g hg e => by omega)
  clear hv3 hb3 hz3 hb4 e2
  go_wp2_with (refine store_row_gen rfl 25 (Operand.tmp 2) _ rfl (w1.heap.size + 1) #[.int .i64 k', .int .i64 i', .float .f64 f', .string s', .slice A' n' c'] rfl rfl 25 _ hz3' (by kernel_rfl) rfl (by simp [Value.oneCell']) (fun w6 hw6 => ?_); rw [← hw6] at hz4 hb5 hv5; clear hw6)
  refine bodyPost_ret (v := .agg #[.int .i64 k', .int .i64 i', .float .f64 f', .string s', .slice A' n' c']) ?hr rfl ?_
  case hr => exact results_cell_row rfl _ _ (w1.heap.size + 1) 25 _ (0, 0) _ rfl hz4 Tryz.underlying25 rfl (by kernel_rfl)
  exact ⟨_, rfl, hv5.mono (fun g _ hg => by omega), hb5⟩
theorem val_clone {w : World} {B : Nat} {v : Val} {cs : Array Value} (h : VReads w B v cs) (d : Int) (w1 : World) (hg : greatV v d = false) (hb1 : Below B w w1) (hB1 : B ≤ w1.heap.size) : Calls Tryz.prog 26 #[.agg cs] w1 (CleanRes w1 v) :=
  val_clone_s h w1 (short_of_great h d hg) hb1 hB1
end Go.Proofs.YtdbmffagibnibaaGreatDoor
