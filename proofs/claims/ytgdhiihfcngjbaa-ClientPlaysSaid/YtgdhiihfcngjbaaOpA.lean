/- Calls as the machine holds them: LightOp; Clean both; are two the same? -/
import Derived.Test.YtgdhiihfcngjbaaVals2
import Derived.Test.YtgdhiihfcngjbaaProgClean
set_option linter.unusedSimpArgs false
set_option linter.unusedVariables false
namespace Go.Proofs.Ytgdhiihfcngjbaa
open Go.RowKit

/-- A call: its id, names, args. -/
structure OpD where
  c : Nat
  s : Nat
  n : Nat
  g : List UInt8
  m : List UInt8
  l : List Val

/-- A call that the machine reads. -/
def OpReads (w : World) (B : Nat) (o : OpD) (cs : Array Value) : Prop :=
  ∃ (A : Option Addr) (cc : Nat) (xs : List Value) (css : Nat → Array Value), cs = #[.int .u32 o.c, .int .u32 o.s, .int .u16 o.n, .string (bstr o.g), .string (bstr o.m), .slice A o.l.length cc] ∧ Reads w B 5 A o.l.length xs ∧ (∀ j v, o.l[j]? = some v → VReads w B v (css j)) ∧ (∀ j, j < o.l.length → (xs.drop (j * 5)).take 5 = (css j).toList) ∧ o.l.length ≤ 2199023255488 ∧ (∀ v ∈ o.l, OkV v) ∧ o.c < 4294967296 ∧ o.s < 4294967296 ∧ o.n < 65536
theorem OpReads.below {w w' : World} {B : Nat} {o : OpD} {cs : Array Value} (h : OpReads w B o cs) (hb : Below B w w') : OpReads w' B o cs := by
  obtain ⟨A, cc, xs, css, h1, h2, h3, h4, h5, h6⟩ := h
  exact ⟨A, cc, xs, css, h1, h2.below hb, fun j v hv => (h3 j v hv).under hb, h4, h5, h6⟩

def OpCleanRes (w : World) (c0 s0 n0 : Int) (gg mm : ByteArray) (l : List Val) (e : Ending) (w' : World) : Prop :=
  ∃ A' c' xs' css', e = .returned (.agg #[.int .u32 c0, .int .u32 s0, .int .u16 n0, .string gg, .string mm, .slice A' l.length c']) ∧ VRow w' w.heap.size (l.map cleanV) A' c' xs' css' ∧ Below w.heap.size w w'

theorem VRow.down {w : World} {b b' : Nat} {l : List Val} {A : Option Addr} {c : Nat} {xs : List Value} {css : Nat → Array Value} (R : VRow w b l A c xs css) (hb : b' ≤ b) : VRow w b' l A c xs css :=
  ⟨R.ho, fun g hg => Nat.le_trans hb (R.hA g hg), fun k v hv => (R.hx k v hv).mono (fun g _ hg => ⟨Nat.le_trans hb hg.1, hg.2⟩), R.hxs⟩

structure ORel (w wr : World) (b : Nat) (c0 s0 n0 : Int) (gg mm : ByteArray) (l : List Val) (j : Nat) (A1 : Option Addr) (c1 : Nat) (xs1 : List Value) (css1 : Nat → Array Value) : Prop where
  jl : j ≤ l.length
  hz : Blk wr (b + 1) 62 #[.int .u32 0, .int .u32 0, .int .u16 0, .string ⟨#[]⟩, .string ⟨#[]⟩, .slice none 0 0]
  hy : Blk wr (b + 2) 62 #[.int .u32 c0, .int .u32 s0, .int .u16 n0, .string gg, .string mm, .slice A1 j c1]
  R : VRow wr (b + 3) ((l.take j).map cleanV) A1 c1 xs1 css1
  hb : Below b w wr

set_option maxHeartbeats 3200000 in
theorem op_clean {A : Option Addr} {c B : Nat} {l : List Val} {xs : List Value} {css : Nat → Array Value} {c0 s0 n0 : Int} {gg mm : ByteArray} {w : World} (hr : Reads w B 5 A l.length xs) (hB : B ≤ w.heap.size) (hxs : ∀ j, j < l.length → (xs.drop (j * 5)).take 5 = (css j).toList) (hx : ∀ (j : Nat) (v : Val), l[j]? = some v → VReads w B v (css j)) (hlen : l.length ≤ 2199023255488)
    (hcall : ∀ j v, l[j]? = some v → ∀ w1, Below w.heap.size w w1 → Calls Try.prog 40 #[.agg (css j)] w1 (CleanRes w1 v)) :
    Calls Try.prog 26 #[.agg #[.int .u32 c0, .int .u32 s0, .int .u16 n0, .string gg, .string mm, .slice A l.length c]] w (OpCleanRes w c0 s0 n0 gg mm l) := by
  obtain ⟨i1, gi, gz0, gz1, gz2⟩ := info_parts info_val
  have hsf := fun a k x m w => run_store_float (P := Try.prog) a k x m w
  have e1 : (w.alloc (.cells #[.int .u32 c0, .int .u32 s0, .int .u16 n0, .string gg, .string mm, .slice A l.length c] 62)).heap.size = w.heap.size + 1 := by simp
  have e2 : ((w.alloc (.cells #[.int .u32 c0, .int .u32 s0, .int .u16 n0, .string gg, .string mm, .slice A l.length c] 62)).alloc (.cells #[.int .u32 0, .int .u32 0, .int .u16 0, .string ⟨#[]⟩, .string ⟨#[]⟩, .slice none 0 0] 62)).heap.size = w.heap.size + 1 + 1 := by simp
  have hz := Blk.new (w.alloc (.cells #[.int .u32 c0, .int .u32 s0, .int .u16 n0, .string gg, .string mm, .slice A l.length c] 62)) 62 #[.int .u32 0, .int .u32 0, .int .u16 0, .string ⟨#[]⟩, .string ⟨#[]⟩, .slice none 0 0]
  have hy := Blk.new ((w.alloc (.cells #[.int .u32 c0, .int .u32 s0, .int .u16 n0, .string gg, .string mm, .slice A l.length c] 62)).alloc (.cells #[.int .u32 0, .int .u32 0, .int .u16 0, .string ⟨#[]⟩, .string ⟨#[]⟩, .slice none 0 0] 62)) 62 #[.int .u32 c0, .int .u32 s0, .int .u16 n0, .string gg, .string mm, .slice none 0 0]
  have hz2 := hz.alloc (.cells #[.int .u32 c0, .int .u32 s0, .int .u16 n0, .string gg, .string mm, .slice none 0 0] 62)
  have hb := (((Below.refl w.heap.size w).alloc (Nat.le_refl _) (.cells #[.int .u32 c0, .int .u32 s0, .int .u16 n0, .string gg, .string mm, .slice A l.length c] 62)).alloc (by simp) (.cells #[.int .u32 0, .int .u32 0, .int .u16 0, .string ⟨#[]⟩, .string ⟨#[]⟩, .slice none 0 0] 62)).alloc (by simp; omega) (.cells #[.int .u32 c0, .int .u32 s0, .int .u16 n0, .string gg, .string mm, .slice none 0 0] 62)
  rw [e1] at hz2
  rw [e2] at hy
  replace hcall := Lib.hid hcall
  clear hz e1 e2
  go_enter Try.func26, Try.ntmps26
  go_wp2_with fail
  generalize ((w.alloc (.cells #[.int .u32 c0, .int .u32 s0, .int .u16 n0, .string gg, .string mm, .slice A l.length c] 62)).alloc (.cells #[.int .u32 0, .int .u32 0, .int .u16 0, .string ⟨#[]⟩, .string ⟨#[]⟩, .slice none 0 0] 62)).alloc (.cells #[.int .u32 c0, .int .u32 s0, .int .u16 n0, .string gg, .string mm, .slice none 0 0] 62) = w2 at *
  obtain ⟨b, hbb⟩ : ∃ b, w.heap.size = b := ⟨_, rfl⟩
  rw [hbb] at hz2 hy hb ⊢
  replace hbb := Lib.hid hbb
  go_loopw [16] (fun ii wr => ∃ (j : Nat) (A1 : Option Addr) (c1 : Nat) (xs1 : List Value) (css1 : Nat → Array Value), ii = .int .i64 (j : Int) ∧ ORel w wr b c0 s0 n0 gg mm l j A1 c1 xs1 css1) (fun ii _ => l.length - (intOf ii).toNat)
  case atStart => exact ⟨0, none, 0, [], _, rfl, ⟨Nat.zero_le _, hz2, hy, VRow.nil _ _, hb⟩⟩
  case round =>
    obtain ⟨j, A1, c1, xs1, css1, rfl, R⟩ := hrel
    have hjl := R.jl
    have hml : ((l.take j).map cleanV).length = j := by simp; omega
    have hyl : b + 2 < wr.heap.size := R.hy.lt
    have hbw : Below w.heap.size w wr := by rw [hbb.out]; exact R.hb
    by_cases hlt : j < l.length
    · obtain ⟨ad, k', i', f', s', A', n', c', rfl, hform, hgk, g0, g1, g2, g3, g4⟩ := kid hr hx hxs (hbw.mono hB) hlt
      have htk : (l.take (j + 1)).map cleanV = (l.take j).map cleanV ++ [cleanV l[j]] := by rw [List.take_succ_eq_append_getElem hlt, List.map_append]; rfl
      have hcl := fun w1 (hb1 : Below w.heap.size w w1) => hcall.out j l[j] hgk w1 hb1
      rw [hform] at hcl
      have hbx := Blk.new wr 37 #[.int .i64 k', .int .i64 i', .float .f64 f', .string s', .slice A' n' c']
      have hy1 := R.hy.alloc (.cells #[.int .i64 k', .int .i64 i', .float .f64 f', .string s', .slice A' n' c'] 37)
      have hz1 := R.hz.alloc (.cells #[.int .i64 k', .int .i64 i', .float .f64 f', .string s', .slice A' n' c'] 37)
      have hb1 := hbw.alloc hbw.size (.cells #[.int .i64 k', .int .i64 i', .float .f64 f', .string s', .slice A' n' c'] 37)
      have hu1 := (Upd.refl (fun _ => False) wr).alloc (.cells #[.int .i64 k', .int .i64 i', .float .f64 f', .string s', .slice A' n' c'] 37)
      replace htk := Lib.hid htk
      replace hcl := Lib.hid hcl
      clear hform hgk
      go_wp2_with fail
      clear g0 g1 g2 g3 g4
      generalize hw3 : wr.alloc (.cells #[.int .i64 k', .int .i64 i', .float .f64 f', .string s', .slice A' n' c'] 37) = w3 at *
      have hw3s : w3.heap.size = wr.heap.size + 1 := by rw [← hw3]; simp
      replace hw3 := Lib.hid hw3
      have hS : (w3.drew.cell? ⟨b + 2, 5, none⟩ = some (.slice A1 j c1)) ∧ w3.drew.cell? ⟨wr.heap.size, 0, none⟩ = some (.int .i64 k') ∧ w3.drew.cell? ⟨wr.heap.size, 1, none⟩ = some (.int .i64 i') ∧ w3.drew.cell? ⟨wr.heap.size, 2, none⟩ = some (.float .f64 f') ∧ w3.drew.cell? ⟨wr.heap.size, 3, none⟩ = some (.string s') ∧ w3.drew.cell? ⟨wr.heap.size, 4, none⟩ = some (.slice A' n' c') := ⟨hy1.cell 5, hbx.cell 0, hbx.cell 1, hbx.cell 2, hbx.cell 3, hbx.cell 4⟩
      refine wp_region_lex (fun W => (W.cell? ⟨b + 2, 5, none⟩ = some (.slice A1 j c1)) ∧ W.cell? ⟨wr.heap.size, 0, none⟩ = some (.int .i64 k') ∧ W.cell? ⟨wr.heap.size, 1, none⟩ = some (.int .i64 i') ∧ W.cell? ⟨wr.heap.size, 2, none⟩ = some (.float .f64 f') ∧ W.cell? ⟨wr.heap.size, 3, none⟩ = some (.string s') ∧ W.cell? ⟨wr.heap.size, 4, none⟩ = some (.slice A' n' c')) [1, 2] [3, 4, 5, 7] [0, 1, 2, 3, 4, 5, 6, 7] (by kernel_rfl) rfl (by kernel_rfl) (by kernel_rfl) (fun _ _ d _ _ h => by cases d <;> exact h) ?_
      repeat (first | (refine lexG_take _ ?_ rfl rfl rfl rfl (fun _ => ?_) ?_; rotate_left; (focus (go_simp; with_reducible rfl)); try simp only [Act.put, List.setIfInBounds_toArray, List.set_cons_zero, List.set_cons_succ]) | (refine lexG_held _ ?_ rfl rfl rfl rfl (by assumption) (fun _ hSw => ?_) ?_; rotate_left; (focus ((try dsimp only at hSw); go_simp; with_reducible rfl)); try simp only [Act.put, List.setIfInBounds_toArray, List.set_cons_zero, List.set_cons_succ]) | (refine lexG_skip _ rfl rfl (by assumption) ?_; try simp only [Act.put, List.setIfInBounds_toArray, List.set_cons_zero, List.set_cons_succ]))
      refine lexG_now _ rfl rfl rfl (fun K hK => ?_)
      go_wp2_with fail
      refine (hcl.out w3.drew hb1.drew).mono ?_
      rintro e w6 ⟨cs, rfl, hv6, hb6⟩
      dsimp only
      have hb6' : Below w3.heap.size w3 w6 := below_of_drew hb6
      have hcs5 := hv6.size
      have hone := hv6.one
      obtain ⟨a0, a1, a2, a3, a4, rfl⟩ : ∃ a0 a1 a2 a3 a4, cs = #[a0, a1, a2, a3, a4] := by
        match cs, hcs5 with
        | ⟨[a0, a1, a2, a3, a4]⟩, _ => exact ⟨a0, a1, a2, a3, a4, rfl⟩
      have hy6 := hy1.below hb6' hy1.lt
      have hz6 := hz1.below hb6' hz1.lt
      have hbx6 := hbx.below hb6' hbx.lt
      have hu6 := hu1.thenBelow hb6' (by omega)
      have ho6 := R.R.ho.upd hu6 (fun g _ h => h)
      rw [hml] at ho6
      have hv6' : VOwn w6 (fun g => wr.heap.size ≤ g) (cleanV l[j]) #[a0, a1, a2, a3, a4] := hv6.mono (fun g _ hg => by have : w3.heap.size ≤ g := hg; omega)
      refine hK _ _ _ (fun _ h => h) ⟨hy6.cell 5, hbx6.cell 0, hbx6.cell 1, hbx6.cell 2, hbx6.cell 3, hbx6.cell 4⟩ ?_
      clear hK K hS
      try simp only [Act.put, List.setIfInBounds_toArray, List.set_cons_zero, List.set_cons_succ]
      have hy7 := hy6.alloc (.cells #[a0, a1, a2, a3, a4] 37)
      have hz7 := hz6.alloc (.cells #[a0, a1, a2, a3, a4] 37)
      have hbx7 := hbx6.alloc (.cells #[a0, a1, a2, a3, a4] 37)
      have ho7 := ho6.alloc (.cells #[a0, a1, a2, a3, a4] 37)
      have hsrc := Reads.lit (size := 5) w6 #[a0, a1, a2, a3, a4] 37 (0, 0) 1 [a0, a1, a2, a3, a4] rfl rfl
      refine lexG_now _ rfl rfl rfl (fun K hK => ?_)
      go_wp2_with fail
      refine hK _ _ _ (fun _ h => h) ⟨hy7.cell 5, hbx7.cell 0, hbx7.cell 1, hbx7.cell 2, hbx7.cell 3, hbx7.cell 4⟩ ?_
      clear hK K
      try simp only [Act.put, List.setIfInBounds_toArray, List.set_cons_zero, List.set_cons_succ]
      repeat (first | (refine lexG_take _ ?_ rfl rfl rfl rfl (fun _ => ?_) ?_; rotate_left; (focus (go_simp; with_reducible rfl)); try simp only [Act.put, List.setIfInBounds_toArray, List.set_cons_zero, List.set_cons_succ]) | (refine lexG_held _ ?_ rfl rfl rfl rfl (by assumption) (fun _ hSw => ?_) ?_; rotate_left; (focus ((try dsimp only at hSw); go_simp; with_reducible rfl)); try simp only [Act.put, List.setIfInBounds_toArray, List.set_cons_zero, List.set_cons_succ]) | (refine lexG_skip _ rfl rfl (by assumption) ?_; try simp only [Act.put, List.setIfInBounds_toArray, List.set_cons_zero, List.set_cons_succ]))
      refine lexG_now _ rfl rfl rfl (fun K hK => ?_)
      refine wp_append_mine _ _ 35 35 rfl 37 i1 _ 5 64 Try.underlying35 gi gz0 gz1 gz2 rfl rfl ho7 rfl (Src.ofReads Try.underlying35 _ hsrc (by intro u hu; exact hone u (by simpa using hu))) (by unfold maxLen; omega) (by omega) (fun A8 c8 w8 ho8 hg8 hat8 => ?_)
      have hAz : ∀ g, bOf A1 = some g → b + 3 ≤ g := R.R.hA
      have hy8 := hy7.grown hg8 (fun e => by have := hAz _ e.symm; omega)
      have hz8 := hz7.grown hg8 (fun e => by have := hAz _ e.symm; omega)
      have hbx8 := hbx7.grown hg8 (fun e => by have := R.R.ho.lt e.symm; omega)
      refine hK _ _ _ (fun _ h => h) ⟨hy8.cell 5, hbx8.cell 0, hbx8.cell 1, hbx8.cell 2, hbx8.cell 3, hbx8.cell 4⟩ ?_
      clear hK K
      try simp only [Act.put, List.setIfInBounds_toArray, List.set_cons_zero, List.set_cons_succ]
      repeat (first | (refine lexG_take _ ?_ rfl rfl rfl rfl (fun _ => ?_) ?_; rotate_left; (focus (go_simp; with_reducible rfl)); try simp only [Act.put, List.setIfInBounds_toArray, List.set_cons_zero, List.set_cons_succ]) | (refine lexG_held _ ?_ rfl rfl rfl rfl (by assumption) (fun _ hSw => ?_) ?_; rotate_left; (focus ((try dsimp only at hSw); go_simp; with_reducible rfl)); try simp only [Act.put, List.setIfInBounds_toArray, List.set_cons_zero, List.set_cons_succ]) | (refine lexG_skip _ rfl rfl (by assumption) ?_; try simp only [Act.put, List.setIfInBounds_toArray, List.set_cons_zero, List.set_cons_succ]))
      refine lexG_nowF _ rfl rfl rfl (by kernel_rfl) (fun K hK => ?_)
      have y84 := hy8.cell 5
      have yf8 := hy8.frozen 5
      go_simp
      refine hK _ _ ?_
      clear hK K
      refine lexG_nil ?_
      have R8 := R.R.push (b := b + 3) (by omega) hu6 (fun _ h => h.elim) hv6' ⟨_, rfl⟩ (by rw [hml]; exact ho8) hg8 hat8
      rw [← htk.out, hml] at R8
      have hb8 : Below b w w8 := ((by rw [← hbb.out]; exact ((hb1.trans (hb6'.mono hb1.size)).alloc (Nat.le_trans hb1.size hb6'.size) (.cells #[a0, a1, a2, a3, a4] 37)) : Below b w (w6.alloc (.cells #[a0, a1, a2, a3, a4] 37)))).grown hg8 (by rw [World.size_alloc]; have := hb6'.size; omega) (fun k e => by have := hAz k e; omega)
      have hnew : ORel w (w8.setCell ⟨b + 2, 5, none⟩ (.slice A8 (j + 1) c8)) b c0 s0 n0 gg mm l (j + 1) A8 c8 _ _ := ⟨hlt, hz8.far (p := ⟨b + 2, 5, none⟩) (by show b + 1 ≠ b + 2; omega) _, hy8.set_ 5 (.slice A8 (j + 1) c8), R8.upd ((Upd.refl (fun x => x = b + 2) w8).setCell (p := ⟨b + 2, 5, none⟩) (fun _ => rfl) (.slice A8 (j + 1) c8)) (fun g hg e => by omega), hb8.setCell (p := ⟨b + 2, 5, none⟩) (by show b ≤ b + 2; omega) _⟩
      clear R8 hb8 hy8 hz8 hbx8 hy7 hz7 hbx7 ho7 hsrc ho8 hg8 hat8 hv6 hv6' hu6 ho6 hy6 hz6 hbx6 hb6 hb6' R hone hcs5 hy1 hz1 hbx hb1 hu1 y84 yf8
      replace hnew := Lib.hid hnew
      go_wp2_with fail
      go_roundw
      case rel => exact ⟨j + 1, A8, c8, _, _, by simp, hnew.out⟩
      case measure => simp [intOf]; omega
    · have hj' : j = l.length := by omega
      subst hj'
      have y0 := R.hy.cell 0
      have y1 := R.hy.cell 1
      have y2 := R.hy.cell 2
      have y3 := R.hy.cell 3
      have y4 := R.hy.cell 4
      have y5 := R.hy.cell 5
      have hzz := R.hz
      have hz7 := R.hz.row #[.int .u32 c0, .int .u32 s0, .int .u16 n0, .string gg, .string mm, .slice A1 l.length c1]
      have hb8 := below_row R.hb (g := b + 1) (by omega) #[.int .u32 c0, .int .u32 s0, .int .u16 n0, .string gg, .string mm, .slice A1 l.length c1]
      have hR := R.R
      rw [List.take_length] at hR
      have hml2 : (l.map cleanV).length = l.length := by simp
      have V4 := hR.upd ((Upd.refl (fun x => x = b + 1) wr).setRow (g := b + 1) (fun _ => rfl) #[.int .u32 c0, .int .u32 s0, .int .u16 n0, .string gg, .string mm, .slice A1 l.length c1]) (fun g hg e => by omega)
      clear R hR
      go_wp2_with (refine store_row_gen rfl 62 (Operand.tmp 2) _ rfl (b + 1) #[.int .u32 c0, .int .u32 s0, .int .u16 n0, .string gg, .string mm, .slice A1 l.length c1] rfl rfl 62 _ hzz (by kernel_rfl) rfl (by simp [Value.oneCell']) (fun w6 hw6 => ?_); rw [← hw6] at hz7 hb8 V4; clear hw6)
      refine bodyPost_ret (v := .agg #[.int .u32 c0, .int .u32 s0, .int .u16 n0, .string gg, .string mm, .slice A1 l.length c1]) ?hr rfl ?_
      case hr => exact results_cell_row rfl _ _ (b + 1) 62 _ (0, 0) _ rfl hz7 Try.underlying62 rfl (by kernel_rfl)
      exact ⟨_, _, _, _, rfl, V4.down (by rw [hbb.out]; omega), by rw [hbb.out]; exact hb8⟩

end Go.Proofs.Ytgdhiihfcngjbaa
