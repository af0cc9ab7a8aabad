/- (*client.Stub).answer. -/
import Derived.Test.YtgdhiihfcngjbaaCl9
set_option linter.unusedSimpArgs false
set_option linter.unusedVariables false
namespace Go.Proofs.Ytgdhiihfcngjbaa
open Go.RowKit
set_option maxRecDepth 100000

theorem info_reply : (Try.prog.info? 39).map (fun i => (i.zero, i.size, i.bytes)) = some (some (.agg #[.int .u32 0, .int .u32 0, .int .u16 0, .int .i64 0, .int .i64 0, .int .i64 0, .float .f64 0, .string ⟨#[]⟩, .slice none 0 0]), 9, 88) := by kernel_rfl
theorem StubX.one {w : World} {F : Nat → Prop} {g : Nat} {d : CliD} {A : Option Addr} {c : Nat} {A2 : Option Addr} {c2 : Nat} {xs xs2 : List Value} {css css2 : Nat → Array Value} (h : StubX w F g d A c A2 c2 xs xs2 css css2) : ∀ u ∈ xs, u.oneCell' = true := by
  intro u hu
  obtain ⟨q, hq⟩ := List.getElem?_of_mem hu
  have hlx := h.ho.len
  have hql : q < xs.length := by
    rcases Nat.lt_or_ge q xs.length with h' | h'
    · exact h'
    · rw [List.getElem?_eq_none h'] at hq; cases hq
  have hj : q / 8 < d.op.length := by omega
  have hx : d.op[q / 8]? = some d.op[q / 8] := List.getElem?_eq_getElem hj
  obtain ⟨_, A1, c1, _, hcs, -⟩ := h.cells hx
  have hw := h.hxs _ _ hx
  rw [hcs] at hw
  have h1 := window hw (q % 8) (by omega)
  rw [show q / 8 * 8 + q % 8 = q by omega, hq] at h1
  have hm : u ∈ ([Value.int .u32 (d.op[q / 8].o.c : Int), .int .u32 (d.op[q / 8].o.s : Int), .int .u16 (d.op[q / 8].o.n : Int), .string (bstr d.op[q / 8].o.g), .string (bstr d.op[q / 8].o.m), .slice A1 d.op[q / 8].o.l.length c1, .int .i64 (d.op[q / 8].age : Int), .bool d.op[q / 8].now] : List Value) := List.mem_of_getElem? h1.symm
  simp only [List.mem_cons, List.not_mem_nil, or_false] at hm
  rcases hm with rfl | rfl | rfl | rfl | rfl | rfl | rfl | rfl <;> rfl
set_option maxHeartbeats 6400000 in
theorem cl_answer {w : World} {F : Nat → Prop} {g : Nat} {d : CliD} {A : Option Addr} {c : Nat} {A2 : Option Addr} {c2 : Nat} {xs xs2 : List Value} {css css2 : Nat → Array Value} {j rc rs rn B : Nat} {er k i : Int} {f : Nat} {s : ByteArray} {Av : Option Addr} {nv cv : Nat} {v : Val} (h : StubX w F g d A c A2 c2 xs xs2 css css2) (hv : VReads w B v #[.int .i64 k, .int .i64 i, .float .f64 f, .string s, .slice Av nv cv]) (hB : B ≤ w.heap.size) (hok : OkV v) (hj : j < d.op.length) (hr4 : d.rp.length < 1000000) :
    Calls Try.prog 29 #[.pointer (some ⟨g, 0, none⟩), .int .i64 (j : Int), .agg #[.int .u32 (rc : Int), .int .u32 (rs : Int), .int .u16 (rn : Int), .int .i64 er, .int .i64 k, .int .i64 i, .float .f64 f, .string s, .slice Av nv cv]] w (fun e w' => e = .returned (.tuple #[]) ∧ Upd F w w' ∧ ∃ F', StubS w' F' g ⟨d.id, d.seq, d.op.eraseIdx j, d.rp ++ [⟨rc, rs, rn, er, cleanV v⟩]⟩ ∧ ∀ y, F' y → F y ∨ w.heap.size ≤ y) := by
  obtain ⟨i0, hi, hz0, hz1, hz2⟩ := info_parts info_reply
  obtain ⟨N, hN⟩ : ∃ q, d.op.length = q := ⟨_, rfl⟩
  obtain ⟨M, hM⟩ : ∃ q, d.rp.length = q := ⟨_, rfl⟩
  have hb1 := (Below.refl w.heap.size w).alloc (Nat.le_refl _) (.cells #[.int .u32 (rc : Int), .int .u32 (rs : Int), .int .u16 (rn : Int), .int .i64 er, .int .i64 k, .int .i64 i, .float .f64 f, .string s, .slice Av nv cv] 39)
  have hx1 := Blk.new w 39 #[.int .u32 (rc : Int), .int .u32 (rs : Int), .int .u16 (rn : Int), .int .i64 er, .int .i64 k, .int .i64 i, .float .f64 f, .string s, .slice Av nv cv]
  have hbg0 := h.blk
  rw [hN, hM] at hbg0
  have hrr := h.hr
  rw [hM] at hrr hr4
  have hgl := h.blk.lt
  have hA2l : ∀ y, bOf A2 = some y → y < w.heap.size := fun y hy => h.hr.lt hy
  have hg2 : ¬ some g = bOf A2 := fun e => h.neA2 g e.symm rfl
  obtain ⟨p, hp⟩ : ∃ y, w.heap.size = y := ⟨_, rfl⟩
  rw [hp] at hx1
  replace h := Lib.hid h
  go_enter Try.func29, Try.ntmps29
  go_upto_region 1 with (fail)
  have hbg := hbg0.below hb1 hgl
  have hrr1 := hrr.below hb1 (Nat.le_refl _)
  have hv1 := hv.under (hb1.mono hB)
  have hw1 := hb1.size
  generalize w.alloc (.cells #[.int .u32 (rc : Int), .int .u32 (rs : Int), .int .u16 (rn : Int), .int .i64 er, .int .i64 k, .int .i64 i, .float .f64 f, .string s, .slice Av nv cv] 39) = w1 at *
  try rw [hp]
  have hbx := hx1
  have hpA2 : ¬ some p = bOf A2 := fun e => by have := hA2l p e.symm; omega
  have hgA2 := hg2
  have hS0 : Upd (fun x => some x = bOf A2) w1 w1.drew := Upd.of_below_size (Below.refl _ _).drew
  refine wp_region_lex (fun W => Upd (fun x => some x = bOf A2) w1 W) [4, 6, 8, 10] [11, 13, 14, 17] [0, 1, 2, 3, 4, 5, 6, 7, 8, 9, 10, 11, 12, 13, 14, 15, 16, 17] (by kernel_rfl) rfl (by kernel_rfl) (by kernel_rfl) (fun _ _ d _ _ h => by cases d <;> exact h) ?_
  repeat (first | (refine lexG_take _ ?_ rfl rfl rfl rfl (fun _ => ?_) ?_; rotate_left; (focus (go_simp; with_reducible rfl)); try simp only [Act.put, List.setIfInBounds_toArray, List.set_cons_zero, List.set_cons_succ]) | (refine lexG_held _ ?_ rfl rfl rfl rfl (by assumption) (fun _ hSw => ?_) ?_; rotate_left; (focus (have h1 := (hbg.upd hSw hgA2).st4; have h2 := (hbx.upd hSw hpA2).cells9; clear hSw; go_simp; with_reducible rfl)); try simp only [Act.put, List.setIfInBounds_toArray, List.set_cons_zero, List.set_cons_succ]) | (refine lexG_skip _ rfl rfl (by assumption) ?_; try simp only [Act.put, List.setIfInBounds_toArray, List.set_cons_zero, List.set_cons_succ]))
  refine lexG_now _ rfl rfl rfl (fun K0 hK => ?_)
  go_wp2_with fail
  refine (val_clone_s hv1 w1.drew (short_of_ok hok) (Below.refl _ _).drew (Nat.le_trans hB hw1)).mono ?_
  rintro e w5 ⟨cs5, rfl, hv5, hb5⟩
  obtain ⟨k', i', f', s', Av', nv', cv', rfl⟩ := hv5.reads.form
  try dsimp only
  have hb15 := below_then hb5 (Below.refl w1.heap.size w1).drew
  refine hK _ _ _ (fun _ h => h) (Upd.of_below_size hb15) ?_
  clear hK K0
  try simp only [Act.put, List.setIfInBounds_toArray, List.set_cons_zero, List.set_cons_succ]
  repeat (first | (refine lexG_take _ ?_ rfl rfl rfl rfl (fun _ => ?_) ?_; rotate_left; (focus (go_simp; with_reducible rfl)); try simp only [Act.put, List.setIfInBounds_toArray, List.set_cons_zero, List.set_cons_succ]) | (refine lexG_held _ ?_ rfl rfl rfl rfl (by assumption) (fun _ hSw => ?_) ?_; rotate_left; (focus (have h1 := (hbg.upd hSw hgA2).st4; have h2 := (hbx.upd hSw hpA2).cells9; clear hSw; go_simp; with_reducible rfl)); try simp only [Act.put, List.setIfInBounds_toArray, List.set_cons_zero, List.set_cons_succ]) | (refine lexG_skip _ rfl rfl (by assumption) ?_; try simp only [Act.put, List.setIfInBounds_toArray, List.set_cons_zero, List.set_cons_succ]))
  have hsrc := Reads.lit (size := 9) w5 #[.int .u32 (rc : Int), .int .u32 (rs : Int), .int .u16 (rn : Int), .int .i64 er, .int .i64 k', .int .i64 i', .float .f64 f', .string s', .slice Av' nv' cv'] 39 (0, 0) 1 [.int .u32 (rc : Int), .int .u32 (rs : Int), .int .u16 (rn : Int), .int .i64 er, .int .i64 k', .int .i64 i', .float .f64 f', .string s', .slice Av' nv' cv'] rfl rfl
  have hS7 := hb15.alloc hb15.size (.cells #[.int .u32 (rc : Int), .int .u32 (rs : Int), .int .u16 (rn : Int), .int .i64 er, .int .i64 k', .int .i64 i', .float .f64 f', .string s', .slice Av' nv' cv'] 39)
  have hS57 := (Below.refl w5.heap.size w5).alloc (Nat.le_refl _) (.cells #[.int .u32 (rc : Int), .int .u32 (rs : Int), .int .u16 (rn : Int), .int .i64 er, .int .i64 k', .int .i64 i', .float .f64 f', .string s', .slice Av' nv' cv'] 39)
  refine lexG_now _ rfl rfl rfl (fun K0 hK => ?_)
  go_wp2_with fail
  generalize w5.alloc (.cells #[.int .u32 (rc : Int), .int .u32 (rs : Int), .int .u16 (rn : Int), .int .i64 er, .int .i64 k', .int .i64 i', .float .f64 f', .string s', .slice Av' nv' cv'] 39) = w7 at *
  refine hK _ _ _ (fun _ h => h) (Upd.of_below_size hS7) ?_
  clear hK K0
  try simp only [Act.put, List.setIfInBounds_toArray, List.set_cons_zero, List.set_cons_succ]
  repeat (first | (refine lexG_take _ ?_ rfl rfl rfl rfl (fun _ => ?_) ?_; rotate_left; (focus (go_simp; with_reducible rfl)); try simp only [Act.put, List.setIfInBounds_toArray, List.set_cons_zero, List.set_cons_succ]) | (refine lexG_held _ ?_ rfl rfl rfl rfl (by assumption) (fun _ hSw => ?_) ?_; rotate_left; (focus (have h1 := (hbg.upd hSw hgA2).st4; have h2 := (hbx.upd hSw hpA2).cells9; clear hSw; go_simp; with_reducible rfl)); try simp only [Act.put, List.setIfInBounds_toArray, List.set_cons_zero, List.set_cons_succ]) | (refine lexG_skip _ rfl rfl (by assumption) ?_; try simp only [Act.put, List.setIfInBounds_toArray, List.set_cons_zero, List.set_cons_succ]))
  have ho7 := hrr1.below hS7 (Nat.le_refl _)
  refine lexG_now _ rfl rfl rfl (fun K0 hK => ?_)
  refine wp_append_mine _ _ 44 44 rfl 39 i0 _ 9 88 Try.underlying44 hi hz0 hz1 hz2 rfl rfl ho7 rfl (Src.ofReads Try.underlying44 _ hsrc (by intro u hu; simp only [List.mem_cons, List.not_mem_nil, or_false] at hu; rcases hu with rfl | rfl | rfl | rfl | rfl | rfl | rfl | rfl | rfl <;> rfl)) (by unfold maxLen; omega) (by omega) (fun A8 c8 w8 ho8 hg8 hat8 => ?_)
  have hU8 := (Upd.of_below_size (S := fun x => some x = bOf A2) hS7).grown hg8 (fun k e _ => e.symm)
  have hu58 : Upd (fun z => bOf A2 = some z) w5 w8 := (Upd.of_below_size hS57).grown hg8 (fun k e _ => e)
  have hA8 : ∀ y, bOf A8 = some y → bOf A2 = some y ∨ w5.heap.size ≤ y := fun y hy => by
    rcases hat8 with e | e
    · exact .inl (e ▸ hy)
    · have h1 : w7.heap.size = y := by rw [e] at hy; injection hy
      have h2 := hS57.size
      exact .inr (by omega)
  refine hK _ _ _ (fun _ h => h) hU8 ?_
  clear hK K0
  try simp only [Act.put, List.setIfInBounds_toArray, List.set_cons_zero, List.set_cons_succ]
  repeat (first | (refine lexG_take _ ?_ rfl rfl rfl rfl (fun _ => ?_) ?_; rotate_left; (focus (go_simp; with_reducible rfl)); try simp only [Act.put, List.setIfInBounds_toArray, List.set_cons_zero, List.set_cons_succ]) | (refine lexG_held _ ?_ rfl rfl rfl rfl (by assumption) (fun _ hSw => ?_) ?_; rotate_left; (focus (have h1 := (hbg.upd hSw hgA2).st4; have h2 := (hbx.upd hSw hpA2).cells9; clear hSw; go_simp; with_reducible rfl)); try simp only [Act.put, List.setIfInBounds_toArray, List.set_cons_zero, List.set_cons_succ]) | (refine lexG_skip _ rfl rfl (by assumption) ?_; try simp only [Act.put, List.setIfInBounds_toArray, List.set_cons_zero, List.set_cons_succ]))
  have hbg8 := hbg.upd hU8 hgA2
  have k3 := hbg8.cell 3
  have f3 := hbg8.frozen 3
  refine lexG_nowF _ rfl rfl rfl (by kernel_rfl) (fun K0 hK => ?_)
  go_wp2_with fail
  try simp only [Act.put, List.setIfInBounds_toArray, List.set_cons_zero, List.set_cons_succ]
  refine lexG_nil ?_
  go_upto_region 2 with (fail)
  have hbg9 := hbg8.set_ 3 (.slice A8 (M + 1) c8)
  have u9 : Upd (fun z => z = g) w8 (w8.setCell ⟨g, 3, none⟩ (.slice A8 (M + 1) c8)) := (Upd.refl (fun z => z = g) w8).setCell (p := ⟨g, 3, none⟩) (fun _ => rfl) _
  generalize w8.setCell ⟨g, 3, none⟩ (.slice A8 (M + 1) c8) = w9 at *
  have hX := h.out
  have hone := hX.one
  have hn4 := hX.hn
  rw [hN] at hj hn4
  obtain ⟨gA, cur, rfl, -⟩ := hX.ho.open_s (by rw [hN]; omega)
  have hgA := hX.neA gA rfl
  have hAA : bOf A2 ≠ some gA := hX.ho.ne_own hX.hr (by decide) gA rfl
  have hoA := hX.ho
  rw [hN] at hoA
  have u09 : Upd (fun z => z = g ∨ some z = bOf A2) w w9 := ((Upd.of_below_size hb1).trans (hU8.mono (fun _ _ e => .inr e)) (fun _ _ e => e)).trans (u9.mono (fun _ _ e => .inl e)) (fun _ _ e => e)
  have ho9 := hoA.upd u09 (fun z hz e => by cases hz; rcases e with e | e; exact hgA e; exact hAA e.symm)
  have hdel := delete_open ho9 hj hn4 hone
  have wj : IntKind.i64.wrap ((j : Int) + 1) = (j : Int) + 1 := by rw [IntKind.wrap_i64]; omega
  have q2 := hbg9.cell 2
  replace hdel := Lib.hid hdel
  replace u09 := Lib.hid u09
  have hb05 : Below w.heap.size w w5 := below_then hb15 hb1
  replace hb05 := Lib.hid hb05
  replace hv5 := Lib.hid hv5
  replace hu58 := Lib.hid hu58
  replace hA8 := Lib.hid hA8
  replace ho8 := Lib.hid ho8
  replace hg8 := Lib.hid hg8
  replace u9 := Lib.hid u9
  clear hX hsrc hrr1 ho7 hU8 hbg8 k3 f3 hat8 hS57
  have k2 : w9.cell? ⟨g, 2, none⟩ = some (.slice (some ⟨gA, 0, none⟩) N c) := q2
  clear q2
  go_wp2_with fail
  refine hdel.out.mono ?_
  rintro e w10 ⟨rfl, ho10, hu10⟩
  try dsimp only
  have hbg10 := hbg9.upd hu10 (fun e => hgA e.symm)
  have k2' := hbg10.cell 2
  have f2' := hbg10.frozen 2
  have hF := h.out.fg
  have hFA := h.out.fA gA rfl
  have hFA2 := h.out.fA2
  have uE : Upd F w (w10.setCell ⟨g, 2, none⟩ (.slice (some ⟨gA, 0, none⟩) (N - 1) c)) := ((u09.out.mono (T := F) (fun y _ e => by rcases e with e | e; (subst e; exact hF); exact hFA2 y e.symm)).trans (hu10.mono (T := F) (fun y _ e => by subst e; exact hFA)) (fun _ _ e => e)).setCell (p := ⟨g, 2, none⟩) (fun _ => hF) _
  replace uE := Lib.hid uE
  have hbE := hbg10.set_ 2 (.slice (some ⟨gA, 0, none⟩) (N - 1) c)
  have hoE := ho10.upd ((Upd.refl (fun z => z = g) w10).setCell (p := ⟨g, 2, none⟩) (fun _ => rfl) (.slice (some ⟨gA, 0, none⟩) (N - 1) c)) (fun y hy e => hgA (by rw [← e]; exact Option.some.inj hy))
  have uE8 : Upd (fun z => z = g ∨ z = gA) w8 (w10.setCell ⟨g, 2, none⟩ (.slice (some ⟨gA, 0, none⟩) (N - 1) c)) := ((u9.out.mono (fun _ _ e => .inl e)).trans (hu10.mono (fun y _ e => .inr e)) (fun _ _ e => e)).setCell (p := ⟨g, 2, none⟩) (fun _ => .inl rfl) _
  replace hbE := Lib.hid hbE
  replace hoE := Lib.hid hoE
  replace uE8 := Lib.hid uE8
  clear k2
  go_wp2_with fail
  (try simp only [Exit.inBlock, Exit.then])
  refine bodyPost_end (results_none rfl _ _ _) rfl ?_
  refine ⟨rfl, uE.out, ?_⟩
  subst hN hM
  exact h.out.answered hj hv5.out hw1 hb05.out hu58.out hA8.out ho8.out uE8.out hoE.out hbE.out hr4
end Go.Proofs.Ytgdhiihfcngjbaa
