/- (*client.Stub).Replies. -/
import Derived.Test.YtgdhiihfcngjbaaCl10
set_option linter.unusedSimpArgs false
set_option linter.unusedVariables false
namespace Go.Proofs.Ytgdhiihfcngjbaa
open Go.RowKit
set_option maxRecDepth 100000

def repL (r : RplD) (cs : Array Value) : List Value := [.int .u32 (r.c : Int), .int .u32 (r.s : Int), .int .u16 (r.n : Int), .int .i64 r.e] ++ cs.toList
/-- A row of answers: its values in rows of their own, all from block b on. -/
structure RepsP (w : World) (b : Nat) (A : Option Addr) (c : Nat) (rs : List RplD) (xs : List Value) (css : Nat → Array Value) : Prop where
  ho : Own w 39 9 A rs.length c xs
  hA : ∀ y, bOf A = some y → b ≤ y
  hx : ∀ j x, rs[j]? = some x → VOwn w (fun y => b ≤ y ∧ ¬ bOf A = some y) x.v (css j)
  hxs : ∀ j x, rs[j]? = some x → (xs.drop (j * 9)).take 9 = repL x (css j)
theorem RepsP.nil (w : World) (b : Nat) : RepsP w b none 0 [] [] (fun _ => #[]) := ⟨Own.none_, by simp [bOf], by simp, by simp⟩
theorem RepsP.upd {w w' : World} {b : Nat} {S : Nat → Prop} {A : Option Addr} {c : Nat} {rs : List RplD} {xs : List Value} {css : Nat → Array Value} (h : RepsP w b A c rs xs css) (hu : Upd S w w') (hs : ∀ y, S y → y < b) : RepsP w' b A c rs xs css :=
  ⟨h.ho.upd hu (fun y hy e => by have := h.hA y hy; have := hs y e; omega), h.hA, fun j x hj => (h.hx j x hj).upd hu (fun y hy e => by have := hs y e; omega), h.hxs⟩
theorem RepsP.below {w w' : World} {b : Nat} {A : Option Addr} {c : Nat} {rs : List RplD} {xs : List Value} {css : Nat → Array Value} (h : RepsP w b A c rs xs css) (hb : Below w.heap.size w w') : RepsP w' b A c rs xs css :=
  h.upd (S := fun _ => False) (Upd.of_below_size hb) (fun _ hf => hf.elim)
theorem RepsP.push {w w7 w8 : World} {b B c8 : Nat} {A8 : Option Addr} {r : RplD} {cs : Array Value} {A : Option Addr} {c : Nat} {rs : List RplD} {xs : List Value} {css : Nat → Array Value} (h : RepsP w b A c rs xs css) (hbw : b ≤ w.heap.size) (hB : w.heap.size ≤ B) (hb7 : Below w.heap.size w w7)
    (ho8 : Own w8 39 9 A8 (rs.length + 1) c8 (xs ++ repL r cs)) (hg8 : w7.grownBy w8 (bOf A)) (hat : bOf A8 = bOf A ∨ bOf A8 = some w7.heap.size) (hv : VOwn w7 (fun y => B ≤ y) r.v cs) :
    RepsP w8 b A8 c8 (rs ++ [r]) (xs ++ repL r cs) (fun k => if k = rs.length then cs else css k) := by
  have hlx := h.ho.len
  have h7 := hb7.size
  have hAl : ∀ y, bOf A = some y → y < w.heap.size := fun y hy => h.ho.lt hy
  have hu8 : Upd (fun z => bOf A = some z) w7 w8 := (Upd.refl (fun z => bOf A = some z) _).grown hg8 (fun k e _ => e)
  have hu : Upd (fun z => bOf A = some z) w w8 := (Upd.of_below_size hb7).trans hu8 (fun _ _ e => e)
  have hcs : cs.toList.length = 5 := by rw [Array.length_toList]; exact hv.size
  refine ⟨by rw [List.length_append]; exact ho8, fun y hy => ?_, fun j x hj => ?_, fun j x hj => ?_⟩
  · rcases hat with e | e
    · exact h.hA y (e ▸ hy)
    · have h1 : w7.heap.size = y := by rw [e] at hy; injection hy
      omega
  · rcases Nat.lt_trichotomy j rs.length with hl | hl | hl
    · rw [if_neg (by omega)]
      rw [List.getElem?_append_left hl] at hj
      refine ((h.hx j x hj).mono (Q := fun y => b ≤ y ∧ ¬ bOf A = some y ∧ y < w.heap.size) (fun y h1 hy => ⟨hy.1, hy.2, h1⟩)).upd hu (fun y hy e => hy.2.1 e) |>.mono (fun y _ hy => ⟨hy.1, fun e => ?_⟩)
      rcases hat with e2 | e2
      · exact hy.2.1 (e2 ▸ e)
      · have h1 : w7.heap.size = y := by rw [e2] at e; injection e
        have := hy.2.2
        omega
    · subst hl
      rw [if_pos rfl]
      simp at hj
      subst hj
      refine (((hv.mono (Q := fun y => B ≤ y ∧ y < w7.heap.size) (fun y h1 hy => ⟨hy, h1⟩)).upd hu8 (fun y hy e => by have := hAl y e; omega)).mono (fun y _ hy => ⟨by have := hy.1; omega, fun e => ?_⟩))
      rcases hat with e2 | e2
      · have := hAl y (e2 ▸ e)
        have := hy.1
        omega
      · have h1 : w7.heap.size = y := by rw [e2] at e; injection e
        have := hy.2
        omega
    · rw [List.getElem?_eq_none (by simp; omega)] at hj; cases hj
  · rcases Nat.lt_trichotomy j rs.length with hl | hl | hl
    · rw [if_neg (by omega)]
      rw [List.getElem?_append_left hl] at hj
      rw [← h.hxs j x hj, List.drop_append_of_le_length (by omega), List.take_append_of_le_length (by rw [List.length_drop]; omega)]
    · subst hl
      rw [if_pos rfl]
      simp at hj
      subst hj
      rw [List.drop_left' hlx]
      exact List.take_of_length_le (by simp [repL, hcs])
    · rw [List.getElem?_eq_none (by simp; omega)] at hj; cases hj
/-- An answer of the stub's row, cell by cell. -/
theorem StubX.rcells {w : World} {F : Nat → Prop} {g : Nat} {d : CliD} {A : Option Addr} {c : Nat} {A2 : Option Addr} {c2 : Nat} {xs xs2 : List Value} {css css2 : Nat → Array Value} (h : StubX w F g d A c A2 c2 xs xs2 css css2) {j : Nat} {x : RplD} (hj : d.rp[j]? = some x) :
    ∃ gB k i f s Av nv cv, A2 = some ⟨gB, 0, none⟩ ∧ css2 j = #[.int .i64 k, .int .i64 i, .float .f64 f, .string s, .slice Av nv cv] ∧
      w.cell? ⟨gB, j * 9, none⟩ = some (.int .u32 (x.c : Int)) ∧ w.cell? ⟨gB, j * 9 + 1, none⟩ = some (.int .u32 (x.s : Int)) ∧ w.cell? ⟨gB, j * 9 + 2, none⟩ = some (.int .u16 (x.n : Int)) ∧ w.cell? ⟨gB, j * 9 + 3, none⟩ = some (.int .i64 x.e) ∧ w.cell? ⟨gB, j * 9 + 4, none⟩ = some (.int .i64 k) ∧ w.cell? ⟨gB, j * 9 + 5, none⟩ = some (.int .i64 i) ∧ w.cell? ⟨gB, j * 9 + 6, none⟩ = some (.float .f64 f) ∧ w.cell? ⟨gB, j * 9 + 7, none⟩ = some (.string s) ∧ w.cell? ⟨gB, j * 9 + 8, none⟩ = some (.slice Av nv cv) := by
  have hjl : j < d.rp.length := by
    rcases Nat.lt_or_ge j d.rp.length with h' | h'
    · exact h'
    · rw [List.getElem?_eq_none h'] at hj; cases hj
  obtain ⟨gB, cur, rfl, hcur, hle, htk, -⟩ := h.hr.open_s (by omega)
  obtain ⟨k, i, f, s, Av, nv, cv, hcs⟩ := (h.rx j x hj).reads.form
  have hx := h.rxs j x hj
  rw [hcs] at hx
  have hc : ∀ t v, t < 9 → ([Value.int .u32 (x.c : Int), .int .u32 (x.s : Int), .int .u16 (x.n : Int), .int .i64 x.e, .int .i64 k, .int .i64 i, .float .f64 f, .string s, .slice Av nv cv] : List Value)[t]? = some v → w.cell? ⟨gB, j * 9 + t, none⟩ = some v := fun t v ht hv => by
    rw [hcur.cell]
    have h1 := window hx t ht
    rw [← htk, List.getElem?_take, if_pos (by omega)] at h1
    rw [show cur[j * 9 + t]? = cur.toList[j * 9 + t]? by simp, h1]
    exact hv
  exact ⟨gB, k, i, f, s, Av, nv, cv, rfl, hcs, hc 0 _ (by decide) rfl, hc 1 _ (by decide) rfl, hc 2 _ (by decide) rfl, hc 3 _ (by decide) rfl, hc 4 _ (by decide) rfl, hc 5 _ (by decide) rfl, hc 6 _ (by decide) rfl, hc 7 _ (by decide) rfl, hc 8 _ (by decide) rfl⟩

def clR (r : RplD) : RplD := ⟨r.c, r.s, r.n, r.e, cleanV r.v⟩
set_option maxHeartbeats 6400000 in
theorem cl_replies {w : World} {F : Nat → Prop} {g : Nat} {d : CliD} {A : Option Addr} {c : Nat} {A2 : Option Addr} {c2 : Nat} {xs xs2 : List Value} {css css2 : Nat → Array Value} (h : StubX w F g d A c A2 c2 xs xs2 css css2) (hok : ∀ x ∈ d.rp, OkV x.v) :
    Calls Try.prog 13 #[.pointer (some ⟨g, 0, none⟩)] w (fun e w' => ∃ (A' : Option Addr) (c' : Nat) (xs' : List Value) (css' : Nat → Array Value), e = .returned (.slice A' d.rp.length c') ∧ RepsP w' w.heap.size A' c' (d.rp.map clR) xs' css' ∧ Below w.heap.size w w') := by
  obtain ⟨i0, hi, hz0, hz1, hz2⟩ := info_parts info_reply
  have hn := h.hr4
  obtain ⟨N, hN⟩ : ∃ N, d.rp.length = N := ⟨_, rfl⟩
  rw [hN] at hn ⊢
  have hg2 : w.cell? ⟨g, 3, none⟩ = some (.slice A2 N c2) := by rw [← hN]; exact h.blk.cell 3
  replace hN := Lib.hid hN
  replace h := Lib.hid h
  have hsf := fun a k x m w => run_store_float (P := Try.prog) a k x m w
  go_enter Try.func13, Try.ntmps13
  go_wp2_with fail
  clear hg2
  go_loopw [3, 11] (fun o i wr => ∃ (k : Nat) (A' : Option Addr) (c' : Nat) (xs' : List Value) (css' : Nat → Array Value), k ≤ N ∧ o = .slice A' k c' ∧ i = .int .i64 (k : Int) ∧ RepsP wr w.heap.size A' c' ((d.rp.take k).map clR) xs' css' ∧ Below w.heap.size w wr) (fun _ i _ => N - (intOf i).toNat)
  case atStart => exact ⟨0, none, 0, [], fun _ => #[], Nat.zero_le _, rfl, rfl, RepsP.nil _ _, Below.refl _ _⟩
  case round =>
    rename_i hrel
    obtain ⟨K, A', c', xs', css', hk, rfl, rfl, P, hb⟩ := hrel
    by_cases hlt : K < N
    · have hgk : d.rp[K]? = some (d.rp[K]'(by rw [hN.out]; exact hlt)) := List.getElem?_eq_getElem _
      have hokx := hok _ (List.getElem_mem (by rw [hN.out]; exact hlt : K < d.rp.length))
      generalize d.rp[K]'(by rw [hN.out]; exact hlt) = x at hgk hokx
      have htk : (d.rp.take (K + 1)).map clR = (d.rp.take K).map clR ++ [clR x] := by rw [List.take_add_one, hgk]; simp
      have hlen : ((d.rp.take K).map clR).length = K := by rw [List.length_map, List.length_take, hN.out]; omega
      have hXr := h.out.below hb
      obtain ⟨gB, k', i', f', s', Av', nv', cv', rfl, hcs, g0, g1, g2, g3, g4, g5, g6, g7, g8⟩ := hXr.rcells hgk
      have hvr := (hXr.rx K x hgk).reads
      rw [hcs] at hvr
      have hd : decide ((K : Int) < (N : Int)) = true := decide_eq_true (by omega)
      have hkw : IntKind.i64.wrap ((K : Int) + 1) = (K : Int) + 1 := by rw [IntKind.wrap_i64]; omega
      have hcap : N ≤ c2 := by have := hXr.hr.le_cap; rw [← hN.out]; exact this
      obtain ⟨rc, rs, rn, er, v⟩ := x
      dsimp only at g0 g1 g2 g3 hvr hokx
      have hww := hb.size
      have hA'l : ∀ y, bOf A' = some y → y < wr.heap.size := fun y hy => P.ho.lt hy
      obtain ⟨w5, hw5⟩ : ∃ q, q = wr.alloc (.cells #[.int .u32 (rc : Int), .int .u32 (rs : Int), .int .u16 (rn : Int), .int .i64 er, .int .i64 k', .int .i64 i', .float .f64 f', .string s', .slice Av' nv' cv'] 39) := ⟨_, rfl⟩
      have hb5 : Below wr.heap.size wr w5 := by rw [hw5]; exact (Below.refl wr.heap.size wr).alloc (Nat.le_refl _) _
      have hx5 : Blk w5 wr.heap.size 39 #[.int .u32 (rc : Int), .int .u32 (rs : Int), .int .u16 (rn : Int), .int .i64 er, .int .i64 k', .int .i64 i', .float .f64 f', .string s', .slice Av' nv' cv'] := by rw [hw5]; exact Blk.new wr _ _
      have ho5 := P.ho
      rw [hlen] at ho5
      have ho5' : Own w5 39 9 A' K c' xs' := by rw [hw5]; exact ho5.alloc _
      obtain ⟨p, hp⟩ : ∃ y, wr.heap.size = y := ⟨_, rfl⟩
      rw [hp] at hx5
      replace P := Lib.hid P
      replace htk := Lib.hid htk
      replace hlen := Lib.hid hlen
      replace hXr := Lib.hid hXr
      clear hgk hcs ho5
      go_upto_region 5 with (fail)
      clear g0 g1 g2 g3 g4 g5 g6 g7 g8
      rw [← hw5]
      try rw [hp]
      clear hw5
      have hv5 := hvr.under hb5
      have hs5 := hb5.size
      have hpA : ¬ some p = bOf A' := fun e => by have := hA'l p e.symm; omega
      have hS0 : Upd (fun x => some x = bOf A') w5 w5.drew := Upd.of_below_size (Below.refl _ _).drew
      refine wp_region_lex (fun W => Upd (fun x => some x = bOf A') w5 W) [2, 4, 6] [7, 9, 10] [0, 1, 2, 3, 4, 5, 6, 7, 8, 9, 10, 11] (by kernel_rfl) rfl (by kernel_rfl) (by kernel_rfl) (fun _ _ d _ _ h => by cases d <;> exact h) ?_
      repeat (first | (refine lexG_take _ ?_ rfl rfl rfl rfl (fun _ => ?_) ?_; rotate_left; (focus (go_simp; with_reducible rfl)); try simp only [Act.put, List.setIfInBounds_toArray, List.set_cons_zero, List.set_cons_succ]) | (refine lexG_held _ ?_ rfl rfl rfl rfl (by assumption) (fun _ hSw => ?_) ?_; rotate_left; (focus (have h2 := (hx5.upd hSw hpA).cells9; clear hSw; go_simp; with_reducible rfl)); try simp only [Act.put, List.setIfInBounds_toArray, List.set_cons_zero, List.set_cons_succ]) | (refine lexG_skip _ rfl rfl (by assumption) ?_; try simp only [Act.put, List.setIfInBounds_toArray, List.set_cons_zero, List.set_cons_succ]))
      refine lexG_now _ rfl rfl rfl (fun K0 hK => ?_)
      go_wp2_with fail
      refine (val_clone_s hv5 w5.drew (short_of_ok hokx) (Below.refl _ _).drew hs5).mono ?_
      rintro e w6 ⟨cs6, rfl, hv6, hb6⟩
      obtain ⟨k2, i2, f2, s2, Av2, nv2, cv2, rfl⟩ := hv6.reads.form
      try dsimp only
      have hb56 := below_then hb6 (Below.refl w5.heap.size w5).drew
      refine hK _ _ _ (fun _ h => h) (Upd.of_below_size hb56) ?_
      clear hK K0
      try simp only [Act.put, List.setIfInBounds_toArray, List.set_cons_zero, List.set_cons_succ]
      repeat (first | (refine lexG_take _ ?_ rfl rfl rfl rfl (fun _ => ?_) ?_; rotate_left; (focus (go_simp; with_reducible rfl)); try simp only [Act.put, List.setIfInBounds_toArray, List.set_cons_zero, List.set_cons_succ]) | (refine lexG_held _ ?_ rfl rfl rfl rfl (by assumption) (fun _ hSw => ?_) ?_; rotate_left; (focus (have h2 := (hx5.upd hSw hpA).cells9; clear hSw; go_simp; with_reducible rfl)); try simp only [Act.put, List.setIfInBounds_toArray, List.set_cons_zero, List.set_cons_succ]) | (refine lexG_skip _ rfl rfl (by assumption) ?_; try simp only [Act.put, List.setIfInBounds_toArray, List.set_cons_zero, List.set_cons_succ]))
      have hsrc := Reads.lit (size := 9) w6 #[.int .u32 (rc : Int), .int .u32 (rs : Int), .int .u16 (rn : Int), .int .i64 er, .int .i64 k2, .int .i64 i2, .float .f64 f2, .string s2, .slice Av2 nv2 cv2] 39 (0, 0) 1 [.int .u32 (rc : Int), .int .u32 (rs : Int), .int .u16 (rn : Int), .int .i64 er, .int .i64 k2, .int .i64 i2, .float .f64 f2, .string s2, .slice Av2 nv2 cv2] rfl rfl
      have hb67 := (Below.refl w6.heap.size w6).alloc (Nat.le_refl _) (.cells #[.int .u32 (rc : Int), .int .u32 (rs : Int), .int .u16 (rn : Int), .int .i64 er, .int .i64 k2, .int .i64 i2, .float .f64 f2, .string s2, .slice Av2 nv2 cv2] 39)
      have hS7 := hb56.alloc hb56.size (.cells #[.int .u32 (rc : Int), .int .u32 (rs : Int), .int .u16 (rn : Int), .int .i64 er, .int .i64 k2, .int .i64 i2, .float .f64 f2, .string s2, .slice Av2 nv2 cv2] 39)
      refine lexG_now _ rfl rfl rfl (fun K0 hK => ?_)
      go_wp2_with fail
      generalize w6.alloc (.cells #[.int .u32 (rc : Int), .int .u32 (rs : Int), .int .u16 (rn : Int), .int .i64 er, .int .i64 k2, .int .i64 i2, .float .f64 f2, .string s2, .slice Av2 nv2 cv2] 39) = w7 at *
      refine hK _ _ _ (fun _ h => h) (Upd.of_below_size hS7) ?_
      clear hK K0
      try simp only [Act.put, List.setIfInBounds_toArray, List.set_cons_zero, List.set_cons_succ]
      repeat (first | (refine lexG_take _ ?_ rfl rfl rfl rfl (fun _ => ?_) ?_; rotate_left; (focus (go_simp; with_reducible rfl)); try simp only [Act.put, List.setIfInBounds_toArray, List.set_cons_zero, List.set_cons_succ]) | (refine lexG_held _ ?_ rfl rfl rfl rfl (by assumption) (fun _ hSw => ?_) ?_; rotate_left; (focus (have h2 := (hx5.upd hSw hpA).cells9; clear hSw; go_simp; with_reducible rfl)); try simp only [Act.put, List.setIfInBounds_toArray, List.set_cons_zero, List.set_cons_succ]) | (refine lexG_skip _ rfl rfl (by assumption) ?_; try simp only [Act.put, List.setIfInBounds_toArray, List.set_cons_zero, List.set_cons_succ]))
      have ho7 := ho5'.below hS7 (Nat.le_refl _)
      refine lexG_now _ rfl rfl rfl (fun K0 hK => ?_)
      refine wp_append_mine _ _ 44 44 rfl 39 i0 _ 9 88 Try.underlying44 hi hz0 hz1 hz2 rfl rfl ho7 rfl (Src.ofReads Try.underlying44 _ hsrc (by intro u hu; simp only [List.mem_cons, List.not_mem_nil, or_false] at hu; rcases hu with rfl | rfl | rfl | rfl | rfl | rfl | rfl | rfl | rfl <;> rfl)) (by unfold maxLen; omega) (by omega) (fun A8 c8 w8 ho8 hg8 hat8 => ?_)
      have hU8 := (Upd.of_below_size (S := fun x => some x = bOf A') hS7).grown hg8 (fun k e _ => e.symm)
      have hb58 : Below wr.heap.size wr w7 := below_then hS7 hb5
      have P8 := P.out.push (B := w5.heap.size) (r := ⟨rc, rs, rn, er, cleanV v⟩) hww hs5 hb58 (by rw [hlen.out]; exact ho8) hg8 hat8 ((hv6.mono (Q := fun y => w5.heap.size ≤ y ∧ y < w6.heap.size) (fun y h1 h2 => ⟨h2, h1⟩)).upd (S := fun _ => False) (Upd.of_below_size hb67) (fun _ _ hf => hf) |>.mono (fun y _ hy => hy.1))
      have hbw8 : Below w.heap.size w w8 := (below_then hb58 hb).grown hg8 (below_then hb58 hb).size (fun y hy => P.out.hA y hy)
      replace P8 := Lib.hid P8
      replace hbw8 := Lib.hid hbw8
      refine hK _ _ _ (fun _ h => h) hU8 ?_
      clear hK K0
      try simp only [Act.put, List.setIfInBounds_toArray, List.set_cons_zero, List.set_cons_succ]
      repeat (first | (refine lexG_take _ ?_ rfl rfl rfl rfl (fun _ => ?_) ?_; rotate_left; (focus (go_simp; with_reducible rfl)); try simp only [Act.put, List.setIfInBounds_toArray, List.set_cons_zero, List.set_cons_succ]) | (refine lexG_held _ ?_ rfl rfl rfl rfl (by assumption) (fun _ hSw => ?_) ?_; rotate_left; (focus (have h2 := (hx5.upd hSw hpA).cells9; clear hSw; go_simp; with_reducible rfl)); try simp only [Act.put, List.setIfInBounds_toArray, List.set_cons_zero, List.set_cons_succ]) | (refine lexG_skip _ rfl rfl (by assumption) ?_; try simp only [Act.put, List.setIfInBounds_toArray, List.set_cons_zero, List.set_cons_succ]))
      refine lexG_nil ?_
      clear hsrc hv6 ho7 ho8 hg8 hat8 hU8 hS7
      go_upto_region 6 with (fail)
      go_wp2_with fail
      go_roundw
      case rel => exact ⟨K + 1, A8, c8, _, _, by omega, by rfl, by simp, by rw [htk.out]; exact P8.out, hbw8.out⟩
      case measure => simp [intOf]; omega
    · have hk' : K = N := by omega
      subst K
      have hd : decide ((N : Int) < (N : Int)) = false := decide_eq_false (by omega)
      have ho' : RepsP wr w.heap.size A' c' (d.rp.map clR) xs' css' := by rw [List.take_of_length_le (by rw [hN.out]; omega)] at P; exact P
      replace ho' := Lib.hid ho'
      clear P
      go_wp2_with fail
      go_ret
      exact ⟨A', c', xs', css', rfl, ho'.out, hb⟩
end Go.Proofs.Ytgdhiihfcngjbaa
