/- ValueClones: the walk. (Printed by gen_vcl.py.) -/
import Derived.Test.YtdbmffagibnibaaGreatDoorVLs
import Derived.Test.YtdbmffagibnibaaGreatDoorProgClean
set_option linter.unusedSimpArgs false
set_option linter.unusedVariables false
namespace Go.Proofs.YtdbmffagibnibaaGreatDoor
open Go.RowKit Go.Lib
set_option maxRecDepth 100000

theorem add_row0 (L j : Nat) : (⟨L, 0, none⟩ : Addr).add j = ⟨L, j, none⟩ := by unfold Addr.add; split <;> simp_all
/-- A block of values, of room for so many. -/
def Room (w : World) (g m : Nat) : Prop := ∃ cur, Blk w g 25 cur ∧ m * 5 ≤ cur.size
theorem Room.below {w w' : World} {g m B : Nat} (h : Room w g m) (hb : Below B w w') (hg : g < B) : Room w' g m := by
  obtain ⟨cur, h1, h2⟩ := h
  exact ⟨cur, h1.below hb hg, h2⟩
theorem Room.lt {w : World} {g m : Nat} (h : Room w g m) : g < w.heap.size := by
  obtain ⟨cur, h1, h2⟩ := h
  exact h1.lt
theorem Room.there {w : World} {g m k : Nat} (h : Room w g m) (hk : k < m) : w.there g (k * 5) 5 := by
  obtain ⟨cur, h1, h2⟩ := h
  exact fun i hi => ⟨by rw [h1.cell, Array.getElem?_eq_getElem (by omega)]; rfl, h1.frozen _⟩
theorem Room.own {w : World} {g n c : Nat} {xs : List Value} (h : Own w 25 5 (some ⟨g, 0, none⟩) n c xs) : Room w g n := by
  rcases h.2 with ⟨h0, -⟩ | ⟨g', cur, hg, hb, h1, h2, h3, h4⟩
  · cases h0
  obtain rfl : g = g' := by simpa using hg
  exact ⟨cur, hb, by omega⟩
theorem upd_cells (w : World) (g o : Nat) (news : List Value) : Upd (fun x => x = g) w (w.setCells g o news) := by
  obtain ⟨s1, s2, s3, s4⟩ := setCells_same g o news w
  exact ⟨s1, s2, s3, by omega, fun x hx hne => setCells_other g _ x hne _ w⟩
/-- An element of a block is set: the rooms stay, and a first element's list is what it was, or the new one. -/
theorem Room.set {w : World} {g m g2 n k : Nat} {a0 a1 a2 a3 a4 : Value} (h : Room w g m) (h2 : Room w g2 n) (hk : k < n) :
    Room (w.setCells g2 (k * 5) [a0, a1, a2, a3, a4]) g m ∧ ((w.setCells g2 (k * 5) [a0, a1, a2, a3, a4]).cell? ⟨g, 4, none⟩ = w.cell? ⟨g, 4, none⟩ ∨ (w.setCells g2 (k * 5) [a0, a1, a2, a3, a4]).cell? ⟨g, 4, none⟩ = some a4) := by
  obtain ⟨cur, q1, q2⟩ := h
  obtain ⟨cur2, r1, r2⟩ := h2
  by_cases e : g = g2
  · subst e
    obtain rfl : cur = cur2 := by
      have := q1.symm.trans r1
      simpa using this
    obtain ⟨cur', s1, s2, s3⟩ := setCells_eq_setRow g (k * 5) 25 [a0, a1, a2, a3, a4] cur w r1 (by simp; omega)
    refine ⟨⟨cur', s1, by omega⟩, ?_⟩
    rw [Blk.cell (show Blk _ g 25 cur' from s1), Blk.cell q1, ← Array.getElem?_toList, ← Array.getElem?_toList, s3, get3]
    rcases Nat.eq_zero_or_pos k with rfl | hk0
    · right; simp
    · left
      rw [if_pos (by simp; omega), List.getElem?_take, if_pos (by omega)]
  · have hu := upd_cells w g2 (k * 5) [a0, a1, a2, a3, a4]
    exact ⟨⟨cur, q1.upd hu e, q2⟩, .inl (World.cell?_of_block (hu.block g q1.lt e))⟩
theorem clean_two (l : List Val) : cleanV (.mk 4 0 0 [] [.mk 4 0 0 [] l, .mk 1 1 0 [] []]) = .mk 4 0 0 [] [.mk 4 0 0 [] (l.map cleanV), .mk 1 1 0 [] []] := by
  rw [← cleanL_map]
  simp [cleanV, cleanL]
theorem own_parts {w : World} {P : Nat → Prop} {l : List Val} {cs : Array Value} (h : VOwn w P (.mk 4 0 0 [] [.mk 4 0 0 [] l, .mk 1 1 0 [] []]) cs) :
    ∃ (g1 c1 : Nat) (A2 : Option Addr) (c2 : Nat) (xs1 xs2 : List Value), cs = #[.int .i64 4, .int .i64 0, .float .f64 0, .string ⟨#[]⟩, .slice (some ⟨g1, 0, none⟩) 2 c1] ∧ Own w 25 5 (some ⟨g1, 0, none⟩) 2 c1 xs1 ∧ Own w 25 5 A2 l.length c2 xs2 ∧ P g1 ∧ (∀ g, bOf A2 = some g → P g) ∧ w.cell? ⟨g1, 4, none⟩ = some (.slice A2 l.length c2) := by
  cases h with
  | @mk _ _ _ _ _ A c xs css hn ho hP hx hxs =>
    have ho : Own w 25 5 A 2 c xs := ho
    obtain ⟨g, rfl⟩ : ∃ g, A = some ⟨g, 0, none⟩ := by
      rcases ho.2 with ⟨-, h, -⟩ | ⟨g, cur, h, -⟩
      · omega
      · exact ⟨g, h⟩
    have h0 := hx 0 _ rfl
    have e0 := hxs 0 (by simp)
    generalize css 0 = c0 at h0 e0
    cases h0 with
    | @mk _ _ _ _ _ A' c' xs' css' hn' ho' hP' hx' hxs' =>
      obtain ⟨-, -, -, -, h4⟩ := elem_cells ho.reads_ (k := 0) (by omega) e0
      exact ⟨g, c, A', c', xs, xs', rfl, ho, ho', hP g rfl, hP', h4⟩

set_option maxHeartbeats 25600000 in
theorem valueClones_walk {A0 : Option Addr} {c0 : Nat} {l : List Val} {xs : List Value} {css : Nat → Array Value} (w : World) (hkn : Calls Tryz.prog 9 #[] w (Says w (.bool true)))
    (hr : Reads w w.heap.size 5 A0 l.length xs) (vr : ∀ (j : Nat) (v : Val), l[j]? = some v → VReads w w.heap.size v (css j)) (hx : ∀ j, j < l.length → (xs.drop (j * 5)).take 5 = (css j).toList) (ok : ∀ v, v ∈ l → OkV v) (hl : l.length ≤ 140737488351232) :
    Calls Tryz.prog 8 #[.slice A0 l.length c0] w (Says w (.bool true)) := by
  have hsf := fun a k x m w => run_store_float (P := Tryz.prog) a k x m w
  have hls := fun W (hW : Below w.heap.size w W) => lights_any (c := c0) hr hx vr hW hW.size hl
  replace hls := Lib.hid hls
  replace hkn := Lib.hid hkn
  go_enter Tryz.func8, Tryz.ntmps8
  go_wp2_with fail
  refine hkn.out.mono ?_
  clear hkn
  rintro e w1 ⟨rfl, l1⟩
  dsimp only
  go_wp2_with fail
  refine (hls.out _ l1).mono ?_
  clear hls
  rintro e w2 ⟨lq, rfl, hl40, hb2⟩
  dsimp only
  have l2 := below_then hb2 l1
  clear hb2 l1
  cases lq
  · go_wp2_with fail
    go_ret
    exact ⟨rfl, l2⟩
  have hl40 := hl40 rfl
  go_wp2_with fail
  refine (list_val A0 l.length c0 _).mono ?_
  rintro e w3 ⟨rfl, hb3⟩
  dsimp only
  go_wp2_with fail
  refine (int_ref 1 _).mono ?_
  rintro e w4 ⟨rfl, hb4⟩
  dsimp only
  have l4 := below_then hb4 (below_then hb3 l2)
  clear hb3 hb4 l2
  have hL := Blk.new w4 25 #[.int .i64 4, .int .i64 0, .float .f64 0, .string ⟨#[]⟩, .slice A0 l.length c0, .int .i64 1, .int .i64 1, .float .f64 0, .string ⟨#[]⟩, .slice none 0 0]
  have l5 := below_then ((Below.refl w4.heap.size w4).alloc (Nat.le_refl _) (.cells #[.int .i64 4, .int .i64 0, .float .f64 0, .string ⟨#[]⟩, .slice A0 l.length c0, .int .i64 1, .int .i64 1, .float .f64 0, .string ⟨#[]⟩, .slice none 0 0] 25)) l4
  obtain ⟨L, eL⟩ : ∃ x, w4.heap.size = x := ⟨_, rfl⟩
  rw [eL] at hL
  have hLw : w.heap.size ≤ L := by rw [← eL]; exact l4.size
  replace eL := Lib.hid eL
  clear l4
  go_wp2_with fail
  try rw [eL.out]
  generalize w4.alloc (.cells #[.int .i64 4, .int .i64 0, .float .f64 0, .string ⟨#[]⟩, .slice A0 l.length c0, .int .i64 1, .int .i64 1, .float .f64 0, .string ⟨#[]⟩, .slice none 0 0] 25) = w5 at *
  clear eL
  refine (list_val _ _ _ _).mono ?_
  rintro e w6 ⟨rfl, hb6⟩
  dsimp only
  have hL6 := hL.below hb6 hL.lt
  have l6 := below_then hb6 l5
  clear hb6 l5 hL
  have hx3 := Blk.new w6 25 #[.int .i64 4, .int .i64 0, .float .f64 0, .string ⟨#[]⟩, .slice (some ⟨L, 0, none⟩) 2 2]
  have hb7 := (Below.refl w6.heap.size w6).alloc (Nat.le_refl _) (.cells #[.int .i64 4, .int .i64 0, .float .f64 0, .string ⟨#[]⟩, .slice (some ⟨L, 0, none⟩) 2 2] 25)
  have hL7 := hL6.below hb7 hL6.lt
  have l7 := below_then hb7 l6
  obtain ⟨x3, e3⟩ : ∃ x, w6.heap.size = x := ⟨_, rfl⟩
  rw [e3] at hx3
  replace e3 := Lib.hid e3
  clear l6 hb7 hL6
  go_upto_region 6 with (fail)
  try rw [e3.out]
  generalize w6.alloc (.cells #[.int .i64 4, .int .i64 0, .float .f64 0, .string ⟨#[]⟩, .slice (some ⟨L, 0, none⟩) 2 2] 25) = w7 at *
  clear e3
  have hv7 : VReads w7 w7.heap.size (.mk 4 0 0 [] [.mk 4 0 0 [] l, .mk 1 1 0 [] []]) #[.int .i64 4, .int .i64 0, .float .f64 0, .string ⟨#[]⟩, .slice (some ⟨L, 0, none⟩) 2 2] := by
    refine .mk (s := []) (fun j => if j = 0 then #[.int .i64 4, .int .i64 0, .float .f64 0, .string ⟨#[]⟩, .slice A0 l.length c0] else #[.int .i64 1, .int .i64 1, .float .f64 0, .string ⟨#[]⟩, .slice none 0 0]) (by simp) (xs := (#[.int .i64 4, .int .i64 0, .float .f64 0, .string ⟨#[]⟩, .slice A0 l.length c0, .int .i64 1, .int .i64 1, .float .f64 0, .string ⟨#[]⟩, .slice none 0 0] : Array Value).toList) ⟨rfl, fun _ => ⟨_, rfl, hL7.lt, fun j u hu => ?_⟩⟩ (fun j v hv => ?_) (fun j hj => ?_)
    · rw [add_row0, hL7.cell j]
      simpa using hu
    · match j with
      | 0 =>
        cases hv
        exact .mk (s := []) css hl ((hr.below l7).more l7.size) (fun j v h => ((vr j v h).under l7).upB l7.size) hx
      | 1 => cases hv; exact .mk (s := []) (A := none) (c := 0) (xs := []) (fun _ => #[]) (by simp) Reads.none_ (fun j v h => by simp at h) (fun j h => by simp at h)
      | j + 2 => simp at hv
    · match j, hj with
      | 0, _ => rfl
      | 1, _ => rfl
      | j + 2, h => simp at h; omega
  have hsh : ShortV (.mk 4 0 0 [] [.mk 4 0 0 [] l, .mk 1 1 0 [] []]) := short_of_ok (.mk (by omega) (by simp) (fun v hv => by
    simp only [List.mem_cons, List.not_mem_nil, or_false] at hv
    rcases hv with rfl | rfl
    · exact .mk (by omega) (by simp) ok (by omega)
    · exact .mk (by omega) (by simp) (by simp) (by simp)) (by simp))
  have m0 := hx3.cell 0
  have m1 := hx3.cell 1
  have m2 := hx3.cell 2
  have m3 := hx3.cell 3
  have m4 := hx3.cell 4
  go_wp2_with fail
  refine (ref_clean_s hv7 w7 hsh (Below.refl _ _) (Nat.le_refl _)).mono ?_
  clear m0 m1 m2 m3 m4
  rintro e w8 ⟨cw, rfl, hO8, hb8⟩
  dsimp only
  obtain ⟨k5, i5, f5, s5, A5, n5, c5, hcw⟩ := hO8.reads.form
  subst hcw
  have hx3b := hx3.below hb8 hx3.lt
  have l8 := below_then hb8 l7
  have b78 := hb8
  clear hb8 hx3 l7
  have hx4 := Blk.new w8 25 #[.int .i64 k5, .int .i64 i5, .float .f64 f5, .string s5, .slice A5 n5 c5]
  have hb9 := (Below.refl w8.heap.size w8).alloc (Nat.le_refl _) (.cells #[.int .i64 k5, .int .i64 i5, .float .f64 f5, .string s5, .slice A5 n5 c5] 25)
  have hx3c := hx3b.below hb9 hx3b.lt
  have l9 := below_then hb9 l8
  have b79 := below_then hb9 b78
  have hR9 := hO8.reads.under hb9
  have hw8s : w8.heap.size < (w8.alloc (.cells #[.int .i64 k5, .int .i64 i5, .float .f64 f5, .string s5, .slice A5 n5 c5] 25)).heap.size := by simp
  obtain ⟨x4, e4⟩ : ∃ x, w8.heap.size = x := ⟨_, rfl⟩
  rw [e4] at hx4 hR9 hw8s
  replace e4 := Lib.hid e4
  have h79 := b79.size
  have hL9 : L < w7.heap.size := hL7.lt
  clear l8 hb9 hx3b b78
  go_upto_region 7 with (fail)
  try rw [e4.out]
  generalize w8.alloc (.cells #[.int .i64 k5, .int .i64 i5, .float .f64 f5, .string s5, .slice A5 n5 c5] 25) = w9 at *
  clear e4 hO8
  have x3l : x3 < w9.heap.size := hx3c.lt
  have h09 := l9.size
  have m0 := hx3c.cell 0
  have m1 := hx3c.cell 1
  have m2 := hx3c.cell 2
  have m3 := hx3c.cell 3
  have m4 := hx3c.cell 4
  go_wp2_with fail
  refine (val_clone_s hv7 w9 hsh b79 b79.size).mono ?_
  clear m0 m1 m2 m3 m4
  rintro e w10 ⟨cc, rfl, hO10, hb10⟩
  dsimp only
  rw [clean_two] at hO10
  obtain ⟨g1, c1, A2, c2, xs1, xs2, hcc, ho1, ho2, hP1, hP2, hc4⟩ := own_parts hO10
  rw [List.length_map] at ho2 hc4
  subst hcc
  clear hO10
  have hx3d := hx3c.below hb10 hx3c.lt
  have hx4d := hx4.below hb10 hx4.lt
  have l10 := below_then hb10 l9
  have b710 := below_then hb10 b79
  have hR10 := hR9.under (hb10.mono (Nat.le_of_lt hw8s))
  clear hx3c hx4 l9 b79 hR9
  have hx5 := Blk.new w10 25 #[.int .i64 4, .int .i64 0, .float .f64 0, .string ⟨#[]⟩, .slice (some ⟨g1, 0, none⟩) 2 c1]
  have hb11 := (Below.refl w10.heap.size w10).alloc (Nat.le_refl _) (.cells #[.int .i64 4, .int .i64 0, .float .f64 0, .string ⟨#[]⟩, .slice (some ⟨g1, 0, none⟩) 2 c1] 25)
  have hx3e := hx3d.below hb11 hx3d.lt
  have hx4e := hx4d.below hb11 hx4d.lt
  have l11 := below_then hb11 l10
  have b711 := below_then hb11 b710
  have hR11 := hR10.under (hb11.mono (Nat.le_trans (Nat.le_of_lt hw8s) hb10.size))
  have hm1 := (Room.own ho1).below hb11 (Room.own ho1).lt
  have hm1l := (Room.own ho1).lt
  have hc11 := (hb11.cell (p := ⟨g1, 4, none⟩) hm1l).trans hc4
  have ho2' := ho2.below hb11 (Nat.le_refl _)
  have h2l : ∀ g, bOf A2 = some g → g < w10.heap.size := fun g hg => ho2.lt hg
  have h910 := hb10.size
  obtain ⟨x5, e5⟩ : ∃ x, w10.heap.size = x := ⟨_, rfl⟩
  rw [e5] at hx5 hm1l h2l h910
  replace e5 := Lib.hid e5
  clear l10 hb10 hb11 hx3d hx4d b710 hR10 ho1 ho2 hc4
  go_upto_region 8 with (fail)
  try rw [e5.out]
  generalize w10.alloc (.cells #[.int .i64 4, .int .i64 0, .float .f64 0, .string ⟨#[]⟩, .slice (some ⟨g1, 0, none⟩) 2 c1] 25) = w11 at *
  clear e5
  have hx54 : w11.cell? ⟨x5, 4, none⟩ = some (.slice (some ⟨g1, 0, none⟩) 2 c1) := hx5.cell 4
  go_wp2_with fail
  clear hx54
  go_loopw [6] (fun i wr => ∃ j : Nat, i = .int .i64 (j : Int) ∧ j ≤ l.length ∧ Upd (fun x => x = g1 ∨ bOf A2 = some x) w11 wr ∧ Room wr g1 2 ∧ (∀ g, bOf A2 = some g → Room wr g l.length) ∧ ∃ (A3 : Option Addr) (n3 c3 : Nat), wr.cell? ⟨g1, 4, none⟩ = some (.slice A3 n3 c3) ∧ (A3 = A2 ∧ n3 = l.length ∨ n3 = 0)) (fun i _ => l.length - (intOf i).toNat)
  case atStart =>
    exact ⟨0, rfl, Nat.zero_le _, Upd.refl _ _, hm1, fun g hg => by
      rcases ho2'.2 with ⟨h, -⟩ | ⟨g', cur, h, -⟩
      · rw [h] at hg; cases hg
      · subst h; cases hg; exact Room.own ho2', A2, l.length, c2, hc11, .inl ⟨rfl, rfl⟩⟩
  case round =>
    rename_i hrel
    obtain ⟨j, rfl, hj, hu, hm1r, hm2r, A3, n3, c3, hc3, hcase⟩ := hrel
    have hx5r : wr.cell? ⟨x5, 4, none⟩ = some (.slice (some ⟨g1, 0, none⟩) 2 c1) := (hx5.upd hu (fun e => by
      rcases e with e | e
      · omega
      · have := h2l _ e; omega)).cell 4
    by_cases hlt : j < n3
    · obtain ⟨rfl, rfl⟩ : A3 = A2 ∧ n3 = l.length := by rcases hcase with h | h <;> first | exact h | omega
      obtain ⟨g2, rfl⟩ : ∃ g, A3 = some ⟨g, 0, none⟩ := by
        rcases ho2'.2 with ⟨-, h, -⟩ | ⟨g, cur, h, -⟩
        · omega
        · exact ⟨g, h⟩
      have hm2 := hm2r g2 rfl
      have hjw : IntKind.i64.wrap ((j : Int) + 1) = ((j + 1 : Nat) : Int) := by rw [IntKind.wrap_i64]; omega
      go_upto_region 13 with (fail)
      refine wp_region_lex (fun W => Below wr.heap.size wr W) [1, 4] [6, 8] [0, 1, 2, 3, 4, 5, 6, 7, 8] (by kernel_rfl) rfl (by kernel_rfl) (by kernel_rfl) (fun _ _ d _ _ h => by cases d <;> exact h) ?_
      have hS0 : Below wr.heap.size wr wr.drew := (Below.refl _ _).drew
      repeat (first | (refine lexG_take _ ?_ rfl rfl rfl rfl (fun _ => ?_) ?_; rotate_left; (focus (go_simp; with_reducible rfl)); try simp only [Act.put, List.setIfInBounds_toArray, List.set_cons_zero, List.set_cons_succ]) | (refine lexG_held _ ?_ rfl rfl rfl rfl (by assumption) (fun _ hSw => ?_) ?_; rotate_left; (focus (have q1 := cell_keep hSw hx5r; have q2 := cell_keep hSw hc3; clear hSw; go_simp; with_reducible rfl)); try simp only [Act.put, List.setIfInBounds_toArray, List.set_cons_zero, List.set_cons_succ]) | (refine lexG_skip _ rfl rfl (by assumption) ?_; try simp only [Act.put, List.setIfInBounds_toArray, List.set_cons_zero, List.set_cons_succ]))
      refine lexG_now _ rfl rfl rfl (fun K hK => ?_)
      go_wp2_with fail
      refine (text_ref _ _).mono ?_
      rintro e u1 ⟨rfl, hu1⟩
      dsimp only
      have hE := below_then hu1 hS0
      refine hK _ _ _ (fun _ h => h) hE ?_
      clear hK K hS0 hu1
      try simp only [Act.put, List.setIfInBounds_toArray, List.set_cons_zero, List.set_cons_succ]
      repeat (refine lexG_take _ ?_ rfl rfl rfl rfl (fun _ => ?_) ?_; rotate_left; (focus (go_simp; with_reducible rfl)); try simp only [Act.put, List.setIfInBounds_toArray, List.set_cons_zero, List.set_cons_succ])
      have hm1u := hm1r.below hE hm1r.lt
      have hm2u := hm2.below hE hm2.lt
      have hth := hm2u.there hlt
      obtain ⟨hma, hcc⟩ := hm1u.set (a0 := .int .i64 3) (a1 := .int .i64 0) (a2 := .float .f64 0) (a3 := .string ⟨#[120]⟩) (a4 := .slice none 0 0) hm2u hlt
      have hmb := (hm2u.set (a0 := .int .i64 3) (a1 := .int .i64 0) (a2 := .float .f64 0) (a3 := .string ⟨#[120]⟩) (a4 := .slice none 0 0) hm2u hlt).1
      have hu9 := upd_cells u1 g2 (j * 5) [.int .i64 3, .int .i64 0, .float .f64 0, .string ⟨#[120]⟩, .slice none 0 0]
      rw [cell_keep hE hc3] at hcc
      refine lexG_nowF _ rfl rfl rfl (by kernel_rfl) (fun K hK => ?_)
      refine wp_store_mid 25 (Operand.tmp 53) (Operand.tmp 52) rfl g2 (j * 5) #[.int .i64 3, .int .i64 0, .float .f64 0, .string ⟨#[120]⟩, .slice none 0 0] (by simp [go_sem, Addr.add_mid]) (by simp [go_sem]) hth (by kernel_rfl) (by simp [Value.oneCell']) ?_
      refine hK _ _ ?_
      clear hK K
      generalize u1.setCells g2 (j * 5) _ = u2 at *
      refine lexG_nil ?_
      clear hx5r hc3
      go_wp2_with fail
      go_roundw
      case rel =>
        refine ⟨j + 1, by go_num, by omega, (hu.trans (Upd.of_below_size (S := fun x => x = g1 ∨ bOf (some (⟨g2, 0, none⟩ : Addr)) = some x) hE) (fun _ _ h => h)).trans (hu9.mono (fun x _ e => .inr (by rw [e]; rfl))) (fun _ _ h => h), hma, fun g hg => by cases hg; exact hmb, ?_⟩
        rcases hcc with h | h
        · exact ⟨_, _, _, h, .inl ⟨rfl, rfl⟩⟩
        · exact ⟨_, _, _, h, .inr rfl⟩
      case measure => simp [intOf]; omega
    · have h5l := hx5.lt
      have hus := hu.size
      have hx3r := hx3e.upd hu (fun e => by
        rcases e with e | e
        · have := hP1; have := hx3e.lt; omega
        · have := hP2 _ e; omega)
      have hx4r := hx4e.upd hu (fun e => by
        rcases e with e | e
        · have := hP1; omega
        · have := hP2 _ e; omega)
      have bu : Below w9.heap.size w11 wr := ⟨hu.os, hu.tape, hu.output, hu.size, fun x hx9 => hu.block x (by omega) (fun e => by
        rcases e with e | e
        · have := hP1; omega
        · have := hP2 _ e; omega)⟩
      have l12 : Below w.heap.size w wr := l11.trans (bu.mono (by have := hLw; omega))
      have b712 : Below w7.heap.size w7 wr := b711.trans (bu.mono h79)
      have hR12 := hR11.under (bu.mono (Nat.le_of_lt hw8s))
      clear hx3e hx4e bu l11 b711 hR11
      go_upto_region 14 with (fail)
      refine wp_region_lex (fun W => Below wr.heap.size wr W) [1] [2, 4] [0, 1, 2, 3, 4] (by kernel_rfl) rfl (by kernel_rfl) (by kernel_rfl) (fun _ _ d _ _ h => by cases d <;> exact h) ?_
      have hS0 : Below wr.heap.size wr wr.drew := (Below.refl _ _).drew
      repeat (first | (refine lexG_take _ ?_ rfl rfl rfl rfl (fun _ => ?_) ?_; rotate_left; (focus (go_simp; with_reducible rfl)); try simp only [Act.put, List.setIfInBounds_toArray, List.set_cons_zero, List.set_cons_succ]) | (refine lexG_held _ ?_ rfl rfl rfl rfl (by assumption) (fun _ hSw => ?_) ?_; rotate_left; (focus (have q1 := cell_keep hSw hx5r; clear hSw; go_simp; with_reducible rfl)); try simp only [Act.put, List.setIfInBounds_toArray, List.set_cons_zero, List.set_cons_succ]) | (refine lexG_skip _ rfl rfl (by assumption) ?_; try simp only [Act.put, List.setIfInBounds_toArray, List.set_cons_zero, List.set_cons_succ]))
      refine lexG_now _ rfl rfl rfl (fun K hK => ?_)
      go_wp2_with fail
      refine (text_ref _ _).mono ?_
      rintro e u1 ⟨rfl, hu1⟩
      dsimp only
      have hE := below_then hu1 hS0
      refine hK _ _ _ (fun _ h => h) hE ?_
      clear hK K hS0 hu1
      try simp only [Act.put, List.setIfInBounds_toArray, List.set_cons_zero, List.set_cons_succ]
      repeat (refine lexG_take _ ?_ rfl rfl rfl rfl (fun _ => ?_) ?_; rotate_left; (focus (go_simp; with_reducible rfl)); try simp only [Act.put, List.setIfInBounds_toArray, List.set_cons_zero, List.set_cons_succ])
      have hth := (hm1r.below hE hm1r.lt).there (k := 1) (by omega)
      have hu9 := upd_cells u1 g1 (1 * 5) [.int .i64 3, .int .i64 0, .float .f64 0, .string ⟨#[121]⟩, .slice none 0 0]
      refine lexG_nowF _ rfl rfl rfl (by kernel_rfl) (fun K hK => ?_)
      refine wp_store_mid 25 (Operand.tmp 57) (Operand.tmp 56) rfl g1 (1 * 5) #[.int .i64 3, .int .i64 0, .float .f64 0, .string ⟨#[121]⟩, .slice none 0 0] (by simp [go_sem, Addr.add_mid]) (by simp [go_sem]) hth (by kernel_rfl) (by simp [Value.oneCell']) ?_
      refine hK _ _ ?_
      clear hK K
      generalize u1.setCells g1 (1 * 5) _ = u2 at *
      refine lexG_nil ?_
      have hEs := hE.size
      have hu9s := hu9.size
      have bE : Below w9.heap.size wr u2 := (hE.mono (by omega)).trans ⟨hu9.os, hu9.tape, hu9.output, hu9.size, fun x hx9 => hu9.block x (by have := hE.size; omega) (fun e => by have := hP1; omega)⟩
      have hx3u := (hx3r.below hE hx3r.lt).upd hu9 (fun e => by have := hP1; have := hx3r.lt; omega)
      have hx4u := (hx4r.below hE hx4r.lt).upd hu9 (fun e => by have := hP1; omega)
      have l13 : Below w.heap.size w u2 := l12.trans (bE.mono (by have := hLw; omega))
      have b713 : Below w7.heap.size w7 u2 := b712.trans (bE.mono h79)
      have hR13 := hR12.under (bE.mono (Nat.le_of_lt hw8s))
      clear hx3r hx4r bE l12 b712 hR12 hE hu9 hth hx5r hc3 hm1r hm2r
      have hcl := fun W (hW : Below u2.heap.size u2 W) => ref_clean_s hv7 W hsh (below_then hW b713) (Nat.le_trans b713.size hW.size)
      replace hcl := Lib.hid hcl
      go_wp2_with fail
      refine wp_region_lex (fun W => Below u2.heap.size u2 W) [0, 2] [1, 3] [0, 2, 1, 3, 4] (by kernel_rfl) rfl (by kernel_rfl) (by kernel_rfl) (fun _ _ d _ _ h => by cases d <;> exact h) ?_
      have hS0 : Below u2.heap.size u2 u2.drew := (Below.refl _ _).drew
      repeat (first | (refine lexG_take _ ?_ rfl rfl rfl rfl (fun _ => ?_) ?_; rotate_left; (focus (go_simp; with_reducible rfl)); try simp only [Act.put, List.setIfInBounds_toArray, List.set_cons_zero, List.set_cons_succ]) | (refine lexG_held _ ?_ rfl rfl rfl rfl (by assumption) (fun _ hSw => ?_) ?_; rotate_left; (focus (have q0 := (hx3u.below hSw hx3u.lt).cell 0; have p0 := (hx4u.below hSw hx4u.lt).cell 0; have q1 := (hx3u.below hSw hx3u.lt).cell 1; have p1 := (hx4u.below hSw hx4u.lt).cell 1; have q2 := (hx3u.below hSw hx3u.lt).cell 2; have p2 := (hx4u.below hSw hx4u.lt).cell 2; have q3 := (hx3u.below hSw hx3u.lt).cell 3; have p3 := (hx4u.below hSw hx4u.lt).cell 3; have q4 := (hx3u.below hSw hx3u.lt).cell 4; have p4 := (hx4u.below hSw hx4u.lt).cell 4; clear hSw; go_simp; with_reducible rfl)); try simp only [Act.put, List.setIfInBounds_toArray, List.set_cons_zero, List.set_cons_succ]) | (refine lexG_skip _ rfl rfl (by assumption) ?_; try simp only [Act.put, List.setIfInBounds_toArray, List.set_cons_zero, List.set_cons_succ]))
      refine lexG_now _ rfl rfl rfl (fun K hK => ?_)
      go_wp2_with fail
      refine (hcl.out _ hS0).mono ?_
      rintro e u3 ⟨cz, rfl, hz, hb3⟩
      dsimp only
      have hE := below_then hb3 hS0
      have hRE := hR13.under (hE.mono (by omega))
      obtain ⟨k6, i6, f6, s6, A6, n6, c6, hcz⟩ := hz.reads.form
      subst hcz
      have hsame := same_true hz.reads _ u3 (hRE.upB (by have := hE.size; omega)) (Below.refl _ _) (Nat.le_refl _)
      replace hsame := Lib.hid hsame
      refine hK _ _ _ (fun _ h => h) hE ?_
      clear hK K hS0 hcl
      try simp only [Act.put, List.setIfInBounds_toArray, List.set_cons_zero, List.set_cons_succ]
      repeat (refine lexG_take _ ?_ rfl rfl rfl rfl (fun _ => ?_) ?_; rotate_left; (focus (go_simp; with_reducible rfl)); try simp only [Act.put, List.setIfInBounds_toArray, List.set_cons_zero, List.set_cons_succ])
      refine lexG_now _ rfl rfl rfl (fun K hK => ?_)
      go_wp2_with fail
      refine hsame.out.mono ?_
      rintro e u4 ⟨rfl, hb4⟩
      dsimp only
      have hE4 := below_then hb4 hE
      refine hK _ _ _ (fun _ h => h) hE4 ?_
      clear hK K
      try simp only [Act.put, List.setIfInBounds_toArray, List.set_cons_zero, List.set_cons_succ]
      repeat (refine lexG_take _ ?_ rfl rfl rfl rfl (fun _ => ?_) ?_; rotate_left; (focus (go_simp; with_reducible rfl)); try simp only [Act.put, List.setIfInBounds_toArray, List.set_cons_zero, List.set_cons_succ])
      refine lexG_nil ?_
      go_wp2_with fail
      go_ret
      exact ⟨rfl, below_then hE4 l13⟩
end Go.Proofs.YtdbmffagibnibaaGreatDoor
