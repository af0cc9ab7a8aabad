/- WatchPlays' walk: the watch and its reference side by side. -/
import Derived.Test.YteebefkojbdfjaaWatchTimes
namespace Go.Proofs.Yteebefkojbdfjaa
open Go.RowKit

structure Duo (W w : World) (p q p' q' Q me : Nat) (L : List Nat) (t : Nat) (L' : List Nat) (t' : Nat) (cq : Array Value) : Prop where
  d : WatchAt w 44 p q me L t
  f : WatchAt w 40 p' q' me L' t'
  z : Blk w Q 24 cq
  hqq : q ≠ q'
  hp : W.heap.size ≤ p
  hq : W.heap.size ≤ q
  hp' : W.heap.size ≤ p'
  hq' : W.heap.size ≤ q'
  bel : Below W.heap.size W w

section
variable {W w w' : World} {p q p' q' Q me t t' : Nat} {L L' : List Nat} {cq : Array Value}
theorem Duo.below (h : Duo W w p q p' q' Q me L t L' t' cq) (hb : Below w.heap.size w w') : Duo W w' p q p' q' Q me L t L' t' cq :=
  ⟨h.d.below hb (Nat.le_refl _), h.f.below hb (Nat.le_refl _), h.z.below hb h.z.lt, h.hqq, h.hp, h.hq, h.hp', h.hq', h.bel.trans (hb.mono h.bel.size)⟩
theorem Duo.first (h : Duo W w p q p' q' Q me L t L' t' cq) {L1 : List Nat} {t1 : Nat} (h' : WatchAt w' 44 p q me L1 t1) (hu : Upd (fun x => x = p ∨ x = q) w w') : Duo W w' p q p' q' Q me L1 t1 L' t' cq := by
  have n1 : p' ≠ p := h.f.o.ne_ h.d.o (by decide)
  have n2 : p' ≠ q := h.f.o.ne_ h.d.a (by decide)
  have n3 : q' ≠ p := h.f.a.ne_ h.d.o (by decide)
  have n4 : Q ≠ p := h.z.ne_ h.d.o (by decide)
  have n5 : Q ≠ q := h.z.ne_ h.d.a (by decide)
  have hqq := h.hqq
  refine ⟨h', h.f.upd hu (by omega) (by omega), h.z.upd hu (by omega), h.hqq, h.hp, h.hq, h.hp', h.hq', h.bel.trans (hu.below h.bel.size ?_)⟩
  have h1 := h.hp; have h2 := h.hq
  rintro k hk (rfl | rfl) <;> omega
theorem Duo.second (h : Duo W w p q p' q' Q me L t L' t' cq) {L1 : List Nat} {t1 : Nat} (h' : WatchAt w' 40 p' q' me L1 t1) (hu : Upd (fun x => x = p' ∨ x = q') w w') : Duo W w' p q p' q' Q me L t L1 t1 cq := by
  have n1 : p ≠ p' := h.d.o.ne_ h.f.o (by decide)
  have n2 : p ≠ q' := h.d.o.ne_ h.f.a (by decide)
  have n3 : q ≠ p' := h.d.a.ne_ h.f.o (by decide)
  have n4 : Q ≠ p' := h.z.ne_ h.f.o (by decide)
  have n5 : Q ≠ q' := h.z.ne_ h.f.a (by decide)
  have hqq := h.hqq
  refine ⟨h.d.upd hu (by omega) (by omega), h', h.z.upd hu (by omega), h.hqq, h.hp, h.hq, h.hp', h.hq', h.bel.trans (hu.below h.bel.size ?_)⟩
  have h1 := h.hp'; have h2 := h.hq'
  rintro k hk (rfl | rfl) <;> omega

def DuoNow (W : World) (p q p' q' Q me : Nat) (L : List Nat) (t : Nat) (L' : List Nat) (t' : Nat) (cq : Array Value) (b : Bool) (e : Ending) (w : World) : Prop := e = .returned (.bool b) ∧ Duo W w p q p' q' Q me L t L' t' cq

theorem duo_tick (h : Duo W w p q p' q' Q me L t L' t' cq) (ht : t + 1 ≤ 1000000) : Calls Try.prog 8 #[.pointer (some ⟨p, 0, none⟩)] w (DuoNow W p q p' q' Q me (up me L) ((t + 1) % 3) L' t' cq (decide ((t + 1) % 3 = 0))) :=
  (watch_tick h.d ht).mono fun _ _ ⟨he, hw, hu⟩ => ⟨he, h.first hw hu⟩
theorem duo_rtick (h : Duo W w p q p' q' Q me L t L' t' cq) (ht : t' + 1 ≤ 1000000) : Calls Try.prog 9 #[.pointer (some ⟨p', 0, none⟩)] w (DuoNow W p q p' q' Q me L t (up me L') (t' + 1) cq (decide ((t' + 1) % 3 = 0))) :=
  (ref_tick h.f ht).mono fun _ _ ⟨he, hw, hu⟩ => ⟨he, h.second hw hu⟩
theorem duo_heard (h : Duo W w p q p' q' Q me L t L' t' cq) (k : Int) : Calls Try.prog 10 #[.pointer (some ⟨p, 0, none⟩), .int .i64 k] w (DuoNow W p q p' q' Q me (heardL me L k) t L' t' cq (heardB me L k)) :=
  (watch_heard h.d k).mono fun _ _ ⟨he, hw, hu⟩ => ⟨he, h.first hw (hu.mono fun _ _ e => .inr e)⟩
theorem duo_rheard (h : Duo W w p q p' q' Q me L t L' t' cq) (k : Int) : Calls Try.prog 11 #[.pointer (some ⟨p', 0, none⟩), .int .i64 k] w (DuoNow W p q p' q' Q me L t (heardL me L' k) t' cq (heardB me L' k)) :=
  (ref_heard h.f k).mono fun _ _ ⟨he, hw, hu⟩ => ⟨he, h.second hw (hu.mono fun _ _ e => .inr e)⟩
end

def placeOf (k : Int) : Int := if k.tmod 8 < 0 then k.tmod 8 + 8 else k.tmod 8
theorem place_any (k : Int) (w : World) : Calls Try.prog 16 #[.int .i64 k, .int .i64 8] w fun e w' => e = .returned (.int .i64 (placeOf k)) ∧ w = w' := by
  have h1 : -8 < k.tmod 8 ∧ k.tmod 8 < 8 := ⟨by have := Int.tmod_lt_of_pos (-k) (show (0 : Int) < 8 by decide); rw [Int.neg_tmod] at this; omega, Int.tmod_lt_of_pos k (by decide)⟩
  by_cases hm : k.tmod 8 < 0
  · have e : placeOf k = k.tmod 8 + 8 := by simp only [placeOf, if_pos hm]
    have E := Lib.hid e; clear e
    go_enter Try.func16, Try.ntmps16
    go_wp2
    go_ret
    exact ⟨by rw [E.out]; rfl, rfl⟩
  · have e : placeOf k = k.tmod 8 := by simp only [placeOf, if_neg hm]
    have E := Lib.hid e; clear e
    go_enter Try.func16, Try.ntmps16
    go_wp2
    go_ret
    exact ⟨by rw [E.out]; rfl, rfl⟩

def nums (k : IntKind) (zs : List Int) : List Value := zs.map (Value.int k)

set_option maxRecDepth 100000 in
set_option maxHeartbeats 4000000 in
theorem plays_walk (s n ask : Int) (A : Option Addr) (ca : Nat) (zs : List Int) (w : World) (hs : -9223372036854775808 ≤ s ∧ s ≤ 9223372036854775807) (hn : -9223372036854775808 ≤ n ∧ n ≤ 9223372036854775807) (hask : -9223372036854775808 ≤ ask ∧ ask ≤ 9223372036854775807)
    (ha : Reads w w.heap.size 1 A zs.length (nums .i16 zs)) (hz : ∀ z ∈ zs, -32768 ≤ z ∧ z ≤ 32767) :
    Calls Try.prog 3 #[.int .i64 s, .int .i64 n, .slice A zs.length ca, .int .i64 ask] w (SaysTrue w) := by
  by_cases hl : 200 < zs.length
  · go_enter Try.func3, Try.ntmps3
    go_wp2_with fail
    refine (known_true _).mono ?_
    rintro e w1 ⟨rfl, hb1⟩
    go_wp2_with fail
    go_ret
    exact ⟨rfl, hb1⟩
  go_enter Try.func3, Try.ntmps3
  go_wp2_with fail
  refine (known_true _).mono ?_
  rintro e w1 ⟨rfl, hb1⟩
  go_wp2_with fail
  have hz0 := Blk.new w1 24 #[.int .i64 s, .int .i64 n, .int .i64 (s.tmod 9), .int .i64 (n.tmod 9)]
  have hbz := hb1.alloc hb1.size (.cells #[.int .i64 s, .int .i64 n, .int .i64 (s.tmod 9), .int .i64 (n.tmod 9)] 24)
  have hQ := hb1.size
  clear hb1
  generalize w1.alloc (.cells #[.int .i64 s, .int .i64 n, .int .i64 (s.tmod 9), .int .i64 (n.tmod 9)] 24) = w2 at *
  generalize w1.heap.size = Q at *
  go_loopw [34] (fun j wr => ∃ i : Nat, i ≤ 2 ∧ j = .int .i64 i ∧ Blk wr Q 24 #[.int .i64 s, .int .i64 n, .int .i64 (s.tmod 9), .int .i64 (n.tmod 9)] ∧ Below w.heap.size w wr) (fun j _ => 2 - (intOf j).toNat)
  case atStart => exact ⟨0, by omega, rfl, hz0, hbz⟩
  case round =>
    obtain ⟨i, hi2, rfl, hzq, hb⟩ := hrel
    clear hz0 hbz
    obtain ⟨wo, rfl⟩ : ∃ wo : World, wo = wr := ⟨_, rfl⟩
    by_cases hlt : i < 2
    · obtain ⟨y0, y1, c0, c1⟩ : ∃ y0 y1 : Int, wo.cell? ⟨Q, i * 2, none⟩ = some (.int .i64 y0) ∧ wo.cell? ⟨Q, i * 2 + 1, none⟩ = some (.int .i64 y1) := by
        rcases (by omega : i = 0 ∨ i = 1) with rfl | rfl
        · exact ⟨_, _, hzq.cell 0, hzq.cell 1⟩
        · exact ⟨_, _, hzq.cell 2, hzq.cell 3⟩
      have HZ := Lib.hid hzq; have HB := Lib.hid hb; clear hzq hb
      have hti : decide ((i : Int) < 2) = true := by simp; omega
      go_wp2_with fail
      clear hti
      have x0 := (Blk.new wo 24 #[.int .i64 y0, .int .i64 y1]).cell 0
      have x1 := (Blk.new wo 24 #[.int .i64 y0, .int .i64 y1]).cell 1
      have hX := (Blk.new wo 24 #[.int .i64 y0, .int .i64 y1]).lt
      have hzx := HZ.out.alloc (.cells #[.int .i64 y0, .int .i64 y1] 24)
      have hbx := HB.out.alloc HB.out.size (.cells #[.int .i64 y0, .int .i64 y1] 24)
      clear c0 c1 HB HZ
      generalize wo.alloc (.cells #[.int .i64 y0, .int .i64 y1] 24) = wx at *
      generalize wo.heap.size = X at *
      clear wo
      refine wp_region_lex (fun W => W.cell? ⟨X, 0, none⟩ = some (.int .i64 y0) ∧ W.cell? ⟨X, 1, none⟩ = some (.int .i64 y1)) [1, 3, 6, 8] [4, 9] [0, 1, 2, 3, 5, 6, 7, 8, 4, 9, 10, 11] (by kernel_rfl) rfl (by kernel_rfl) (by kernel_rfl) (fun _ _ d _ _ h => by cases d <;> exact h) ?_
      have hS : wx.drew.cell? ⟨X, 0, none⟩ = some (.int .i64 y0) ∧ wx.drew.cell? ⟨X, 1, none⟩ = some (.int .i64 y1) := ⟨x0, x1⟩
      repeat (first | (refine lexG_take _ ?_ rfl rfl rfl rfl (fun _ => ?_) ?_; rotate_left; (focus (go_simp; with_reducible rfl)); try simp only [Act.put, List.setIfInBounds_toArray, List.set_cons_zero, List.set_cons_succ]) | (refine lexG_held _ ?_ rfl rfl rfl rfl (by assumption) (fun _ hSw => ?_) ?_; rotate_left; (focus ((try dsimp only at hSw); go_simp; with_reducible rfl)); try simp only [Act.put, List.setIfInBounds_toArray, List.set_cons_zero, List.set_cons_succ]) | (refine lexG_skip _ rfl rfl (by assumption) ?_; try simp only [Act.put, List.setIfInBounds_toArray, List.set_cons_zero, List.set_cons_succ]))
      refine lexG_now _ rfl rfl rfl (fun K hK => ?_)
      go_wp2_with fail
      refine (watch_new y0 y1 _).mono ?_
      rintro e w3 ⟨p, q, rfl, hd3, hb3, hp3, hq3⟩
      dsimp only
      have hS3 : w3.cell? ⟨X, 0, none⟩ = some (.int .i64 y0) ∧ w3.cell? ⟨X, 1, none⟩ = some (.int .i64 y1) := ⟨(hb3.cell (p := ⟨X, 0, none⟩) hX).trans hS.1, (hb3.cell (p := ⟨X, 1, none⟩) hX).trans hS.2⟩
      refine hK _ _ _ (fun _ h => h) hS3 ?_
      clear hK K hS
      try simp only [Act.put, List.setIfInBounds_toArray, List.set_cons_zero, List.set_cons_succ]
      repeat (first | (refine lexG_take _ ?_ rfl rfl rfl rfl (fun _ => ?_) ?_; rotate_left; (focus (go_simp; with_reducible rfl)); try simp only [Act.put, List.setIfInBounds_toArray, List.set_cons_zero, List.set_cons_succ]) | (refine lexG_held _ ?_ rfl rfl rfl rfl (by assumption) (fun _ hSw => ?_) ?_; rotate_left; (focus ((try dsimp only at hSw); go_simp; with_reducible rfl)); try simp only [Act.put, List.setIfInBounds_toArray, List.set_cons_zero, List.set_cons_succ]) | (refine lexG_skip _ rfl rfl (by assumption) ?_; try simp only [Act.put, List.setIfInBounds_toArray, List.set_cons_zero, List.set_cons_succ]))
      refine lexG_now _ rfl rfl rfl (fun K hK => ?_)
      go_wp2_with fail
      refine (ref_new y0 y1 _).mono ?_
      rintro e w4 ⟨p', q', rfl, hd4, hb4, hp4, hq4⟩
      dsimp only
      have hsz := hb3.size
      have hS4 : w4.cell? ⟨X, 0, none⟩ = some (.int .i64 y0) ∧ w4.cell? ⟨X, 1, none⟩ = some (.int .i64 y1) := ⟨(hb4.cell (p := ⟨X, 0, none⟩) (Nat.lt_of_lt_of_le hX hsz)).trans hS3.1, (hb4.cell (p := ⟨X, 1, none⟩) (Nat.lt_of_lt_of_le hX hsz)).trans hS3.2⟩
      refine hK _ _ _ (fun _ h => h) hS4 ?_
      clear hK K hS3
      try simp only [Act.put, List.setIfInBounds_toArray, List.set_cons_zero, List.set_cons_succ]
      repeat (first | (refine lexG_take _ ?_ rfl rfl rfl rfl (fun _ => ?_) ?_; rotate_left; (focus (go_simp; with_reducible rfl)); try simp only [Act.put, List.setIfInBounds_toArray, List.set_cons_zero, List.set_cons_succ]) | (refine lexG_held _ ?_ rfl rfl rfl rfl (by assumption) (fun _ hSw => ?_) ?_; rotate_left; (focus ((try dsimp only at hSw); go_simp; with_reducible rfl)); try simp only [Act.put, List.setIfInBounds_toArray, List.set_cons_zero, List.set_cons_succ]) | (refine lexG_skip _ rfl rfl (by assumption) ?_; try simp only [Act.put, List.setIfInBounds_toArray, List.set_cons_zero, List.set_cons_succ]))
      refine lexG_nil ?_
      have hduo : Duo w w4 p q p' q' Q (selfOf y0 (nn y1)) (List.replicate (nn y1) 0) 0 (List.replicate (nn y1) 0) 0 #[.int .i64 s, .int .i64 n, .int .i64 (s.tmod 9), .int .i64 (n.tmod 9)] :=
        ⟨hd3.below hb4 (Nat.le_refl _), hd4, (hzx.below (below_of_drew hb3) hzx.lt).below hb4 (Nat.lt_of_lt_of_le hzx.lt hsz), by have := hd3.a.lt; omega, Nat.le_trans hbx.size hp3, Nat.le_trans hbx.size hq3, Nat.le_trans (Nat.le_trans hbx.size hsz) hp4, Nat.le_trans (Nat.le_trans hbx.size hsz) hq4,
          hbx.trans ((below_of_drew hb3).mono hbx.size |>.trans (hb4.mono (Nat.le_trans hbx.size hsz)))⟩
      clear hd3 hd4 hb3 hb4 hp3 hq3 hp4 hq4 hzx hbx x0 x1 hS4 hX hsz
      generalize selfOf y0 (nn y1) = me at *
      generalize List.replicate (nn y1) 0 = L0 at *
      clear wx w3
      go_wp2_with fail
      go_loopw [13] (fun x wr => ∃ (k t : Nat) (L : List Nat), k ≤ zs.length ∧ t ≤ k ∧ x = .int .i64 k ∧ Duo w wr p q p' q' Q me L (t % 3) L t #[.int .i64 s, .int .i64 n, .int .i64 (s.tmod 9), .int .i64 (n.tmod 9)]) (fun x _ => zs.length - (intOf x).toNat)
      case atStart => exact ⟨0, 0, L0, by omega, by omega, rfl, hduo⟩
      case round =>
        obtain ⟨k, t, L, hk, htk, rfl, hD⟩ := hrel
        clear hduo
        by_cases hkl : k < zs.length
        · obtain ⟨ad, u, rfl, hadb, hu, hc⟩ := ha.at_ hkl
          simp only [nums, List.getElem?_map, List.getElem?_eq_getElem hkl, Option.map_some, Option.some.injEq] at hu
          subst hu
          have hzz := hz zs[k] (List.getElem_mem hkl)
          generalize zs[k] = z at *
          have hcw := (hD.bel.cell (by rw [block_of_add]; exact hadb)).trans hc
          clear hc
          have hz3 : -3 < z.tmod 3 ∧ z.tmod 3 < 3 := ⟨by have := Int.tmod_lt_of_pos (-z) (show (0 : Int) < 3 by decide); rw [Int.neg_tmod] at this; omega, Int.tmod_lt_of_pos z (by decide)⟩
          rcases Decidable.em (z.tmod 3 = 0) with hz0 | hz0
          case' inl =>
            have hzt : (z.tmod 3 != 0) = false := by simp [hz0]
            have HZ0 := Lib.hid hz0; clear hz0
            go_wp2_with fail
            refine wp_region_lex (fun W => W.cell? (ad.add k) = some (.int .i16 z)) [4, 13] [8, 17] [0, 1, 2, 3, 4, 5, 6, 7, 9, 10, 11, 12, 13, 14, 15, 16, 8, 17, 18] (by kernel_rfl) rfl (by kernel_rfl) (by kernel_rfl) (fun _ _ d _ _ h => by cases d <;> exact h) ?_
            have hS : wr.drew.cell? (ad.add k) = some (.int .i16 z) := hcw
            have hD1 : Duo w wr.drew p q p' q' Q me L (t % 3) L t #[.int .i64 s, .int .i64 n, .int .i64 (s.tmod 9), .int .i64 (n.tmod 9)] := hD.below ((Below.refl _ _).drew)
            repeat (first | (refine lexG_take _ ?_ rfl rfl rfl rfl (fun _ => ?_) ?_; rotate_left; (focus (go_simp; with_reducible rfl)); try simp only [Act.put, List.setIfInBounds_toArray, List.set_cons_zero, List.set_cons_succ]) | (refine lexG_held _ ?_ rfl rfl rfl rfl (by assumption) (fun _ hSw => ?_) ?_; rotate_left; (focus ((try dsimp only at hSw); go_simp; with_reducible rfl)); try simp only [Act.put, List.setIfInBounds_toArray, List.set_cons_zero, List.set_cons_succ]) | (refine lexG_skip _ rfl rfl (by assumption) ?_; try simp only [Act.put, List.setIfInBounds_toArray, List.set_cons_zero, List.set_cons_succ]))
            refine lexG_now _ rfl rfl rfl (fun K hK => ?_)
            go_wp2_with fail
            refine (duo_heard hD1 _).mono ?_
            rintro e w5 ⟨rfl, hD5⟩
            dsimp only
            have hS5 : w5.cell? (ad.add k) = some (.int .i16 z) := ((hD5.bel.cell (by rw [block_of_add]; exact hadb)).trans (hD1.bel.cell (by rw [block_of_add]; exact hadb)).symm).trans hS
            refine hK _ _ _ (fun _ h => h) hS5 ?_
            clear hK K hS hD1 hcw hD
            try simp only [Act.put, List.setIfInBounds_toArray, List.set_cons_zero, List.set_cons_succ]
            repeat (first | (refine lexG_take _ ?_ rfl rfl rfl rfl (fun _ => ?_) ?_; rotate_left; (focus (go_simp; with_reducible rfl)); try simp only [Act.put, List.setIfInBounds_toArray, List.set_cons_zero, List.set_cons_succ]) | (refine lexG_held _ ?_ rfl rfl rfl rfl (by assumption) (fun _ hSw => ?_) ?_; rotate_left; (focus ((try dsimp only at hSw); go_simp; with_reducible rfl)); try simp only [Act.put, List.setIfInBounds_toArray, List.set_cons_zero, List.set_cons_succ]) | (refine lexG_skip _ rfl rfl (by assumption) ?_; try simp only [Act.put, List.setIfInBounds_toArray, List.set_cons_zero, List.set_cons_succ]))
            refine lexG_now _ rfl rfl rfl (fun K hK => ?_)
            go_wp2_with fail
            refine (duo_rheard hD5 _).mono ?_
            rintro e wz ⟨rfl, hD6⟩
            dsimp only
            have hS6 : wz.cell? (ad.add k) = some (.int .i16 z) := ((hD6.bel.cell (by rw [block_of_add]; exact hadb)).trans (hD5.bel.cell (by rw [block_of_add]; exact hadb)).symm).trans hS5
            refine hK _ _ _ (fun _ h => h) hS6 ?_
            clear hK K hS5 hD5
            try simp only [Act.put, List.setIfInBounds_toArray, List.set_cons_zero, List.set_cons_succ]
            repeat (first | (refine lexG_take _ ?_ rfl rfl rfl rfl (fun _ => ?_) ?_; rotate_left; (focus (go_simp; with_reducible rfl)); try simp only [Act.put, List.setIfInBounds_toArray, List.set_cons_zero, List.set_cons_succ]) | (refine lexG_held _ ?_ rfl rfl rfl rfl (by assumption) (fun _ hSw => ?_) ?_; rotate_left; (focus ((try dsimp only at hSw); go_simp; with_reducible rfl)); try simp only [Act.put, List.setIfInBounds_toArray, List.set_cons_zero, List.set_cons_succ]) | (refine lexG_skip _ rfl rfl (by assumption) ?_; try simp only [Act.put, List.setIfInBounds_toArray, List.set_cons_zero, List.set_cons_succ]))
            refine lexG_nil ?_
            obtain ⟨L1, t1, ht1, hDz⟩ : ∃ L1 t1, t1 ≤ k + 1 ∧ Duo w wz p q p' q' Q me L1 (t1 % 3) L1 t1 #[.int .i64 s, .int .i64 n, .int .i64 (s.tmod 9), .int .i64 (n.tmod 9)] := ⟨_, t, by omega, hD6⟩
            clear hS6 hD6 w5
            go_wp2_with fail
          case' inr =>
            have hzt : (z.tmod 3 != 0) = true := by simp [hz0]
            have HZ0 := Lib.hid hz0; clear hz0
            have e3 : (t % 3 + 1) % 3 = (t + 1) % 3 := by omega
            have E3 := Lib.hid e3; clear e3
            have T1 := Lib.hid (duo_tick hD (by omega)); clear hD
            go_wp2_with fail
            refine T1.out.mono ?_
            rintro e w5 ⟨rfl, hD5⟩
            rw [E3.out] at hD5 ⊢
            have T2 := Lib.hid (duo_rtick hD5 (by omega)); clear hD5 T1
            generalize decide ((t + 1) % 3 = 0) = tb at *
            go_wp2_with fail
            refine T2.out.mono ?_
            rintro e wz ⟨rfl, hD6⟩
            obtain ⟨L1, t1, ht1, hDz⟩ : ∃ L1 t1, t1 ≤ k + 1 ∧ Duo w wz p q p' q' Q me L1 (t1 % 3) L1 t1 #[.int .i64 s, .int .i64 n, .int .i64 (s.tmod 9), .int .i64 (n.tmod 9)] := ⟨_, t + 1, by omega, hD6⟩
            clear hD6 T2 hcw
            go_wp2_with fail
          all_goals
            refine (watch_suspects hDz.d).mono ?_
            rintro e v1 ⟨B1, d1, rfl, o1, b1⟩
            have hD1 := hDz.below b1
            clear hDz
            go_wp2_with fail
            refine (ref_split hD1.f true).mono ?_
            rintro e v2 ⟨B2, d2, rfl, o2, b2⟩
            have hD2 := hD1.below b2
            have o1' := o1.below b2 (Nat.le_refl _)
            clear hD1 o1
            have hpl := pickTo_len true L1 L1.length
            have h7 := hD2.d.n7
            go_wp2_with fail
            refine (ints_same' o1'.reads_ o2.reads_ (by unfold pick; omega) (by unfold pick; omega)).mono ?_
            rintro e v3 ⟨rfl, b3⟩
            rw [decide_eq_true rfl]
            have hD3 := hD2.below b3
            clear hD2 o1' o2 b1 b2 b3 hpl
            go_wp2_with fail
            refine (watch_alive hD3.d).mono ?_
            rintro e v4 ⟨B4, d4, rfl, o4, b4⟩
            have hD4 := hD3.below b4
            clear hD3
            go_wp2_with fail
            refine (ref_split hD4.f false).mono ?_
            rintro e v5 ⟨B5, d5, rfl, o5, b5⟩
            have hD5 := hD4.below b5
            have o4' := o4.below b5 (Nat.le_refl _)
            clear hD4 o4
            have hpl := pickTo_len false L1 L1.length
            go_wp2_with fail
            refine (ints_same' o4'.reads_ o5.reads_ (by unfold pick; omega) (by unfold pick; omega)).mono ?_
            rintro e v6 ⟨rfl, b6⟩
            rw [decide_eq_true rfl]
            have hD6 := hD5.below b6
            clear hD5 o4' o5 b4 b5 b6 hpl
            go_wp2_with fail
            go_roundw
            case rel => first | exact ⟨k + 1, t1, L1, by omega, ht1, by go_num, hD6⟩ | ((repeat apply Exists.intro); exact ⟨⟨k + 1, t1, L1, by omega, ht1, by go_num, hD6⟩, rfl⟩)
            case measure => simp [intOf]; omega
        · obtain rfl : k = zs.length := by omega
          go_wp2_with fail
          refine (place_any ask wr).mono ?_
          rintro e w5 ⟨rfl, rfl⟩
          generalize placeOf ask = pl at *
          go_wp2_with fail
          have r0 := Blk.new wr 3 #[.int .i64 ask, .int .i64 pl]
          have hDr := hD.below ((Below.refl _ _).alloc (Nat.le_refl _) (.cells #[.int .i64 ask, .int .i64 pl] 3))
          clear hD
          generalize wr.alloc (.cells #[.int .i64 ask, .int .i64 pl] 3) = wy at *
          generalize wr.heap.size = R at *
          clear wr
          go_loopw [103] (fun x wr => ∃ (j n : Nat), j ≤ 2 ∧ x = .int .i64 j ∧ wr = wy.drewN n) (fun x _ => 2 - (intOf x).toNat)
          case atStart => exact ⟨0, 0, by omega, rfl, rfl⟩
          case round =>
            obtain ⟨j, nd, hj, rfl, rfl⟩ := hrel
            by_cases hj2 : j < 2
            · obtain ⟨a, ca⟩ : ∃ a : Int, wy.cell? ⟨R, j, none⟩ = some (.int .i64 a) := by
                rcases (by omega : j = 0 ∨ j = 1) with rfl | rfl
                · exact ⟨_, r0.cell 0⟩
                · exact ⟨_, r0.cell 1⟩
              have hdd : WatchAt (wy.drewN nd) 44 p q me L (t % 3) := hDr.d.upd (S := fun _ => False) ((Upd.refl _ _).drewN nd) (fun h => h) (fun h => h)
              have g1 := hDr.f.o.cell 1
              have h7 := hDr.f.n7
              have hage := Lib.hid (watch_age hdd a)
              clear hdd
              by_cases hin : 0 ≤ a ∧ a < L.length
              · obtain ⟨b, rfl⟩ := Int.eq_ofNat_of_zero_le hin.1
                have hbl : b < L.length := by omega
                have ga := hDr.f.age b hbl
                rw [show ageOf me L (b : Int) = L.getD b 0 from by simp [ageOf, hbl], show ageIs L (b : Int) = true from by simp [ageIs, hbl]] at hage
                clear hin
                have HD := Lib.hid hDr; clear hDr
                generalize L.getD b 0 = ab at *
                go_wp2_with fail
                refine hage.out.mono ?_
                rintro e w8 ⟨rfl, rfl⟩
                go_wp2_with fail
                exact ⟨⟨j + 1, nd, by omega, by go_num, rfl⟩, by simp [intOf]; omega⟩
              · rw [show ageOf me L a = 0 from by simp only [ageOf, if_neg hin], show ageIs L a = false from by simp only [ageIs, decide_eq_false hin]] at hage
                have hs := hDr.f.hs
                have HD := Lib.hid hDr; clear hDr
                by_cases ha0 : 0 ≤ a
                · obtain ⟨b, rfl⟩ := Int.eq_ofNat_of_zero_le ha0
                  have hbl : ¬ b < L.length := by omega
                  clear hin
                  go_wp2_with fail
                  refine hage.out.mono ?_
                  rintro e w8 ⟨rfl, rfl⟩
                  go_wp2_with fail
                  exact ⟨⟨j + 1, nd, by omega, by go_num, rfl⟩, by simp [intOf]; omega⟩
                · clear hin
                  go_wp2_with fail
                  refine hage.out.mono ?_
                  rintro e w8 ⟨rfl, rfl⟩
                  go_wp2_with fail
                  exact ⟨⟨j + 1, nd, by omega, by go_num, rfl⟩, by simp [intOf]; omega⟩
            · go_wp2_with fail
              go_roundw
              case rel => exact ⟨i + 1, by omega, by go_num, hDr.z.drewN nd, below_drewN hDr.bel nd⟩
              case measure => simp [intOf]; omega
    · go_wp2_with fail
      go_ret
      exact ⟨rfl, hb⟩
end Go.Proofs.Yteebefkojbdfjaa
