/- wire's reader at a list. -/
import Derived.Test.YtafogjonicdbmaaReadTxt
namespace Go.Proofs.Ytafogjonicdbmaa
open Go.RowKit

theorem info_val : (Try.prog.info? 26).map (fun i => (i.zero, i.size, i.bytes)) = some (some (.agg #[.int .i64 0, .int .i64 0, .float .f64 0, .string ⟨#[]⟩, .slice none 0 0]), 5, 64) := by kernel_rfl

theorem pl_none {p : List UInt8 → Option (Val × Nat)} {n : Nat} {b : List UInt8} (hn : 0 < n) (h : p b = none) : pl p n b = none := by
  obtain ⟨n, rfl⟩ : ∃ k, n = k + 1 := ⟨n - 1, by omega⟩
  simp [pl, h]
theorem pl_some {p : List UInt8 → Option (Val × Nat)} {n m : Nat} {v : Val} {b : List UInt8} (hn : 0 < n) (h : p b = some (v, m)) : pl p n b = (pl p (n - 1) (b.drop m)).map (fun x => (v :: x.1, m + x.2)) := by
  obtain ⟨n, rfl⟩ : ∃ k, n = k + 1 := ⟨n - 1, by omega⟩
  simp only [pl, h, Nat.add_sub_cancel]
  cases pl p n (b.drop m) with
  | none => rfl
  | some x => rfl

theorem pl_le {p : List UInt8 → Option (Val × Nat)} (hp : ∀ b v m, p b = some (v, m) → m ≤ b.length) : ∀ n b l m, pl p n b = some (l, m) → m ≤ b.length ∧ l.length = n := by
  intro n
  induction n with
  | zero =>
    intro b l m h
    simp only [pl, Option.some.injEq, Prod.mk.injEq] at h
    obtain ⟨rfl, rfl⟩ := h
    simp
  | succ n ih =>
    intro b l m h
    cases hb : p b with
    | none => rw [pl_none (by omega) hb] at h; cases h
    | some vm =>
      obtain ⟨v, m1⟩ := vm
      rw [pl_some (by omega) hb, Nat.add_sub_cancel] at h
      cases hb2 : pl p n (b.drop m1) with
      | none => rw [hb2] at h; cases h
      | some x =>
        rw [hb2] at h
        simp only [Option.map_some, Option.some.injEq, Prod.mk.injEq] at h
        obtain ⟨rfl, rfl⟩ := h
        have h1 := hp _ _ _ hb
        have h2 := ih _ _ _ hb2
        rw [List.length_drop] at h2
        exact ⟨by omega, by simp [h2.2]⟩
theorem readT_le (b : List UInt8) (m : Int) (h : (readT b m).2.2 = 0) : (readT b m).2.1 ≤ b.length := by
  unfold readT at *
  split at h
  · rename_i h2
    rw [if_pos h2]
    show 2 + _ ≤ _
    omega
  · cases h
theorem pv_le : ∀ (d : Nat) (b : List UInt8) (v : Val) (m : Nat), pv d b = some (v, m) → m ≤ b.length := by
  intro d
  induction d with
  | zero =>
    intro b v m h
    cases b with
    | nil => simp [pv] at h
    | cons k t =>
      unfold pv at h
      repeat' split at h
      all_goals first | (cases h; done) | skip
      all_goals (simp only [Option.some.injEq, Prod.mk.injEq] at h; obtain ⟨-, rfl⟩ := h; simp only [List.length_cons])
      all_goals first | omega | skip
      have := readT_le t 256 (by assumption)
      omega
  | succ d ih =>
    intro b v m h
    cases b with
    | nil => simp [pv] at h
    | cons k t =>
      unfold pv at h
      repeat' split at h
      all_goals first | (cases h; done) | skip
      all_goals first | (simp only [Option.some.injEq, Prod.mk.injEq] at h; obtain ⟨-, rfl⟩ := h; simp only [List.length_cons]) | skip
      all_goals first | omega | (have := readT_le t 256 (by assumption); omega) | skip
      all_goals
        rename_i h5 h4 h3 h2 h1 d1 t1 d2 n1 u1 heq1 h0 x1 l2 m2 heq2
        cases heq1
        have := (pl_le ih _ _ _ _ heq2).1
        omega

/-- The state of a list half read. -/
structure LRel (d : Nat) (b : List UInt8) (r : Nat) (ad : Addr) (c at_ n z y : Nat) (w : World) (i : Value) (wr : World) (j : Nat) (l1 : List Val) (A : Option Addr) (c' : Nat) (xs : List Value) (css : Nat → Array Value) (at' : Nat) : Prop where
  jn : j ≤ n
  jl : l1.length = j
  ii : i = .int .u64 (j : Int)
  rd : RdAt wr r (some ad) b.length c at' (d : Int)
  hat : at' ≤ b.length
  hz : Blk wr z 26 #[.int .i64 0, .int .i64 0, .float .f64 0, .string ⟨#[]⟩, .slice none 0 0]
  hy : Blk wr y 26 #[.int .i64 4, .int .i64 0, .float .f64 0, .string ⟨#[]⟩, .slice A j c']
  ho : Own wr 26 5 A j c' xs
  hA : ∀ g, bOf A = some g → y < g
  hx : ∀ k v, l1[k]? = some v → VOwn wr (fun g => y < g ∧ some g ≠ bOf A) v (css k)
  hxs : ∀ k, k < l1.length → (xs.drop (k * 5)).take 5 = (css k).toList
  hu : Upd (fun x => x = r) w wr
  hl : at_ + 2 ≤ at'
  pp : pl (pv d) n (b.drop (at_ + 2)) = (pl (pv d) (n - j) (b.drop at')).map (fun x => (l1 ++ x.1, (at' - (at_ + 2)) + x.2))

set_option maxHeartbeats 3200000 in
set_option maxRecDepth 100000 in
theorem value_list {d : Nat} {ad : Addr} {c B r at_ : Nat} {b : List UInt8} {w : World} (IH : ∀ (w : World) (at_ : Nat), RdAt w r (some ad) b.length c at_ (d : Int) → Reads w B 1 (some ad) b.length (bys b) → at_ ≤ b.length → Calls Try.prog 35 #[.pointer (some ⟨r, 0, none⟩)] w (PRes w r ad b.length c at_ (d : Int) (pv d (b.drop at_))))
    (h : RdAt w r (some ad) b.length c at_ ((d : Int) + 1)) (hr : Reads w B 1 (some ad) b.length (bys b)) (hB : B ≤ r) (hc : b.length ≤ c) (hl : b.length ≤ 1000000000) (hd : d ≤ 100)
    (hat : at_ + 2 ≤ b.length) (hv1 : readU ((b.drop at_).take 1) = 4) (n : Nat) (hn : readU ((b.drop (at_ + 1)).take 1) = n) (hn64 : n ≤ 64) (o : Option (Val × Nat)) (ho : o = (pl (pv d) n (b.drop (at_ + 2))).map (fun x => (.mk 4 0 0 [] x.1, 2 + x.2))) :
    Calls Try.prog 35 #[.pointer (some ⟨r, 0, none⟩)] w (PRes w r ad b.length c at_ ((d : Int) + 1) o) := by
  have hrl : r < w.heap.size := h.lt
  have hsf := fun a k x m w => run_store_float (P := Try.prog) a k x m w
  obtain ⟨i1, gi, gz0, gz1, gz2⟩ := info_parts info_val
  have hr0 := Lib.hid hr
  replace hv1 := Lib.hid hv1
  replace hn := Lib.hid hn
  replace ho := Lib.hid ho
  replace IH := Lib.hid IH
  go_enter Try.func35, Try.ntmps35
  go_wp2_with fail
  refine (number_ok (k := 1) (Blk.alloc h _) (hr.alloc (by omega) _) hB hc hl (by omega) (by omega) (by omega) 4 hv1.out).mono ?_
  rintro e w1 ⟨rfl, h1, hu1⟩
  dsimp only
  rw [show ((4 : Nat) : Int) = 4 from rfl]
  have hz1 : Blk w1 w.heap.size 26 #[.int .i64 0, .int .i64 0, .float .f64 0, .string ⟨#[]⟩, .slice none 0 0] := (Blk.new w _ _).upd hu1 (by omega)
  have hwl1 : w.heap.size < w1.heap.size := hz1.lt
  have hr1 := (hr.alloc (by omega) (.cells #[.int .i64 0, .int .i64 0, .float .f64 0, .string ⟨#[]⟩, .slice none 0 0] 26)).upd hu1 (by omega) (by simp; omega)
  have hu := ((Upd.refl (fun x => x = r) w).alloc (.cells #[.int .i64 0, .int .i64 0, .float .f64 0, .string ⟨#[]⟩, .slice none 0 0] 26)).trans hu1 (fun _ _ h => h)
  have hz2 := hz1.alloc (.cells #[.int .i64 4, .int .i64 0, .float .f64 0, .string ⟨#[]⟩, .slice none 0 0] 26)
  have hy2 := Blk.new w1 26 #[.int .i64 4, .int .i64 0, .float .f64 0, .string ⟨#[]⟩, .slice none 0 0]
  have h2 := Blk.alloc h1 (.cells #[.int .i64 4, .int .i64 0, .float .f64 0, .string ⟨#[]⟩, .slice none 0 0] 26)
  have hu2 := hu.alloc (.cells #[.int .i64 4, .int .i64 0, .float .f64 0, .string ⟨#[]⟩, .slice none 0 0] 26)
  have hr2 := hr1.alloc (by omega) (.cells #[.int .i64 4, .int .i64 0, .float .f64 0, .string ⟨#[]⟩, .slice none 0 0] 26)
  have hs2 : (w1.alloc (.cells #[.int .i64 4, .int .i64 0, .float .f64 0, .string ⟨#[]⟩, .slice none 0 0] 26)).heap.size = w1.heap.size + 1 := by simp
  clear hz1 hr1 hu h1 hu1 h hr
  have q2 := Blk.cell h2 2
  go_wp2_with fail
  generalize w1.alloc (.cells #[.int .i64 4, .int .i64 0, .float .f64 0, .string ⟨#[]⟩, .slice none 0 0] 26) = w2 at *
  generalize w1.heap.size = y at *
  refine (must_ok w2).mono ?_
  rintro e w3 ⟨rfl, rfl⟩
  dsimp only
  have fr2 := Blk.frozen h2 2
  have hry : r ≠ y := by omega
  have hrz : r ≠ w.heap.size := by omega
  have hzy : w.heap.size ≠ y := by omega
  have h3 : RdAt (w2.setCell ⟨r, 2, none⟩ (.int .i64 (d : Int))) r (some ad) b.length c (at_ + 1) (d : Int) := Blk.set_ h2 2 (.int .i64 (d : Int))
  have hz3 := hz2.far (p := ⟨r, 2, none⟩) hrz.symm (.int .i64 (d : Int))
  have hy3 := hy2.far (p := ⟨r, 2, none⟩) hry.symm (.int .i64 (d : Int))
  have hu3 := hu2.setCell (p := ⟨r, 2, none⟩) (fun _ => rfl) (.int .i64 (d : Int))
  have hr3 := hr2.setCell (p := ⟨r, 2, none⟩) hB (.int .i64 (d : Int))
  have hs3 : (w2.setCell ⟨r, 2, none⟩ (.int .i64 (d : Int))).heap.size = y + 1 := by simp [hs2]
  have hd1 : (d : Int) + 1 - 1 = (d : Int) := by omega
  clear hz2 hy2 hu2 hr2 hs2
  replace h2 := Lib.hid h2
  go_wp2_with fail
  generalize w2.setCell ⟨r, 2, none⟩ (.int .i64 (d : Int)) = w3 at *
  clear h2 q2 fr2 hd1 w2
  refine (number_ok (k := 1) h3 hr3 hB hc hl (by omega) (by omega) (by omega) n hn.out).mono ?_
  rintro e w4 ⟨rfl, h4, hu4'⟩
  dsimp only
  have hz4 := hz3.upd hu4' (by omega)
  have hy4 := hy3.upd hu4' (by omega)
  have hu4 := hu3.trans hu4' (fun _ _ h => h)
  have hr4 := hr3.upd hu4' (by omega) (by omega)
  have hs4 : y < w4.heap.size := hy4.lt
  clear hz3 hy3 hu3 hr3 hs3 h3 hu4'
  go_wp2_with fail
  rw [show decide ((n : Int) ≤ 64) = true from decide_eq_true (by omega)]
  refine (must_ok w4).mono ?_
  rintro e w5 ⟨rfl, rfl⟩
  dsimp only
  go_wp2_with fail
  obtain ⟨z, hz⟩ : ∃ z, w.heap.size = z := ⟨_, rfl⟩
  rw [hz] at hz4 hrl hrz hzy hwl1 ⊢
  replace hz := Lib.hid hz
  go_loopw [87] (fun i wr => ∃ j l1 A c' xs css at', LRel d b r ad c at_ n z y w i wr j l1 A c' xs css at') (fun i _ => n - (intOf i).toNat)
  case atStart => exact ⟨0, [], none, 0, [], fun _ => #[], at_ + 2, ⟨Nat.zero_le _, rfl, rfl, h4, hat, hz4, hy4, Own.none_, by simp [bOf], by simp, by simp, hu4, Nat.le_refl _, by simp⟩⟩
  case round =>
    rename_i hrel
    obtain ⟨j, l1, A, c', xs, css, at', R⟩ := hrel
    have hii := R.ii
    subst hii
    have hjn := R.jn
    have hyl := R.hy.lt
    have hrr := hr4
    by_cases hlt : j < n
    · have hS : wr.drew.cell? ⟨y, 4, none⟩ = some (.slice A j c') := R.hy.cell 4
      go_wp2_with fail
      refine wp_region_lex (fun W => W.cell? ⟨y, 4, none⟩ = some (.slice A j c')) [1] [3, 4, 5, 7] [0, 1, 2, 3, 4, 5, 6, 7] (by kernel_rfl) rfl (by kernel_rfl) (by kernel_rfl) (fun _ _ d _ _ h => by cases d <;> exact h) ?_
      repeat (first | (refine lexG_take _ ?_ rfl rfl rfl rfl (fun _ => ?_) ?_; rotate_left; (focus (go_simp; with_reducible rfl)); try simp only [Act.put, List.setIfInBounds_toArray, List.set_cons_zero, List.set_cons_succ]) | (refine lexG_held _ ?_ rfl rfl rfl rfl (by assumption) (fun _ hSw => ?_) ?_; rotate_left; (focus ((try dsimp only at hSw); go_simp; with_reducible rfl)); try simp only [Act.put, List.setIfInBounds_toArray, List.set_cons_zero, List.set_cons_succ]) | (refine lexG_skip _ rfl rfl (by assumption) ?_; try simp only [Act.put, List.setIfInBounds_toArray, List.set_cons_zero, List.set_cons_succ]))
      refine lexG_now _ rfl rfl rfl (fun K hK => ?_)
      go_wp2_with fail
      have hrd : Reads wr.drew B 1 (some ad) b.length (bys b) := (hr0.out.upd R.hu (by omega) (by rw [hz.out]; omega)).drew
      refine (IH.out wr.drew at' (Blk.drew R.rd) hrd R.hat).mono ?_
      cases hpv : pv d (b.drop at') with
      | none =>
        rintro e w6 ⟨rfl, hu6⟩
        dsimp only
        have ho' : o = none := by rw [ho.out, R.pp, pl_none (by omega) hpv]; rfl
        have hu7 := R.hu.drew.trans hu6 (fun _ _ h => h)
        clear R hK K hS hpv
        go_wp2_with fail
        refine ⟨rfl, ?_⟩
        rw [ho']
        exact ⟨rfl, hu7⟩
      | some vm =>
        obtain ⟨v, m⟩ := vm
        rintro e w6 ⟨cs, rfl, hv6, hR6, hu6⟩
        dsimp only
        have hz6 := R.hz.drew.upd hu6 (by omega)
        have hy6 := R.hy.drew.upd hu6 (by omega)
        have ho6 := R.ho.drew.upd hu6 (fun g hg e => by have := R.hA g hg; omega)
        have hAl : ∀ g, bOf A = some g → g < wr.heap.size := fun g hg => R.ho.lt hg
        have hwr6 : wr.heap.size ≤ w6.heap.size := by have := hu6.size; simpa using this
        refine hK _ _ _ (fun _ h => h) (hy6.cell 4) ?_
        clear hK K hS
        try simp only [Act.put, List.setIfInBounds_toArray, List.set_cons_zero, List.set_cons_succ]
        have hcs5 := hv6.size
        have hone := hv6.one
        obtain ⟨a0, a1, a2, a3, a4, rfl⟩ : ∃ a0 a1 a2 a3 a4, cs = #[a0, a1, a2, a3, a4] := by
          match cs, hcs5 with
          | ⟨[a0, a1, a2, a3, a4]⟩, _ => exact ⟨a0, a1, a2, a3, a4, rfl⟩
        have hz7 := hz6.alloc (.cells #[a0, a1, a2, a3, a4] 26)
        have hy7 := hy6.alloc (.cells #[a0, a1, a2, a3, a4] 26)
        have ho7 := ho6.alloc (.cells #[a0, a1, a2, a3, a4] 26)
        have hsrc := Reads.lit (size := 5) w6 #[a0, a1, a2, a3, a4] 26 (0, 0) 1 [a0, a1, a2, a3, a4] rfl rfl
        refine lexG_now _ rfl rfl rfl (fun K hK => ?_)
        go_wp2_with fail
        refine hK _ _ _ (fun _ h => h) (hy7.cell 4) ?_
        clear hK K
        try simp only [Act.put, List.setIfInBounds_toArray, List.set_cons_zero, List.set_cons_succ]
        repeat (first | (refine lexG_take _ ?_ rfl rfl rfl rfl (fun _ => ?_) ?_; rotate_left; (focus (go_simp; with_reducible rfl)); try simp only [Act.put, List.setIfInBounds_toArray, List.set_cons_zero, List.set_cons_succ]) | (refine lexG_held _ ?_ rfl rfl rfl rfl (by assumption) (fun _ hSw => ?_) ?_; rotate_left; (focus ((try dsimp only at hSw); go_simp; with_reducible rfl)); try simp only [Act.put, List.setIfInBounds_toArray, List.set_cons_zero, List.set_cons_succ]) | (refine lexG_skip _ rfl rfl (by assumption) ?_; try simp only [Act.put, List.setIfInBounds_toArray, List.set_cons_zero, List.set_cons_succ]))
        refine lexG_now _ rfl rfl rfl (fun K hK => ?_)
        refine wp_append_mine _ _ 24 24 rfl 26 i1 _ 5 64 Try.underlying24 gi gz0 gz1 gz2 rfl rfl ho7 rfl (Src.ofReads Try.underlying24 _ hsrc (by intro u hu; exact hone u (by simpa using hu))) (by unfold maxLen; omega) (by omega) (fun A8 c8 w8 ho8 hg8 hat8 => ?_)
        have hz8 := hz7.grown hg8 (fun e => by have := R.hA z e.symm; omega)
        have hy8 := hy7.grown hg8 (fun e => by have := R.hA y e.symm; omega)
        refine hK _ _ _ (fun _ h => h) (hy8.cell 4) ?_
        clear hK K
        try simp only [Act.put, List.setIfInBounds_toArray, List.set_cons_zero, List.set_cons_succ]
        repeat (first | (refine lexG_take _ ?_ rfl rfl rfl rfl (fun _ => ?_) ?_; rotate_left; (focus (go_simp; with_reducible rfl)); try simp only [Act.put, List.setIfInBounds_toArray, List.set_cons_zero, List.set_cons_succ]) | (refine lexG_held _ ?_ rfl rfl rfl rfl (by assumption) (fun _ hSw => ?_) ?_; rotate_left; (focus ((try dsimp only at hSw); go_simp; with_reducible rfl)); try simp only [Act.put, List.setIfInBounds_toArray, List.set_cons_zero, List.set_cons_succ]) | (refine lexG_skip _ rfl rfl (by assumption) ?_; try simp only [Act.put, List.setIfInBounds_toArray, List.set_cons_zero, List.set_cons_succ]))
        refine lexG_nowF _ rfl rfl rfl (by kernel_rfl) (fun K hK => ?_)
        have y84 := hy8.cell 4
        have yf8 := hy8.frozen
        go_simp
        refine hK _ _ ?_
        clear hK K
        refine lexG_nil ?_
        have hm := pv_le _ _ _ _ hpv
        rw [List.length_drop] at hm
        have hw78 : (w6.alloc (.cells #[a0, a1, a2, a3, a4] 26)).heap.size = w6.heap.size + 1 := by simp
        have hw8 : w6.heap.size + 1 ≤ w8.heap.size := by have := hg8.size; omega
        have hy9 := hy8.set_ 4 (.slice A8 (j + 1) c8)
        have hz9 := hz8.far (p := ⟨y, 4, none⟩) (by show z ≠ y; exact hzy) (.slice A8 (j + 1) c8)
        have hA8 : ∀ g, bOf A8 = some g → y < g := by
          rcases hat8 with e | e
          · rw [e]; exact R.hA
          · intro g hg
            rw [e, hw78] at hg
            cases hg
            omega
        have ho9 := ho8.setCell (p := ⟨y, 4, none⟩) (fun e => by have := hA8 y e; omega) (.slice A8 (j + 1) c8)
        have hR7 := (Blk.alloc hR6 (.cells #[a0, a1, a2, a3, a4] 26)).grown hg8 (fun e => by have := R.hA r e.symm; omega)
        have hR9 := Blk.far hR7 (p := ⟨y, 4, none⟩) hry (.slice A8 (j + 1) c8)
        have hu9 : Upd (fun x => x = r ∨ some x = bOf A ∨ x = y) wr (w8.setCell ⟨y, 4, none⟩ (.slice A8 (j + 1) c8)) :=
          (((((Upd.refl _ wr).drew).trans (hu6.mono (T := fun x => x = r ∨ some x = bOf A ∨ x = y) (fun _ _ h => .inl h)) (fun _ _ h => h)).alloc _).grown hg8 (fun k e _ => .inr (.inl e.symm))).setCell (p := ⟨y, 4, none⟩) (fun _ => .inr (.inr rfl)) _
        have hu69 : Upd (fun x => some x = bOf A ∨ x = y) w6 (w8.setCell ⟨y, 4, none⟩ (.slice A8 (j + 1) c8)) :=
          (((Upd.refl _ w6).alloc _).grown hg8 (fun k e _ => .inl e.symm)).setCell (p := ⟨y, 4, none⟩) (fun _ => .inr rfl) _
        have huw : Upd (fun x => x = r) w (w8.setCell ⟨y, 4, none⟩ (.slice A8 (j + 1) c8)) :=
          ((((R.hu.drew).trans hu6 (fun _ _ h => h)).alloc _).grown hg8 (fun k e hk => by have := R.hA k e; rw [hz.out] at hk; omega)).setCell (p := ⟨y, 4, none⟩) (fun h => by exfalso; have h : y < w.heap.size := h; rw [hz.out] at h; omega) _
        have hfresh : ∀ g, g < w6.heap.size → some g ≠ bOf A → some g ≠ bOf A8 := by
          intro g hg hne
          rcases hat8 with e | e
          · rw [e]; exact hne
          · rw [e, hw78]
            intro e2
            cases e2
            omega
        have hxl : xs.length = l1.length * 5 := by rw [R.jl]; exact R.ho.1
        have hnew : LRel d b r ad c at_ n z y w (.int .u64 ((j + 1 : Nat) : Int)) (w8.setCell ⟨y, 4, none⟩ (.slice A8 (j + 1) c8)) (j + 1) (l1 ++ [v]) A8 c8 (xs ++ [a0, a1, a2, a3, a4]) (fun k => if k = l1.length then #[a0, a1, a2, a3, a4] else css k) (at' + m) := by
          refine ⟨by omega, by simp [R.jl], rfl, hR9, by have := R.hat; omega, hz9, hy9, ho9, hA8, ?_, ?_, huw, by have := R.hl; omega, ?_⟩
          · intro k u hku
            by_cases hk : k < l1.length
            · rw [List.getElem?_append_left hk] at hku
              show VOwn _ _ u (if k = l1.length then _ else css k)
              rw [if_neg (by omega)]
              refine ((((R.hx k u hku).mono (Q := fun g => (y < g ∧ some g ≠ bOf A) ∧ g < wr.heap.size) (fun g h1 h2 => ⟨h2, h1⟩))).upd hu9 (fun g hg e => ?_)).mono (fun g _ hg => ⟨hg.1.1, hfresh g (by omega) hg.1.2⟩)
              rcases e with e | e | e
              · omega
              · exact hg.1.2 e
              · omega
            · rw [List.getElem?_append_right (by omega)] at hku
              have hk0 : k = l1.length := by
                have := (List.getElem?_eq_some_iff.1 hku).1
                simp at this; omega
              subst hk0
              simp at hku
              subst hku
              show VOwn _ _ v (if l1.length = l1.length then _ else _)
              rw [if_pos rfl]
              refine ((hv6.mono (Q := fun g => wr.heap.size ≤ g ∧ g < w6.heap.size) (fun g h1 h2 => ⟨by simpa using h2, h1⟩)).upd hu69 (fun g hg e => ?_)).mono (fun g _ hg => ⟨by omega, hfresh g hg.2 (fun e => by have := hAl g e.symm; omega)⟩)
              rcases e with e | e
              · have := hAl g e.symm; omega
              · omega
          · intro k hk
            show _ = (if k = l1.length then _ else css k).toList
            by_cases hk2 : k < l1.length
            · rw [if_neg (by omega), ← R.hxs k hk2, List.drop_append_of_le_length (by omega), List.take_append_of_le_length (by rw [List.length_drop, hxl]; omega)]
            · have hk0 : k = l1.length := by simp at hk; omega
              subst hk0
              rw [if_pos rfl, ← hxl, List.drop_left]
              rfl
          · rw [R.pp, pl_some (by omega) hpv, List.drop_drop]
            rw [show n - j - 1 = n - (j + 1) from by omega]
            cases pl (pv d) (n - (j + 1)) (b.drop (at' + m)) with
            | none => rfl
            | some x =>
              have := R.hl
              simp only [Option.map_some, List.append_assoc, List.singleton_append]
              rw [show at' - (at_ + 2) + (m + x.2) = at' + m - (at_ + 2) + x.2 from by omega]
        clear hu9 hu69 huw hR9 hR7 ho9 hz9 hy9 hfresh hxl hm hv6 hR6 hz6 hy6 ho6 hsrc hz7 hy7 ho7 hz8 hy8 ho8 hg8 hat8 y84 yf8 hone hcs5
        replace hnew := Lib.hid hnew
        go_wp2_with fail
        refine ⟨⟨j + 1, l1 ++ [v], A8, c8, xs ++ [a0, a1, a2, a3, a4], (fun k => if k = l1.length then #[a0, a1, a2, a3, a4] else css k), at' + m, ?_⟩, by simp [intOf]; omega⟩
        have e : (((j + 1 : Nat) : Int)) = (j : Int) + 1 := by omega
        have h := hnew.out
        rw [e] at h
        exact h
    · have hjn' : j = n := by omega
      subst hjn'
      have g0 := Blk.cell R.rd 2
      have gf := Blk.frozen R.rd 2
      have y0 := R.hy.cell 0
      have y1 := R.hy.cell 1
      have y2 := R.hy.cell 2
      have y3 := R.hy.cell 3
      have y4 := R.hy.cell 4
      have hzs := R.hz.far (p := ⟨r, 2, none⟩) hrz.symm (.int .i64 ((d : Int) + 1))
      have hRs := Blk.set_ R.rd 2 (.int .i64 ((d : Int) + 1))
      have hus := R.hu.setCell (p := ⟨r, 2, none⟩) (fun _ => rfl) (.int .i64 ((d : Int) + 1))
      have hzf := hzs.row #[.int .i64 4, .int .i64 0, .float .f64 0, .string ⟨#[]⟩, .slice A j c']
      have hRf := Blk.farRow hRs (g := z) hrz #[.int .i64 4, .int .i64 0, .float .f64 0, .string ⟨#[]⟩, .slice A j c']
      have hUf := hus.setRow (g := z) (fun h => absurd h (by rw [hz.out]; exact Nat.lt_irrefl _)) #[.int .i64 4, .int .i64 0, .float .f64 0, .string ⟨#[]⟩, .slice A j c']
      replace hRs := Lib.hid hRs
      replace hus := Lib.hid hus
      have R' := Lib.hid R
      clear R
      go_wp2_with (refine store_row_gen rfl 26 (Operand.tmp 2) _ rfl z #[.int .i64 4, .int .i64 0, .float .f64 0, .string ⟨#[]⟩, .slice A j c'] rfl rfl 26 _ hzs (by kernel_rfl) rfl (by simp [Value.oneCell']) (fun w6 hw6 => ?_); rw [← hw6] at hzf hRf hUf; have hw7 := Lib.hid hw6; clear hw6 hzs)
      have R := R'.out
      have hjl := R.jl
      have hw6 := hw7.out
      have ho' : o = some (.mk 4 0 0 [] l1, 2 + (at' - (at_ + 2))) := by
        rw [ho.out, R.pp, Nat.sub_self]
        simp [pl]
      have hupd : Upd (fun x => x = r ∨ x = z) wr w6 := by
        rw [hw6]
        exact ((Upd.refl _ wr).setCell (p := ⟨r, 2, none⟩) (fun _ => .inl rfl) _).setRow (fun _ => .inr rfl) _
      have hout : VOwn w6 (fun g => w.heap.size ≤ g) (.mk 4 0 0 [] l1) #[.int .i64 4, .int .i64 0, .float .f64 0, .string (bstr []), .slice A l1.length c'] := by
        refine .mk css (by omega) ?_ ?_ ?_ R.hxs
        · rw [hjl]
          exact R.ho.upd hupd (fun g hg e => by have := R.hA g hg; omega)
        · intro g hg
          have := R.hA g hg
          rw [hz.out]; omega
        · intro k v hv
          refine ((R.hx k v hv).upd hupd (fun g hg e => by omega)).mono (fun g _ hg => ?_)
          rw [hz.out]; omega
      rw [hjl] at hout
      refine bodyPost_ret (v := .agg #[.int .i64 4, .int .i64 0, .float .f64 0, .string (bstr []), .slice A j c']) ?hr rfl ?_
      case hr => exact results_cell_row rfl _ _ z 26 _ (0, 0) _ rfl hzf Try.underlying26 rfl (by kernel_rfl)
      rw [ho']
      refine ⟨_, rfl, hout, ?_, hUf⟩
      rw [show at_ + (2 + (at' - (at_ + 2))) = at' from by have := R.hl; omega]
      exact hRf
end Go.Proofs.Ytafogjonicdbmaa
