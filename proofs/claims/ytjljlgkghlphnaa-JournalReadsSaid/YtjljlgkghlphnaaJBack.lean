/- JournalBack's walk. -/
import Derived.Test.YtjljlgkghlphnaaJ3
import Derived.Test.YtjljlgkghlphnaaJ4
import Derived.Test.YtjljlgkghlphnaaJArg
set_option linter.unusedSimpArgs false
set_option linter.unusedVariables false
namespace Go.Proofs.Ytjljlgkghlphnaa
open Go.RowKit
set_option maxRecDepth 100000

theorem opened_framed (p more : List UInt8) (hp : p.length ≤ 65536) : opened (framed p ++ more) = (p, 8 + p.length, 0) := by
  have h4 : (framed p ++ more).take 4 = putU p.length 4 := by simp only [framed, List.append_assoc]; exact take_putU _
  have hd4 : (framed p ++ more).drop 4 = putU (fsum p) 4 ++ (p ++ more) := by simp only [framed, List.append_assoc]; exact drop_putU _
  have hd8 : (framed p ++ more).drop 8 = p ++ more := by
    rw [show (8 : Nat) = 4 + 4 from rfl, ← List.drop_drop, hd4]; exact drop_putU _
  have hn : readU (putU p.length 4) = p.length := by rw [readU_put]; exact Nat.mod_eq_of_lt (by omega)
  have hs : readU (putU (fsum p) 4) = fsum p := by rw [readU_put]; exact Nat.mod_eq_of_lt (fsum_lt p)
  have hl : (framed p ++ more).length = 8 + p.length + more.length := by rw [List.length_append, framed_len]
  unfold opened
  rw [if_neg (by omega), h4, hn, if_neg (by omega), if_neg (by omega), hd8, hd4, take_putU, hs, List.take_left, if_pos rfl]
theorem errJ_zero {r : RecD} (h : errJ r = 0) : errP r = 0 ∧ (bytesP r).length ≤ 65536 := by
  unfold errJ at h
  by_cases h1 : errP r ≠ 0
  · rw [if_pos h1] at h; exact absurd h h1
  · rw [if_neg h1] at h
    refine ⟨Decidable.not_not.1 h1, ?_⟩
    by_cases h2 : 65536 < (bytesP r).length
    · rw [if_pos h2] at h; cases h
    · omega

structure BkRel (w wr : World) (z kb : Nat) (rc ks : Array Value) (j : Nat) : Prop where
  j5 : j ≤ 5
  hz : Blk wr z 32 rc
  hk : Blk wr kb 3 ks
  hb : Below w.heap.size w wr

set_option maxHeartbeats 12800000 in
theorem journalBack_walk (D : Option Addr) (cd : Nat) (b : List UInt8) (r : RecD) (ca : Array Value) (w : World) (h : Reads w w.heap.size 1 D b.length (bys b)) (hcd : b.length ≤ cd) (hr : RecIs w r ca) :
    Calls Try.prog 3 #[.slice D b.length cd, .agg ca] w (Says w (.bool true)) := by
  obtain ⟨gg, mm, A, K, cc, rfl, ho, hv, -, -⟩ := hr
  obtain ⟨k, v, nn, ⟨c, s, n, g, m, l⟩⟩ := r
  dsimp only at ho hv ⊢
  have hz0 := Blk.new w 32 #[.int .i64 k, .int .u64 (v : Int), .int .i64 nn, .int .u32 (c : Int), .int .u32 (s : Int), .int .u16 (n : Int), .string gg, .string mm, .slice A K cc]
  have hb0 := (Below.refl w.heap.size w).alloc (Nat.le_refl _) (.cells #[.int .i64 k, .int .u64 (v : Int), .int .i64 nn, .int .u32 (c : Int), .int .u32 (s : Int), .int .u16 (n : Int), .string gg, .string mm, .slice A K cc] 32)
  have hok : (∀ v ∈ l, OkV v) ∧ c < 4294967296 ∧ s < 4294967296 ∧ n < 65536 := by
    obtain ⟨_, _, _, _, -, -, -, -, -, h1, h2, h3, h4⟩ := ho
    exact ⟨h1, h2, h3, h4⟩
  obtain ⟨N, hN⟩ : ∃ N, b.length = N := ⟨_, rfl⟩
  have hrd : ∀ W, Below w.heap.size w W → Reads W W.heap.size 1 D b.length (bys b) := fun W hW => (h.below hW).more hW.size
  have hop : ∀ W, Below w.heap.size w W → OpReads W W.heap.size ⟨c, s, n, g, m, l⟩ #[.int .u32 (c : Int), .int .u32 (s : Int), .int .u16 (n : Int), .string gg, .string mm, .slice A K cc] := fun W hW => (ho.below hW).up hW.size
  rw [hN] at hcd ⊢
  replace hz0 := Lib.hid hz0
  replace hrd := Lib.hid hrd
  replace hop := Lib.hid hop
  replace hok := Lib.hid hok
  replace hN := Lib.hid hN
  clear h ho
  go_enter Try.func3, Try.ntmps3
  go_wp2_with fail
  refine (known_true _).mono ?_
  rintro e w1 ⟨rfl, hb1'⟩
  try dsimp only
  have hb1 := below_then hb1' hb0
  have hz1 := hz0.out.below hb1' hz0.out.lt
  clear hz0 hb0 hb1'
  obtain ⟨z, hzz⟩ : ∃ z, w.heap.size = z := ⟨_, rfl⟩
  have hwz : w.heap.size ≤ z := by omega
  rw [hzz] at hz1 ⊢
  replace hzz := Lib.hid hzz
  by_cases h100 : 100 < N
  · have d1 : decide ((100 : Int) < (N : Int)) = true := decide_eq_true (by omega)
    go_wp2_with fail
    go_ret
    exact ⟨rfl, hb1⟩
  have d1 : decide ((100 : Int) < (N : Int)) = false := decide_eq_false (by omega)
  have e1 := hz1.rec9
  have hli := light_op (hop.out w1 hb1) w1 (Below.refl _ _) (Nat.le_refl _)
  go_wp2_with fail
  refine hli.mono ?_
  clear hli e1
  rintro e w2 ⟨qq, rfl, hq, hb2'⟩
  try dsimp only
  have hb2 := below_then hb2' hb1
  have hz2 := hz1.below hb2' hz1.lt
  clear hz1 hb2' hb1
  cases qq
  · go_wp2_with fail
    go_ret
    exact ⟨rfl, hb2⟩
  obtain ⟨hlg, hlm, -⟩ := hq rfl
  try dsimp only at hlg hlm
  clear hq d1
  have e2 := hz2.rec9
  have hk3 := Blk.new w2 3 #[.int .i64 k, .int .i64 1, .int .i64 2, .int .i64 3, .int .i64 4]
  have hz3 := hz2.alloc (.cells #[.int .i64 k, .int .i64 1, .int .i64 2, .int .i64 3, .int .i64 4] 3)
  have hb3 := hb2.alloc hb2.size (.cells #[.int .i64 k, .int .i64 1, .int .i64 2, .int .i64 3, .int .i64 4] 3)
  go_wp2_with fail
  clear e2 hz2 hb2
  generalize w2.alloc (.cells #[.int .i64 k, .int .i64 1, .int .i64 2, .int .i64 3, .int .i64 4] 3) = w3 at *
  obtain ⟨kb, hkb⟩ : ∃ kb, w2.heap.size = kb := ⟨_, rfl⟩
  rw [hkb] at hk3 ⊢
  clear hkb
  go_loopw [34] (fun ii wr => ∃ j : Nat, ii = .int .i64 (j : Int) ∧ BkRel w wr z kb #[.int .i64 k, .int .u64 (v : Int), .int .i64 nn, .int .u32 (c : Int), .int .u32 (s : Int), .int .u16 (n : Int), .string gg, .string mm, .slice A K cc] #[.int .i64 k, .int .i64 1, .int .i64 2, .int .i64 3, .int .i64 4] j) (fun ii _ => 6 - (intOf ii).toNat)
  case atStart => exact ⟨0, rfl, ⟨by omega, hz3, hk3, hb3⟩⟩
  case round =>
    obtain ⟨j, rfl, ⟨hj5, hzr, hkr, hbr⟩⟩ := hrel
    by_cases hlt : j < 5
    · obtain ⟨q, hq⟩ : ∃ q : Int, wr.cell? ⟨kb, j, none⟩ = some (.int .i64 q) := by
        have h5 : j = 0 ∨ j = 1 ∨ j = 2 ∨ j = 3 ∨ j = 4 := by omega
        rcases h5 with rfl | rfl | rfl | rfl | rfl
        · exact ⟨_, hkr.cell 0⟩
        · exact ⟨_, hkr.cell 1⟩
        · exact ⟨_, hkr.cell 2⟩
        · exact ⟨_, hkr.cell 3⟩
        · exact ⟨_, hkr.cell 4⟩
      have hzc := hzr.rec9
      have hyS := Blk.new wr 32 #[.int .i64 q, .int .u64 (v : Int), .int .i64 nn, .int .u32 (c : Int), .int .u32 (s : Int), .int .u16 (n : Int), .string gg, .string mm, .slice A K cc]
      have hzl := hzr.lt
      have hkl := hkr.lt
      have hz5 := hzr.alloc (.cells #[.int .i64 q, .int .u64 (v : Int), .int .i64 nn, .int .u32 (c : Int), .int .u32 (s : Int), .int .u16 (n : Int), .string gg, .string mm, .slice A K cc] 32)
      have hk5 := hkr.alloc (.cells #[.int .i64 q, .int .u64 (v : Int), .int .i64 nn, .int .u32 (c : Int), .int .u32 (s : Int), .int .u16 (n : Int), .string gg, .string mm, .slice A K cc] 32)
      have hb5 := hbr.alloc hbr.size (.cells #[.int .i64 q, .int .u64 (v : Int), .int .i64 nn, .int .u32 (c : Int), .int .u32 (s : Int), .int .u16 (n : Int), .string gg, .string mm, .slice A K cc] 32)
      have hyc := hyS.rec9
      have d2 : decide ((j : Int) < 5) = true := decide_eq_true (by omega)
      go_upto_region 10 with (fail)
      generalize wr.alloc (.cells #[.int .i64 q, .int .u64 (v : Int), .int .i64 nn, .int .u32 (c : Int), .int .u32 (s : Int), .int .u16 (n : Int), .string gg, .string mm, .slice A K cc] 32) = w5 at *
      generalize wr.heap.size = y at *
      clear hq hzc hzr hkr hbr
      have hput := jput_walk (k := q) (n := nn) (c0 := cd) (hop.out w5 hb5) (Nat.le_refl _) hv (by omega) (by omega) (hrd.out w5 hb5) (by rw [hN.out]; omega)
      have hrput := fun W (hW : Below w5.heap.size w5 W) => rput_walk (k := q) (n := nn) (hop.out W (below_then hW hb5)) (Nat.le_refl _) hv (by omega) (by omega) (hrd.out W (below_then hW hb5)) (by rw [hN.out]; omega)
      rw [hN.out] at hput hrput
      have henc := rdRec_enc ⟨q, v, nn, ⟨c, s, n, g, m, l⟩⟩ hv hok.out.1 hok.out.2.1 hok.out.2.2.1 hok.out.2.2.2
      have hle := bytesP_le (r := ⟨q, v, nn, ⟨c, s, n, g, m, l⟩⟩)
      have hez := errJ_zero (r := ⟨q, v, nn, ⟨c, s, n, g, m, l⟩⟩)
      obtain ⟨E, hE⟩ : ∃ E, errJ ⟨q, v, nn, ⟨c, s, n, g, m, l⟩⟩ = E := ⟨_, rfl⟩
      obtain ⟨P, hP⟩ : ∃ P, bytesP ⟨q, v, nn, ⟨c, s, n, g, m, l⟩⟩ = P := ⟨_, rfl⟩
      rw [hE, hP] at hput hrput hez
      rw [hP] at henc hle
      obtain ⟨F, hF⟩ : ∃ F, b ++ framed P = F := ⟨_, rfl⟩
      rw [hF] at hput hrput
      clear hE hP
      replace hrput := Lib.hid hrput
      replace henc := Lib.hid henc
      replace hle := Lib.hid hle
      replace hez := Lib.hid hez
      replace hF := Lib.hid hF
      have hS0 : Below w5.heap.size w5 w5 := Below.refl _ _
      by_cases hE0 : E = 0
      · subst hE0
        replace hput := hput.mono (fun e w' h => h.1 rfl)
        replace hrput := fun W hW => (hrput.out W hW).mono (fun e w' h => h.1 rfl)
        obtain ⟨he0, hPl⟩ := hez.out rfl
        obtain ⟨x, hx⟩ := henc.out he0
        have hFd : F.drop N = framed P := by rw [← hF.out, ← hN.out, List.drop_left]
        have hFl : F.length = N + (8 + P.length) := by rw [← hF.out, List.length_append, framed_len, hN.out]
        have hof := opened_framed P [] hPl
        rw [List.append_nil] at hof
        replace hrput := Lib.hid hrput
        replace hof := Lib.hid hof
        replace hx := Lib.hid hx
        replace hFd := Lib.hid hFd
        clear henc hle hez hF he0
        unfold PutOk at hput
        obtain ⟨L, hL⟩ : ∃ L, F.length = L := ⟨_, rfl⟩
        rw [hL] at hput hFl
        replace hL := Lib.hid hL
        have hLn : N < L := by omega
        have hL8 : L - N = 8 + P.length := by omega
        have hLb : L ≤ 1000000 := by omega
        replace hL8 := Lib.hid hL8
        clear hFl
        go_wp2_with fail
        refine hput.mono ?_
        clear hput
        rintro e w6 ⟨A6, c6, rfl, ho6, hb6', hg6⟩
        try dsimp only
        have hb6 := below_then hb6' hb5
        have hz6 := hz5.below hb6' hz5.lt
        have hk6 := hk5.below hb6' hk5.lt
        have hy6 := hyS.below hb6' hyS.lt
        have hS6 : Below w6.heap.size w6 w6.drew := (Below.refl _ _).drew
        have hrp := fun W (hW : Below w6.heap.size w6 W) => hrput.out W (below_then hW hb6')
        replace hrp := Lib.hid hrp
        clear hrput hyc hyS hS0
        have hyS := hy6
        go_wp2_with fail
        refine wp_region_lex (fun W => Below w6.heap.size w6 W) [6] [7, 8] [0, 1, 2, 3, 4, 5, 6, 7, 8, 9, 10, 11, 12, 13] (by kernel_rfl) rfl (by kernel_rfl) (by kernel_rfl) (fun _ _ d _ _ h => by cases d <;> exact h) ?_
        repeat (first | (refine lexG_take _ ?_ rfl rfl rfl rfl (fun _ => ?_) ?_; rotate_left; (focus (go_simp; with_reducible rfl)); try simp only [Act.put, List.setIfInBounds_toArray, List.set_cons_zero, List.set_cons_succ]) | (refine lexG_held _ ?_ rfl rfl rfl rfl (by assumption) (fun _ hSw => ?_) ?_; rotate_left; (focus (have h1 := (hyS.below hSw hyS.lt).rec9; clear hSw; go_simp; with_reducible rfl)); try simp only [Act.put, List.setIfInBounds_toArray, List.set_cons_zero, List.set_cons_succ]) | (refine lexG_skip _ rfl rfl (by assumption) ?_; try simp only [Act.put, List.setIfInBounds_toArray, List.set_cons_zero, List.set_cons_succ]))
        refine lexG_now _ rfl rfl rfl (fun K0 hK => ?_)
        go_wp2_with fail
        refine (ref_same w6.drew).mono ?_
        rintro e w7 ⟨rfl, hb7⟩
        try dsimp only
        have hS7 := below_then hb7 hS6
        refine hK _ _ _ (fun _ h => h) hS7 ?_
        clear hK K0
        try simp only [Act.put, List.setIfInBounds_toArray, List.set_cons_zero, List.set_cons_succ]
        repeat (first | (refine lexG_take _ ?_ rfl rfl rfl rfl (fun _ => ?_) ?_; rotate_left; (focus (go_simp; with_reducible rfl)); try simp only [Act.put, List.setIfInBounds_toArray, List.set_cons_zero, List.set_cons_succ]) | (refine lexG_held _ ?_ rfl rfl rfl rfl (by assumption) (fun _ hSw => ?_) ?_; rotate_left; (focus (have h1 := (hyS.below hSw hyS.lt).rec9; clear hSw; go_simp; with_reducible rfl)); try simp only [Act.put, List.setIfInBounds_toArray, List.set_cons_zero, List.set_cons_succ]) | (refine lexG_skip _ rfl rfl (by assumption) ?_; try simp only [Act.put, List.setIfInBounds_toArray, List.set_cons_zero, List.set_cons_succ]))
        refine lexG_now _ rfl rfl rfl (fun K0 hK => ?_)
        have hrp7 := hrp.out w7 hS7
        unfold PutOk at hrp7
        rw [hL.out] at hrp7
        go_wp2_with fail
        refine hrp7.mono ?_
        clear hrp7
        rintro e w8 ⟨A8, c8, rfl, ho8, hb8', hg8⟩
        try dsimp only
        have hS8 := below_then hb8' hS7
        refine hK _ _ _ (fun _ h => h) hS8 ?_
        clear hK K0
        try simp only [Act.put, List.setIfInBounds_toArray, List.set_cons_zero, List.set_cons_succ]
        repeat (first | (refine lexG_take _ ?_ rfl rfl rfl rfl (fun _ => ?_) ?_; rotate_left; (focus (go_simp; with_reducible rfl)); try simp only [Act.put, List.setIfInBounds_toArray, List.set_cons_zero, List.set_cons_succ]) | (refine lexG_held _ ?_ rfl rfl rfl rfl (by assumption) (fun _ hSw => ?_) ?_; rotate_left; (focus (have h1 := (hyS.below hSw hyS.lt).rec9; clear hSw; go_simp; with_reducible rfl)); try simp only [Act.put, List.setIfInBounds_toArray, List.set_cons_zero, List.set_cons_succ]) | (refine lexG_skip _ rfl rfl (by assumption) ?_; try simp only [Act.put, List.setIfInBounds_toArray, List.set_cons_zero, List.set_cons_succ]))
        refine lexG_nil ?_
        have hb8 := below_then hS8 hb6
        have hz8 := hz6.below hS8 hz6.lt
        have hk8 := hk6.below hS8 hk6.lt
        have ho68 := ho6.below hS8 (Nat.le_refl _)
        have hR6 := ho68.reads_
        have hcv1 := conv_bytes (c := c6) hR6
        have hcv2 := conv_bytes (c := c8) ho8.reads_
        have hc6 := ho68.le_cap
        have h6z : w6.heap.size ≤ w8.heap.size := hS8.size
        obtain ⟨ad, rfl, -, -⟩ := hR6.2 (by omega)
        have hcut := hR6.cut (k := N) (cap := c6) (by omega) hc6
        have hne : ¬ c6 = N := by omega
        have hdl : L - N = (framed P).length := by rw [framed_len]; exact hL8.out
        rw [if_neg hne, Nat.mul_one, bys_drop, Option.map_some, hFd.out, hdl] at hcut
        have hoo := open_ref (c := c6 - N) hcut (by rw [← hdl]; omega) (by rw [framed_len]; omega)
        rw [hof.out, ← hdl] at hoo
        replace hoo := Lib.hid hoo
        have hNL : (N : Int) ≤ (L : Int) := by omega
        clear hS6 hS7 hS8 hb7 hb8' hg8 hg6 ho6 ho8 hz6 hk6 hy6 hb6 hb6' hz5 hk5 hb5 hyS hrp hcut hof hdl ho68
        go_wp2_with fail
        clear hcv1 hcv2
        refine hoo.out.mono ?_
        clear hoo
        rintro e w9 ⟨A9, c9, rfl, ho9, hb9', hg9⟩
        dsimp only at ho9 ⊢
        have hb9 := below_then hb9' hb8
        have hz9 := hz8.below hb9' hz8.lt
        have hk9 := hk8.below hb9' hk8.lt
        have hrd1 := jread_walk (c := c9) ho9.reads_ ho9.le_cap (by omega) _ hx.out
        have hrd2 := fun W (hW : Below w9.heap.size w9 W) => rread_walk (c := c9) (ho9.below hW (Nat.le_refl _)).reads_ ho9.le_cap (by omega) _ hx.out
        replace hrd2 := Lib.hid hrd2
        obtain ⟨M, hM⟩ : ∃ M, P.length = M := ⟨_, rfl⟩
        rw [hM] at hrd1 hrd2 ⊢
        obtain ⟨xk, xv, xn, ⟨oc, os_, on, og', om', ol⟩⟩ := x
        clear hx hM hb9' hz8 hk8 hb8 ho9 hg9 hPl hFd
        go_wp2_with fail
        refine hrd1.mono ?_
        clear hrd1
        rintro e w10 ⟨A10, c10, xs10, css10, rfl, R10, hok10, hb10'⟩
        obtain ⟨hokv, hl16, ho1, ho2, ho3, -⟩ := hok10
        dsimp only at R10 hokv hl16 ho1 ho2 ho3 ⊢
        have hop10 := op_of_row (o := ⟨oc, os_, on, og', om', ol⟩) R10 (by dsimp only; omega) hokv ho1 ho2 ho3
        dsimp only at hop10
        obtain ⟨og, hog⟩ : ∃ og, bstr og' = og := ⟨_, rfl⟩
        obtain ⟨om, hom⟩ : ∃ om, bstr om' = om := ⟨_, rfl⟩
        obtain ⟨oL, hoL⟩ : ∃ oL, ol.length = oL := ⟨_, rfl⟩
        rw [hog, hom, hoL] at hop10 ⊢
        have hu10 := (Blk.new w10 32 #[.int .i64 xk, .int .u64 (xv : Int), .int .i64 xn, .int .u32 (oc : Int), .int .u32 (os_ : Int), .int .u16 (on : Int), .string og, .string om, .slice A10 oL c10])
        have hb11w := ((Below.refl w10.heap.size w10).alloc (Nat.le_refl _) (.cells #[.int .i64 xk, .int .u64 (xv : Int), .int .i64 xn, .int .u32 (oc : Int), .int .u32 (os_ : Int), .int .u16 (on : Int), .string og, .string om, .slice A10 oL c10] 32))
        have hb11 := below_then hb11w (below_then hb10' hb9)
        have hz11 := (hz9.below hb10' hz9.lt).below hb11w (by have := (hz9.below hb10' hz9.lt).lt; omega)
        have hk11 := (hk9.below hb10' hk9.lt).below hb11w (by have := (hk9.below hb10' hk9.lt).lt; omega)
        have hop11 := (hop10.below hb11w).up hb11w.size
        have hrd2' := hrd2.out _ (below_then hb11w hb10')
        clear R10 hb10' hz9 hk9 hb9 hop10 hb11w hrd2
        go_wp2_with fail
        generalize w10.alloc (.cells #[.int .i64 xk, .int .u64 (xv : Int), .int .i64 xn, .int .u32 (oc : Int), .int .u32 (os_ : Int), .int .u16 (on : Int), .string og, .string om, .slice A10 oL c10] 32) = w11 at *
        generalize w10.heap.size = u10 at *
        refine hrd2'.mono ?_
        clear hrd2'
        rintro e w12 ⟨A12, c12, xs12, css12, rfl, R12, -, hb12'⟩
        dsimp only at R12 ⊢
        have hop12 := op_of_row (o := ⟨oc, os_, on, og', om', ol⟩) R12 (by dsimp only; omega) hokv ho1 ho2 ho3
        dsimp only at hop12
        rw [hog, hom, hoL] at hop12 ⊢
        have hw12 := (Blk.new w12 41 #[.int .i64 xk, .int .u64 (xv : Int), .int .i64 xn, .int .u32 (oc : Int), .int .u32 (os_ : Int), .int .u16 (on : Int), .string og, .string om, .slice A12 oL c12])
        have hb13w := ((Below.refl w12.heap.size w12).alloc (Nat.le_refl _) (.cells #[.int .i64 xk, .int .u64 (xv : Int), .int .i64 xn, .int .u32 (oc : Int), .int .u32 (os_ : Int), .int .u16 (on : Int), .string og, .string om, .slice A12 oL c12] 41))
        have hu13 := (hu10.below hb12' hu10.lt).below hb13w (by have := (hu10.below hb12' hu10.lt).lt; omega)
        have hb13 := below_then hb13w (below_then hb12' hb11)
        have hz13 := (hz11.below hb12' hz11.lt).below hb13w (by have := (hz11.below hb12' hz11.lt).lt; omega)
        have hk13 := (hk11.below hb12' hk11.lt).below hb13w (by have := (hk11.below hb12' hk11.lt).lt; omega)
        have hos := op_same (((hop11.below hb12').up hb12'.size).below hb13w |>.up hb13w.size) ((hop12.below hb13w).up hb13w.size) _ (Below.refl _ _) (Nat.le_refl _)
        have hc1 := hu13.rec9
        have hc2 := hw12.rec9
        clear R12 hop12 hop11 hb12' hb13w hz11 hk11 hb11 hu10 hog hom hoL hokv
        go_wp2_with fail
        generalize w12.alloc (.cells #[.int .i64 xk, .int .u64 (xv : Int), .int .i64 xn, .int .u32 (oc : Int), .int .u32 (os_ : Int), .int .u16 (on : Int), .string og, .string om, .slice A12 oL c12] 41) = w13 at *
        refine hos.mono ?_
        rintro e w14 ⟨rfl, hb14'⟩
        try dsimp only
        have hz14 := hz13.below hb14' hz13.lt
        have hk14 := hk13.below hb14' hk13.lt
        have hb14 := below_then hb14' hb13
        clear hos hc1 hc2 hz13 hk13 hb13 hb14'
        have hnw : IntKind.i64.wrap ((j : Int) + 1) = ((j + 1 : Nat) : Int) := by rw [IntKind.wrap_i64]; omega
        go_wp2_with fail
        go_roundw
        case rel => exact ⟨j + 1, rfl, ⟨by omega, hz14, hk14, hb14⟩⟩
        case measure => simp [intOf]; omega
      · have hput := hput.mono (fun e w' h => h.2 hE0)
        replace hrput := fun W hW => (hrput.out W hW).mono (fun e w' h => h.2 hE0)
        unfold PutNo at hput hrput
        have dE : ((E : Int) == 0) = false := by rw [beq_eq_false_iff_ne]; omega
        have dE' : ((E : Int) != 0) = true := by simp [hE0]
        replace hrput := Lib.hid hrput
        replace hE0 := Lib.hid hE0
        clear henc hle hez hF
        go_wp2_with fail
        refine hput.mono ?_
        clear hput
        rintro e w6 ⟨rfl, hb6'⟩
        try dsimp only
        have hb6 := below_then hb6' hb5
        have hz6 := hz5.below hb6' hz5.lt
        have hk6 := hk5.below hb6' hk5.lt
        have hy6 := hyS.below hb6' hyS.lt
        have hS6 : Below w6.heap.size w6 w6.drew := (Below.refl _ _).drew
        have hrp := fun W (hW : Below w6.heap.size w6 W) => hrput.out W (below_then hW hb6')
        replace hrp := Lib.hid hrp
        clear hrput hyc hyS hS0
        have hyS := hy6
        go_wp2_with fail
        refine wp_region_lex (fun W => Below w6.heap.size w6 W) [6] [7, 8] [0, 1, 2, 3, 4, 5, 6, 7, 8, 9, 10, 11, 12, 13] (by kernel_rfl) rfl (by kernel_rfl) (by kernel_rfl) (fun _ _ d _ _ h => by cases d <;> exact h) ?_
        repeat (first | (refine lexG_take _ ?_ rfl rfl rfl rfl (fun _ => ?_) ?_; rotate_left; (focus (go_simp; with_reducible rfl)); try simp only [Act.put, List.setIfInBounds_toArray, List.set_cons_zero, List.set_cons_succ]) | (refine lexG_held _ ?_ rfl rfl rfl rfl (by assumption) (fun _ hSw => ?_) ?_; rotate_left; (focus (have h1 := (hyS.below hSw hyS.lt).rec9; clear hSw; go_simp; with_reducible rfl)); try simp only [Act.put, List.setIfInBounds_toArray, List.set_cons_zero, List.set_cons_succ]) | (refine lexG_skip _ rfl rfl (by assumption) ?_; try simp only [Act.put, List.setIfInBounds_toArray, List.set_cons_zero, List.set_cons_succ]))
        refine lexG_now _ rfl rfl rfl (fun K0 hK => ?_)
        go_wp2_with fail
        refine (ref_same w6.drew).mono ?_
        rintro e w7 ⟨rfl, hb7⟩
        try dsimp only
        have hS7 := below_then hb7 hS6
        refine hK _ _ _ (fun _ h => h) hS7 ?_
        clear hK K0
        try simp only [Act.put, List.setIfInBounds_toArray, List.set_cons_zero, List.set_cons_succ]
        repeat (first | (refine lexG_take _ ?_ rfl rfl rfl rfl (fun _ => ?_) ?_; rotate_left; (focus (go_simp; with_reducible rfl)); try simp only [Act.put, List.setIfInBounds_toArray, List.set_cons_zero, List.set_cons_succ]) | (refine lexG_held _ ?_ rfl rfl rfl rfl (by assumption) (fun _ hSw => ?_) ?_; rotate_left; (focus (have h1 := (hyS.below hSw hyS.lt).rec9; clear hSw; go_simp; with_reducible rfl)); try simp only [Act.put, List.setIfInBounds_toArray, List.set_cons_zero, List.set_cons_succ]) | (refine lexG_skip _ rfl rfl (by assumption) ?_; try simp only [Act.put, List.setIfInBounds_toArray, List.set_cons_zero, List.set_cons_succ]))
        refine lexG_now _ rfl rfl rfl (fun K0 hK => ?_)
        have hrp7 := hrp.out w7 hS7
        go_wp2_with fail
        refine hrp7.mono ?_
        clear hrp7
        rintro e w8 ⟨rfl, hb8'⟩
        try dsimp only
        have hS8 := below_then hb8' hS7
        refine hK _ _ _ (fun _ h => h) hS8 ?_
        clear hK K0
        try simp only [Act.put, List.setIfInBounds_toArray, List.set_cons_zero, List.set_cons_succ]
        repeat (first | (refine lexG_take _ ?_ rfl rfl rfl rfl (fun _ => ?_) ?_; rotate_left; (focus (go_simp; with_reducible rfl)); try simp only [Act.put, List.setIfInBounds_toArray, List.set_cons_zero, List.set_cons_succ]) | (refine lexG_held _ ?_ rfl rfl rfl rfl (by assumption) (fun _ hSw => ?_) ?_; rotate_left; (focus (have h1 := (hyS.below hSw hyS.lt).rec9; clear hSw; go_simp; with_reducible rfl)); try simp only [Act.put, List.setIfInBounds_toArray, List.set_cons_zero, List.set_cons_succ]) | (refine lexG_skip _ rfl rfl (by assumption) ?_; try simp only [Act.put, List.setIfInBounds_toArray, List.set_cons_zero, List.set_cons_succ]))
        refine lexG_nil ?_
        have hb8 := below_then hS8 hb6
        have hz8 := hz6.below hS8 hz6.lt
        have hk8 := hk6.below hS8 hk6.lt
        have hcv := conv_bytes (A := none) (n := 0) (c := 0) (bs := []) (w := w8) (B := 0) Reads.none_
        have hnw : IntKind.i64.wrap ((j : Int) + 1) = ((j + 1 : Nat) : Int) := by rw [IntKind.wrap_i64]; omega
        clear hS6 hS7 hS8 hb7 hb8' hz6 hk6 hy6 hb6 hb6' hz5 hk5 hb5 hyS hrp
        go_wp2_with fail
        go_roundw
        case rel => exact ⟨j + 1, rfl, ⟨by omega, hz8, hk8, hb8⟩⟩
        case measure => simp [intOf]; omega
    · have d2 : decide ((j : Int) < 5) = false := decide_eq_false (by omega)
      go_wp2_with fail
      go_ret
      exact ⟨rfl, hbr⟩
end Go.Proofs.Ytjljlgkghlphnaa
