/- guard.Each over the functions of 'one'. -/
import Derived.Test.YtffpkencgbiafaaDoorGe1
set_option linter.unusedSimpArgs false
set_option linter.unusedVariables false
namespace Go.Proofs.YtffpkencgbiafaaDoor
open Go.RowKit
set_option maxRecDepth 100000

theorem info_v : (Tryd.prog.info? 31).map (fun i => (i.zero, i.size, i.bytes)) = some (some (.agg #[.int .i64 0, .int .i64 0, .float .f64 0, .string ⟨#[]⟩, .slice none 0 0]), 5, 64) := by kernel_rfl
def vrow (n : Nat) : List Value := (List.range n).flatMap (fun (i : Nat) => [.int .i64 1, .int .i64 (i : Int), .float .f64 0, .string ⟨#[]⟩, .slice none 0 0])
theorem vrow_succ (n : Nat) : vrow (n + 1) = vrow n ++ [.int .i64 1, .int .i64 (n : Int), .float .f64 0, .string ⟨#[]⟩, .slice none 0 0] := by simp [vrow, List.range_succ]
theorem vrow_len : ∀ n, (vrow n).length = n * 5
  | 0 => rfl
  | n + 1 => by rw [vrow_succ, List.length_append, vrow_len n]; simp; omega
theorem vrow_at : ∀ n i, i < n → (vrow n)[i * 5 + 1]? = some (.int .i64 (i : Int))
  | 0, _, h => absurd h (by omega)
  | n + 1, i, h => by
    rw [vrow_succ]
    rcases Nat.lt_or_ge i n with h1 | h1
    · rw [List.getElem?_append_left (by rw [vrow_len]; omega)]
      exact vrow_at n i h1
    · have : i = n := by omega
      subst this
      rw [List.getElem?_append_right (by rw [vrow_len]; omega), vrow_len, show i * 5 + 1 - i * 5 = 1 by omega]
      rfl
theorem Own.ne_own {w : World} {t t' : TypeId} {s s' n n' c c' : Nat} {A A' : Option Addr} {xs xs' : List Value} (h : Own w t s A n c xs) (h' : Own w t' s' A' n' c' xs') (hne : t ≠ t') : ∀ g, bOf A = some g → bOf A' ≠ some g := by
  intro g hg e
  rcases h.2 with ⟨rfl, _⟩ | ⟨g1, cur, rfl, hb, _⟩
  · cases hg
  · cases hg
    exact h'.ne_blk hb hne.symm e
/-- A row of the functions of 'one', with their boxes. -/
def Fns (w : World) (g : Nat) (fs : List Value) (ks : List Nat) : Prop :=
  fs.length = ks.length ∧ ∀ (j k : Nat), ks[j]? = some k → ∃ p q r, fs[j]? = some (oneF p q r) ∧ Ob w g p q r k (j : Int)
theorem Fns.kept {w w' : World} {g : Nat} {fs : List Value} {ks : List Nat} {x : Int} (h : Fns w g fs ks) (h9 : Blk w g 3 #[.int .i64 x]) (hu : Upd (fun y => y = g) w w') : Fns w' g fs ks :=
  ⟨h.1, fun j k hj => let ⟨p, q, r, h1, h2⟩ := h.2 j k hj; ⟨p, q, r, h1, h2.kept h9 hu⟩⟩
theorem Fns.next {w w' : World} {g : Nat} {fs : List Value} {ks : List Nat} (h : Fns w g fs ks) (hb : Below w.heap.size w w') : Fns w' g fs ks :=
  ⟨h.1, fun j k hj => let ⟨p, q, r, h1, h2⟩ := h.2 j k hj; ⟨p, q, r, h1, h2.next hb⟩⟩
theorem Fns.grown {w w' : World} {g n c : Nat} {t : TypeId} {sz : Nat} {A : Option Addr} {xs : List Value} {fs : List Value} {ks : List Nat} (h : Fns w g fs ks) (ho : Own w t sz A n c xs) (t1 : t ≠ 48) (t2 : t ≠ 5) (t3 : t ≠ 3) (hg : w.grownBy w' (bOf A)) : Fns w' g fs ks :=
  ⟨h.1, fun j k hj => let ⟨p, q, r, h1, h2⟩ := h.2 j k hj
    ⟨p, q, r, h1, h2.b1.grown hg (fun e => ho.ne_blk h2.b1 t1 e.symm), h2.b2.grown hg (fun e => ho.ne_blk h2.b2 t2 e.symm), h2.b3.grown hg (fun e => ho.ne_blk h2.b3 t3 e.symm), h2.ne⟩⟩
/-- No number ahead of m is 220 or more. -/
def Light (ks : List Nat) (m : Nat) : Prop := ∀ j k, j < m → ks[j]? = some k → k < 220
set_option maxHeartbeats 6400000 in
theorem each_walk {w : World} {g n c : Nat} {A : Option Addr} {fs : List Value} {ks : List Nat} (ho : Own w 35 1 A n c fs) (hf : Fns w g fs ks) (hl : ks.length = n) (hn : n ≤ 30) (hk : ∀ k ∈ ks, k ≤ 255) (h9 : Blk w g 3 #[.int .i64 0]) :
    Calls Tryd.prog 20 #[.slice A n c] w (fun e w' => Upd (fun y => y = g) w w' ∧ ((∃ m k, m < n ∧ ks[m]? = some k ∧ 220 ≤ k ∧ Light ks m ∧ e = .returned (.tuple #[.slice none 0 0, .int .i64 (resE k)]) ∧ Blk w' g 3 #[.int .i64 ((m : Int) + 1)]) ∨
      (Light ks n ∧ ∃ A2 c2, e = .returned (.tuple #[.slice A2 n c2, .int .i64 0]) ∧ Own w' 31 5 A2 n c2 (vrow n) ∧ Blk w' g 3 #[.int .i64 (n : Int)]))) := by
  obtain ⟨i0, hi, hz0, hz1, hz2⟩ := info_parts info_v
  replace ho := Lib.hid ho
  replace hf := Lib.hid hf
  replace hk := Lib.hid hk
  go_enter Tryd.func20, Tryd.ntmps20
  go_wp2_with fail
  go_loopw [4, 11] (fun s z wr => ∃ (K : Nat) (Ao : Option Addr) (co : Nat), K ≤ n ∧ z = .int .i64 (K : Int) ∧ s = .slice Ao K co ∧ Light ks K ∧ Own wr 31 5 Ao K co (vrow K) ∧ Own wr 35 1 A n c fs ∧ Fns wr g fs ks ∧ Blk wr g 3 #[.int .i64 (K : Int)] ∧ Upd (fun y => y = g) w wr ∧ ∀ y, bOf Ao = some y → w.heap.size ≤ y) (fun _ z _ => n - (intOf z).toNat)
  case atStart => exact ⟨0, none, 0, Nat.zero_le _, rfl, rfl, fun j k h => absurd h (by omega), Own.none_, ho.out, hf.out, h9, Upd.refl _ _, fun y h => by cases h⟩
  case round =>
    obtain ⟨K, Ao, co, hK, rfl, rfl, hL, hv, hr, hF, h9r, hU, hA⟩ := hrel
    by_cases hlt : K < n
    · obtain ⟨k, hkk⟩ : ∃ k, ks[K]? = some k := ⟨_, List.getElem?_eq_getElem (by omega : K < ks.length)⟩
      have hk255 := hk.out k (List.mem_of_getElem? hkk)
      obtain ⟨p, q, r, hfK, hO⟩ := hF.2 K k hkk
      obtain ⟨ad, u, rfl, -, hu, hcell⟩ := hr.reads_.at_ hlt
      rw [hfK] at hu
      injection hu with hu
      subst hu
      have hrun := run_one hO h9r (by omega) hk255
      have hd : decide ((K : Int) < (n : Int)) = true := decide_eq_true (by omega)
      have hkw : IntKind.i64.wrap ((K : Int) + 1) = (K : Int) + 1 := by rw [IntKind.wrap_i64]; omega
      replace hrun := Lib.hid hrun
      replace hL := Lib.hid hL
      replace hv := Lib.hid hv
      replace hr := Lib.hid hr
      replace hF := Lib.hid hF
      replace h9r := Lib.hid h9r
      replace hU := Lib.hid hU
      replace hA := Lib.hid hA
      have hvr := @vrow_succ K
      unfold oneF at hcell hrun
      unfold fv at hcell hrun
      clear hO hfK
      by_cases h220 : 220 ≤ k
      · have hre : resE k ≠ 0 := by unfold resE; split <;> (try split) <;> omega
        have hde : decide (resE k ≠ 0) = true := decide_eq_true hre
        obtain ⟨er, her⟩ : ∃ er, resE k = er := ⟨_, rfl⟩
        rw [her] at hrun hre hde
        replace her := Lib.hid her
        rw [show resV k (K : Int) = #[.int .i64 0, .int .i64 0, .float .f64 0, .string ⟨#[]⟩, .slice none 0 0] from if_pos h220] at hrun
        go_upto_region 5 with (fail)
        go_wp2_with fail
        refine hrun.out.mono ?_
        rintro e w3 ⟨rfl, hu3, h93⟩
        try dsimp only
        have h3 := hF.out.kept h9r.out hu3
        have hv3 := hv.out.upd hu3 (fun y hy e => by subst e; exact hv.out.ne_blk h9r.out (by decide) hy)
        have hr3 := hr.out.upd hu3 (fun y hy e => by subst e; exact hr.out.ne_blk h9r.out (by decide) hy)
        have hz := Blk.new w3 31 #[.int .i64 0, .int .i64 0, .float .f64 0, .string ⟨#[]⟩, .slice none 0 0]
        have hr4 := hz.row (#[.int .i64 0, .int .i64 0, .float .f64 0, .string ⟨#[]⟩, .slice none 0 0])
        have hc4 : Below w3.heap.size w3 ((w3.alloc (.cells #[.int .i64 0, .int .i64 0, .float .f64 0, .string ⟨#[]⟩, .slice none 0 0] 31)).setRow w3.heap.size #[.int .i64 0, .int .i64 0, .float .f64 0, .string ⟨#[]⟩, .slice none 0 0]) := ((Below.refl w3.heap.size w3).alloc (Nat.le_refl _) _).trans (((Upd.refl (fun y => y = w3.heap.size) _).setRow (fun _ => rfl) _).below (by simp) (fun k hk e => by omega))
        obtain ⟨w4, hw4⟩ : ∃ q, q = (w3.alloc (.cells #[.int .i64 0, .int .i64 0, .float .f64 0, .string ⟨#[]⟩, .slice none 0 0] 31)).setRow w3.heap.size #[.int .i64 0, .int .i64 0, .float .f64 0, .string ⟨#[]⟩, .slice none 0 0] := ⟨_, rfl⟩
        rw [← hw4] at hr4 hc4
        replace hw4 := Lib.hid hw4
        have hF4 := h3.next hc4
        have hU3 := hU.out.trans hu3 (fun _ _ e => e)
        have hU4 := hU3.thenBelow hc4 hU3.size
        clear hU hU3
        replace hU4 := Lib.hid hU4
        have hv4 := hv3.below hc4 (Nat.le_refl _)
        have hR4 := hr3.below hc4 (Nat.le_refl _)
        have h94 := h93.below hc4 h93.lt
        clear h3 hv3 hr3 h93 hu3 hv hr hF h9r
        go_upto_region 6 with (refine store_row_gen rfl 31 _ _ rfl w3.heap.size #[.int .i64 0, .int .i64 0, .float .f64 0, .string ⟨#[]⟩, .slice none 0 0] rfl rfl 31 _ hz (by kernel_rfl) rfl (by simp [Value.oneCell']) (fun wI hwI => ?_); rw [hwI, ← hw4.out]; clear hwI hz)
        try dsimp only [Act.put]
        clear hw4 hc4
        go_wp2_with fail
        go_ret2
        exact ⟨hU4.out, .inl ⟨K, k, hlt, hkk, h220, hL.out, by rw [her.out]; rfl, h94⟩⟩
      · rw [show resV k (K : Int) = #[.int .i64 1, .int .i64 (K : Int), .float .f64 0, .string ⟨#[]⟩, .slice none 0 0] from if_neg h220, show resE k = 0 by unfold resE; rw [if_neg (by omega), if_neg h220]] at hrun
        replace h220 : k < 220 := by omega
        go_upto_region 5 with (fail)
        go_wp2_with fail
        refine hrun.out.mono ?_
        rintro e w3 ⟨rfl, hu3, h93⟩
        try dsimp only
        have h3 := hF.out.kept h9r.out hu3
        have hv3 := hv.out.upd hu3 (fun y hy e => by subst e; exact hv.out.ne_blk h9r.out (by decide) hy)
        have hr3 := hr.out.upd hu3 (fun y hy e => by subst e; exact hr.out.ne_blk h9r.out (by decide) hy)
        have hz := Blk.new w3 31 #[.int .i64 0, .int .i64 0, .float .f64 0, .string ⟨#[]⟩, .slice none 0 0]
        have hr4 := hz.row (#[.int .i64 1, .int .i64 (K : Int), .float .f64 0, .string ⟨#[]⟩, .slice none 0 0])
        have hc4 : Below w3.heap.size w3 ((w3.alloc (.cells #[.int .i64 0, .int .i64 0, .float .f64 0, .string ⟨#[]⟩, .slice none 0 0] 31)).setRow w3.heap.size #[.int .i64 1, .int .i64 (K : Int), .float .f64 0, .string ⟨#[]⟩, .slice none 0 0]) := ((Below.refl w3.heap.size w3).alloc (Nat.le_refl _) _).trans (((Upd.refl (fun y => y = w3.heap.size) _).setRow (fun _ => rfl) _).below (by simp) (fun k hk e => by omega))
        obtain ⟨w4, hw4⟩ : ∃ q, q = (w3.alloc (.cells #[.int .i64 0, .int .i64 0, .float .f64 0, .string ⟨#[]⟩, .slice none 0 0] 31)).setRow w3.heap.size #[.int .i64 1, .int .i64 (K : Int), .float .f64 0, .string ⟨#[]⟩, .slice none 0 0] := ⟨_, rfl⟩
        rw [← hw4] at hr4 hc4
        replace hw4 := Lib.hid hw4
        have hF4 := h3.next hc4
        have hU3 := hU.out.trans hu3 (fun _ _ e => e)
        have hU4 := hU3.thenBelow hc4 hU3.size
        clear hU hU3
        replace hU4 := Lib.hid hU4
        have hv4 := hv3.below hc4 (Nat.le_refl _)
        have hR4 := hr3.below hc4 (Nat.le_refl _)
        have h94 := h93.below hc4 h93.lt
        clear h3 hv3 hr3 h93 hu3 hv hr hF h9r
        go_upto_region 6 with (refine store_row_gen rfl 31 _ _ rfl w3.heap.size #[.int .i64 1, .int .i64 (K : Int), .float .f64 0, .string ⟨#[]⟩, .slice none 0 0] rfl rfl 31 _ hz (by kernel_rfl) rfl (by simp [Value.oneCell']) (fun wI hwI => ?_); rw [hwI, ← hw4.out]; clear hwI hz)
        try dsimp only [Act.put]
        clear hw4 hc4
        obtain ⟨y4, hy4⟩ : ∃ y, w3.heap.size = y := ⟨_, rfl⟩
        rw [hy4] at hr4 ⊢
        have c0 := hr4.cell 0
        have c1 := hr4.cell 1
        have c2 := hr4.cell 2
        have c3 := hr4.cell 3
        have c4 := hr4.cell 4
        have hsrc := Reads.lit (size := 5) w4 #[.int .i64 1, .int .i64 (K : Int), .float .f64 0, .string ⟨#[]⟩, .slice none 0 0] 31 (0, 0) 1 [.int .i64 1, .int .i64 (K : Int), .float .f64 0, .string ⟨#[]⟩, .slice none 0 0] rfl rfl
        have ho7 := hv4.alloc (.cells #[.int .i64 1, .int .i64 (K : Int), .float .f64 0, .string ⟨#[]⟩, .slice none 0 0] 31)
        have hb7 := (Below.refl w4.heap.size w4).alloc (Nat.le_refl _) (.cells #[.int .i64 1, .int .i64 (K : Int), .float .f64 0, .string ⟨#[]⟩, .slice none 0 0] 31)
        have hR7 := hR4.alloc (.cells #[.int .i64 1, .int .i64 (K : Int), .float .f64 0, .string ⟨#[]⟩, .slice none 0 0] 31)
        have hF7 := hF4.next hb7
        have h97 := h94.below hb7 h94.lt
        have hU7 := hU4.out.thenBelow hb7 hU4.out.size
        clear hU4
        replace hU7 := Lib.hid hU7
        clear hv4 hR4 hF4 h94 hr4
        replace hR7 := Lib.hid hR7
        replace hF7 := Lib.hid hF7
        replace h97 := Lib.hid h97
        go_wp2_with (at_builtin; go_must (refine wpList_append_mine rfl _ _ 29 29 rfl 31 i0 _ 5 64 Tryd.underlying29 hi hz0 hz1 hz2 rfl rfl ho7 rfl (Src.ofReads Tryd.underlying29 _ hsrc (by intro u hu; simp only [List.mem_cons, List.not_mem_nil, or_false] at hu; rcases hu with rfl | rfl | rfl | rfl | rfl <;> rfl)) (by unfold maxLen; omega) (by omega) (fun A10 c10 w10 ho10 hg10 hat10 => ?_)))
        go_roundw
        case rel =>
          refine ⟨K + 1, A10, c10, by omega, by rfl, by simp, fun j k' hj hjk => ?_, by rw [hvr]; exact ho10, hR7.out.upd (S := fun y => bOf Ao = some y) ((Upd.refl _ _).grown hg10 (fun y hy _ => hy)) (fun y hy e => hR7.out.ne_own ho7 (by decide) y hy e), hF7.out.grown ho7 (by decide) (by decide) (by decide) hg10, h97.out.grown hg10 (fun e => ho7.ne_blk h97.out (by decide) e.symm), hU7.out.grown hg10 (fun y hy hlt => by have := hA.out y hy; omega), fun y hy => by
            rcases hat10 with e | e <;> rw [e] at hy
            · exact hA.out y hy
            · cases hy; exact hU7.out.size⟩
          rcases Nat.lt_or_ge j K with h' | h'
          · exact hL.out j k' h' hjk
          · have : j = K := by omega
            subst this
            rw [hkk] at hjk
            cases hjk
            exact h220
        case measure => simp [intOf]; omega
    · have hk' : K = n := by omega
      subst K
      have hd : decide ((n : Int) < (n : Int)) = false := decide_eq_false (by omega)
      replace hL := Lib.hid hL
      replace hv := Lib.hid hv
      replace hr := Lib.hid hr
      replace hF := Lib.hid hF
      replace h9r := Lib.hid h9r
      replace hU := Lib.hid hU
      replace hA := Lib.hid hA
      go_wp2_with fail
      go_ret2
      exact ⟨hU.out, .inr ⟨hL.out, Ao, co, rfl, hv.out, h9r.out⟩⟩
end Go.Proofs.YtffpkencgbiafaaDoor
