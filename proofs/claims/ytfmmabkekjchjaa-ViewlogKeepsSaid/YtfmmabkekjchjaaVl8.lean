/- choirlaw26.log, choirlaw26.Rep.report. -/
import Derived.Test.YtfmmabkekjchjaaVl7
import Derived.Test.YtfmmabkekjchjaaSt7
set_option linter.unusedSimpArgs false
set_option linter.unusedVariables false
namespace Go.Proofs.Ytfmmabkekjchjaa
open Go.RowKit
set_option maxRecDepth 100000

/-- A log whose calls are clean. -/
def OkLog (lg : List (Nat × OpD)) : Prop := ∀ x ∈ lg, (∀ v ∈ x.2.l, cleanV v = v ∧ OkV v) ∧ x.2.c < 4294967296 ∧ x.2.s < 4294967296 ∧ x.2.n < 65536
theorem OkLog.clean {lg : List (Nat × OpD)} (h : OkLog lg) : cleanLog lg = lg := by
  unfold cleanLog
  conv => rhs; rw [← List.map_id lg]
  refine List.map_congr_left (fun x hx => ?_)
  have h1 := (h x hx).1
  obtain ⟨v, ⟨c, s, n, g, m, l⟩⟩ := x
  dsimp only at h1
  have : l.map cleanV = l := by
    conv => rhs; rw [← List.map_id l]
    exact List.map_congr_left (fun v hv => (h1 v hv).1)
  simp [cleanO, this]

theorem bstr_of_list (b : ByteArray) : bstr b.toList = b := ByteArray.ext (by rw [bstr]; simp [ByteArray.toList_eq])

/-- A log of numbers, in new memory. -/
def LogN (w : World) (N : Nat) (e : Ending) (w' : World) : Prop :=
  ∃ (lg : List (Nat × OpD)) (A : Option Addr) (c : Nat) (xs : List Value) (css : Nat → Array Value), e = .returned (.slice A N c) ∧ lg.length = N ∧ OkLog lg ∧ LogP w' w.heap.size A c lg xs css ∧ Below w.heap.size w w'

structure LgRel (w wr : World) (lg : List (Nat × OpD)) (j v : Nat) (A : Option Addr) (c : Nat) (xs : List Value) (css : Nat → Array Value) : Prop where
  P : LogP wr w.heap.size A c lg xs css
  hj : lg.length = j
  hv : v ≤ 1 + 3 * j
  ok : OkLog lg
  hb : Below w.heap.size w wr
theorem LgRel.push {w wr w7 w8 : World} {lg : List (Nat × OpD)} {j v v' q c c8 cc L : Nat} {A A8 A1 : Option Addr} {xs : List Value} {css : Nat → Array Value} {gg mm : ByteArray} {ol : List Val} (R : LgRel w wr lg j v A1 c xs css) (hv : v' ≤ v + 3) (hL : ol.length = L) (hj : j ≤ 1000) (hq : q < 4) (hb : Below wr.heap.size wr w7)
    (hall : ∀ u ∈ ol, SeatV 2 1102 u) (ho8 : Own w8 54 7 A8 (j + 1) c8 (xs ++ [.int .u64 (v' : Int), .int .u32 (q : Int), .int .u32 ((j : Int) + 1), .int .u16 0, .string gg, .string mm, .slice A L cc])) (hg8 : w7.grownBy w8 (bOf A1)) (hat : bOf A8 = bOf A1 ∨ bOf A8 = some w7.heap.size)
    (hop : OpHeld w7 (fun g => g < wr.heap.size) ⟨q, j + 1, 0, gg.toList, mm.toList, ol⟩ #[.int .u32 (q : Int), .int .u32 ((j : Int) + 1), .int .u16 0, .string gg, .string mm, .slice A L cc]) :
    ∃ lg' xs' css', LgRel w w8 lg' (j + 1) v' A8 c8 xs' css' := by
  have hvj := R.hv
  have := R.P.push (v := v') R.hb.size hb (by rw [R.hj]; exact ho8) hg8 hat hop (by omega)
  refine ⟨_, _, _, ⟨this, by simp [R.hj], by omega, fun x hx => ?_, (below_then hb R.hb).grown hg8 (Nat.le_trans R.hb.size hb.size) (fun g hg => R.P.hA g hg)⟩⟩
  rcases List.mem_append.1 hx with hx | hx
  · exact R.ok x hx
  · simp at hx
    subst hx
    exact ⟨fun u hu => ⟨(hall u hu).clean, (hall u hu).ok⟩, by dsimp only; omega, by dsimp only; omega, by dsimp only; omega⟩

set_option maxHeartbeats 12800000 in
theorem log_walk {w : World} {B c : Nat} {A : Option Addr} {l : List UInt8} (h : Reads w B 1 A l.length (bys l)) (hB : B ≤ w.heap.size) (hl : l.length ≤ 1000) :
    Calls Try.prog 16 #[.slice A l.length c] w (LogN w l.length) := by
  obtain ⟨i0, hi, hz0, hz1, hz2⟩ := info_parts info_ent
  obtain ⟨N, hN⟩ : ∃ N, l.length = N := ⟨_, rfl⟩
  rw [hN] at h hl ⊢
  replace hN := Lib.hid hN
  replace h := Lib.hid h
  go_enter Try.func16, Try.ntmps16
  go_wp2_with fail
  go_loopw [3, 4, 5] (fun s3 s4 s5 wr => ∃ (lg : List (Nat × OpD)) (j v : Nat) (A1 : Option Addr) (c1 : Nat) (xs1 : List Value) (css1 : Nat → Array Value), s3 = .slice A1 j c1 ∧ s4 = .int .u64 (v : Int) ∧ s5 = .int .i64 (j : Int) ∧ j ≤ N ∧ LgRel w wr lg j v A1 c1 xs1 css1) (fun _ _ i _ => N - (intOf i).toNat)
  case atStart => exact ⟨[], 0, 1, none, 0, [], _, rfl, rfl, rfl, Nat.zero_le _, LogP.nil _ _, rfl, by decide, by simp [OkLog], Below.refl _ _⟩
  case round =>
    obtain ⟨lg, j, v, A1, c1, xs1, css1, rfl, rfl, rfl, hj, Rl⟩ := hrel
    have hnw : IntKind.i64.wrap ((j : Int) + 1) = ((j + 1 : Nat) : Int) := by rw [IntKind.wrap_i64]; omega
    by_cases hlt : j < N
    · have hlt' : j < l.length := by rw [hN.out]; exact hlt
      have hbr := Rl.hb
      have hvj := Rl.hv
      obtain ⟨ad, u, rfl, -, hu, -⟩ := h.out.at_ hlt
      have hx : l[j]? = some l[j] := List.getElem?_eq_getElem _
      generalize l[j] = b at hx
      have hub : u = .int .u8 (b.toNat : Int) := by
        rw [show (bys l)[j]? = some (byv b) by simp [bys, hx]] at hu
        exact (Option.some.inj hu).symm
      subst hub
      have hcw : ∀ W, Below wr.heap.size wr W → W.cell? (ad.add j) = some (.int .u8 (b.toNat : Int)) := fun W hW => by
        obtain ⟨ad', u', e, -, hu', hc⟩ := (h.out.below ((below_then hW hbr).mono hB)).at_ hlt
        cases e
        rw [hu] at hu'
        cases hu'
        exact hc
      have hb9 := b.toNat_lt
      obtain ⟨xb, hxb⟩ : ∃ xb : Nat, b.toNat = xb := ⟨_, rfl⟩
      rw [hxb] at hcw hb9
      have hc0 := hcw wr (Below.refl _ _)
      have d2 : decide ((j : Int) < (N : Int)) = true := decide_eq_true (by omega)
      obtain ⟨p64, hp64⟩ : ∃ p64 : Nat, (xb : Int) / 64 = (p64 : Int) := ⟨xb / 64, by omega⟩
      have hp3 : p64 ≤ 3 := by omega
      have t64 : (xb : Int).tdiv 64 = (p64 : Int) := by rw [Int.tdiv_eq_ediv_of_nonneg (by omega)]; exact hp64
      obtain ⟨v', hv'⟩ : ∃ v' : Nat, (v : Int) + (p64 : Int) = (v' : Int) := ⟨v + p64, by omega⟩
      have hv3 : v' ≤ v + 3 := by omega
      have hown := Rl.P.ho
      rw [Rl.hj] at hown
      replace Rl := Lib.hid Rl
      replace hown := Lib.hid hown
      clear hu hxb hx
      go_upto_region 7 with (fail)
      clear hc0
      have hx0 : (0 : Int) ≤ (xb : Int) := by omega
      have hx1 : (xb : Int) ≤ 255 := by omega
      have t2 : (xb : Int).tmod 2 = ((xb % 2 : Nat) : Int) := by rw [Int.tmod_eq_emod_of_nonneg (by omega)]; omega
      have w2' : IntKind.u8.wrap ((xb % 2 : Nat) : Int) = ((xb % 2 : Nat) : Int) := by unfold IntKind.wrap; simp [IntKind.bits, IntKind.signed]; omega
      have wx16 : IntKind.i16.wrap (xb : Int) = (xb : Int) := by unfold IntKind.wrap; simp [IntKind.bits, IntKind.signed]; omega
      have hx2 : (0 : Int) ≤ ((xb % 2 : Nat) : Int) := by omega
      have hx3 : ((xb % 2 : Nat) : Int) ≤ 255 := by omega
      have hx4 : (-32768 : Int) ≤ (xb : Int) := by omega
      have hx5 : (xb : Int) ≤ 32767 := by omega
      obtain ⟨p2, hp2⟩ : ∃ p2 : Nat, xb % 2 = p2 := ⟨_, rfl⟩
      rw [hp2] at t2 w2' hx2 hx3
      go_cut [6] from 21 to 40 (fun x6 wx => ∃ (y : Nat) (ol : List Val) (A : Option Addr) (c : Nat) (xs : List Value) (css : Nat → Array Value) (gg mm : ByteArray), x6 = .pointer (some ⟨y, 0, none⟩) ∧ wr.heap.size ≤ y ∧ Blk wx y 50 #[.int .u32 0, .int .u32 0, .int .u16 0, .string gg, .string mm, .slice A ol.length c] ∧ VRowP wx (fun g => wr.heap.size ≤ g ∧ g ≠ y) ol A c xs css ∧ (∀ v ∈ ol, SeatV 2 1102 v) ∧ ol.length ≤ 6 ∧ Below wr.heap.size wr wx)
      case first =>
        have hS0 : Below wr.heap.size wr wr.drew := (Below.refl _ _).drew
        refine wp_region_pair (fun W => Below wr.heap.size wr W) [3, 8, 12, 16] [19, 20, 21] [0, 1, 2, 3, 4, 5, 6, 7, 8, 9, 10, 11, 12, 13, 14, 15, 16, 17, 18] 19 20 [20, 21] [19, 21] (by kernel_rfl) rfl rfl (by kernel_rfl) (by kernel_rfl) (by kernel_rfl) rfl rfl (by kernel_rfl) (by kernel_rfl) (fun _ _ d _ _ h => by cases d <;> exact h) ?_
        repeat (first | (refine lexG_take _ ?_ rfl rfl rfl rfl (fun _ => ?_) ?_; rotate_left; (focus (go_simp; with_reducible rfl)); try simp only [Act.put, List.setIfInBounds_toArray, List.set_cons_zero, List.set_cons_succ]) | (refine lexG_held _ ?_ rfl rfl rfl rfl (by assumption) (fun _ hSw => ?_) ?_; rotate_left; (focus (have h1 := hcw _ hSw; clear hSw; go_simp; with_reducible rfl)); try simp only [Act.put, List.setIfInBounds_toArray, List.set_cons_zero, List.set_cons_succ]) | (refine lexG_skip _ rfl rfl (by assumption) ?_; try simp only [Act.put, List.setIfInBounds_toArray, List.set_cons_zero, List.set_cons_succ]))
        refine lexG_nil ?_
        refine ⟨?_, ?_⟩
        · skip
          refine lexG_now _ rfl rfl rfl (fun K0 hK => ?_)
          go_wp2_with fail
          refine (seat_op_walk (F := 0) wr.drew hx2 hx3 hx0 hx1 hx0 hx1 hx4 hx5 (by decide)).mono ?_
          rintro e w5 ⟨gg, mm, ol, A, c, rfl, hgg, hmm, ⟨xs, css, R⟩, hall, hl6, hb5'⟩
          try dsimp only
          have hS5 := below_then hb5' hS0
          have hbb := Below.refl w5.heap.size w5
          refine hK _ _ (fun W => Below wr.heap.size wr W) (fun W h => h) hS5 ?_
          clear hK K0
          try simp only [Act.put, List.setIfInBounds_toArray, List.set_cons_zero, List.set_cons_succ]
          have h35 := hS5.size
          have hy6 := Blk.new w5 50 #[.int .u32 0, .int .u32 0, .int .u16 0, .string ⟨#[]⟩, .string ⟨#[]⟩, .slice none 0 0]
          have hS6 := hS5.alloc hS5.size (.cells #[.int .u32 0, .int .u32 0, .int .u16 0, .string ⟨#[]⟩, .string ⟨#[]⟩, .slice none 0 0] 50)
          have RP := (R.toP (P := fun g => wr.heap.size ≤ g ∧ g ≠ w5.heap.size) (fun g h1 h2 => ⟨h1, by omega⟩)).upd ((Upd.refl (fun _ => False) w5).alloc (.cells #[.int .u32 0, .int .u32 0, .int .u16 0, .string ⟨#[]⟩, .string ⟨#[]⟩, .slice none 0 0] 50)) (fun _ _ h => h)
          refine lexG_now _ rfl rfl rfl (fun K0 hK => ?_)
          go_wp2_with fail
          generalize hww : w5.alloc (.cells #[.int .u32 0, .int .u32 0, .int .u16 0, .string ⟨#[]⟩, .string ⟨#[]⟩, .slice none 0 0] 50) = w6 at *
          refine hK _ _ (fun W => Below wr.heap.size wr W) (fun W h => h) hS6 ?_
          clear hK K0
          try simp only [Act.put, List.setIfInBounds_toArray, List.set_cons_zero, List.set_cons_succ]
          have hyr := hy6.row #[.int .u32 0, .int .u32 0, .int .u16 0, .string gg, .string mm, .slice A ol.length c]
          have hSr := below_row hS6 (g := w5.heap.size) (by omega) #[.int .u32 0, .int .u32 0, .int .u16 0, .string gg, .string mm, .slice A ol.length c]
          have Rr := RP.upd ((Upd.refl (fun g => g = w5.heap.size) w6).setRow (g := w5.heap.size) (fun _ => rfl) #[.int .u32 0, .int .u32 0, .int .u16 0, .string gg, .string mm, .slice A ol.length c]) (fun g hg e => hg.2 e)
          refine lexG_nowF _ rfl rfl rfl (by kernel_rfl) (fun K0 hK => ?_)
          refine wp_store_row 50 (Operand.tmp 6) _ rfl w5.heap.size #[.int .u32 0, .int .u32 0, .int .u16 0, .string gg, .string mm, .slice A ol.length c] (by simp [go_sem]) (by simp [go_sem]) 50 _ hy6 (by kernel_rfl) rfl (by simp [Value.oneCell']) ?_
          go_simp
          refine hK _ _ ?_
          clear hK K0
          try simp only [Act.put, List.setIfInBounds_toArray, List.set_cons_zero, List.set_cons_succ]
          refine lexG_nil ?_
          go_wp2_with fail
          go_meet
          exact ⟨w5.heap.size, ol, A, c, xs, css, gg, mm, rfl, by omega, hyr, Rr, hall, hl6, hSr⟩
        · have hy4 := (Blk.new wr 50 #[.int .u32 0, .int .u32 0, .int .u16 0, .string ⟨#[]⟩, .string ⟨#[]⟩, .slice none 0 0])
          have hS4 := (((Below.refl wr.heap.size wr).alloc (Nat.le_refl _) (.cells #[.int .u32 0, .int .u32 0, .int .u16 0, .string ⟨#[]⟩, .string ⟨#[]⟩, .slice none 0 0] 50))).drew
          refine lexG_now _ rfl rfl rfl (fun K0 hK => ?_)
          go_wp2_with fail
          refine hK _ _ (fun W => Below wr.heap.size wr W) (fun W h => h) hS4 ?_
          clear hK K0
          try simp only [Act.put, List.setIfInBounds_toArray, List.set_cons_zero, List.set_cons_succ]
          replace hy4 := hy4.drew
          generalize hww : (wr.alloc (.cells #[.int .u32 0, .int .u32 0, .int .u16 0, .string ⟨#[]⟩, .string ⟨#[]⟩, .slice none 0 0] 50)).drew = w4 at *
          have hy4l := hy4.lt
          refine lexG_now _ rfl rfl rfl (fun K0 hK => ?_)
          go_wp2_with fail
          refine (seat_op_walk (F := 0) w4 hx2 hx3 hx0 hx1 hx0 hx1 hx4 hx5 (by decide)).mono ?_
          rintro e w5 ⟨gg, mm, ol, A, c, rfl, hgg, hmm, ⟨xs, css, R⟩, hall, hl6, hb5'⟩
          try dsimp only
          have hS5 := below_then hb5' hS4
          refine hK _ _ (fun W => Below wr.heap.size wr W) (fun W h => h) hS5 ?_
          clear hK K0
          try simp only [Act.put, List.setIfInBounds_toArray, List.set_cons_zero, List.set_cons_succ]
          have hy6 := hy4.below hb5' hy4l
          have RP := R.toP (P := fun g => wr.heap.size ≤ g ∧ g ≠ wr.heap.size) (fun g h1 h2 => ⟨by omega, by omega⟩)
          have hyr := hy6.row #[.int .u32 0, .int .u32 0, .int .u16 0, .string gg, .string mm, .slice A ol.length c]
          have hSr := below_row hS5 (g := wr.heap.size) (by omega) #[.int .u32 0, .int .u32 0, .int .u16 0, .string gg, .string mm, .slice A ol.length c]
          have Rr := RP.upd ((Upd.refl (fun g => g = wr.heap.size) w5).setRow (g := wr.heap.size) (fun _ => rfl) #[.int .u32 0, .int .u32 0, .int .u16 0, .string gg, .string mm, .slice A ol.length c]) (fun g hg e => hg.2 e)
          refine lexG_nowF _ rfl rfl rfl (by kernel_rfl) (fun K0 hK => ?_)
          refine wp_store_row 50 (Operand.tmp 6) _ rfl wr.heap.size #[.int .u32 0, .int .u32 0, .int .u16 0, .string gg, .string mm, .slice A ol.length c] (by simp [go_sem]) (by simp [go_sem]) 50 _ hy6 (by kernel_rfl) rfl (by simp [Value.oneCell']) ?_
          go_simp
          refine hK _ _ ?_
          clear hK K0
          try simp only [Act.put, List.setIfInBounds_toArray, List.set_cons_zero, List.set_cons_succ]
          refine lexG_nil ?_
          go_wp2_with fail
          go_meet
          exact ⟨wr.heap.size, ol, A, c, xs, css, gg, mm, rfl, by omega, hyr, Rr, hall, hl6, hSr⟩
      case rest =>
        obtain ⟨y, ol, A, c, xs, css, gg, mm, rfl, hwy, hy4, R4, hall, hl6, hb4'⟩ := hcut
        generalize wc = w4 at *
        have t4 : (xb : Int).tmod 4 = ((xb % 4 : Nat) : Int) := by rw [Int.tmod_eq_emod_of_nonneg (by omega)]; omega
        have w4' : IntKind.u8.wrap ((xb % 4 : Nat) : Int) = ((xb % 4 : Nat) : Int) := by unfold IntKind.wrap; simp [IntKind.bits, IntKind.signed]; omega
        have w44 : IntKind.u32.wrap ((xb % 4 : Nat) : Int) = ((xb % 4 : Nat) : Int) := by unfold IntKind.wrap; simp [IntKind.bits, IntKind.signed]; omega
        have hq4 : xb % 4 < 4 := by omega
        obtain ⟨q, hq⟩ : ∃ q : Nat, xb % 4 = q := ⟨_, rfl⟩
        rw [hq] at t4 w4' w44 hq4
        have wj : IntKind.u32.wrap ((j + 1 : Nat) : Int) = ((j + 1 : Nat) : Int) := by unfold IntKind.wrap; simp [IntKind.bits, IntKind.signed]; omega
        have wj' : IntKind.u32.wrap ((j : Int) + 1) = ((j + 1 : Nat) : Int) := by unfold IntKind.wrap; simp [IntKind.bits, IntKind.signed]; omega
        obtain ⟨L, hL⟩ : ∃ L, ol.length = L := ⟨_, rfl⟩
        rw [hL] at hy4
        have hyl := hy4.lt
        have hc0 := hcw w4 hb4'
        have hf0 := hy4.frozen 0
        have hf1 := hy4.frozen 1
        have hf2 := hy4.frozen 2
        have hcs0 := hy4.op6
        have hU : Upd (fun g => g = y) w4 (((w4.setCell ⟨y, 0, none⟩ (.int .u32 (q : Int))).setCell ⟨y, 1, none⟩ (.int .u32 ((j : Int) + 1))).setCell ⟨y, 2, none⟩ (.int .u16 0)) := (((Upd.refl (fun g => g = y) w4).setCell (p := ⟨y, 0, none⟩) (fun _ => rfl) _).setCell (p := ⟨y, 1, none⟩) (fun _ => rfl) _).setCell (p := ⟨y, 2, none⟩) (fun _ => rfl) _
        have hy5 := ((hy4.set_ 0 (.int .u32 (q : Int))).set_ 1 (.int .u32 ((j : Int) + 1))).set_ 2 (.int .u16 0)
        have hb5 : Below wr.heap.size wr (((w4.setCell ⟨y, 0, none⟩ (.int .u32 (q : Int))).setCell ⟨y, 1, none⟩ (.int .u32 ((j : Int) + 1))).setCell ⟨y, 2, none⟩ (.int .u16 0)) := ((hb4'.setCell (p := ⟨y, 0, none⟩) hwy _).setCell (p := ⟨y, 1, none⟩) hwy _).setCell (p := ⟨y, 2, none⟩) hwy _
        go_upto_region 9 with (fail)
        generalize ((w4.setCell ⟨y, 0, none⟩ (.int .u32 (q : Int))).setCell ⟨y, 1, none⟩ (.int .u32 ((j : Int) + 1))).setCell ⟨y, 2, none⟩ (.int .u16 0) = w5 at *
        replace hy5 : Blk w5 y 50 #[.int .u32 (q : Int), .int .u32 ((j : Int) + 1), .int .u16 0, .string gg, .string mm, .slice A L c] := hy5
        clear hf0 hf1 hf2 hcs0 hc0
        have hcs5 := hy5.op6
        have RP := (R4.upd hU (fun g hg e => hg.2 e)).toRow (b := wr.heap.size) (fun g hg => hg.1)
        have H5 := held_of_row (w := wr) (o := ⟨q, j + 1, 0, gg.toList, mm.toList, ol⟩) (L := L) RP hL (by omega) (fun u hu => (hall u hu).ok) (by dsimp only; omega) (by dsimp only; omega) (by dsimp only; omega)
        dsimp only at H5
        rw [bstr_of_list, bstr_of_list] at H5
        have hsrc := Reads.lit (size := 7) w5 #[.int .u64 (v' : Int), .int .u32 (q : Int), .int .u32 ((j : Int) + 1), .int .u16 0, .string gg, .string mm, .slice A L c] 54 (0, 0) 1 [.int .u64 (v' : Int), .int .u32 (q : Int), .int .u32 ((j : Int) + 1), .int .u16 0, .string gg, .string mm, .slice A L c] rfl rfl
        have hb7 := hb5.alloc hb5.size (.cells #[.int .u64 (v' : Int), .int .u32 (q : Int), .int .u32 ((j : Int) + 1), .int .u16 0, .string gg, .string mm, .slice A L c] 54)
        have H7 : OpHeld (w5.alloc (.cells #[.int .u64 (v' : Int), .int .u32 (q : Int), .int .u32 ((j : Int) + 1), .int .u16 0, .string gg, .string mm, .slice A L c] 54)) (fun g => g < wr.heap.size) ⟨q, j + 1, 0, gg.toList, mm.toList, ol⟩ #[.int .u32 (q : Int), .int .u32 ((j : Int) + 1), .int .u16 0, .string gg, .string mm, .slice A L c] := H5.next (T := fun _ => False) ((Upd.refl _ w5).alloc _) (fun _ _ hf => hf.elim) (fun g _ hg => hg)
        have ho7 := hown.out.below hb7 (Nat.le_refl _)
        replace H7 := Lib.hid H7
        clear H5
        go_wp2_with (at_builtin; go_must (refine wpList_append_mine rfl _ _ 29 29 rfl 54 i0 _ 7 80 Try.underlying29 hi hz0 hz1 hz2 rfl rfl ho7 rfl (Src.ofReads Try.underlying29 _ hsrc (by intro u hu; simp only [List.mem_cons, List.not_mem_nil, or_false] at hu; rcases hu with rfl | rfl | rfl | rfl | rfl | rfl | rfl <;> rfl)) (by unfold maxLen; omega) (by omega) (fun A8 c8 w8 ho8 hg8 hat8 => ?_)))
        obtain ⟨lg8, xs8, css8, R8⟩ := Rl.out.push (v' := v') hv3 hL (by omega) hq4 hb7 hall ho8 hg8 hat8 H7.out
        exact ⟨⟨lg8, j + 1, v', A8, c8, xs8, css8, by simp, by simp, by simp [hnw], by omega, R8⟩, by simp [intOf]; omega⟩
    · have hj' : j = N := by omega
      subst hj'
      have d2 : decide ((j : Int) < (j : Int)) = false := decide_eq_false (by omega)
      go_wp2_with fail
      go_ret
      exact ⟨lg, A1, c1, xs1, css1, rfl, Rl.hj, Rl.ok, Rl.P, Rl.hb⟩
end Go.Proofs.Ytfmmabkekjchjaa
