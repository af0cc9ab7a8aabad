/- The link: Out. -/
import Derived.Test.YtflgmphghmkciaaLk5
set_option linter.unusedSimpArgs false
set_option linter.unusedVariables false
namespace Go.Proofs.Ytflgmphghmkciaa
open Go.RowKit
set_option maxRecDepth 100000

def outFrom (own other came : Nat) : Nat → List (List UInt8 × Bool) → List (List UInt8)
  | _, [] => []
  | n, m :: r => (if m.2 then [pktB own other came n m.1] else []) ++ outFrom own other came (n + 1) r
def outD (d : LkD) : List (List UInt8) := outFrom d.own d.other d.came d.first d.l
def outsD (d : LkD) : List (List UInt8) := if (outD d).length = 0 ∧ d.heard = true then [pktB d.own d.other d.came 0 []] else outD d
def outS (d : LkD) : LkD := { d with l := d.l.map (fun m => (m.1, false)), heard := false }
theorem outFrom_append (own other came : Nat) (a b : List (List UInt8 × Bool)) : ∀ n, outFrom own other came n (a ++ b) = outFrom own other came n a ++ outFrom own other came (n + a.length) b := by
  induction a with
  | nil => intro n; rfl
  | cons m r ih =>
    intro n
    simp only [List.cons_append, outFrom, ih, List.length_cons, List.append_assoc]
    rw [show n + 1 + r.length = n + (r.length + 1) from by omega]
theorem outFrom_len (own other came : Nat) (a : List (List UInt8 × Bool)) : ∀ n, (outFrom own other came n a).length ≤ a.length := by
  induction a with
  | nil => intro n; exact Nat.le_refl _
  | cons m r ih =>
    intro n
    simp only [outFrom, List.length_append, List.length_cons]
    have := ih (n + 1)
    split <;> simp <;> omega
theorem outFrom_succ {own other came n K : Nat} {l : List (List UInt8 × Bool)} {m : List UInt8 × Bool} (hm : l[K]? = some m) : outFrom own other came n (l.take (K + 1)) = outFrom own other came n (l.take K) ++ (if m.2 then [pktB own other came (n + K) m.1] else []) := by
  have hK := lt_at hm
  rw [List.take_add_one, hm]
  show outFrom own other came n (l.take K ++ [m]) = _
  rw [outFrom_append, List.length_take, Nat.min_eq_left (by omega)]
  simp [outFrom]
theorem setNow_skip {l : List (List UInt8 × Bool)} {K : Nat} {m : List UInt8 × Bool} (hm : l[K]? = some m) (hf : m.2 = false) : setNow l (K + 1) false = setNow l K false := by
  have h := setNow_succ false hm
  have hm' : (setNow l K false)[K]? = some m := by rw [setNow_at false (Nat.le_refl _)]; exact hm
  rw [← h]
  apply List.ext_getElem?
  intro i
  rw [List.getElem?_set]
  split
  · rename_i e
    subst e
    rw [hm', if_pos (lt_at hm'), ← hf]
  · rfl
theorem LkOk.setNow {own other : Nat} {l : List (List UInt8 × Bool)} {first came : Nat} {heard : Bool} {ticks : Nat} (h : LkOk ⟨own, other, l, first, came, heard, ticks⟩) (K : Nat) (f : Bool) : LkOk ⟨own, other, setNow l K f, first, came, heard, ticks⟩ := by
  refine ⟨h.own, h.other, ?_, fun m hm => ?_, h.first, h.came, h.ticks⟩
  · have := h.l
    dsimp only at this ⊢
    rw [setNow_len]; exact this
  · dsimp only [_root_.Go.Proofs.Ytflgmphghmkciaa.setNow] at hm
    rcases List.mem_append.1 hm with hm | hm
    · obtain ⟨q, hq, rfl⟩ := List.mem_map.1 hm
      exact h.b q (List.mem_of_mem_take hq)
    · exact h.b m (List.mem_of_mem_drop hm)

structure OutR (col : Nat → Nat) (k : Nat) (w : World) (col2 : Nat → Nat) (wr : World) : Prop where
  ext : ∀ y, y < w.heap.size → col2 y = col y
  upd : Upd (fun y => col y = k) w wr
  cx : Cx wr col2
  nw : ∀ y, col2 y = 0 ∨ col2 y = col y ∨ col2 y = k ∨ col2 y = 7
section
variable {col col2 col3 : Nat → Nat} {k j : Nat} {w wr wr' : World}
theorem OutR.step (h : OutR col k w col2 wr) (h7 : ∀ y, col y ≠ 7) (hs : Stp col2 j wr col3 wr') (hj : j = 7 ∨ j = k) : OutR col k w col3 wr' := by
  refine ⟨fun y hy => (hs.ext y (Nat.lt_of_lt_of_le hy h.upd.size)).trans (h.ext y hy), h.upd.trans hs.upd (fun y hy e => ?_), hs.cx, fun y => ?_⟩
  · rw [h.ext y hy] at e
    rcases hj with rfl | rfl
    · exact absurd e (h7 y)
    · exact e
  · rcases hs.nw y with e | e | e
    · exact .inl e
    · rw [e]; exact h.nw y
    · rcases hj with rfl | rfl
      · exact .inr (.inr (.inr e))
      · exact .inr (.inr (.inl e))
theorem OutR.wash (h : OutR col k w col2 wr) (h7 : ∀ y, col y ≠ 7) : Stp col k w (wash col2) wr := by
  refine ⟨fun y hy => ?_, h.upd, fun y hy => wash_eq (h.cx y hy) (by decide), fun y => ?_⟩
  · rw [wash_eq rfl (by rw [h.ext y hy]; exact h7 y)]; exact h.ext y hy
  · by_cases e : col2 y = 7
    · exact .inl (wash_seven e)
    · rw [wash_eq rfl e]
      rcases h.nw y with e2 | e2 | e2 | e2
      · exact .inl e2
      · exact .inr (.inl e2)
      · exact .inr (.inr e2)
      · exact absurd e2 e
end
/-- What Out leaves. -/
def OutRes (col : Nat → Nat) (k : Nat) (w : World) (g : Nat) (d' : LkD) (L : List (List UInt8)) (e : Ending) (w' : World) : Prop :=
  ∃ A c col', e = .returned (.slice A L.length c) ∧ Stp col k w col' w' ∧ LinkC col' k w' g d' ∧ PksC col' 0 w' A c L
theorem outres_mk {col col' : Nat → Nat} {k : Nat} {w w' : World} {g : Nat} {d' dd : LkD} {L : List (List UInt8)} {A : Option Addr} {M c : Nat} (hoo : outsD dd = L) (hM : L.length = M) (h : Stp col k w col' w' ∧ LinkC col' k w' g d' ∧ PksC col' 0 w' A c L) : OutRes col k w g d' (outsD dd) (.returned (.slice A M c)) w' := by
  rw [hoo]
  subst hM
  exact ⟨A, c, col', rfl, h.1, h.2.1, h.2.2⟩
set_option maxHeartbeats 6400000 in
theorem lk_out {col : Nat → Nat} {k : Nat} {w : World} {g : Nat} {d : LkD} (hc : Cx w col) (h : LinkC col k w g d) (hd : LkOk d) (hk7 : k ≠ 7) (h7 : ∀ y, col y ≠ 7) : Calls Try.prog 7 #[lnk g] w (OutRes col k w g (outS d) (outsD d)) := by
  obtain ⟨i0, hi, hz0, hz1, hz2⟩ := info_parts info_row
  obtain ⟨A, c, xs, h⟩ := h
  have hk0 := h.k0
  have h2 := h.c2
  obtain ⟨own, other, l, first, came, heard, ticks⟩ := d
  have hl8 := hd.l
  have hfl := hd.first
  have hbl := hd.b
  dsimp only at h2 hl8 hfl hbl
  obtain ⟨N, hN⟩ : ∃ q, l.length = q := ⟨_, rfl⟩
  rw [hN] at h2 hl8
  replace h := Lib.hid h
  replace hd := Lib.hid hd
  unfold lnk
  go_enter Try.func7, Try.ntmps7
  go_wp2_with fail
  go_loopw [3, 11] (fun s z wr => ∃ (K M : Nat) (L : List (List UInt8)) (Ao : Option Addr) (co : Nat) (col2 : Nat → Nat), K ≤ N ∧ z = .int .i64 (K : Int) ∧ s = .slice Ao M co ∧ outFrom own other came first (l.take K) = L ∧ L.length = M ∧ M ≤ K ∧ PksC col2 7 wr Ao co L ∧ (∃ xs', LinkX col2 k wr g ⟨own, other, setNow l K false, first, came, heard, ticks⟩ A c xs') ∧ OutR col k w col2 wr) (fun _ z _ => N - (intOf z).toNat)
  case atStart => exact ⟨0, 0, [], none, 0, col, Nat.zero_le _, rfl, rfl, rfl, rfl, Nat.le_refl _, PksC.none_, ⟨xs, by rw [setNow_zero]; exact h.out⟩, fun _ _ => rfl, Upd.refl _ _, hc, fun _ => .inr (.inl rfl)⟩
  case round =>
    obtain ⟨K, M, L, Ao, co, col2, hk, rfl, rfl, hL, hM, hMK, hP, ⟨xr, X⟩, R⟩ := hrel
    by_cases hlt : K < N
    · have hm : l[K]? = some (l[K]'(by omega)) := List.getElem?_eq_getElem _
      have hmb := hbl _ (List.getElem_mem (by omega : K < l.length))
      generalize l[K]'(by omega) = m at hm hmb
      have hm' : (setNow l K false)[K]? = some m := by rw [setNow_at false (Nat.le_refl _)]; exact hm
      have hdk : decide ((K : Int) < (N : Int)) = true := decide_eq_true (by omega)
      have hkw : IntKind.i64.wrap ((K : Int) + 1) = (K : Int) + 1 := by rw [IntKind.wrap_i64]; omega
      obtain ⟨gA, o, B, cB, rfl, m0, m1, mf, hFB⟩ := X.msg hm'
      have hsucc := outFrom_succ (own := own) (other := other) (came := came) (n := first) hm
      have hns := setNow_succ false hm
      have hr2 := X.c2
      have hr3 := X.c3
      dsimp only at hr2 hr3
      rw [setNow_len, hN] at hr2
      obtain ⟨mb, mn⟩ := m
      dsimp only at m0 m1 hFB hmb hsucc hns
      cases mn
      · have hskip := setNow_skip hm rfl
        have hend : (∃ xs', LinkX col2 k wr g ⟨own, other, setNow l (K + 1) false, first, came, heard, ticks⟩ (some ⟨gA, o, none⟩) c xs') := ⟨xr, by rw [hskip]; exact X⟩
        replace hend := Lib.hid hend
        rw [hL] at hsucc
        simp only [Bool.false_eq_true, if_false, List.append_nil] at hsucc
        clear X hns hm' hskip hL
        go_wp2_with fail
        go_roundw
        case rel => exact ⟨K + 1, M, L, Ao, co, col2, by omega, by simp, rfl, hsucc, hM, by omega, hP, hend.out, R⟩
        case measure => simp [intOf]; omega
      · obtain ⟨pk, hpk⟩ : ∃ q, pktB own other came (first + K) mb = q := ⟨_, rfl⟩
        rw [hL] at hsucc
        simp only [if_true] at hsucc
        rw [hpk] at hsucc
        obtain ⟨xo, P⟩ := hP
        obtain ⟨LB, hLB⟩ : ∃ q, mb.length = q := ⟨_, rfl⟩
        rw [hLB] at m0 hmb
        have hgl := X.lt
        have hgAl : gA < wr.heap.size := X.ho.lt rfl
        have hgn : ¬ bOf Ao = some g := fun e => by have h1 := P.cA g e; have h2 := X.cg; omega
        have hgAn : ¬ bOf Ao = some gA := fun e => by have h1 := P.cA gA e; have h2 := X.cA gA rfl; omega
        have hk3 : ∀ W, Upd (fun y => bOf Ao = some y) wr W → W.cell? ⟨g, 3, none⟩ = some (.int .u64 (first : Int)) := fun W hW => (X.blk.upd hW hgn).cell 3
        have hm0 : ∀ W, Upd (fun y => bOf Ao = some y) wr W → W.cell? ⟨gA, o + K * 2, none⟩ = some (.slice B LB cB) := fun W hW => (World.cell?_of_block (hW.block gA hgAl hgAn)).trans m0
        have hU0 : Upd (fun y => bOf Ao = some y) wr wr.drew := Upd.of_below_size (Below.refl _ _).drew
        have hkc : IntKind.u64.wrap (K : Int) = (K : Int) := by simp [IntKind.wrap, IntKind.bits, IntKind.signed]; omega
        have hfk : IntKind.u64.wrap ((first : Int) + (K : Int)) = ((first + K : Nat) : Int) := by simp [IntKind.wrap, IntKind.bits, IntKind.signed]; omega
        have hS0 : Below wr.heap.size wr wr.drew := (Below.refl _ _).drew
        have hcd := R.cx.below hS0
        have hpc := fun c => lk_packet (n := first + K) (b := mb) (B := B) (cB := c) hcd ⟨_, _, _, X.below R.cx hS0⟩ (hd.out.setNow K false) (by omega) (hFB.below R.cx hS0).1 (by rw [hLB]; exact hmb)
        dsimp only at hpc
        rw [hpk, hLB] at hpc
        have hPo := P.ho
        rw [hM] at hPo
        replace hpc := Lib.hid hpc
        replace hsucc := Lib.hid hsucc
        replace hL := Lib.hid hL
        replace hM := Lib.hid hM
        replace hPo := Lib.hid hPo
        replace P := Lib.hid P
        replace X := Lib.hid X
        replace hFB := Lib.hid hFB
        replace R := Lib.hid R
        replace hcd := Lib.hid hcd
        clear hpk
        go_upto_region 7 with (fail)
        refine wp_region_lex (fun W => Upd (fun y => bOf Ao = some y) wr W) [5, 12] [13, 14, 15] [0, 1, 2, 3, 4, 5, 6, 7, 8, 9, 10, 11, 12, 13, 14, 15, 16] (by kernel_rfl) rfl (by kernel_rfl) (by kernel_rfl) (fun _ _ d _ _ h => by cases d <;> exact h) ?_
        repeat (first | (refine lexG_take _ ?_ rfl rfl rfl rfl (fun _ => ?_) ?_; rotate_left; (focus (go_simp; with_reducible rfl)); try simp only [Act.put, List.setIfInBounds_toArray, List.set_cons_zero, List.set_cons_succ]) | (refine lexG_held _ ?_ rfl rfl rfl rfl (by assumption) (fun _ hSw => ?_) ?_; rotate_left; (focus (have h1 := hk3 _ hSw; have h3 := hm0 _ hSw; clear hSw; go_simp; with_reducible rfl)); try simp only [Act.put, List.setIfInBounds_toArray, List.set_cons_zero, List.set_cons_succ]) | (refine lexG_skip _ rfl rfl (by assumption) ?_; try simp only [Act.put, List.setIfInBounds_toArray, List.set_cons_zero, List.set_cons_succ]))
        refine lexG_now _ rfl rfl rfl (fun K0 hK => ?_)
        go_wp2_with fail
        refine (hpc.out _).mono ?_
        clear hpc
        rintro e w6 ⟨B6, c6, rfl, ho6, hb6, hB6⟩
        try dsimp only
        obtain ⟨np, hnp⟩ : ∃ q, pk.length = q := ⟨_, rfl⟩
        rw [hnp] at ho6 ⊢
        have hb06 := below_then hb6 hS0
        refine hK _ _ _ (fun _ h => h) (Upd.of_below_size hb06) ?_
        clear hK K0
        try simp only [Act.put, List.setIfInBounds_toArray, List.set_cons_zero, List.set_cons_succ]
        repeat (first | (refine lexG_take _ ?_ rfl rfl rfl rfl (fun _ => ?_) ?_; rotate_left; (focus (go_simp; with_reducible rfl)); try simp only [Act.put, List.setIfInBounds_toArray, List.set_cons_zero, List.set_cons_succ]) | (refine lexG_held _ ?_ rfl rfl rfl rfl (by assumption) (fun _ hSw => ?_) ?_; rotate_left; (focus ((try dsimp only at hSw); go_simp; with_reducible rfl)); try simp only [Act.put, List.setIfInBounds_toArray, List.set_cons_zero, List.set_cons_succ]) | (refine lexG_skip _ rfl rfl (by assumption) ?_; try simp only [Act.put, List.setIfInBounds_toArray, List.set_cons_zero, List.set_cons_succ]))
        obtain ⟨w7, hw7⟩ : ∃ q, q = w6.alloc (.cells #[.slice B6 np c6] 29) := ⟨_, rfl⟩
        have hsrc : Reads w7 (w6.heap.size + 1) 1 (some ⟨w6.heap.size, 0, none⟩) 1 [.slice B6 np c6] := by rw [hw7]; exact Reads.lit (size := 1) w6 #[.slice B6 np c6] 29 (0, 0) 1 [.slice B6 np c6] rfl rfl
        have hb67 : Below w6.heap.size w6 w7 := by rw [hw7]; exact (Below.refl _ _).alloc (Nat.le_refl _) _
        have hb07 := below_then hb67 hb06
        refine lexG_now _ rfl rfl rfl (fun K0 hK => ?_)
        go_wp2_with fail
        rw [← hw7]
        refine hK _ _ _ (fun _ h => h) (Upd.of_below_size hb07) ?_
        clear hK K0 hw7
        try simp only [Act.put, List.setIfInBounds_toArray, List.set_cons_zero, List.set_cons_succ]
        repeat (first | (refine lexG_take _ ?_ rfl rfl rfl rfl (fun _ => ?_) ?_; rotate_left; (focus (go_simp; with_reducible rfl)); try simp only [Act.put, List.setIfInBounds_toArray, List.set_cons_zero, List.set_cons_succ]) | (refine lexG_held _ ?_ rfl rfl rfl rfl (by assumption) (fun _ hSw => ?_) ?_; rotate_left; (focus ((try dsimp only at hSw); go_simp; with_reducible rfl)); try simp only [Act.put, List.setIfInBounds_toArray, List.set_cons_zero, List.set_cons_succ]) | (refine lexG_skip _ rfl rfl (by assumption) ?_; try simp only [Act.put, List.setIfInBounds_toArray, List.set_cons_zero, List.set_cons_succ]))
        have ho7 := hPo.out.below hb07 (Nat.le_refl _)
        refine lexG_now _ rfl rfl rfl (fun K0 hK => ?_)
        refine wp_append_mine _ _ 27 27 rfl 29 i0 _ 1 24 Try.underlying27 hi hz0 hz1 hz2 rfl rfl ho7 rfl (Src.ofReads Try.underlying27 _ hsrc (by intro u hu; simp only [List.mem_cons, List.not_mem_nil, or_false] at hu; subst hu; rfl)) (by unfold maxLen; omega) (by omega) (fun A8 c8 w8 ho8 hg8 hat8 => ?_)
        have hU8 := (Upd.of_below_size (S := fun y => bOf Ao = some y) hb07).grown hg8 (fun k e _ => e)
        refine hK _ _ _ (fun _ h => h) hU8 ?_
        clear hK K0
        try simp only [Act.put, List.setIfInBounds_toArray, List.set_cons_zero, List.set_cons_succ]
        repeat (first | (refine lexG_take _ ?_ rfl rfl rfl rfl (fun _ => ?_) ?_; rotate_left; (focus (go_simp; with_reducible rfl)); try simp only [Act.put, List.setIfInBounds_toArray, List.set_cons_zero, List.set_cons_succ]) | (refine lexG_held _ ?_ rfl rfl rfl rfl (by assumption) (fun _ hSw => ?_) ?_; rotate_left; (focus ((try dsimp only at hSw); go_simp; with_reducible rfl)); try simp only [Act.put, List.setIfInBounds_toArray, List.set_cons_zero, List.set_cons_succ]) | (refine lexG_skip _ rfl rfl (by assumption) ?_; try simp only [Act.put, List.setIfInBounds_toArray, List.set_cons_zero, List.set_cons_succ]))
        refine lexG_nil ?_
        have hs7 := Stp.below (k := 7) R.out.cx hb07
        have hoB7 := ho6.below hb67 (Nat.le_refl _)
        have hFp : FrB col2 w7 B6 pk := FrB.own (by rw [hnp]; exact hoB7) (fun y hy => R.out.cx y (by have := hB6 y hy; have := hS0.size; omega))
        have hcB6 : np ≤ c6 := ho6.le_cap
        have P7 := P.out.keep (Stp.below (k := 8) R.out.cx hb07) (by decide) (by decide)
        obtain ⟨col3, hs8, P8⟩ := P7.push (L' := [pk]) (xs' := [.slice B6 np c6]) (by decide) (R.out.cx.below hb07) (by rw [hM.out]; exact ho8) hg8 hat8 rfl (fun j b hj => by
          match j with
          | 0 => simp at hj; subst hj; exact ⟨B6, c6, by rw [hnp]; rfl, by rw [hnp]; exact hcB6, hFp⟩
          | j + 1 => simp at hj)
        have hs08 := hs7.trans hs8
        have X8 := X.out.keep hs08 (Ne.symm hk7) (by decide)
        have R8 := R.out.step h7 hs08 (.inl rfl)
        obtain ⟨gA', o', B', cB', e1, -, m1', mf', -⟩ := X8.msg hm'
        cases e1
        have ⟨hX9, hs9⟩ := X8.mark (f := false) R8.cx hm'
        obtain ⟨xs9, X9⟩ := hX9
        dsimp only at X9
        rw [hns] at X9
        have R9 := R8.step h7 hs9 (.inr rfl)
        have P9 := P8.keep hs9 hk7 hk0
        have hend : PksC col3 7 (w8.setCell ⟨gA, o + K * 2 + 1, none⟩ (.bool false)) A8 c8 (L ++ [pk]) ∧ (∃ xs', LinkX col3 k (w8.setCell ⟨gA, o + K * 2 + 1, none⟩ (.bool false)) g ⟨own, other, setNow l (K + 1) false, first, came, heard, ticks⟩ (some ⟨gA, o, none⟩) c xs') ∧ OutR col k w col3 (w8.setCell ⟨gA, o + K * 2 + 1, none⟩ (.bool false)) := ⟨⟨_, P9⟩, ⟨xs9, X9⟩, R9⟩
        replace hend := Lib.hid hend
        clear hsrc ho6 hoB7 ho7 ho8 hg8 hat8 hU8 hs7 hs8 hs08 P7 P8 X8 R8 X9 R9 P9 hs9 hFp hk3 hm0 m0 m1 mf hb6 hb67 hb07 hb06
        go_wp2_with fail
        go_roundw
        case rel => exact ⟨K + 1, M + 1, L ++ [pk], A8, c8, col3, by omega, by simp, rfl, hsucc.out, by rw [List.length_append, hM.out]; rfl, by omega, hend.out.1, hend.out.2.1, hend.out.2.2⟩
        case measure => simp [intOf]; omega
    · have hk' : K = N := by omega
      have hdk : decide ((K : Int) < (N : Int)) = false := decide_eq_false (by omega)
      rw [hk', ← hN, setNow_all] at X
      rw [hk', ← hN, List.take_length] at hL
      have hX5 : ∀ (f : Bool) (W : World) (c2 : Nat → Nat), LinkX c2 k W g ⟨own, other, l.map (fun m => (m.1, false)), first, came, f, ticks⟩ A c xr → Cx W c2 → LinkX c2 k (W.setCell ⟨g, 5, none⟩ (.bool false)) g ⟨own, other, l.map (fun m => (m.1, false)), first, came, false, ticks⟩ A c xr ∧ Stp c2 k W c2 (W.setCell ⟨g, 5, none⟩ (.bool false)) := fun f W c2 hX hc => hX.put (d' := ⟨own, other, l.map (fun m => (m.1, false)), first, came, false, ticks⟩) (i := 5) (v := .bool false) hc rfl rfl
      have c5 := X.c5
      have f5 := X.blk.frozen 5
      have ho : outD ⟨own, other, l, first, came, heard, ticks⟩ = L := hL
      obtain ⟨xo, P⟩ := hP
      have hk0 := X.k0
      have hMK' : M ≤ 8 := by omega
      by_cases hM0 : M = 0
      · subst hM0
        have hL0 : L = [] := List.eq_nil_of_length_eq_zero hM
        subst hL0
        cases heard
        · have hoo : outsD ⟨own, other, l, first, came, false, ticks⟩ = [] := by unfold outsD; rw [ho]; rfl
          obtain ⟨X9, hs9⟩ := hX5 false wr col2 X R.cx
          have R9 := (R.step h7 hs9 (.inr rfl)).wash h7
          have P9 := (P.keep hs9 hk7 hk0).wash7
          have X9' := X9.wash hk7
          have hend : Stp col k w (wash col2) (wr.setCell ⟨g, 5, none⟩ (.bool false)) ∧ LinkC (wash col2) k (wr.setCell ⟨g, 5, none⟩ (.bool false)) g (outS ⟨own, other, l, first, came, false, ticks⟩) ∧ PksC (wash col2) 0 (wr.setCell ⟨g, 5, none⟩ (.bool false)) Ao co [] := ⟨R9, ⟨A, c, xr, X9'⟩, xo, P9⟩
          replace hoo := Lib.hid hoo
          replace hend := Lib.hid hend
          clear X P R X9 X9' P9 R9 hs9 hX5 hL ho
          go_wp2_with fail
          go_ret
          exact outres_mk (A := Ao) (M := 0) (c := co) hoo.out rfl hend.out
        · obtain ⟨pk, hpk⟩ : ∃ q, pktB own other came 0 [] = q := ⟨_, rfl⟩
          have hoo : outsD ⟨own, other, l, first, came, true, ticks⟩ = [pk] := by unfold outsD; rw [ho, ← hpk]; rfl
          have hcd := R.cx
          have hdd : LkOk ⟨own, other, l.map (fun m => (m.1, false)), first, came, true, ticks⟩ := by rw [← setNow_all]; exact hd.out.setNow _ _
          have hpc := fun c' => lk_packet (n := 0) (b := []) (B := none) (cB := c') hcd ⟨_, _, _, X⟩ hdd (by omega) Reads.none_ (by simp)
          dsimp only [List.length_nil] at hpc
          rw [hpk] at hpc
          have hPo := P.ho
          replace hoo := Lib.hid hoo
          replace hpc := Lib.hid hpc
          replace P := Lib.hid P
          replace X := Lib.hid X
          replace R := Lib.hid R
          replace hX5 := Lib.hid hX5
          clear hpk hL ho hcd hdd
          go_upto_region 11 with (fail)
          go_wp2_with fail
          refine (hpc.out _).mono ?_
          clear hpc
          rintro e w6 ⟨B6, c6, rfl, ho6, hb6, hB6⟩
          try dsimp only
          obtain ⟨np, hnp⟩ : ∃ q, pk.length = q := ⟨_, rfl⟩
          rw [hnp] at ho6 ⊢
          obtain ⟨w7, hw7⟩ : ∃ q, q = w6.alloc (.cells #[.slice B6 np c6] 29) := ⟨_, rfl⟩
          have hsrc : Reads w7 (w6.heap.size + 1) 1 (some ⟨w6.heap.size, 0, none⟩) 1 [.slice B6 np c6] := by rw [hw7]; exact Reads.lit (size := 1) w6 #[.slice B6 np c6] 29 (0, 0) 1 [.slice B6 np c6] rfl rfl
          have hb67 : Below w6.heap.size w6 w7 := by rw [hw7]; exact (Below.refl _ _).alloc (Nat.le_refl _) _
          have hb07 := below_then hb67 hb6
          have ho7 := hPo.below hb07 (Nat.le_refl _)
          rw [hw7] at hsrc ho7
          go_wp2_with (at_builtin; go_must (refine wpList_append_mine rfl _ _ 27 27 rfl 29 i0 _ 1 24 Try.underlying27 hi hz0 hz1 hz2 rfl rfl ho7 rfl (Src.ofReads Try.underlying27 _ hsrc (by intro u hu; simp only [List.mem_cons, List.not_mem_nil, or_false] at hu; subst hu; rfl)) ?b1 ?b2 ?grow))
          case b1 => unfold maxLen; simp
          case b2 => simp
          case grow =>
            intro A8 c8 w8 ho8 hg8 hat8
            have hsz : w7.heap.size = w6.heap.size + 1 := by rw [hw7]; simp
            rw [← hsz] at hat8
            rw [← hw7] at hg8
            clear hsrc ho7 hw7
            have hoB7 := ho6.below hb67 (Nat.le_refl _)
            have hFp : FrB col2 w7 B6 pk := FrB.own (by rw [hnp]; exact hoB7) (fun y hy => R.out.cx y (by have := hB6 y hy; omega))
            have hcB6 : np ≤ c6 := ho6.le_cap
            have hs7 := Stp.below (k := 7) R.out.cx hb07
            have P7 := P.out.keep (Stp.below (k := 8) R.out.cx hb07) (by decide) (by decide)
            obtain ⟨col3, hs8, P8⟩ := P7.push (L' := [pk]) (xs' := [.slice B6 np c6]) (by decide) (R.out.cx.below hb07) ho8 hg8 hat8 rfl (fun j b hj => by
              match j with
              | 0 => simp at hj; subst hj; exact ⟨B6, c6, by rw [hnp]; rfl, by rw [hnp]; exact hcB6, hFp⟩
              | j + 1 => simp at hj)
            have hs08 := hs7.trans hs8
            have X8 := X.out.keep hs08 (Ne.symm hk7) (by decide)
            have R8 := R.out.step h7 hs08 (.inl rfl)
            have c58 := X8.c5
            have f58 := X8.blk.frozen 5
            obtain ⟨X9, hs9⟩ := hX5.out true w8 col3 X8 R8.cx
            have R9 := (R8.step h7 hs9 (.inr rfl)).wash h7
            have P9 := (P8.keep hs9 hk7 hk0).wash7
            have X9' := X9.wash hk7
            have hend : Stp col k w (wash col3) (w8.setCell ⟨g, 5, none⟩ (.bool false)) ∧ LinkC (wash col3) k (w8.setCell ⟨g, 5, none⟩ (.bool false)) g (outS ⟨own, other, l, first, came, true, ticks⟩) ∧ PksC (wash col3) 0 (w8.setCell ⟨g, 5, none⟩ (.bool false)) A8 c8 [pk] := ⟨R9, ⟨A, c, xr, X9'⟩, _, P9⟩
            replace hend := Lib.hid hend
            clear P7 P8 X8 R8 X9 X9' R9 P9 hs9 hs7 hs8 hs08 ho8 hg8 hat8 hoB7 ho6 hb6 hb67 hb07 c5 f5 hFp
            go_wp2_with fail
            go_ret
            exact outres_mk (A := A8) (M := 1) (c := c8) hoo.out rfl hend.out
      · have hoo : outsD ⟨own, other, l, first, came, heard, ticks⟩ = L := by unfold outsD; rw [ho, if_neg (by rw [hM]; exact fun e => hM0 e.1)]
        obtain ⟨X9, hs9⟩ := hX5 heard wr col2 X R.cx
        have R9 := (R.step h7 hs9 (.inr rfl)).wash h7
        have P9 := (P.keep hs9 hk7 hk0).wash7
        have X9' := X9.wash hk7
        have hend : Stp col k w (wash col2) (wr.setCell ⟨g, 5, none⟩ (.bool false)) ∧ LinkC (wash col2) k (wr.setCell ⟨g, 5, none⟩ (.bool false)) g (outS ⟨own, other, l, first, came, heard, ticks⟩) ∧ PksC (wash col2) 0 (wr.setCell ⟨g, 5, none⟩ (.bool false)) Ao co L := ⟨R9, ⟨A, c, xr, X9'⟩, xo, P9⟩
        replace hoo := Lib.hid hoo
        replace hM := Lib.hid hM
        have e0 : ((M : Int) == 0) = false := by rw [beq_eq_false_iff_ne]; omega
        replace hend := Lib.hid hend
        clear X P R X9 X9' P9 R9 hs9 hX5 hL ho
        go_wp2_with fail
        go_ret
        exact outres_mk (A := Ao) (M := M) (c := co) hoo.out hM.out hend.out
end Go.Proofs.Ytflgmphghmkciaa
