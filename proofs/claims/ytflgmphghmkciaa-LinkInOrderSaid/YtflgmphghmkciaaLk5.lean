/- The link: packet. -/
import Derived.Test.YtflgmphghmkciaaLk2
import Derived.Deep.CutRange
set_option linter.unusedSimpArgs false
set_option linter.unusedVariables false
namespace Go.Proofs.Ytflgmphghmkciaa
open Go.RowKit
set_option maxRecDepth 100000

def pktB (own other came n : Nat) (b : List UInt8) : List UInt8 := framed (putU own 8 ++ putU other 8 ++ putU came 8 ++ putU n 8 ++ b)
def pre : List Nat → List UInt8
  | [] => []
  | v :: r => putU v 8 ++ pre r
theorem pre_len (l : List Nat) : (pre l).length = 8 * l.length := by
  induction l with
  | nil => rfl
  | cons v r ih => simp [pre, putU_len, ih]; omega
theorem pre_snoc (l : List Nat) (v : Nat) : pre (l ++ [v]) = pre l ++ putU v 8 := by
  induction l with
  | nil => simp [pre]
  | cons u r ih => simp [pre, ih]
theorem wire_put8 {A : Option Addr} {c B n : Nat} {bs r : List UInt8} {v : Nat} {w : World} (hr : Reads w B 1 A bs.length (bys bs)) (hB : B ≤ w.heap.size) (hl : bs.length ≤ 100000000000) (hv : v < 18446744073709551616) (he : bs ++ putU v 8 = r) (hn : bs.length = n) :
    Calls Try.prog 19 #[.slice A n c, .int .u64 (v : Int), .int .i64 8] w (NewBytes w r) := by
  subst he hn
  exact wire_put (m := 8) hr hB hl hv
set_option maxHeartbeats 3200000 in
theorem lk_packet {col : Nat → Nat} {k : Nat} {w : World} {g : Nat} {d : LkD} {n : Nat} {b : List UInt8} {B : Option Addr} {cB : Nat} (hc : Cx w col) (h : LinkC col k w g d) (hd : LkOk d) (hn : n < 2000000) (hr : Reads w w.heap.size 1 B b.length (bys b)) (hb : b.length ≤ 60000) : Calls Try.prog 14 #[lnk g, .int .u64 (n : Int), .slice B b.length cB] w (NewBytes w (pktB d.own d.other d.came n b)) := by
  obtain ⟨i0, hi, hz0, hz1, hz2⟩ := info_parts info_u8
  obtain ⟨A, c, xs, h⟩ := h
  have hblk := h.blk
  obtain ⟨own, other, l, first, came, heard, ticks⟩ := d
  have ho1 := hd.own
  have ho2 := hd.other
  have ho3 := hd.came
  dsimp only at ho1 ho2 ho3
  have hgl := h.lt
  have hk0 : ∀ W, Below w.heap.size w W → W.cell? ⟨g, 0, none⟩ = some (.int .u64 (own : Int)) := fun W hW => (hblk.below hW hgl).cell 0
  have hk1 : ∀ W, Below w.heap.size w W → W.cell? ⟨g, 1, none⟩ = some (.int .u64 (other : Int)) := fun W hW => (hblk.below hW hgl).cell 1
  have hk4 : ∀ W, Below w.heap.size w W → W.cell? ⟨g, 4, none⟩ = some (.int .u64 (came : Int)) := fun W hW => (hblk.below hW hgl).cell 4
  obtain ⟨p, hp⟩ : ∃ p, pre [own, other, came, n] = p := ⟨_, rfl⟩
  have hpl : p.length = 32 := by rw [← hp, pre_len]; rfl
  obtain ⟨r, hrr⟩ : ∃ r, p ++ b = r := ⟨_, rfl⟩
  have hrl : r.length ≤ 65536 := by rw [← hrr, List.length_append, hpl]; omega
  have hpk : pktB own other came n b = framed r := by
    unfold pktB
    rw [← hrr, ← hp]
    simp [pre]
  obtain ⟨m, hm⟩ : ∃ m, b.length = m := ⟨_, rfl⟩
  have hm' : m ≤ 60000 := by omega
  dsimp only
  rw [hpk]
  obtain ⟨F, hF⟩ : ∃ F, framed r = F := ⟨_, rfl⟩
  rw [hF, hm]
  have hrm : r.length = 32 + m := by rw [← hrr, List.length_append, hpl, hm]
  replace hp := Lib.hid hp
  replace hpl := Lib.hid hpl
  replace hrr := Lib.hid hrr
  replace hrm := Lib.hid hrm
  replace hF := Lib.hid hF
  replace hm := Lib.hid hm
  replace hd := Lib.hid hd
  replace h := Lib.hid h
  clear hpk hblk
  unfold lnk
  go_enter Try.func14, Try.ntmps14
  go_upto_region 2 with (fail)
  have hS0 := (Below.refl w.heap.size w).drew
  refine wp_region_lex (fun W => Below w.heap.size w W) [3, 7, 11] [13] [0, 1, 2, 3, 4, 5, 6, 7, 8, 9, 10, 11, 12, 15, 13, 14] (by kernel_rfl) rfl (by kernel_rfl) (by kernel_rfl) (fun _ _ d _ _ h => by cases d <;> exact h) ?_
  repeat (first | (refine lexG_take _ ?_ rfl rfl rfl rfl (fun _ => ?_) ?_; rotate_left; (focus (go_simp; with_reducible rfl)); try simp only [Act.put, List.setIfInBounds_toArray, List.set_cons_zero, List.set_cons_succ]) | (refine lexG_held _ ?_ rfl rfl rfl rfl (by assumption) (fun _ hSw => ?_) ?_; rotate_left; (focus (have h1 := hk0 _ hSw; have h2 := hk1 _ hSw; have h3 := hk4 _ hSw; clear hSw; go_simp; with_reducible rfl)); try simp only [Act.put, List.setIfInBounds_toArray, List.set_cons_zero, List.set_cons_succ]) | (refine lexG_skip _ rfl rfl (by assumption) ?_; try simp only [Act.put, List.setIfInBounds_toArray, List.set_cons_zero, List.set_cons_succ]))
  obtain ⟨w3, hw3⟩ : ∃ q, q = (w.alloc (.cells #[.int .u64 (own : Int), .int .u64 (other : Int), .int .u64 (came : Int), .int .u64 (n : Int)] 26)).drew := ⟨_, rfl⟩
  have hsrc : Reads w3 w3.heap.size 1 (some ⟨w.heap.size, 0, none⟩) 4 [.int .u64 (own : Int), .int .u64 (other : Int), .int .u64 (came : Int), .int .u64 (n : Int)] := by
    rw [hw3]
    exact (Reads.lit (size := 1) w #[.int .u64 (own : Int), .int .u64 (other : Int), .int .u64 (came : Int), .int .u64 (n : Int)] 26 (0, 0) 4 [.int .u64 (own : Int), .int .u64 (other : Int), .int .u64 (came : Int), .int .u64 (n : Int)] rfl rfl).drew.more (by simp)
  have hb07 : Below w.heap.size w w3 := by rw [hw3]; exact ((Below.refl w.heap.size w).alloc (Nat.le_refl _) _).drew
  obtain ⟨y0, hy0⟩ : ∃ y, w.heap.size = y := ⟨_, rfl⟩
  rw [hy0] at hsrc
  refine lexG_now _ rfl rfl rfl (fun K0 hK => ?_)
  go_wp2_with fail
  rw [← hw3]
  try rw [hy0]
  clear hw3
  refine hK _ _ _ (fun _ h => h) hb07 ?_
  clear hK K0
  try simp only [Act.put, List.setIfInBounds_toArray, List.set_cons_zero, List.set_cons_succ]
  repeat (first | (refine lexG_take _ ?_ rfl rfl rfl rfl (fun _ => ?_) ?_; rotate_left; (focus (go_simp; with_reducible rfl)); try simp only [Act.put, List.setIfInBounds_toArray, List.set_cons_zero, List.set_cons_succ]) | (refine lexG_held _ ?_ rfl rfl rfl rfl (by assumption) (fun _ hSw => ?_) ?_; rotate_left; (focus ((try dsimp only at hSw); go_simp; with_reducible rfl)); try simp only [Act.put, List.setIfInBounds_toArray, List.set_cons_zero, List.set_cons_succ]) | (refine lexG_skip _ rfl rfl (by assumption) ?_; try simp only [Act.put, List.setIfInBounds_toArray, List.set_cons_zero, List.set_cons_succ]))
  refine lexG_nil ?_
  have hnums : ∀ (K v : Nat), ([own, other, came, n] : List Nat)[K]? = some v → v < 18446744073709551616 := fun K v hv => by
    match K with
    | 0 => simp at hv; omega
    | 1 => simp at hv; omega
    | 2 => simp at hv; omega
    | 3 => simp at hv; omega
    | K + 4 => simp at hv
  have hat4 : ∀ (K : Nat), K < 4 → ∃ v : Nat, ([own, other, came, n] : List Nat)[K]? = some v ∧ ([.int .u64 (own : Int), .int .u64 (other : Int), .int .u64 (came : Int), .int .u64 (n : Int)] : List Value)[K]? = some (.int .u64 (v : Int)) := fun K hK => by
    match K with
    | 0 => exact ⟨_, rfl, rfl⟩
    | 1 => exact ⟨_, rfl, rfl⟩
    | 2 => exact ⟨_, rfl, rfl⟩
    | 3 => exact ⟨_, rfl, rfl⟩
    | K + 4 => omega
  obtain ⟨nums, hnm⟩ : ∃ q, [own, other, came, n] = q := ⟨_, rfl⟩
  obtain ⟨vals, hvl⟩ : ∃ q, ([.int .u64 (own : Int), .int .u64 (other : Int), .int .u64 (came : Int), .int .u64 (n : Int)] : List Value) = q := ⟨_, rfl⟩
  have hnl : nums.length = 4 := by rw [← hnm]; rfl
  rw [hnm] at hp hnums hat4
  rw [hvl] at hat4 hsrc
  replace hnl := Lib.hid hnl
  replace hat4 := Lib.hid hat4
  replace hnums := Lib.hid hnums
  replace hsrc := Lib.hid hsrc
  clear hnm hvl hS0 hk0 hk1 hk4
  go_wp2_with fail
  go_loopw [7, 27] (fun s z wr => ∃ (K q : Nat) (A' : Option Addr) (c' : Nat), K ≤ 4 ∧ z = .int .i64 (K : Int) ∧ s = .slice A' q c' ∧ q = 8 * K ∧ Own wr 5 1 A' q c' (bys (pre (nums.take K))) ∧ Below w3.heap.size w3 wr ∧ ∀ y, bOf A' = some y → w3.heap.size ≤ y) (fun _ z _ => 4 - (intOf z).toNat)
  case atStart => exact ⟨0, 0, none, 0, by decide, rfl, rfl, rfl, by rw [List.take_zero]; exact Own.none_, Below.refl _ _, by simp [bOf]⟩
  case round =>
    obtain ⟨K, q, A', c', hK4, rfl, rfl, hq, ho, hbr, hA'⟩ := hrel
    by_cases hlt : K < 4
    · obtain ⟨v, hv1, hv2⟩ := hat4.out K hlt
      have hvb := hnums.out K v hv1
      obtain ⟨ad, e1, -, hcell⟩ := (hsrc.out.below hbr).2 (by decide)
      cases e1
      have hcv := hcell K _ hv2
      rw [add_off, Nat.zero_add] at hcv
      have hlq : (pre (nums.take K)).length = q := by rw [pre_len, List.length_take, hnl.out, hq]; omega
      obtain ⟨r2, hr2⟩ : ∃ r2, pre (nums.take K) ++ putU v 8 = r2 := ⟨_, rfl⟩
      have hr2' : r2 = pre (nums.take (K + 1)) := by rw [← hr2, List.take_add_one, hv1, ← pre_snoc]; rfl
      have hr2l : r2.length = q + 8 := by rw [← hr2, List.length_append, hlq, putU_len]
      have hor := ho.reads_
      rw [← hlq] at hor
      have hput := fun c => wire_put8 (c := c) hor (Nat.le_refl _) (by rw [hlq]; omega) hvb hr2 hlq
      have hdk : decide ((K : Int) < 4) = true := decide_eq_true (by omega)
      have hkw : IntKind.i64.wrap ((K : Int) + 1) = (K : Int) + 1 := by rw [IntKind.wrap_i64]; omega
      have hbs := hbr.size
      replace hr2' := Lib.hid hr2'
      replace hr2l := Lib.hid hr2l
      replace hq := Lib.hid hq
      clear hr2 hlq hv1 hv2 hvb hor ho hcell
      go_wp2_with fail
      refine (hput _).mono ?_
      clear hput
      rintro e w5 ⟨A5, c5, rfl, ho5, hb5, hA5⟩
      try dsimp only
      rw [hr2l.out] at ho5 ⊢
      go_wp2_with fail
      go_roundw
      case rel => exact ⟨K + 1, q + 8, A5, c5, by omega, by simp, rfl, by have := hq.out; omega, by rw [← hr2'.out]; exact ho5, below_then hb5 hbr, fun y hy => Nat.le_trans hbs (hA5 y hy)⟩
      case measure => simp [intOf]; omega
    · have hk' : K = 4 := by omega
      subst hk'
      have hq' : q = 32 := by omega
      subst hq'
      rw [List.take_of_length_le (by rw [hnl.out]; exact Nat.le_refl _), hp.out] at ho
      have hb0r := below_then hbr hb07
      have hrb := hr.below hb0r
      rw [hm.out] at hrb
      have hrF := fun (c : Nat) => hF.out
      have hs3 := hb07.size
      clear hq hat4 hnums hsrc
      go_wp2_with (at_builtin; go_must (refine wpList_append_mine rfl _ _ 29 29 rfl 5 i0 (.int .u8 0) 1 1 Try.underlying29 hi hz0 hz1 hz2 rfl rfl ho rfl (Src.ofReads Try.underlying29 _ hrb (bys_one _)) ?b1 ?b2 ?grow))
      case b1 => unfold maxLen; omega
      case b2 => omega
      case grow =>
        intro A6 c6 w6 ho6 hg6 hat6
        have hb6 : Below w3.heap.size w3 w6 := hbr.grown hg6 hbr.size hA'
        rw [← bys_append, hrr.out, ← hrm.out] at ho6
        have hb06 := below_then hb6 hb07
        rw [← hrm.out]
        have hwr := fun (c : Nat) => wrap_walk (A := none) (C := A6) (c := 0) (d := c) (bs := []) (p := r) (r := F) Reads.none_ ho6.reads_ (by simp) hrl (by rw [List.nil_append]; exact hF.out)
        clear hrb
        go_wp2_with fail
        refine (hwr _).mono ?_
        rintro e w7 ⟨A7, c7, rfl, ho7, hb7, hA7⟩
        try dsimp only
        go_wp2_with fail
        go_ret
        exact ⟨A7, c7, rfl, ho7, below_then hb7 hb06, fun y hy => Nat.le_trans hb06.size (hA7 y hy)⟩
end Go.Proofs.Ytflgmphghmkciaa
