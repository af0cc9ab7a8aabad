/- A journal's records and states, in plain: what a record's bytes are, what bytes are a record, what records come to. -/
import Derived.Test.YtjljlgkghlphnaaB2
import Derived.Test.YtjljlgkghlphnaaB5
import Derived.Test.YtjljlgkghlphnaaB4
import Derived.Deep.CutRange
set_option linter.unusedSimpArgs false
set_option linter.unusedVariables false
namespace Go.Proofs.Ytjljlgkghlphnaa
open Go.RowKit

structure RecD where
  k : Int
  v : Nat
  n : Int
  o : OpD
def opz : OpD := ⟨0, 0, 0, [], [], []⟩
def errP (r : RecD) : Nat := if r.k < 1 ∨ 4 < r.k ∨ r.n < 0 ∨ 2147483647 < r.n ∨ (r.k = 1 ∧ 1 < r.n) then 22 else if r.k = 2 then errO r.o else 0
def bytesP (r : RecD) : List UInt8 :=
  if r.k = 1 then [1] ++ putU r.v 8 ++ putU r.n.toNat 4 else if r.k = 2 then [2] ++ putU r.v 8 ++ bytesO r.o else [UInt8.ofNat r.k.toNat] ++ putU r.n.toNat 4
def rdNum (t : List UInt8) : Option Nat := if t.length = 4 ∧ readU t ≤ 2147483647 then some (readU t) else none
def rdRec1 (k : Nat) (t : List UInt8) : Option RecD :=
  if k = 1 then (if t.length < 8 then none else match rdNum (t.drop 8) with | some n => if n ≤ 1 then some ⟨1, readU (t.take 8), n, opz⟩ else none | none => none)
  else if k = 2 then (if t.length < 8 then none else match rdOp (t.drop 8) with | some (o, q) => if q = t.length - 8 then some ⟨2, readU (t.take 8), 0, o⟩ else none | none => none)
  else if k = 3 ∨ k = 4 then (match rdNum t with | some n => some ⟨k, 0, n, opz⟩ | none => none)
  else none
def rdRec : List UInt8 → Option RecD
  | [] => none
  | k :: t => rdRec1 k.toNat t

theorem bytesP_pos (r : RecD) : 0 < (bytesP r).length := by
  unfold bytesP
  split
  · simp
  split
  · simp
  · simp
theorem readU_put8 (v : Nat) (h : v < 18446744073709551616) : readU (putU v 8) = v := putU_back v 8 h
theorem readU_put4 (v : Nat) (h : v < 4294967296) : readU (putU v 4) = v := putU_back v 4 h
theorem rdNum_put {n : Nat} (h : n ≤ 2147483647) : rdNum (putU n 4) = some n := by
  unfold rdNum
  rw [putU_len, readU_put4 n (by omega), if_pos ⟨rfl, h⟩]

/-- A right record is read back. -/
theorem rdRec_enc (r : RecD) (hv : r.v < 18446744073709551616) (hok : ∀ v ∈ r.o.l, OkV v) (hc : r.o.c < 4294967296) (hs : r.o.s < 4294967296) (hn : r.o.n < 65536) (he : errP r = 0) : ∃ x, rdRec (bytesP r) = some x := by
  unfold errP at he
  split at he
  · cases he
  rename_i hbad
  unfold bytesP
  by_cases h1 : r.k = 1
  · rw [if_pos h1]
    show ∃ x, rdRec1 1 (putU r.v 8 ++ putU r.n.toNat 4) = some x
    unfold rdRec1
    rw [if_pos rfl, if_neg (by simp [putU_len]), List.drop_left' (putU_len _ _), rdNum_put (by omega)]
    dsimp only
    rw [if_pos (by omega)]
    exact ⟨_, rfl⟩
  rw [if_neg h1]
  by_cases h2 : r.k = 2
  · rw [if_pos h2] at he ⊢
    show ∃ x, rdRec1 2 (putU r.v 8 ++ bytesO r.o) = some x
    have hh := rdOp_enc r.o [] hok hc hs hn he
    rw [List.append_nil] at hh
    unfold rdRec1
    rw [if_neg (by decide), if_pos rfl, if_neg (by simp [putU_len]), List.drop_left' (putU_len _ _), hh]
    dsimp only
    rw [if_pos (by simp [putU_len])]
    exact ⟨_, rfl⟩
  rw [if_neg h2]
  have h34 : r.k = 3 ∨ r.k = 4 := by omega
  have hkn : (UInt8.ofNat r.k.toNat).toNat = 3 ∨ (UInt8.ofNat r.k.toNat).toNat = 4 := by
    rcases h34 with h | h <;> rw [h]
    · exact .inl rfl
    · exact .inr rfl
  show ∃ x, rdRec1 (UInt8.ofNat r.k.toNat).toNat (putU r.n.toNat 4) = some x
  unfold rdRec1
  rw [if_neg (by omega), if_neg (by omega), if_pos hkn, rdNum_put (by omega)]
  exact ⟨_, rfl⟩

def cleanO (o : OpD) : OpD := ⟨o.c, o.s, o.n, o.g, o.m, o.l.map cleanV⟩
structure StD where
  v : Nat
  last : Nat
  log : List (Nat × OpD)
  sure : Int
def st0 : StD := ⟨0, 0, [], 0⟩
def lastV (l : List (Nat × OpD)) : Nat := match l.getLast? with | some x => x.1 | none => 0
def stepOk (s : StD) (r : RecD) : Bool :=
  if r.k = 1 then decide (s.v < r.v ∨ (r.v = s.v ∧ r.n = 1))
  else if r.k = 2 then decide (0 < r.v ∧ lastV s.log ≤ r.v ∧ s.log.length < 400)
  else if r.k = 3 ∨ r.k = 4 then decide (s.sure ≤ r.n ∧ r.n ≤ s.log.length)
  else false
def stepD (s : StD) (r : RecD) : StD :=
  if stepOk s r = true then
    (if r.k = 1 then ⟨r.v, if r.n = 1 then r.v else s.last, s.log, s.sure⟩
    else if r.k = 2 then ⟨s.v, s.last, s.log ++ [(r.v, cleanO r.o)], s.sure⟩
    else if r.k = 3 then ⟨s.v, s.last, s.log.take r.n.toNat, s.sure⟩
    else ⟨s.v, s.last, s.log, r.n⟩)
  else s

/-- What bytes come to, from a place on; and how far. -/
def recF : Nat → List UInt8 → StD → Nat → StD × Nat
  | 0, _, s, at_ => (s, at_)
  | f + 1, b, s, at_ =>
    if (opened (b.drop at_)).2.2 ≠ 0 then (s, at_)
    else match rdRec (opened (b.drop at_)).1 with
      | none => (s, at_)
      | some r => if stepOk s r = true then recF f b (stepD s r) (at_ + (opened (b.drop at_)).2.1) else (s, at_)
def recD (b : List UInt8) : StD × Nat := recF (b.length + 1) b st0 0
theorem opened_far {b : List UInt8} (h : (opened b).2.2 = 0) : 8 ≤ (opened b).2.1 ∧ (opened b).2.1 ≤ b.length := by
  unfold opened at h ⊢
  split
  · rename_i h1; rw [if_pos h1] at h; cases h
  rename_i h1
  rw [if_neg h1] at h
  split
  · rename_i h2; rw [if_pos h2] at h; cases h
  rename_i h2
  rw [if_neg h2] at h
  split
  · rename_i h3; rw [if_pos h3] at h; cases h
  rename_i h3
  rw [if_neg h3] at h
  split
  · dsimp only; omega
  · rename_i h4; rw [if_neg h4] at h; cases h
/-- More steps allowed make no other. -/
theorem recF_more : ∀ (f : Nat) (b : List UInt8) (s : StD) (at_ : Nat), b.length < f + at_ → recF (f + 1) b s at_ = recF f b s at_
  | 0, b, s, at_, h => by
    unfold recF
    have : (opened (b.drop at_)).2.2 ≠ 0 := fun h0 => by
      have := opened_far h0
      rw [List.length_drop] at this
      omega
    rw [if_pos this]
  | f + 1, b, s, at_, h => by
    rw [recF]
    conv => rhs; rw [recF]
    by_cases h0 : (opened (b.drop at_)).2.2 ≠ 0
    · rw [if_pos h0, if_pos h0]
    · rw [if_neg h0, if_neg h0]
      have hf := opened_far (Decidable.not_not.1 h0)
      cases rdRec (opened (b.drop at_)).1 with
      | none => rfl
      | some r =>
        dsimp only
        by_cases hs : stepOk s r = true
        · rw [if_pos hs, if_pos hs]
          exact recF_more f b _ _ (by omega)
        · rw [if_neg hs, if_neg hs]
end Go.Proofs.Ytjljlgkghlphnaa
namespace Go.Proofs.Ytjljlgkghlphnaa
open Go.RowKit
set_option maxRecDepth 100000

theorem Blk.rec9 {w : World} {g : Nat} {t : TypeId} {a b c d e f h i j : Value} (x : Blk w g t #[a, b, c, d, e, f, h, i, j]) : w.cell? ⟨g, 0, none⟩ = some a ∧ w.cell? ⟨g, 1, none⟩ = some b ∧ w.cell? ⟨g, 2, none⟩ = some c ∧ w.cell? ⟨g, 3, none⟩ = some d ∧ w.cell? ⟨g, 4, none⟩ = some e ∧ w.cell? ⟨g, 5, none⟩ = some f ∧ w.cell? ⟨g, 6, none⟩ = some h ∧ w.cell? ⟨g, 7, none⟩ = some i ∧ w.cell? ⟨g, 8, none⟩ = some j := ⟨x.cell 0, x.cell 1, x.cell 2, x.cell 3, x.cell 4, x.cell 5, x.cell 6, x.cell 7, x.cell 8⟩
theorem wire_put8 {A : Option Addr} {c B : Nat} {bs r : List UInt8} {v : Nat} {w : World} (hr : Reads w B 1 A bs.length (bys bs)) (hB : B ≤ w.heap.size) (hl : bs.length ≤ 100000000000) (hv : v < 18446744073709551616) (he : bs ++ putU v 8 = r) :
    Calls Try.prog 51 #[.slice A bs.length c, .int .u64 (v : Int), .int .i64 8] w (NewBytes w r) := by
  subst he
  exact wire_put (m := 8) hr hB hl hv
theorem ref_put8 {A : Option Addr} {c : Nat} {bs r : List UInt8} {v : Nat} {w : World} (h : Own w 5 1 A bs.length c (bys bs)) (hl : bs.length ≤ 100000000000) (hv : v < 18446744073709551616) (he : bs ++ putU v 8 = r) :
    Calls Try.prog 29 #[.slice A bs.length c, .int .u64 (v : Int), .int .i64 8] w (PutBytes w A r) := by
  subst he
  exact ref_put (m := 8) h hl hv

theorem wrap_u64_nat (j : Nat) (h : j < 18446744073709551616) : IntKind.u64.wrap (j : Int) = (j : Int) := by
  simp [IntKind.wrap, IntKind.bits, IntKind.signed]
  omega
theorem wrap_kind (k : Int) (h1 : 1 ≤ k) (h4 : k ≤ 4) : IntKind.u8.wrap k = ((UInt8.ofNat k.toNat).toNat : Int) := by
  have h : k = 1 ∨ k = 2 ∨ k = 3 ∨ k = 4 := by omega
  rcases h with rfl | rfl | rfl | rfl <;> rfl

/-- Bytes of a new row and no error, or an error. -/
def PayRes (w : World) (x : Nat) (r : List UInt8) (e : Ending) (w' : World) : Prop := (x = 0 → PutOk w r e w') ∧ (x ≠ 0 → PutNo w x e w')

set_option maxHeartbeats 6400000 in
theorem pay_walk {k n : Int} {v c1 s1 n1 : Nat} {g m : List UInt8} {gg mm : ByteArray} {l : List Val} {A : Option Addr} {K cc B : Nat} {w : World} (ho : OpReads w B ⟨c1, s1, n1, g, m, l⟩ #[.int .u32 (c1 : Int), .int .u32 (s1 : Int), .int .u16 (n1 : Int), .string gg, .string mm, .slice A K cc]) (hB : B ≤ w.heap.size) (hv : v < 18446744073709551616) (hg : g.length ≤ 1000) (hm : m.length ≤ 1000) :
    Calls Try.prog 27 #[.agg #[.int .i64 k, .int .u64 (v : Int), .int .i64 n, .int .u32 (c1 : Int), .int .u32 (s1 : Int), .int .u16 (n1 : Int), .string gg, .string mm, .slice A K cc]] w (PayRes w (errP ⟨k, v, n, ⟨c1, s1, n1, g, m, l⟩⟩) (bytesP ⟨k, v, n, ⟨c1, s1, n1, g, m, l⟩⟩)) := by
  have hR1 := Blk.new w 32 #[.int .i64 k, .int .u64 (v : Int), .int .i64 n, .int .u32 (c1 : Int), .int .u32 (s1 : Int), .int .u16 (n1 : Int), .string gg, .string mm, .slice A K cc]
  have hb1 := (Below.refl w.heap.size w).alloc (Nat.le_refl _) (.cells #[.int .i64 k, .int .u64 (v : Int), .int .i64 n, .int .u32 (c1 : Int), .int .u32 (s1 : Int), .int .u16 (n1 : Int), .string gg, .string mm, .slice A K cc] 32)
  obtain ⟨x, hx⟩ : ∃ x, IntKind.u8.wrap k = x := ⟨_, rfl⟩
  have hb2 := hb1.alloc hb1.size (.cells #[.int .u8 x] 5)
  have hR2 := hR1.alloc (.cells #[.int .u8 x] 5)
  have hL := Reads.lit (size := 1) (w.alloc (.cells #[.int .i64 k, .int .u64 (v : Int), .int .i64 n, .int .u32 (c1 : Int), .int .u32 (s1 : Int), .int .u16 (n1 : Int), .string gg, .string mm, .slice A K cc] 32)) #[.int .u8 x] 5 (0, 0) 1 [.int .u8 x] rfl rfl
  have hc := hR1.rec9
  have hc2 := hR2.rec9
  have hs1 : (w.alloc (.cells #[.int .i64 k, .int .u64 (v : Int), .int .i64 n, .int .u32 (c1 : Int), .int .u32 (s1 : Int), .int .u16 (n1 : Int), .string gg, .string mm, .slice A K cc] 32)).heap.size = w.heap.size + 1 := by simp
  by_cases hbad : k < 1 ∨ 4 < k ∨ n < 0 ∨ 2147483647 < n ∨ (k = 1 ∧ 1 < n)
  · have he : errP ⟨k, v, n, ⟨c1, s1, n1, g, m, l⟩⟩ = 22 := by unfold errP; rw [if_pos hbad]
    rw [he]
    generalize bytesP ⟨k, v, n, ⟨c1, s1, n1, g, m, l⟩⟩ = bb
    have fin22 : ∀ W, Below w.heap.size w W → PayRes w 22 bb (.returned (.tuple #[.slice none 0 0, .int .i64 22])) W := fun W hW => ⟨fun h => absurd h (by decide), fun _ => ⟨rfl, hW⟩⟩
    clear he
    replace fin22 := Lib.hid fin22
    clear hL ho
    go_enter Try.func27, Try.ntmps27
    by_cases h1 : k < 1
    · have d1 : decide (k < 1) = true := decide_eq_true h1
      go_wp2_with fail
      go_ret2
      exact fin22.out _ (by assumption)
    have d1 : decide (k < 1) = false := decide_eq_false h1
    by_cases h2 : 4 < k
    · have d2 : decide (4 < k) = true := decide_eq_true h2
      go_wp2_with fail
      go_ret2
      exact fin22.out _ (by assumption)
    have d2 : decide (4 < k) = false := decide_eq_false h2
    by_cases h3 : n < 0
    · have d3 : decide (n < 0) = true := decide_eq_true h3
      go_wp2_with fail
      go_ret2
      exact fin22.out _ (by assumption)
    have d3 : decide (n < 0) = false := decide_eq_false h3
    by_cases h4 : 2147483647 < n
    · have d4 : decide (2147483647 < n) = true := decide_eq_true h4
      go_wp2_with fail
      go_ret2
      exact fin22.out _ (by assumption)
    have d4 : decide (2147483647 < n) = false := decide_eq_false h4
    have d5 : (k == 1) = true := by rw [beq_iff_eq]; omega
    have d6 : decide (1 < n) = true := decide_eq_true (by omega)
    go_wp2_with fail
    go_ret2
    exact fin22.out _ (by assumption)
  have hbs : ∀ W, Below w.heap.size w W → OpReads W B ⟨c1, s1, n1, g, m, l⟩ #[.int .u32 (c1 : Int), .int .u32 (s1 : Int), .int .u16 (n1 : Int), .string gg, .string mm, .slice A K cc] := fun W hW => ho.below (hW.mono hB)
  have d1 : decide (k < 1) = false := decide_eq_false (by omega)
  have d2 : decide (4 < k) = false := decide_eq_false (by omega)
  obtain ⟨j, rfl⟩ : ∃ j : Nat, n = (j : Int) := ⟨n.toNat, by omega⟩
  have d3 : decide ((j : Int) < 0) = false := decide_eq_false (by omega)
  have d4 : decide (2147483647 < (j : Int)) = false := decide_eq_false (by omega)
  have hj2 : j ≤ 2147483647 := by omega
  have hwn : IntKind.u64.wrap (j : Int) = (j : Int) := wrap_u64_nat j (by omega)
  have hkx : x = ((UInt8.ofNat k.toNat).toNat : Int) := by rw [← hx]; exact wrap_kind k (by omega) (by omega)
  have hLb : ∀ W, Below ((w.alloc (.cells #[.int .i64 k, .int .u64 (v : Int), .int .i64 (j : Int), .int .u32 (c1 : Int), .int .u32 (s1 : Int), .int .u16 (n1 : Int), .string gg, .string mm, .slice A K cc] 32)).alloc (.cells #[.int .u8 x] 5)).heap.size ((w.alloc (.cells #[.int .i64 k, .int .u64 (v : Int), .int .i64 (j : Int), .int .u32 (c1 : Int), .int .u32 (s1 : Int), .int .u16 (n1 : Int), .string gg, .string mm, .slice A K cc] 32)).alloc (.cells #[.int .u8 x] 5)) W → Reads W W.heap.size 1 (some ⟨w.heap.size + 1, 0, none⟩) [UInt8.ofNat k.toNat].length (bys [UInt8.ofNat k.toNat]) := fun W hW => by
    have h := ((hL.more (show _ ≤ ((w.alloc (.cells #[.int .i64 k, .int .u64 (v : Int), .int .i64 (j : Int), .int .u32 (c1 : Int), .int .u32 (s1 : Int), .int .u16 (n1 : Int), .string gg, .string mm, .slice A K cc] 32)).alloc (.cells #[.int .u8 x] 5)).heap.size by simp)).below hW).more hW.size
    rw [hs1] at h
    rw [hkx] at h
    exact h
  rw [hs1] at hL
  by_cases hk1 : k = 1
  · subst hk1
    have he : errP ⟨1, v, (j : Int), ⟨c1, s1, n1, g, m, l⟩⟩ = 0 := by unfold errP; rw [if_neg hbad]; rfl
    have d5 : ((1 : Int) == 1) = true := rfl
    have d6 : decide (1 < (j : Int)) = false := decide_eq_false (by omega)
    obtain ⟨r, hr⟩ : ∃ r, bytesP ⟨1, v, (j : Int), ⟨c1, s1, n1, g, m, l⟩⟩ = r := ⟨_, rfl⟩
    obtain ⟨q, hq⟩ : ∃ q, [UInt8.ofNat (1 : Int).toNat] ++ putU v 8 = q := ⟨_, rfl⟩
    have hqr : q ++ putU j 4 = r := by rw [← hr, ← hq]; rfl
    rw [he, hr]
    replace hLb := Lib.hid hLb
    replace hbs := Lib.hid hbs
    replace hq := Lib.hid hq
    replace hqr := Lib.hid hqr
    replace hr := Lib.hid hr
    clear hL hc ho hkx hR1 hb1 hbad
    go_enter Try.func27, Try.ntmps27
    go_wp2_with fail
    generalize (w.alloc (.cells #[.int .i64 1, .int .u64 (v : Int), .int .i64 (j : Int), .int .u32 (c1 : Int), .int .u32 (s1 : Int), .int .u16 (n1 : Int), .string gg, .string mm, .slice A K cc] 32)).alloc (.cells #[.int .u8 x] 5) = w3 at *
    clear hc2
    have hS0 : Below w3.heap.size w3 w3.drew := (Below.refl _ _).drew
    refine wp_region_lex (fun W => Below w3.heap.size w3 W) [2, 5] [3, 7] [0, 1, 2, 4, 5, 6, 3, 7, 8, 9] (by kernel_rfl) rfl (by kernel_rfl) (by kernel_rfl) (fun _ _ d _ _ h => by cases d <;> exact h) ?_
    repeat (first | (refine lexG_take _ ?_ rfl rfl rfl rfl (fun _ => ?_) ?_; rotate_left; (focus (go_simp; with_reducible rfl)); try simp only [Act.put, List.setIfInBounds_toArray, List.set_cons_zero, List.set_cons_succ]) | (refine lexG_held _ ?_ rfl rfl rfl rfl (by assumption) (fun _ hSw => ?_) ?_; rotate_left; (focus (have h1 := (hR2.below hSw hR2.lt).rec9; clear hSw; go_simp; with_reducible rfl)); try simp only [Act.put, List.setIfInBounds_toArray, List.set_cons_zero, List.set_cons_succ]) | (refine lexG_skip _ rfl rfl (by assumption) ?_; try simp only [Act.put, List.setIfInBounds_toArray, List.set_cons_zero, List.set_cons_succ]))
    refine lexG_now _ rfl rfl rfl (fun K0 hK => ?_)
    go_wp2_with fail
    have hp := wire_put8 (c := 1) (hLb.out w3.drew hS0) (Nat.le_refl _) (by simp) hv hq.out
    rw [show [UInt8.ofNat (1 : Int).toNat].length = 1 from rfl] at hp
    refine hp.mono ?_
    clear hp
    rintro e w4 ⟨A4, c4, rfl, ho4, hb4, hg4⟩
    dsimp only
    have hS4 := below_then hb4 hS0
    refine hK _ _ _ (fun _ h => h) hS4 ?_
    clear hK K0
    try simp only [Act.put, List.setIfInBounds_toArray, List.set_cons_zero, List.set_cons_succ]
    repeat (first | (refine lexG_take _ ?_ rfl rfl rfl rfl (fun _ => ?_) ?_; rotate_left; (focus (go_simp; with_reducible rfl)); try simp only [Act.put, List.setIfInBounds_toArray, List.set_cons_zero, List.set_cons_succ]) | (refine lexG_held _ ?_ rfl rfl rfl rfl (by assumption) (fun _ hSw => ?_) ?_; rotate_left; (focus (have h1 := (hR2.below hSw hR2.lt).rec9; clear hSw; go_simp; with_reducible rfl)); try simp only [Act.put, List.setIfInBounds_toArray, List.set_cons_zero, List.set_cons_succ]) | (refine lexG_skip _ rfl rfl (by assumption) ?_; try simp only [Act.put, List.setIfInBounds_toArray, List.set_cons_zero, List.set_cons_succ]))
    refine lexG_now _ rfl rfl rfl (fun K0 hK => ?_)
    have hp := wire_put4 (c := c4) (v := j) ho4.reads_ (Nat.le_refl _) (by have := congrArg List.length hq.out; simp [putU_len] at this; omega) (by omega) hqr.out
    go_wp2_with fail
    refine hp.mono ?_
    clear hp
    rintro e w5 ⟨A5, c5, rfl, ho5, hb5, hg5⟩
    dsimp only
    have hS5 := below_then hb5 hS4
    refine hK _ _ _ (fun _ h => h) hS5 ?_
    clear hK K0
    try simp only [Act.put, List.setIfInBounds_toArray, List.set_cons_zero, List.set_cons_succ]
    repeat (first | (refine lexG_take _ ?_ rfl rfl rfl rfl (fun _ => ?_) ?_; rotate_left; (focus (go_simp; with_reducible rfl)); try simp only [Act.put, List.setIfInBounds_toArray, List.set_cons_zero, List.set_cons_succ]) | (refine lexG_held _ ?_ rfl rfl rfl rfl (by assumption) (fun _ hSw => ?_) ?_; rotate_left; (focus (have h1 := (hR2.below hSw hR2.lt).rec9; clear hSw; go_simp; with_reducible rfl)); try simp only [Act.put, List.setIfInBounds_toArray, List.set_cons_zero, List.set_cons_succ]) | (refine lexG_skip _ rfl rfl (by assumption) ?_; try simp only [Act.put, List.setIfInBounds_toArray, List.set_cons_zero, List.set_cons_succ]))
    refine lexG_nil ?_
    have hB5 := below_then hS5 hb2
    have hw3 := hb2.size
    have hg5' : ∀ g, bOf A5 = some g → w.heap.size ≤ g := fun g hg => by have := hg5 g hg; have := hS4.size; omega
    clear hR2 hb2
    go_wp2_with fail
    go_ret2
    exact ⟨fun _ => ⟨A5, c5, rfl, ho5, hB5, hg5'⟩, fun h => absurd rfl h⟩
  by_cases hk2 : k = 2
  · subst hk2
    have he : errP ⟨2, v, (j : Int), ⟨c1, s1, n1, g, m, l⟩⟩ = errO ⟨c1, s1, n1, g, m, l⟩ := by unfold errP; rw [if_neg hbad]; rfl
    have d5 : ((2 : Int) == 1) = false := rfl
    have d7 : ((2 : Int) == 2) = true := rfl
    obtain ⟨q, hq⟩ : ∃ q, [UInt8.ofNat (2 : Int).toNat] ++ putU v 8 = q := ⟨_, rfl⟩
    have hr : bytesP ⟨2, v, (j : Int), ⟨c1, s1, n1, g, m, l⟩⟩ = q ++ bytesO ⟨c1, s1, n1, g, m, l⟩ := by rw [← hq]; rfl
    have hqr := True.intro
    obtain ⟨r2, hr2⟩ : ∃ r2, q ++ bytesO ⟨c1, s1, n1, g, m, l⟩ = r2 := ⟨_, rfl⟩
    rw [he, hr, hr2]
    replace hr2 := Lib.hid hr2
    obtain ⟨E, hE⟩ : ∃ E, errO ⟨c1, s1, n1, g, m, l⟩ = E := ⟨_, rfl⟩
    have hcp := fun (W : World) (A4 : Option Addr) (c4 : Nat) (hW : Below w.heap.size w W) (hA : Reads W W.heap.size 1 A4 q.length (bys q)) => call_put (ca := c4) (hbs W hW) (Nat.le_trans hB hW.size) hA (by have := congrArg List.length hq; simp [putU_len] at this; omega) hg hm
    rw [hE]
    replace hcp := Lib.hid hcp
    replace hE := Lib.hid hE
    replace hLb := Lib.hid hLb
    replace hbs := Lib.hid hbs
    replace hq := Lib.hid hq
    replace hqr := Lib.hid hqr
    replace hr := Lib.hid hr
    clear hL hc ho hkx hR1 hb1 hbad
    go_enter Try.func27, Try.ntmps27
    go_wp2_with fail
    generalize (w.alloc (.cells #[.int .i64 2, .int .u64 (v : Int), .int .i64 (j : Int), .int .u32 (c1 : Int), .int .u32 (s1 : Int), .int .u16 (n1 : Int), .string gg, .string mm, .slice A K cc] 32)).alloc (.cells #[.int .u8 x] 5) = w3 at *
    clear hc2
    have hS0 : Below w3.heap.size w3 w3.drew := (Below.refl _ _).drew
    refine wp_region_lex (fun W => Below w3.heap.size w3 W) [2, 5] [3, 6] [0, 1, 2, 4, 5, 3, 6, 7, 8, 9, 10] (by kernel_rfl) rfl (by kernel_rfl) (by kernel_rfl) (fun _ _ d _ _ h => by cases d <;> exact h) ?_
    repeat (first | (refine lexG_take _ ?_ rfl rfl rfl rfl (fun _ => ?_) ?_; rotate_left; (focus (go_simp; with_reducible rfl)); try simp only [Act.put, List.setIfInBounds_toArray, List.set_cons_zero, List.set_cons_succ]) | (refine lexG_held _ ?_ rfl rfl rfl rfl (by assumption) (fun _ hSw => ?_) ?_; rotate_left; (focus (have h1 := (hR2.below hSw hR2.lt).rec9; clear hSw; go_simp; with_reducible rfl)); try simp only [Act.put, List.setIfInBounds_toArray, List.set_cons_zero, List.set_cons_succ]) | (refine lexG_skip _ rfl rfl (by assumption) ?_; try simp only [Act.put, List.setIfInBounds_toArray, List.set_cons_zero, List.set_cons_succ]))
    refine lexG_now _ rfl rfl rfl (fun K0 hK => ?_)
    go_wp2_with fail
    have hp := wire_put8 (c := 1) (hLb.out w3.drew hS0) (Nat.le_refl _) (by simp) hv hq.out
    rw [show [UInt8.ofNat (2 : Int).toNat].length = 1 from rfl] at hp
    refine hp.mono ?_
    clear hp
    rintro e w4 ⟨A4, c4, rfl, ho4, hb4, hg4⟩
    dsimp only
    have hS4 := below_then hb4 hS0
    refine hK _ _ _ (fun _ h => h) hS4 ?_
    clear hK K0
    try simp only [Act.put, List.setIfInBounds_toArray, List.set_cons_zero, List.set_cons_succ]
    repeat (first | (refine lexG_take _ ?_ rfl rfl rfl rfl (fun _ => ?_) ?_; rotate_left; (focus (go_simp; with_reducible rfl)); try simp only [Act.put, List.setIfInBounds_toArray, List.set_cons_zero, List.set_cons_succ]) | (refine lexG_held _ ?_ rfl rfl rfl rfl (by assumption) (fun _ hSw => ?_) ?_; rotate_left; (focus (have h1 := (hR2.below hSw hR2.lt).rec9; clear hSw; go_simp; with_reducible rfl)); try simp only [Act.put, List.setIfInBounds_toArray, List.set_cons_zero, List.set_cons_succ]) | (refine lexG_skip _ rfl rfl (by assumption) ?_; try simp only [Act.put, List.setIfInBounds_toArray, List.set_cons_zero, List.set_cons_succ]))
    refine lexG_now _ rfl rfl rfl (fun K0 hK => ?_)
    have hp := hcp.out w4 A4 c4 (below_then hS4 hb2) ho4.reads_
    have hw3 := hb2.size
    have hs4 := hS4.size
    go_wp2_with fail
    refine hp.mono ?_
    clear hp
    intro e w5 h5
    unfold OpPut at h5
    rw [hE.out, hr2.out] at h5
    by_cases hE0 : E = 0
    · obtain ⟨A5, c5, rfl, ho5, hb5, hg5⟩ := h5.1 hE0
      subst hE0
      dsimp only
      have hS5 := below_then hb5 hS4
      refine hK _ _ _ (fun _ h => h) hS5 ?_
      clear hK K0
      try simp only [Act.put, List.setIfInBounds_toArray, List.set_cons_zero, List.set_cons_succ]
      repeat (first | (refine lexG_take _ ?_ rfl rfl rfl rfl (fun _ => ?_) ?_; rotate_left; (focus (go_simp; with_reducible rfl)); try simp only [Act.put, List.setIfInBounds_toArray, List.set_cons_zero, List.set_cons_succ]) | (refine lexG_held _ ?_ rfl rfl rfl rfl (by assumption) (fun _ hSw => ?_) ?_; rotate_left; (focus (have h1 := (hR2.below hSw hR2.lt).rec9; clear hSw; go_simp; with_reducible rfl)); try simp only [Act.put, List.setIfInBounds_toArray, List.set_cons_zero, List.set_cons_succ]) | (refine lexG_skip _ rfl rfl (by assumption) ?_; try simp only [Act.put, List.setIfInBounds_toArray, List.set_cons_zero, List.set_cons_succ]))
      refine lexG_nil ?_
      have hB5 := below_then hS5 hb2
      have hg5' : ∀ g, bOf A5 = some g → w.heap.size ≤ g := fun g hg => by have := hg5 g hg; omega
      clear hR2 hb2 h5
      go_wp2_with fail
      go_ret2
      exact ⟨fun _ => ⟨A5, c5, rfl, ho5, hB5, hg5'⟩, fun h => absurd rfl h⟩
    · obtain ⟨rfl, hb5⟩ := h5.2 hE0
      dsimp only
      have hS5 := below_then hb5 hS4
      refine hK _ _ _ (fun _ h => h) hS5 ?_
      clear hK K0
      try simp only [Act.put, List.setIfInBounds_toArray, List.set_cons_zero, List.set_cons_succ]
      repeat (first | (refine lexG_take _ ?_ rfl rfl rfl rfl (fun _ => ?_) ?_; rotate_left; (focus (go_simp; with_reducible rfl)); try simp only [Act.put, List.setIfInBounds_toArray, List.set_cons_zero, List.set_cons_succ]) | (refine lexG_held _ ?_ rfl rfl rfl rfl (by assumption) (fun _ hSw => ?_) ?_; rotate_left; (focus (have h1 := (hR2.below hSw hR2.lt).rec9; clear hSw; go_simp; with_reducible rfl)); try simp only [Act.put, List.setIfInBounds_toArray, List.set_cons_zero, List.set_cons_succ]) | (refine lexG_skip _ rfl rfl (by assumption) ?_; try simp only [Act.put, List.setIfInBounds_toArray, List.set_cons_zero, List.set_cons_succ]))
      refine lexG_nil ?_
      have hB5 := below_then hS5 hb2
      clear hR2 hb2 h5
      go_wp2_with fail
      go_ret2
      exact ⟨fun h => absurd h hE0, fun _ => ⟨rfl, hB5⟩⟩
  · have hk1' : ¬ k = 1 := hk1
    have he : errP ⟨k, v, (j : Int), ⟨c1, s1, n1, g, m, l⟩⟩ = 0 := by unfold errP; rw [if_neg hbad, if_neg hk2]
    have d5 : (k == 1) = false := by rw [beq_eq_false_iff_ne]; exact hk1
    have d7 : (k == 2) = false := by rw [beq_eq_false_iff_ne]; exact hk2
    obtain ⟨r, hr⟩ : ∃ r, bytesP ⟨k, v, (j : Int), ⟨c1, s1, n1, g, m, l⟩⟩ = r := ⟨_, rfl⟩
    have hq : [UInt8.ofNat k.toNat] ++ putU j 4 = r := by rw [← hr]; unfold bytesP; rw [if_neg hk1, if_neg hk2]; rfl
    have hqr := True.intro
    rw [he, hr]
    replace hLb := Lib.hid hLb
    replace hbs := Lib.hid hbs
    replace hq := Lib.hid hq
    replace hqr := Lib.hid hqr
    replace hr := Lib.hid hr
    clear hL hc ho hkx hR1 hb1 hbad
    go_enter Try.func27, Try.ntmps27
    go_wp2_with fail
    generalize (w.alloc (.cells #[.int .i64 k, .int .u64 (v : Int), .int .i64 (j : Int), .int .u32 (c1 : Int), .int .u32 (s1 : Int), .int .u16 (n1 : Int), .string gg, .string mm, .slice A K cc] 32)).alloc (.cells #[.int .u8 x] 5) = w3 at *
    clear hc2
    have hp := wire_put4 (c := 1) (v := j) (hLb.out w3 (Below.refl _ _)) (Nat.le_refl _) (by simp) (by omega) hq.out
    rw [show [UInt8.ofNat k.toNat].length = 1 from rfl] at hp
    refine hp.mono ?_
    clear hp
    rintro e w5 ⟨A5, c5, rfl, ho5, hb5, hg5⟩
    dsimp only
    have hB5 := below_then hb5 hb2
    have hw3 := hb2.size
    have hg5' : ∀ g, bOf A5 = some g → w.heap.size ≤ g := fun g hg => by have := hg5 g hg; omega
    clear hR2 hb2
    go_wp2_with fail
    go_ret2
    exact ⟨fun _ => ⟨A5, c5, rfl, ho5, hB5, hg5'⟩, fun h => absurd rfl h⟩
end Go.Proofs.Ytjljlgkghlphnaa
namespace Go.Proofs.Ytjljlgkghlphnaa
open Go.RowKit
set_option maxRecDepth 100000

def NumJ (w : World) (o : Option Nat) (e : Ending) (w' : World) : Prop :=
  ∃ (x : Int) (q : Bool), e = .returned (.tuple #[.int .i64 x, .bool q]) ∧ q = o.isSome ∧ (∀ n, o = some n → x = (n : Int)) ∧ Below w.heap.size w w'

theorem w64_le' (v : Nat) (h : v < 4294967296) : IntKind.i64.wrap (v : Int) = (v : Int) := w64_id _ (by omega) (by omega)

theorem num_walk {A : Option Addr} {c : Nat} {b : List UInt8} {w : World} (h : Reads w w.heap.size 1 A b.length (bys b)) (hc : b.length ≤ c) (hl : b.length ≤ 1000000000) (o : Option Nat) (ho : rdNum b = o) :
    Calls Try.prog 58 #[.slice A b.length c] w (NumJ w o) := by
  have hrd := read_any (k := 4) h hc (by omega) rfl
  unfold readN at hrd
  unfold rdNum at ho
  by_cases h4 : 4 ≤ b.length
  · rw [if_pos ⟨by decide, by decide, by omega⟩] at hrd
    have hv := readU_4 b
    have hw := w64_le' (readU (b.take 4)) hv
    obtain ⟨v, hvv⟩ : ∃ v, readU (b.take 4) = v := ⟨_, rfl⟩
    rw [show (4 : Int).toNat = 4 from rfl] at hrd
    rw [hvv] at hrd hv hw
    have ho' : o = if b.length = 4 ∧ v ≤ 2147483647 then some v else none := by
      rw [← ho]
      by_cases h44 : b.length = 4
      · have ht : b.take 4 = b := List.take_of_length_le (by omega)
        rw [← hvv, ht]
      · rw [if_neg (fun hh => h44 hh.1), if_neg (fun hh => h44 hh.1)]
    obtain ⟨N, hN⟩ : ∃ N, b.length = N := ⟨_, rfl⟩
    rw [hN] at hrd ho' h4 ⊢
    replace ho' := Lib.hid ho'
    replace hrd := Lib.hid hrd
    clear ho hvv h hN
    go_enter Try.func58, Try.ntmps58
    go_wp2_with fail
    refine hrd.out.mono ?_
    clear hrd
    rintro e w2 ⟨rfl, hb2⟩
    dsimp only
    by_cases h44 : N = 4
    · subst h44
      by_cases hm : v ≤ 2147483647
      · have d2 : decide ((v : Int) ≤ 2147483647) = true := decide_eq_true (by omega)
        have ho2 : o = some v := by rw [ho'.out, if_pos ⟨rfl, hm⟩]
        subst ho2
        go_wp2_with fail
        go_ret2
        exact ⟨v, true, rfl, rfl, fun n hn => (by cases hn; rfl), hb2⟩
      · have d2 : decide ((v : Int) ≤ 2147483647) = false := decide_eq_false (by omega)
        have ho2 : o = none := by rw [ho'.out, if_neg (fun hh => hm hh.2)]
        subst ho2
        go_wp2_with fail
        go_ret2
        exact ⟨v, false, rfl, rfl, fun n hn => (by cases hn), hb2⟩
    · have d1 : ((N : Int) == 4) = false := by rw [beq_eq_false_iff_ne]; omega
      have ho2 : o = none := by rw [ho'.out, if_neg (fun hh => h44 hh.1)]
      subst ho2
      go_wp2_with fail
      go_ret2
      exact ⟨v, false, rfl, rfl, fun n hn => (by cases hn), hb2⟩
  · rw [if_neg (by omega)] at hrd
    have ho2 : o = none := by rw [← ho, if_neg (by omega)]
    subst ho2
    obtain ⟨N, hN⟩ : ∃ N, b.length = N := ⟨_, rfl⟩
    rw [hN] at hrd ⊢
    replace hrd := Lib.hid hrd
    clear ho h hN
    go_enter Try.func58, Try.ntmps58
    go_wp2_with fail
    refine hrd.out.mono ?_
    clear hrd
    rintro e w2 ⟨rfl, hb2⟩
    dsimp only
    go_wp2_with fail
    go_ret2
    exact ⟨0, false, rfl, rfl, fun n hn => (by cases hn), hb2⟩
end Go.Proofs.Ytjljlgkghlphnaa
namespace Go.Proofs.Ytjljlgkghlphnaa
open Go.RowKit

theorem pl_mem {p : List UInt8 → Option (Val × Nat)} (hp : ∀ b v m, p b = some (v, m) → OkV v) : ∀ (n : Nat) (b : List UInt8) (l : List Val) (m : Nat), pl p n b = some (l, m) → l.length = n ∧ ∀ v ∈ l, OkV v
  | 0, b, l, m, h => by
    simp only [pl, Option.some.injEq, Prod.mk.injEq] at h
    rw [← h.1]
    exact ⟨rfl, by simp⟩
  | n + 1, b, l, m, h => by
    unfold pl at h
    split at h
    · cases h
    · rename_i v m1 hv
      split at h
      · cases h
      · rename_i l1 m2 hl
        simp only [Option.some.injEq, Prod.mk.injEq] at h
        obtain ⟨h1, h2⟩ := pl_mem hp n _ l1 m2 hl
        rw [← h.1]
        refine ⟨by rw [List.length_cons, h1], fun u hu => ?_⟩
        rcases List.mem_cons.1 hu with rfl | hu
        · exact hp _ _ _ hv
        · exact h2 u hu
theorem readU_8 (l : List UInt8) : readU (l.take 8) < 18446744073709551616 := by
  refine Nat.lt_of_lt_of_le (readU_lt _) ?_
  rw [List.length_take]
  exact Nat.pow_le_pow_right (show 0 < 256 by decide) (show min 8 l.length ≤ 8 by omega)
theorem wrap64_in (n : Int) : -9223372036854775808 ≤ wrap64 n ∧ wrap64 n ≤ 9223372036854775807 := by unfold wrap64; omega
theorem pv_ok : ∀ (d : Nat) (b : List UInt8) (v : Val) (m : Nat), pv d b = some (v, m) → OkV v := by
  intro d
  induction d with
  | zero =>
    intro b v m h
    cases b with
    | nil => simp [pv] at h
    | cons k t =>
      rw [pv_cons] at h
      split at h
      · simp only [Option.some.injEq, Prod.mk.injEq] at h; obtain ⟨rfl, rfl⟩ := h; exact .mk (by decide) (by decide) (by simp) (by simp)
      split at h
      · split at h
        · cases h
        · simp only [Option.some.injEq, Prod.mk.injEq] at h; obtain ⟨rfl, rfl⟩ := h; exact .mk (by decide) (wrap64_in _) (by simp) (by simp)
      split at h
      · split at h
        · cases h
        · split at h
          · simp only [Option.some.injEq, Prod.mk.injEq] at h; obtain ⟨rfl, rfl⟩ := h; exact .mk (readU_8 _) (by decide) (by simp) (by simp)
          · cases h
      split at h
      · split at h
        · simp only [Option.some.injEq, Prod.mk.injEq] at h
          obtain ⟨rfl, rfl⟩ := h
          exact .mk (by decide) (by decide) (by simp) (by simp)
        · cases h
      split at h
      · cases h
      · cases h
  | succ d ih =>
    intro b v m h
    cases b with
    | nil => simp [pv] at h
    | cons k t =>
      rw [pv_cons] at h
      split at h
      · simp only [Option.some.injEq, Prod.mk.injEq] at h; obtain ⟨rfl, rfl⟩ := h; exact .mk (by decide) (by decide) (by simp) (by simp)
      split at h
      · split at h
        · cases h
        · simp only [Option.some.injEq, Prod.mk.injEq] at h; obtain ⟨rfl, rfl⟩ := h; exact .mk (by decide) (wrap64_in _) (by simp) (by simp)
      split at h
      · split at h
        · cases h
        · split at h
          · simp only [Option.some.injEq, Prod.mk.injEq] at h; obtain ⟨rfl, rfl⟩ := h; exact .mk (readU_8 _) (by decide) (by simp) (by simp)
          · cases h
      split at h
      · split at h
        · simp only [Option.some.injEq, Prod.mk.injEq] at h
          obtain ⟨rfl, rfl⟩ := h
          exact .mk (by decide) (by decide) (by simp) (by simp)
        · cases h
      split at h
      · cases t with
        | nil => cases h
        | cons n u =>
          dsimp only at h
          split at h
          · cases h
          · split at h
            · cases h
            · rename_i l m1 hl
              simp only [Option.some.injEq, Prod.mk.injEq] at h
              obtain ⟨rfl, rfl⟩ := h
              obtain ⟨h1, h2⟩ := pl_mem ih _ _ l m1 hl
              exact .mk (by decide) (by decide) h2 (by rw [h1]; omega)
      · cases h
theorem rdV_ok {b : List UInt8} {v : Val} {m : Nat} (h : rdV b = some (v, m)) : OkV v := by
  unfold rdV at h
  split at h
  · rename_i v1 m1 hp
    split at h
    · simp only [Option.some.injEq, Prod.mk.injEq] at h
      obtain ⟨rfl, rfl⟩ := h
      exact pv_ok _ _ _ _ hp
    · cases h
  · cases h
theorem rdOp_ok {b : List UInt8} {o : OpD} {q : Nat} (h : rdOp b = some (o, q)) : o.l.length ≤ 16 ∧ (∀ v ∈ o.l, OkV v) ∧ o.c < 4294967296 ∧ o.s < 4294967296 ∧ o.n < 65536 := by
  unfold rdOp at h
  split at h
  · cases h
  split at h
  · cases h
  split at h
  · cases h
  split at h
  · cases h
  split at h
  · cases h
  rename_i h16
  split at h
  · cases h
  · rename_i l m hl
    simp only [Option.some.injEq, Prod.mk.injEq] at h
    obtain ⟨h1, h2⟩ := pl_mem (fun b v m => rdV_ok) _ _ l m hl
    rw [← h.1]
    exact ⟨by dsimp only; omega, h2, readU_4 _, readU_4 _, readU_2 _⟩
end Go.Proofs.Ytjljlgkghlphnaa
namespace Go.Proofs.Ytjljlgkghlphnaa
open Go.RowKit
set_option maxRecDepth 100000

def RecOk (r : RecD) : Prop := (∀ v ∈ r.o.l, OkV v) ∧ r.o.l.length ≤ 16 ∧ r.o.c < 4294967296 ∧ r.o.s < 4294967296 ∧ r.o.n < 65536 ∧ r.v < 18446744073709551616
theorem recok_opz {k n : Int} {v : Nat} (hv : v < 18446744073709551616) : RecOk ⟨k, v, n, opz⟩ := ⟨by simp [opz], by simp [opz], (show (0 : Nat) < 4294967296 by decide), (show (0 : Nat) < 4294967296 by decide), (show (0 : Nat) < 65536 by decide), hv⟩
/-- What reading a record tells: the record and true, or any cells of a record's kind and false. -/
def RecRes (w : World) (o : Option RecD) (e : Ending) (w' : World) : Prop :=
  match o with
  | some r => ∃ A' c' xs css, e = .returned (.tuple #[.agg #[.int .i64 r.k, .int .u64 (r.v : Int), .int .i64 r.n, .int .u32 (r.o.c : Int), .int .u32 (r.o.s : Int), .int .u16 (r.o.n : Int), .string (bstr r.o.g), .string (bstr r.o.m), .slice A' r.o.l.length c'], .bool true]) ∧ VRow w' w.heap.size r.o.l A' c' xs css ∧ RecOk r ∧ Below w.heap.size w w'
  | none => ∃ (k v n c s m : Int) (gg mm : ByteArray) (A' : Option Addr) (K c' : Nat), e = .returned (.tuple #[.agg #[.int .i64 k, .int .u64 v, .int .i64 n, .int .u32 c, .int .u32 s, .int .u16 m, .string gg, .string mm, .slice A' K c'], .bool false]) ∧ Below w.heap.size w w'
theorem rdOp_ten {b : List UInt8} {o : OpD} {q : Nat} (h : rdOp b = some (o, q)) : 10 ≤ b.length := by
  unfold rdOp at h
  split at h
  · cases h
  · omega
theorem w64_sub8 {N : Nat} (h : 8 ≤ N) (hl : N ≤ 1000000000) : IntKind.i64.wrap ((N : Int) - 8) = (N : Int) - 8 := w64_id _ (by omega) (by omega)

set_option maxHeartbeats 12800000 in
theorem jread_in {A : Option Addr} {c : Nat} {b : List UInt8} {w : World} (h : Reads w w.heap.size 1 A b.length (bys b)) (hc : b.length ≤ c) (hl : b.length ≤ 1000000000) (Q : Option RecD) (hQ : rdRec b = Q) :
    Calls Try.prog 34 #[.slice A b.length c] w (RecRes w Q) := by
  have hz := Blk.new w 32 #[.int .i64 0, .int .u64 0, .int .i64 0, .int .u32 0, .int .u32 0, .int .u16 0, .string ⟨#[]⟩, .string ⟨#[]⟩, .slice none 0 0]
  have hb2 := (Below.refl w.heap.size w).alloc (Nat.le_refl _) (.cells #[.int .i64 0, .int .u64 0, .int .i64 0, .int .u32 0, .int .u32 0, .int .u16 0, .string ⟨#[]⟩, .string ⟨#[]⟩, .slice none 0 0] 32)
  cases b with
  | nil =>
    have hQn : Q = none := hQ.symm
    subst hQn
    clear h hc hl hQ
    go_enter Try.func34, Try.ntmps34
    have hzr := hz.row #[.int .i64 0, .int .u64 0, .int .i64 0, .int .u32 0, .int .u32 0, .int .u16 0, .string ⟨#[]⟩, .string ⟨#[]⟩, .slice none 0 0]
    have hbr := below_row hb2 (g := w.heap.size) (Nat.le_refl _) #[.int .i64 0, .int .u64 0, .int .i64 0, .int .u32 0, .int .u32 0, .int .u16 0, .string ⟨#[]⟩, .string ⟨#[]⟩, .slice none 0 0]
    go_wp2_with (refine store_row_gen rfl 32 (Operand.tmp 2) _ rfl w.heap.size #[.int .i64 0, .int .u64 0, .int .i64 0, .int .u32 0, .int .u32 0, .int .u16 0, .string ⟨#[]⟩, .string ⟨#[]⟩, .slice none 0 0] (by simp [go_sem]) (by simp [go_sem]) 32 _ hz (by kernel_rfl) rfl (by simp [Value.oneCell']) (fun w9 hw9 => ?_); rw [← hw9] at hzr hbr; clear hw9)
    refine bodyPost_ret (v := .tuple #[.agg #[.int .i64 0, .int .u64 0, .int .i64 0, .int .u32 0, .int .u32 0, .int .u16 0, .string ⟨#[]⟩, .string ⟨#[]⟩, .slice none 0 0], .bool false]) (by exact results_ct rfl _ _ w.heap.size 32 _ (0, 0) _ _ rfl rfl hzr Try.underlying32 rfl (by kernel_rfl)) rfl ?_
    exact ⟨0, 0, 0, 0, 0, 0, ⟨#[]⟩, ⟨#[]⟩, none, 0, 0, rfl, hbr⟩
  | cons kk t =>
    obtain ⟨ad, rfl, -, -⟩ := h.2 (by simp)
    obtain ⟨k, hk⟩ : ∃ k, kk.toNat = k := ⟨_, rfl⟩
    have hk8 : k < 256 := by rw [← hk]; exact kk.toNat_lt
    have hcell : w.cell? ad = some (.int .u8 (k : Int)) := by
      have hcc := (cut1 h hc).2
      rw [hk] at hcc
      exact hcc
    have hcell2 := (hb2.cell (World.block_lt_of_cell? w _ hcell)).trans hcell
    have hwk := w64_le (e := k) (by omega)
    have hQ1 : rdRec1 k t = Q := by rw [← hk]; exact hQ
    have hcut : Reads w w.heap.size 1 (if c = 1 then some ad else some (ad.add 1)) t.length (bys t) := by
      have hcut := h.cut (k := 1) (cap := c) (by simp) hc
      exact hcut
    have hlt : (kk :: t).length = t.length + 1 := rfl
    rw [hlt] at hc hl ⊢
    obtain ⟨N, hN⟩ : ∃ N, t.length = N := ⟨_, rfl⟩
    rw [hN] at hc hl ⊢
    have hN1 : (1 : Int) ≤ ((N + 1 : Nat) : Int) := by omega
    have hN0 : (((N + 1 : Nat) : Int) == 0) = false := by rw [beq_eq_false_iff_ne]; omega
    replace hN := Lib.hid hN
    replace hQ1 := Lib.hid hQ1
    replace hcut := Lib.hid hcut
    clear h hQ hk
    have hy := Blk.new (w.alloc (.cells #[.int .i64 0, .int .u64 0, .int .i64 0, .int .u32 0, .int .u32 0, .int .u16 0, .string ⟨#[]⟩, .string ⟨#[]⟩, .slice none 0 0] 32)) 32 #[.int .i64 (k : Int), .int .u64 0, .int .i64 0, .int .u32 0, .int .u32 0, .int .u16 0, .string ⟨#[]⟩, .string ⟨#[]⟩, .slice none 0 0]
    have hz3 := hz.alloc (.cells #[.int .i64 (k : Int), .int .u64 0, .int .i64 0, .int .u32 0, .int .u32 0, .int .u16 0, .string ⟨#[]⟩, .string ⟨#[]⟩, .slice none 0 0] 32)
    have hb3 := hb2.alloc hb2.size (.cells #[.int .i64 (k : Int), .int .u64 0, .int .i64 0, .int .u32 0, .int .u32 0, .int .u16 0, .string ⟨#[]⟩, .string ⟨#[]⟩, .slice none 0 0] 32)
    rw [World.size_alloc] at hy
    go_enter Try.func34, Try.ntmps34
    go_upto_region 4 with (fail)
    generalize hw3 : (w.alloc (.cells #[.int .i64 0, .int .u64 0, .int .i64 0, .int .u32 0, .int .u32 0, .int .u16 0, .string ⟨#[]⟩, .string ⟨#[]⟩, .slice none 0 0] 32)).alloc (.cells #[.int .i64 (k : Int), .int .u64 0, .int .i64 0, .int .u32 0, .int .u32 0, .int .u16 0, .string ⟨#[]⟩, .string ⟨#[]⟩, .slice none 0 0] 32) = w3 at *
    obtain ⟨z, hzz⟩ : ∃ z, w.heap.size = z := ⟨_, rfl⟩
    have hzw : w.heap.size ≤ z := by omega
    rw [hzz] at hz3 hy ⊢
    obtain ⟨y, hyy⟩ : ∃ y, z + 1 = y := ⟨_, rfl⟩
    have hzy : z < y := by omega
    rw [hyy] at hy ⊢
    have hcut3 := hcut.out
    have hyw : w.heap.size ≤ y := by omega
    have hys : y < w3.heap.size := hy.lt
    clear hw3 hz hb2 hcell hcell2 hcut
    replace hzz := Lib.hid hzz
    replace hyy := Lib.hid hyy
    go_cut [0] from 17 to 18 (fun x0 wx => wx = w3 ∧ ∃ (A1 : Option Addr) (c1 : Nat), x0 = .slice A1 N c1 ∧ Reads w w.heap.size 1 A1 t.length (bys t) ∧ N ≤ c1 ∧ (A1 = none → c1 = 0))
    case first =>
      by_cases hc1 : c = 1
      · rw [if_pos hc1] at hcut3
        have hN0' : N = 0 := by omega
        go_wp2_with fail
        go_meet
        exact ⟨rfl, some ad, 0, by rw [hN0'], hcut3, by omega, by simp⟩
      · rw [if_neg hc1] at hcut3
        go_wp2_with fail
        go_meet
        exact ⟨rfl, some (ad.add 1), c - 1, rfl, hcut3, by omega, by simp⟩
    case rest =>
      obtain ⟨rfl, A1, c1, rfl, ht, hc1, hA1⟩ := hcut
      clear hcut3
      have hyc := hy.rec9
      have hb3s := hb3.size
      have htw : ∀ W, Below w.heap.size w W → Reads W W.heap.size 1 A1 N (bys t) := fun W hW => by
        have h9 := (ht.below hW).more hW.size
        rw [hN.out] at h9
        exact h9
      have hcutx : ∀ W, Below w.heap.size w W → 8 ≤ N → Reads W W.heap.size 1 (if c1 = 8 then A1 else A1.map (·.add 8)) (t.drop 8).length (bys (t.drop 8)) := fun W hW h8 => by
        have hcut := ((ht.below hW).more hW.size).cut (k := 8) (cap := c1) (by rw [hN.out]; exact h8) (by rw [hN.out]; exact hc1)
        rw [Nat.mul_one, bys_drop, ← List.length_drop] at hcut
        exact hcut
      replace htw := Lib.hid htw
      replace hcutx := Lib.hid hcutx
      have hru := fun W (hW : Below w.heap.size w W) => read_any (k := 8) (c := c1) (b := t) (by have h9 := htw.out W hW; rw [← hN.out] at h9; exact h9) (by rw [hN.out]; exact hc1) (by rw [hN.out]; omega) rfl
      unfold readN at hru
      rw [hN.out] at hru
      replace hru := Lib.hid hru
      clear ht
      by_cases hk1 : k = 1
      · subst hk1
        have hcnum : 8 ≤ N → ∀ W, Below w.heap.size w W → Calls Try.prog 58 #[.slice (if c1 = 8 then A1 else A1.map (·.add 8)) (N - 8) (c1 - 8)] W (NumJ W (rdNum (t.drop 8))) := fun h8 W hW => by
          have h9 := num_walk (c := c1 - 8) (hcutx.out W hW h8) (by rw [List.length_drop, hN.out]; omega) (by rw [List.length_drop, hN.out]; omega) _ rfl
          rw [List.length_drop, hN.out] at h9
          exact h9
        by_cases h8 : 8 ≤ N
        · have hr8 := hru.out wc hb3
          rw [if_pos ⟨by decide, by decide, by omega⟩, show (8 : Int).toNat = 8 from rfl] at hr8
          have hv8 := readU_8 t
          obtain ⟨v, hv⟩ : ∃ v, readU (t.take 8) = v := ⟨_, rfl⟩
          rw [hv] at hr8 hv8
          have hcn := hcnum h8
          obtain ⟨o, ho⟩ : ∃ o, rdNum (t.drop 8) = o := ⟨_, rfl⟩
          rw [ho] at hcn
          obtain ⟨ad1, rfl⟩ : ∃ ad1, A1 = some ad1 := by
            cases A1 with
            | none => have := hA1 rfl; omega
            | some a => exact ⟨a, rfl⟩
          have hQ2 : o.bind (fun n => if n ≤ 1 then some (⟨1, v, (n : Int), opz⟩ : RecD) else none) = Q := by
            rw [← hQ1.out]
            unfold rdRec1
            rw [if_pos rfl, if_neg (by rw [hN.out]; omega), ho, hv]
            cases o <;> rfl
          have h8i : (8 : Int) ≤ (N : Int) := by omega
          replace hQ2 := Lib.hid hQ2
          replace hcn := Lib.hid hcn
          clear hcnum ho hQ1 hru hcutx htw hv
          go_wp2_with fail
          refine hr8.mono ?_
          clear hr8
          rintro e w4 ⟨rfl, hb4⟩
          dsimp only
          have hz4 := (hz3.below hb4 hz3.lt).far (p := ⟨y, 1, none⟩) (show z ≠ y by omega) (.int .u64 (v : Int))
          have hy4' := hy.below hb4 hy.lt
          have hy4 : Blk (w4.setCell ⟨y, 1, none⟩ (.int .u64 (v : Int))) y 32 #[.int .i64 1, .int .u64 (v : Int), .int .i64 0, .int .u32 0, .int .u32 0, .int .u16 0, .string ⟨#[]⟩, .string ⟨#[]⟩, .slice none 0 0] := hy4'.set_ 1 (.int .u64 (v : Int))
          have hb5 := (below_then hb4 hb3).setCell (p := ⟨y, 1, none⟩) hyw (.int .u64 (v : Int))
          have hcc := hy4'.rec9
          have hcf := hy4'.frozen 1
          have hcn2 := hcn.out _ hb5
          clear hyc hb4 hz3 hy hb3 hcn
          by_cases hc8 : c1 = 8
          all_goals
            first | (have hN8 : N = 8 := by omega); subst hN8 hc8; rw [if_pos rfl, Nat.sub_self] at hcn2 | rw [if_neg hc8, Option.map_some] at hcn2
            go_wp2_with fail
            generalize w4.setCell ⟨y, 1, none⟩ (.int .u64 (v : Int)) = w5 at *
            refine hcn2.mono ?_
            clear hcn2 hcc hcf
            rintro e w6 ⟨x, q, rfl, hq, hx, hb6⟩
            dsimp only
            have hz6 := (hz4.below hb6 hz4.lt).far (p := ⟨y, 2, none⟩) (show z ≠ y by omega) (.int .i64 x)
            have hy6 := hy4.below hb6 hy4.lt
            have hb7 := (below_then hb6 hb5).setCell (p := ⟨y, 2, none⟩) hyw (.int .i64 x)
            have hcc := hy6.rec9
            have hcf := hy6.frozen 2
            have hy7 : Blk (w6.setCell ⟨y, 2, none⟩ (.int .i64 x)) y 32 #[.int .i64 1, .int .u64 (v : Int), .int .i64 x, .int .u32 0, .int .u32 0, .int .u16 0, .string ⟨#[]⟩, .string ⟨#[]⟩, .slice none 0 0] := hy6.set_ 2 (.int .i64 x)
            have hcc7 := hy7.rec9
            clear hb6 hz4 hy4 hb5 hy6
            cases o with
            | none =>
              have hq' : q = false := hq
              subst hq'
              have hQn : Q = none := hQ2.out.symm
              subst hQn
              clear hQ2 hx hq
              have hzr := hz6.row #[.int .i64 1, .int .u64 (v : Int), .int .i64 x, .int .u32 0, .int .u32 0, .int .u16 0, .string ⟨#[]⟩, .string ⟨#[]⟩, .slice none 0 0]
              have hbr := below_row hb7 (g := z) hzw #[.int .i64 1, .int .u64 (v : Int), .int .i64 x, .int .u32 0, .int .u32 0, .int .u16 0, .string ⟨#[]⟩, .string ⟨#[]⟩, .slice none 0 0]
              go_wp2_with (refine store_row_gen rfl 32 (Operand.tmp 2) _ rfl z #[.int .i64 1, .int .u64 (v : Int), .int .i64 x, .int .u32 0, .int .u32 0, .int .u16 0, .string ⟨#[]⟩, .string ⟨#[]⟩, .slice none 0 0] (by simp [go_sem]) (by simp [go_sem]) 32 _ hz6 (by kernel_rfl) rfl (by simp [Value.oneCell']) (fun w9 hw9 => ?_); rw [← hw9] at hzr hbr; clear hw9)
              refine bodyPost_ret (v := .tuple #[.agg #[.int .i64 1, .int .u64 (v : Int), .int .i64 x, .int .u32 0, .int .u32 0, .int .u16 0, .string ⟨#[]⟩, .string ⟨#[]⟩, .slice none 0 0], .bool false]) (by exact results_ct rfl _ _ z 32 _ (0, 0) _ _ rfl rfl hzr Try.underlying32 rfl (by kernel_rfl)) rfl ?_
              exact ⟨1, v, x, 0, 0, 0, ⟨#[]⟩, ⟨#[]⟩, none, 0, 0, rfl, hbr⟩
            | some n =>
              have hq' : q = true := hq
              subst hq'
              have hx' := hx n rfl
              subst hx'
              by_cases hn1 : n ≤ 1
              · have dn : decide ((n : Int) ≤ 1) = true := decide_eq_true (by omega)
                have hQn : Q = some ⟨1, v, (n : Int), opz⟩ := by rw [← hQ2.out]; show (if n ≤ 1 then _ else none) = _; rw [if_pos hn1]
                subst hQn
                clear hQ2 hx hq
                have hzr := hz6.row #[.int .i64 1, .int .u64 (v : Int), .int .i64 (n : Int), .int .u32 0, .int .u32 0, .int .u16 0, .string ⟨#[]⟩, .string ⟨#[]⟩, .slice none 0 0]
                have hbr := below_row hb7 (g := z) hzw #[.int .i64 1, .int .u64 (v : Int), .int .i64 (n : Int), .int .u32 0, .int .u32 0, .int .u16 0, .string ⟨#[]⟩, .string ⟨#[]⟩, .slice none 0 0]
                go_wp2_with (refine store_row_gen rfl 32 (Operand.tmp 2) _ rfl z #[.int .i64 1, .int .u64 (v : Int), .int .i64 (n : Int), .int .u32 0, .int .u32 0, .int .u16 0, .string ⟨#[]⟩, .string ⟨#[]⟩, .slice none 0 0] (by simp [go_sem]) (by simp [go_sem]) 32 _ hz6 (by kernel_rfl) rfl (by simp [Value.oneCell']) (fun w9 hw9 => ?_); rw [← hw9] at hzr hbr; clear hw9)
                refine bodyPost_ret (v := .tuple #[.agg #[.int .i64 1, .int .u64 (v : Int), .int .i64 (n : Int), .int .u32 0, .int .u32 0, .int .u16 0, .string ⟨#[]⟩, .string ⟨#[]⟩, .slice none 0 0], .bool true]) (by exact results_ct rfl _ _ z 32 _ (0, 0) _ _ rfl rfl hzr Try.underlying32 rfl (by kernel_rfl)) rfl ?_
                exact ⟨none, 0, [], _, rfl, VRow.nil _ _, recok_opz hv8, hbr⟩
              · have dn : decide ((n : Int) ≤ 1) = false := decide_eq_false (by omega)
                have hQn : Q = none := by rw [← hQ2.out]; show (if n ≤ 1 then _ else none) = _; rw [if_neg hn1]
                subst hQn
                clear hQ2 hx hq
                have hzr := hz6.row #[.int .i64 1, .int .u64 (v : Int), .int .i64 (n : Int), .int .u32 0, .int .u32 0, .int .u16 0, .string ⟨#[]⟩, .string ⟨#[]⟩, .slice none 0 0]
                have hbr := below_row hb7 (g := z) hzw #[.int .i64 1, .int .u64 (v : Int), .int .i64 (n : Int), .int .u32 0, .int .u32 0, .int .u16 0, .string ⟨#[]⟩, .string ⟨#[]⟩, .slice none 0 0]
                go_wp2_with (refine store_row_gen rfl 32 (Operand.tmp 2) _ rfl z #[.int .i64 1, .int .u64 (v : Int), .int .i64 (n : Int), .int .u32 0, .int .u32 0, .int .u16 0, .string ⟨#[]⟩, .string ⟨#[]⟩, .slice none 0 0] (by simp [go_sem]) (by simp [go_sem]) 32 _ hz6 (by kernel_rfl) rfl (by simp [Value.oneCell']) (fun w9 hw9 => ?_); rw [← hw9] at hzr hbr; clear hw9)
                refine bodyPost_ret (v := .tuple #[.agg #[.int .i64 1, .int .u64 (v : Int), .int .i64 (n : Int), .int .u32 0, .int .u32 0, .int .u16 0, .string ⟨#[]⟩, .string ⟨#[]⟩, .slice none 0 0], .bool false]) (by exact results_ct rfl _ _ z 32 _ (0, 0) _ _ rfl rfl hzr Try.underlying32 rfl (by kernel_rfl)) rfl ?_
                exact ⟨1, v, n, 0, 0, 0, ⟨#[]⟩, ⟨#[]⟩, none, 0, 0, rfl, hbr⟩
        · have hr8 := hru.out wc hb3
          rw [if_neg (by omega)] at hr8
          have hQn : Q = none := by rw [← hQ1.out]; unfold rdRec1; rw [if_pos rfl, if_pos (by rw [hN.out]; omega)]
          subst hQn
          clear hcnum hQ1 hru hcutx htw
          go_wp2_with fail
          refine hr8.mono ?_
          clear hr8
          rintro e w4 ⟨rfl, hb4⟩
          dsimp only
          have hz4 := (hz3.below hb4 hz3.lt).far (p := ⟨y, 1, none⟩) (show z ≠ y by omega) (.int .u64 0)
          have hy4' := hy.below hb4 hy.lt
          have hb5 := (below_then hb4 hb3).setCell (p := ⟨y, 1, none⟩) hyw (.int .u64 0)
          have hcc := hy4'.rec9
          have hcf := hy4'.frozen 1
          clear hyc hb4 hz3 hy hb3
          have hzr := hz4.row #[.int .i64 0, .int .u64 0, .int .i64 0, .int .u32 0, .int .u32 0, .int .u16 0, .string ⟨#[]⟩, .string ⟨#[]⟩, .slice none 0 0]
          have hbr := below_row hb5 (g := z) hzw #[.int .i64 0, .int .u64 0, .int .i64 0, .int .u32 0, .int .u32 0, .int .u16 0, .string ⟨#[]⟩, .string ⟨#[]⟩, .slice none 0 0]
          go_wp2_with (refine store_row_gen rfl 32 (Operand.tmp 2) _ rfl z #[.int .i64 0, .int .u64 0, .int .i64 0, .int .u32 0, .int .u32 0, .int .u16 0, .string ⟨#[]⟩, .string ⟨#[]⟩, .slice none 0 0] (by simp [go_sem]) (by simp [go_sem]) 32 _ hz4 (by kernel_rfl) rfl (by simp [Value.oneCell']) (fun w9 hw9 => ?_); rw [← hw9] at hzr hbr; clear hw9)
          refine bodyPost_ret (v := .tuple #[.agg #[.int .i64 0, .int .u64 0, .int .i64 0, .int .u32 0, .int .u32 0, .int .u16 0, .string ⟨#[]⟩, .string ⟨#[]⟩, .slice none 0 0], .bool false]) (by exact results_ct rfl _ _ z 32 _ (0, 0) _ _ rfl rfl hzr Try.underlying32 rfl (by kernel_rfl)) rfl ?_
          exact ⟨0, 0, 0, 0, 0, 0, ⟨#[]⟩, ⟨#[]⟩, none, 0, 0, rfl, hbr⟩
      by_cases hk2 : k = 2
      · subst hk2
        have hcop : 8 ≤ N → ∀ W, Below w.heap.size w W → Calls Try.prog 59 #[.slice (if c1 = 8 then A1 else A1.map (·.add 8)) (N - 8) (c1 - 8)] W (OpRd W (rdOp (t.drop 8))) := fun h8 W hW => by
          have h9 := call_read (c := c1 - 8) (hcutx.out W hW h8) (fun e => by
            have : A1 = none := by
              by_cases hc8 : c1 = 8
              · rw [if_pos hc8] at e; exact e
              · rw [if_neg hc8] at e
                cases A1 with
                | none => rfl
                | some a => cases e
            have := hA1 this
            omega) (by rw [List.length_drop, hN.out]; omega) (by rw [List.length_drop, hN.out]; omega) _ rfl
          rw [List.length_drop, hN.out] at h9
          exact h9
        by_cases h8 : 8 ≤ N
        · have hr8 := hru.out wc hb3
          rw [if_pos ⟨by decide, by decide, by omega⟩, show (8 : Int).toNat = 8 from rfl] at hr8
          have hv8 := readU_8 t
          obtain ⟨v, hv⟩ : ∃ v, readU (t.take 8) = v := ⟨_, rfl⟩
          rw [hv] at hr8 hv8
          have hcn := hcop h8
          have hro := fun o q => rdOp_ok (b := t.drop 8) (o := o) (q := q)
          have hro2 := fun o q => rdOp_ten (b := t.drop 8) (o := o) (q := q)
          rw [List.length_drop, hN.out] at hro2
          obtain ⟨ro, ho⟩ : ∃ ro, rdOp (t.drop 8) = ro := ⟨_, rfl⟩
          rw [ho] at hcn hro hro2
          obtain ⟨ad1, rfl⟩ : ∃ ad1, A1 = some ad1 := by
            cases A1 with
            | none => have := hA1 rfl; omega
            | some a => exact ⟨a, rfl⟩
          have hQ2 : ro.bind (fun x => if x.2 = N - 8 then some (⟨2, v, 0, x.1⟩ : RecD) else none) = Q := by
            rw [← hQ1.out]
            unfold rdRec1
            rw [if_neg (by decide), if_pos rfl, if_neg (by rw [hN.out]; omega), ho, hv, hN.out]
            cases ro <;> rfl
          have h8i : (8 : Int) ≤ (N : Int) := by omega
          have hw8 : IntKind.i64.wrap ((N : Int) - 8) = (N : Int) - 8 := w64_sub8 (by omega) (by omega)
          replace hQ2 := Lib.hid hQ2
          replace hcn := Lib.hid hcn
          replace hro := Lib.hid hro
          replace hro2 := Lib.hid hro2
          clear hcop ho hQ1 hru hcutx htw hv
          go_wp2_with fail
          refine hr8.mono ?_
          clear hr8
          rintro e w4 ⟨rfl, hb4⟩
          dsimp only
          have hz4 := (hz3.below hb4 hz3.lt).far (p := ⟨y, 1, none⟩) (show z ≠ y by omega) (.int .u64 (v : Int))
          have hy4' := hy.below hb4 hy.lt
          have hy4 : Blk (w4.setCell ⟨y, 1, none⟩ (.int .u64 (v : Int))) y 32 #[.int .i64 2, .int .u64 (v : Int), .int .i64 0, .int .u32 0, .int .u32 0, .int .u16 0, .string ⟨#[]⟩, .string ⟨#[]⟩, .slice none 0 0] := hy4'.set_ 1 (.int .u64 (v : Int))
          have hb5 := (below_then hb4 hb3).setCell (p := ⟨y, 1, none⟩) hyw (.int .u64 (v : Int))
          have hcc := hy4'.rec9
          have hcf := hy4'.frozen 1
          have hcn2 := hcn.out _ hb5
          clear hyc hb4 hz3 hy hb3 hcn
          by_cases hc8 : c1 = 8
          all_goals
            first | (have hN8 : N = 8 := by omega); subst hN8 hc8; rw [if_pos rfl, Nat.sub_self] at hcn2 | rw [if_neg hc8, Option.map_some] at hcn2
            go_wp2_with fail
            generalize w4.setCell ⟨y, 1, none⟩ (.int .u64 (v : Int)) = w5 at *
            refine hcn2.mono ?_
            clear hcn2 hcc hcf
            cases ro with
            | none =>
              rintro e w6 ⟨rfl, hb6⟩
              dsimp only
              have hz7 := (((((((hz4.below hb6 hz4.lt).far (p := ⟨y, 3, none⟩) (show z ≠ y by omega) (.int .u32 0)).far (p := ⟨y, 4, none⟩) (show z ≠ y by omega) (.int .u32 0)).far (p := ⟨y, 5, none⟩) (show z ≠ y by omega) (.int .u16 0)).far (p := ⟨y, 6, none⟩) (show z ≠ y by omega) (.string ⟨#[]⟩)).far (p := ⟨y, 7, none⟩) (show z ≠ y by omega) (.string ⟨#[]⟩)).far (p := ⟨y, 8, none⟩) (show z ≠ y by omega) (.slice none 0 0))
              have hy6 := hy4.below hb6 hy4.lt
              have hcc := hy6.rec9
              have hf3 := hy6.frozen 3
              have hf4 := hy6.frozen 4
              have hf5 := hy6.frozen 5
              have hf6 := hy6.frozen 6
              have hf7 := hy6.frozen 7
              have hf8 := hy6.frozen 8
              have hb7 := (((((((below_then hb6 hb5).setCell (p := ⟨y, 3, none⟩) hyw (.int .u32 0)).setCell (p := ⟨y, 4, none⟩) hyw (.int .u32 0)).setCell (p := ⟨y, 5, none⟩) hyw (.int .u16 0)).setCell (p := ⟨y, 6, none⟩) hyw (.string ⟨#[]⟩)).setCell (p := ⟨y, 7, none⟩) hyw (.string ⟨#[]⟩)).setCell (p := ⟨y, 8, none⟩) hyw (.slice none 0 0))
              have hy7 : Blk ((((((w6.setCell ⟨y, 3, none⟩ (.int .u32 0)).setCell ⟨y, 4, none⟩ (.int .u32 0)).setCell ⟨y, 5, none⟩ (.int .u16 0)).setCell ⟨y, 6, none⟩ (.string ⟨#[]⟩)).setCell ⟨y, 7, none⟩ (.string ⟨#[]⟩)).setCell ⟨y, 8, none⟩ (.slice none 0 0)) y 32 #[.int .i64 2, .int .u64 (v : Int), .int .i64 0, .int .u32 0, .int .u32 0, .int .u16 0, .string ⟨#[]⟩, .string ⟨#[]⟩, .slice none 0 0] := ((((((hy6.set_ 3 (.int .u32 0)).set_ 4 (.int .u32 0)).set_ 5 (.int .u16 0)).set_ 6 (.string ⟨#[]⟩)).set_ 7 (.string ⟨#[]⟩)).set_ 8 (.slice none 0 0))
              have hcc7 := hy7.rec9
              have hQn : Q = none := hQ2.out.symm
              subst hQn
              clear hQ2 hz4 hy4 hb5 hb6 hy6
              go_upto_region 24 with (fail)
              generalize (((((w6.setCell ⟨y, 3, none⟩ (.int .u32 0)).setCell ⟨y, 4, none⟩ (.int .u32 0)).setCell ⟨y, 5, none⟩ (.int .u16 0)).setCell ⟨y, 6, none⟩ (.string ⟨#[]⟩)).setCell ⟨y, 7, none⟩ (.string ⟨#[]⟩)).setCell ⟨y, 8, none⟩ (.slice none 0 0) = w7 at *
              clear hcc hf3 hf4 hf5 hf6 hf7 hf8
              have hzr := hz7.row #[.int .i64 2, .int .u64 (v : Int), .int .i64 0, .int .u32 0, .int .u32 0, .int .u16 0, .string ⟨#[]⟩, .string ⟨#[]⟩, .slice none 0 0]
              have hbr := below_row hb7 (g := z) hzw #[.int .i64 2, .int .u64 (v : Int), .int .i64 0, .int .u32 0, .int .u32 0, .int .u16 0, .string ⟨#[]⟩, .string ⟨#[]⟩, .slice none 0 0]
              go_wp2_with (refine store_row_gen rfl 32 (Operand.tmp 2) _ rfl z #[.int .i64 2, .int .u64 (v : Int), .int .i64 0, .int .u32 0, .int .u32 0, .int .u16 0, .string ⟨#[]⟩, .string ⟨#[]⟩, .slice none 0 0] (by simp [go_sem]) (by simp [go_sem]) 32 _ hz7 (by kernel_rfl) rfl (by simp [Value.oneCell']) (fun w9 hw9 => ?_); rw [← hw9] at hzr hbr; clear hw9)
              refine bodyPost_ret (v := .tuple #[.agg #[.int .i64 2, .int .u64 (v : Int), .int .i64 0, .int .u32 0, .int .u32 0, .int .u16 0, .string ⟨#[]⟩, .string ⟨#[]⟩, .slice none 0 0], .bool false]) (by exact results_ct rfl _ _ z 32 _ (0, 0) _ _ rfl rfl hzr Try.underlying32 rfl (by kernel_rfl)) rfl ?_
              exact ⟨2, v, 0, 0, 0, 0, ⟨#[]⟩, ⟨#[]⟩, none, 0, 0, rfl, hbr⟩
            | some oq =>
              obtain ⟨o, q⟩ := oq
              try (exfalso; have := hro2.out o q rfl; omega)
              all_goals
                rintro e w6 ⟨A6, c6, xs6, css6, rfl, R6, hb6⟩
                dsimp only
                have h18 := hro2.out o q rfl
                obtain ⟨hl16, hokv, ho1, ho2, ho3⟩ := hro.out o q rfl
                obtain ⟨oc, os_, on, og', om', ol⟩ := o
                dsimp only at *
                obtain ⟨og, hog⟩ : ∃ og, bstr og' = og := ⟨_, rfl⟩
                obtain ⟨om, hom⟩ : ∃ om, bstr om' = om := ⟨_, rfl⟩
                obtain ⟨oL, hoL⟩ : ∃ oL, ol.length = oL := ⟨_, rfl⟩
                rw [hog, hom, hoL]
                have hy5l := hy4.lt
                have hz5l := hz4.lt
                have R7 := R6.upd (((((((Upd.refl (fun x => x = y) w6).setCell (p := ⟨y, 3, none⟩) (fun _ => rfl) (.int .u32 (oc : Int))).setCell (p := ⟨y, 4, none⟩) (fun _ => rfl) (.int .u32 (os_ : Int))).setCell (p := ⟨y, 5, none⟩) (fun _ => rfl) (.int .u16 (on : Int))).setCell (p := ⟨y, 6, none⟩) (fun _ => rfl) (.string og)).setCell (p := ⟨y, 7, none⟩) (fun _ => rfl) (.string om)).setCell (p := ⟨y, 8, none⟩) (fun _ => rfl) (.slice A6 oL c6)) (fun g hg e => by omega)
                have hs56 := hb6.size
                have hs5w := hb5.size
                replace hog := Lib.hid hog
                replace hom := Lib.hid hom
                replace hoL := Lib.hid hoL
                have hz7 := (((((((hz4.below hb6 hz4.lt).far (p := ⟨y, 3, none⟩) (show z ≠ y by omega) (.int .u32 (oc : Int))).far (p := ⟨y, 4, none⟩) (show z ≠ y by omega) (.int .u32 (os_ : Int))).far (p := ⟨y, 5, none⟩) (show z ≠ y by omega) (.int .u16 (on : Int))).far (p := ⟨y, 6, none⟩) (show z ≠ y by omega) (.string og)).far (p := ⟨y, 7, none⟩) (show z ≠ y by omega) (.string om)).far (p := ⟨y, 8, none⟩) (show z ≠ y by omega) (.slice A6 oL c6))
                have hy6 := hy4.below hb6 hy4.lt
                have hcc := hy6.rec9
                have hf3 := hy6.frozen 3
                have hf4 := hy6.frozen 4
                have hf5 := hy6.frozen 5
                have hf6 := hy6.frozen 6
                have hf7 := hy6.frozen 7
                have hf8 := hy6.frozen 8
                have hb7 := (((((((below_then hb6 hb5).setCell (p := ⟨y, 3, none⟩) hyw (.int .u32 (oc : Int))).setCell (p := ⟨y, 4, none⟩) hyw (.int .u32 (os_ : Int))).setCell (p := ⟨y, 5, none⟩) hyw (.int .u16 (on : Int))).setCell (p := ⟨y, 6, none⟩) hyw (.string og)).setCell (p := ⟨y, 7, none⟩) hyw (.string om)).setCell (p := ⟨y, 8, none⟩) hyw (.slice A6 oL c6))
                have hy7 : Blk ((((((w6.setCell ⟨y, 3, none⟩ (.int .u32 (oc : Int))).setCell ⟨y, 4, none⟩ (.int .u32 (os_ : Int))).setCell ⟨y, 5, none⟩ (.int .u16 (on : Int))).setCell ⟨y, 6, none⟩ (.string og)).setCell ⟨y, 7, none⟩ (.string om)).setCell ⟨y, 8, none⟩ (.slice A6 oL c6)) y 32 #[.int .i64 2, .int .u64 (v : Int), .int .i64 0, .int .u32 (oc : Int), .int .u32 (os_ : Int), .int .u16 (on : Int), .string og, .string om, .slice A6 oL c6] := ((((((hy6.set_ 3 (.int .u32 (oc : Int))).set_ 4 (.int .u32 (os_ : Int))).set_ 5 (.int .u16 (on : Int))).set_ 6 (.string og)).set_ 7 (.string om)).set_ 8 (.slice A6 oL c6))
                have hcc7 := hy7.rec9
                replace R7 := Lib.hid R7
                clear hz4 hy4 hb5 hb6 hy6 R6
                by_cases hqn : q = N - 8
                · have dq : ((q : Int) == (N : Int) - 8) = true := by rw [beq_iff_eq]; omega
                  have hQn : Q = some ⟨2, v, 0, ⟨oc, os_, on, og', om', ol⟩⟩ := by rw [← hQ2.out]; show (if q = N - 8 then _ else none) = _; rw [if_pos hqn]
                  subst hQn
                  replace hqn := Lib.hid hqn
                  clear hQ2 hro hro2
                  go_upto_region 24 with (fail)
                  generalize (((((w6.setCell ⟨y, 3, none⟩ (.int .u32 (oc : Int))).setCell ⟨y, 4, none⟩ (.int .u32 (os_ : Int))).setCell ⟨y, 5, none⟩ (.int .u16 (on : Int))).setCell ⟨y, 6, none⟩ (.string og)).setCell ⟨y, 7, none⟩ (.string om)).setCell ⟨y, 8, none⟩ (.slice A6 oL c6) = w7 at *
                  clear hcc hf3 hf4 hf5 hf6 hf7 hf8
                  have hRr := R7.out.upd ((Upd.refl (fun x => x = z) w7).setRow (g := z) (fun _ => rfl) #[.int .i64 2, .int .u64 (v : Int), .int .i64 0, .int .u32 (oc : Int), .int .u32 (os_ : Int), .int .u16 (on : Int), .string og, .string om, .slice A6 oL c6]) (fun g hg e => by omega)
                  have hzr := hz7.row #[.int .i64 2, .int .u64 (v : Int), .int .i64 0, .int .u32 (oc : Int), .int .u32 (os_ : Int), .int .u16 (on : Int), .string og, .string om, .slice A6 oL c6]
                  have hbr := below_row hb7 (g := z) hzw #[.int .i64 2, .int .u64 (v : Int), .int .i64 0, .int .u32 (oc : Int), .int .u32 (os_ : Int), .int .u16 (on : Int), .string og, .string om, .slice A6 oL c6]
                  go_wp2_with (refine store_row_gen rfl 32 (Operand.tmp 2) _ rfl z #[.int .i64 2, .int .u64 (v : Int), .int .i64 0, .int .u32 (oc : Int), .int .u32 (os_ : Int), .int .u16 (on : Int), .string og, .string om, .slice A6 oL c6] (by simp [go_sem]) (by simp [go_sem]) 32 _ hz7 (by kernel_rfl) rfl (by simp [Value.oneCell']) (fun w9 hw9 => ?_); rw [← hw9] at hzr hbr hRr; clear hw9)
                  refine bodyPost_ret (v := .tuple #[.agg #[.int .i64 2, .int .u64 (v : Int), .int .i64 0, .int .u32 (oc : Int), .int .u32 (os_ : Int), .int .u16 (on : Int), .string og, .string om, .slice A6 oL c6], .bool true]) (by exact results_ct rfl _ _ z 32 _ (0, 0) _ _ rfl rfl hzr Try.underlying32 rfl (by kernel_rfl)) rfl ?_
                  
                  refine ⟨A6, c6, _, _, ?_, hRr.down hs5w, ⟨hokv, hl16, ho1, ho2, ho3, hv8⟩, hbr⟩
                  dsimp only
                  rw [hog.out, hom.out, hoL.out]
                · have dq : ((q : Int) == (N : Int) - 8) = false := by rw [beq_eq_false_iff_ne]; omega
                  have hQn : Q = none := by rw [← hQ2.out]; show (if q = N - 8 then _ else none) = _; rw [if_neg hqn]
                  subst hQn
                  replace hqn := Lib.hid hqn
                  clear hQ2 hro hro2
                  go_upto_region 24 with (fail)
                  generalize (((((w6.setCell ⟨y, 3, none⟩ (.int .u32 (oc : Int))).setCell ⟨y, 4, none⟩ (.int .u32 (os_ : Int))).setCell ⟨y, 5, none⟩ (.int .u16 (on : Int))).setCell ⟨y, 6, none⟩ (.string og)).setCell ⟨y, 7, none⟩ (.string om)).setCell ⟨y, 8, none⟩ (.slice A6 oL c6) = w7 at *
                  clear hcc hf3 hf4 hf5 hf6 hf7 hf8
                  have hzr := hz7.row #[.int .i64 2, .int .u64 (v : Int), .int .i64 0, .int .u32 (oc : Int), .int .u32 (os_ : Int), .int .u16 (on : Int), .string og, .string om, .slice A6 oL c6]
                  have hbr := below_row hb7 (g := z) hzw #[.int .i64 2, .int .u64 (v : Int), .int .i64 0, .int .u32 (oc : Int), .int .u32 (os_ : Int), .int .u16 (on : Int), .string og, .string om, .slice A6 oL c6]
                  go_wp2_with (refine store_row_gen rfl 32 (Operand.tmp 2) _ rfl z #[.int .i64 2, .int .u64 (v : Int), .int .i64 0, .int .u32 (oc : Int), .int .u32 (os_ : Int), .int .u16 (on : Int), .string og, .string om, .slice A6 oL c6] (by simp [go_sem]) (by simp [go_sem]) 32 _ hz7 (by kernel_rfl) rfl (by simp [Value.oneCell']) (fun w9 hw9 => ?_); rw [← hw9] at hzr hbr; clear hw9)
                  refine bodyPost_ret (v := .tuple #[.agg #[.int .i64 2, .int .u64 (v : Int), .int .i64 0, .int .u32 (oc : Int), .int .u32 (os_ : Int), .int .u16 (on : Int), .string og, .string om, .slice A6 oL c6], .bool false]) (by exact results_ct rfl _ _ z 32 _ (0, 0) _ _ rfl rfl hzr Try.underlying32 rfl (by kernel_rfl)) rfl ?_
                  exact ⟨2, v, 0, oc, os_, on, og, om, A6, oL, c6, rfl, hbr⟩
        · have hr8 := hru.out wc hb3
          rw [if_neg (by omega)] at hr8
          have hQn : Q = none := by rw [← hQ1.out]; unfold rdRec1; rw [if_neg (by decide), if_pos rfl, if_pos (by rw [hN.out]; omega)]
          subst hQn
          clear hcop hQ1 hru hcutx htw
          go_wp2_with fail
          refine hr8.mono ?_
          clear hr8
          rintro e w4 ⟨rfl, hb4⟩
          dsimp only
          have hz4 := (hz3.below hb4 hz3.lt).far (p := ⟨y, 1, none⟩) (show z ≠ y by omega) (.int .u64 0)
          have hy4' := hy.below hb4 hy.lt
          have hb5 := (below_then hb4 hb3).setCell (p := ⟨y, 1, none⟩) hyw (.int .u64 0)
          have hcc := hy4'.rec9
          have hcf := hy4'.frozen 1
          clear hyc hb4 hz3 hy hb3
          have hzr := hz4.row #[.int .i64 0, .int .u64 0, .int .i64 0, .int .u32 0, .int .u32 0, .int .u16 0, .string ⟨#[]⟩, .string ⟨#[]⟩, .slice none 0 0]
          have hbr := below_row hb5 (g := z) hzw #[.int .i64 0, .int .u64 0, .int .i64 0, .int .u32 0, .int .u32 0, .int .u16 0, .string ⟨#[]⟩, .string ⟨#[]⟩, .slice none 0 0]
          go_wp2_with (refine store_row_gen rfl 32 (Operand.tmp 2) _ rfl z #[.int .i64 0, .int .u64 0, .int .i64 0, .int .u32 0, .int .u32 0, .int .u16 0, .string ⟨#[]⟩, .string ⟨#[]⟩, .slice none 0 0] (by simp [go_sem]) (by simp [go_sem]) 32 _ hz4 (by kernel_rfl) rfl (by simp [Value.oneCell']) (fun w9 hw9 => ?_); rw [← hw9] at hzr hbr; clear hw9)
          refine bodyPost_ret (v := .tuple #[.agg #[.int .i64 0, .int .u64 0, .int .i64 0, .int .u32 0, .int .u32 0, .int .u16 0, .string ⟨#[]⟩, .string ⟨#[]⟩, .slice none 0 0], .bool false]) (by exact results_ct rfl _ _ z 32 _ (0, 0) _ _ rfl rfl hzr Try.underlying32 rfl (by kernel_rfl)) rfl ?_
          exact ⟨0, 0, 0, 0, 0, 0, ⟨#[]⟩, ⟨#[]⟩, none, 0, 0, rfl, hbr⟩
      by_cases hk34 : k = 3 ∨ k = 4
      · obtain ⟨o, ho⟩ : ∃ o, rdNum t = o := ⟨_, rfl⟩
        have hnw := num_walk (A := A1) (c := c1) (b := t) (w := wc) (by have h9 := htw.out wc hb3; rw [← hN.out] at h9; exact h9) (by rw [hN.out]; exact hc1) (by rw [hN.out]; omega) o ho
        rw [hN.out] at hnw
        have hQ2 : o.map (fun n => (⟨(k : Int), 0, (n : Int), opz⟩ : RecD)) = Q := by
          rw [← hQ1.out]
          unfold rdRec1
          rw [if_neg hk1, if_neg hk2, if_pos hk34, ho]
          cases o <;> rfl
        have d1 : ((k : Int) == 1) = false := by rw [beq_eq_false_iff_ne]; omega
        have d2 : ((k : Int) == 2) = false := by rw [beq_eq_false_iff_ne]; omega
        replace hnw := Lib.hid hnw
        replace hQ2 := Lib.hid hQ2
        clear ho hQ1 hru hcutx htw
        have h34 : ((k : Int) == 3) = true ∨ (((k : Int) == 3) = false ∧ ((k : Int) == 4) = true) := by
          rcases hk34 with h | h
          · left; rw [beq_iff_eq]; omega
          · right; exact ⟨by rw [beq_eq_false_iff_ne]; omega, by rw [beq_iff_eq]; omega⟩
        rcases h34 with d3 | ⟨d3, d4⟩
        all_goals
          go_wp2_with fail
          refine hnw.out.mono ?_
          rintro e w4 ⟨x, q, rfl, hq, hx, hb4⟩
          dsimp only
          have hz4 := hz3.below hb4 hz3.lt
          have hy4 := hy.below hb4 hy.lt
          have hb5 := below_then hb4 hb3
          have hz5 := hz4.far (p := ⟨y, 2, none⟩) (show z ≠ y by omega) (.int .i64 x)
          have hy5 := hy4.set_ 2 (.int .i64 x)
          have hb6 := hb5.setCell (p := ⟨y, 2, none⟩) hyw (.int .i64 x)
          have hyc4 := hy4.rec9
          have hyf4 := hy4.frozen 2
          replace hy5 : Blk (w4.setCell ⟨y, 2, none⟩ (.int .i64 x)) y 32 #[.int .i64 (k : Int), .int .u64 0, .int .i64 x, .int .u32 0, .int .u32 0, .int .u16 0, .string ⟨#[]⟩, .string ⟨#[]⟩, .slice none 0 0] := hy5
          have hyc5 := hy5.rec9
          clear hyc hb4 hz4 hb5 hy4 hz3 hy hb3 hnw
          cases o with
          | none =>
            have hq' : q = false := hq
            subst hq'
            have hQn : Q = none := hQ2.out.symm
            subst hQn
            clear hQ2 hx hq
            have hzr := hz5.row #[.int .i64 (k : Int), .int .u64 0, .int .i64 x, .int .u32 0, .int .u32 0, .int .u16 0, .string ⟨#[]⟩, .string ⟨#[]⟩, .slice none 0 0]
            have hbr := below_row hb6 (g := z) hzw #[.int .i64 (k : Int), .int .u64 0, .int .i64 x, .int .u32 0, .int .u32 0, .int .u16 0, .string ⟨#[]⟩, .string ⟨#[]⟩, .slice none 0 0]
            go_wp2_with (refine store_row_gen rfl 32 (Operand.tmp 2) _ rfl z #[.int .i64 (k : Int), .int .u64 0, .int .i64 x, .int .u32 0, .int .u32 0, .int .u16 0, .string ⟨#[]⟩, .string ⟨#[]⟩, .slice none 0 0] (by simp [go_sem]) (by simp [go_sem]) 32 _ hz5 (by kernel_rfl) rfl (by simp [Value.oneCell']) (fun w9 hw9 => ?_); rw [← hw9] at hzr hbr; clear hw9)
            refine bodyPost_ret (v := .tuple #[.agg #[.int .i64 (k : Int), .int .u64 0, .int .i64 x, .int .u32 0, .int .u32 0, .int .u16 0, .string ⟨#[]⟩, .string ⟨#[]⟩, .slice none 0 0], .bool false]) (by exact results_ct rfl _ _ z 32 _ (0, 0) _ _ rfl rfl hzr Try.underlying32 rfl (by kernel_rfl)) rfl ?_
            exact ⟨k, 0, x, 0, 0, 0, ⟨#[]⟩, ⟨#[]⟩, none, 0, 0, rfl, hbr⟩
          | some n =>
            have hq' : q = true := hq
            subst hq'
            have hx' := hx n rfl
            subst hx'
            have hQn : Q = some ⟨(k : Int), 0, (n : Int), opz⟩ := hQ2.out.symm
            subst hQn
            clear hQ2 hx hq
            have hzr := hz5.row #[.int .i64 (k : Int), .int .u64 0, .int .i64 (n : Int), .int .u32 0, .int .u32 0, .int .u16 0, .string ⟨#[]⟩, .string ⟨#[]⟩, .slice none 0 0]
            have hbr := below_row hb6 (g := z) hzw #[.int .i64 (k : Int), .int .u64 0, .int .i64 (n : Int), .int .u32 0, .int .u32 0, .int .u16 0, .string ⟨#[]⟩, .string ⟨#[]⟩, .slice none 0 0]
            go_wp2_with (refine store_row_gen rfl 32 (Operand.tmp 2) _ rfl z #[.int .i64 (k : Int), .int .u64 0, .int .i64 (n : Int), .int .u32 0, .int .u32 0, .int .u16 0, .string ⟨#[]⟩, .string ⟨#[]⟩, .slice none 0 0] (by simp [go_sem]) (by simp [go_sem]) 32 _ hz5 (by kernel_rfl) rfl (by simp [Value.oneCell']) (fun w9 hw9 => ?_); rw [← hw9] at hzr hbr; clear hw9)
            refine bodyPost_ret (v := .tuple #[.agg #[.int .i64 (k : Int), .int .u64 0, .int .i64 (n : Int), .int .u32 0, .int .u32 0, .int .u16 0, .string ⟨#[]⟩, .string ⟨#[]⟩, .slice none 0 0], .bool true]) (by exact results_ct rfl _ _ z 32 _ (0, 0) _ _ rfl rfl hzr Try.underlying32 rfl (by kernel_rfl)) rfl ?_
            exact ⟨none, 0, [], _, rfl, VRow.nil _ _, recok_opz (show (0 : Nat) < 18446744073709551616 by decide), hbr⟩
      · have d1 : ((k : Int) == 1) = false := by rw [beq_eq_false_iff_ne]; omega
        have d2 : ((k : Int) == 2) = false := by rw [beq_eq_false_iff_ne]; omega
        have d3 : ((k : Int) == 3) = false := by rw [beq_eq_false_iff_ne]; omega
        have d4 : ((k : Int) == 4) = false := by rw [beq_eq_false_iff_ne]; omega
        have hQn : Q = none := by rw [← hQ1.out]; unfold rdRec1; rw [if_neg hk1, if_neg hk2, if_neg hk34]
        subst hQn
        have hzr := hz3.row #[.int .i64 (k : Int), .int .u64 0, .int .i64 0, .int .u32 0, .int .u32 0, .int .u16 0, .string ⟨#[]⟩, .string ⟨#[]⟩, .slice none 0 0]
        have hbr := below_row hb3 (g := z) hzw #[.int .i64 (k : Int), .int .u64 0, .int .i64 0, .int .u32 0, .int .u32 0, .int .u16 0, .string ⟨#[]⟩, .string ⟨#[]⟩, .slice none 0 0]
        go_wp2_with (refine store_row_gen rfl 32 (Operand.tmp 2) _ rfl z #[.int .i64 (k : Int), .int .u64 0, .int .i64 0, .int .u32 0, .int .u32 0, .int .u16 0, .string ⟨#[]⟩, .string ⟨#[]⟩, .slice none 0 0] (by simp [go_sem]) (by simp [go_sem]) 32 _ hz3 (by kernel_rfl) rfl (by simp [Value.oneCell']) (fun w9 hw9 => ?_); rw [← hw9] at hzr hbr; clear hw9)
        refine bodyPost_ret (v := .tuple #[.agg #[.int .i64 (k : Int), .int .u64 0, .int .i64 0, .int .u32 0, .int .u32 0, .int .u16 0, .string ⟨#[]⟩, .string ⟨#[]⟩, .slice none 0 0], .bool false]) (by exact results_ct rfl _ _ z 32 _ (0, 0) _ _ rfl rfl hzr Try.underlying32 rfl (by kernel_rfl)) rfl ?_
        exact ⟨k, 0, 0, 0, 0, 0, ⟨#[]⟩, ⟨#[]⟩, none, 0, 0, rfl, hbr⟩
end Go.Proofs.Ytjljlgkghlphnaa
namespace Go.Proofs.Ytjljlgkghlphnaa
open Go.RowKit
set_option maxRecDepth 100000

/-- A record, or none and the error. -/
def RecRd (w : World) (o : Option RecD) (e : Ending) (w' : World) : Prop :=
  match o with
  | some r => ∃ A' c' xs css, e = .returned (.tuple #[.agg #[.int .i64 r.k, .int .u64 (r.v : Int), .int .i64 r.n, .int .u32 (r.o.c : Int), .int .u32 (r.o.s : Int), .int .u16 (r.o.n : Int), .string (bstr r.o.g), .string (bstr r.o.m), .slice A' r.o.l.length c'], .int .i64 0]) ∧ VRow w' w.heap.size r.o.l A' c' xs css ∧ RecOk r ∧ Below w.heap.size w w'
  | none => e = .returned (.tuple #[.agg #[.int .i64 0, .int .u64 0, .int .i64 0, .int .u32 0, .int .u32 0, .int .u16 0, .string ⟨#[]⟩, .string ⟨#[]⟩, .slice none 0 0], .int .i64 20]) ∧ Below w.heap.size w w'

set_option maxHeartbeats 1600000 in
theorem jread_walk {A : Option Addr} {c : Nat} {b : List UInt8} {w : World} (h : Reads w w.heap.size 1 A b.length (bys b)) (hc : b.length ≤ c) (hl : b.length ≤ 1000000000) (Q : Option RecD) (hQ : rdRec b = Q) :
    Calls Try.prog 14 #[.slice A b.length c] w (RecRd w Q) := by
  have hz := Blk.new w 32 #[.int .i64 0, .int .u64 0, .int .i64 0, .int .u32 0, .int .u32 0, .int .u16 0, .string ⟨#[]⟩, .string ⟨#[]⟩, .slice none 0 0]
  have hb2 := (Below.refl w.heap.size w).alloc (Nat.le_refl _) (.cells #[.int .i64 0, .int .u64 0, .int .i64 0, .int .u32 0, .int .u32 0, .int .u16 0, .string ⟨#[]⟩, .string ⟨#[]⟩, .slice none 0 0] 32)
  have hrd := jread_in (c := c) ((h.below hb2).more hb2.size) hc hl Q hQ
  obtain ⟨N, hN⟩ : ∃ N, b.length = N := ⟨_, rfl⟩
  rw [hN] at hrd ⊢
  replace hrd := Lib.hid hrd
  clear h hc hl hQ hN
  go_enter Try.func14, Try.ntmps14
  go_wp2_with fail
  generalize w.alloc (.cells #[.int .i64 0, .int .u64 0, .int .i64 0, .int .u32 0, .int .u32 0, .int .u16 0, .string ⟨#[]⟩, .string ⟨#[]⟩, .slice none 0 0] 32) = w2 at *
  obtain ⟨z, hzz⟩ : ∃ z, w.heap.size = z := ⟨_, rfl⟩
  have hzw : w.heap.size ≤ z := by omega
  rw [hzz] at hz ⊢
  replace hzz := Lib.hid hzz
  refine hrd.out.mono ?_
  clear hrd
  cases Q with
  | none =>
    rintro e w3 ⟨k, v, n, c1, s1, m1, gg, mm, A', K, c', rfl, hb3⟩
    dsimp only
    have hz3 := (hz.below hb3 hz.lt).alloc (.cells #[.int .i64 k, .int .u64 v, .int .i64 n, .int .u32 c1, .int .u32 s1, .int .u16 m1, .string gg, .string mm, .slice A' K c'] 32)
    have hb4 := (below_then hb3 hb2).alloc (Nat.le_trans hb2.size hb3.size) (.cells #[.int .i64 k, .int .u64 v, .int .i64 n, .int .u32 c1, .int .u32 s1, .int .u16 m1, .string gg, .string mm, .slice A' K c'] 32)
    have hzr := hz3.row #[.int .i64 0, .int .u64 0, .int .i64 0, .int .u32 0, .int .u32 0, .int .u16 0, .string ⟨#[]⟩, .string ⟨#[]⟩, .slice none 0 0]
    have hbr := below_row hb4 (g := z) hzw #[.int .i64 0, .int .u64 0, .int .i64 0, .int .u32 0, .int .u32 0, .int .u16 0, .string ⟨#[]⟩, .string ⟨#[]⟩, .slice none 0 0]
    clear hz hb2 hb3
    go_wp2_with (refine store_row_gen rfl 32 (Operand.tmp 2) _ rfl z #[.int .i64 0, .int .u64 0, .int .i64 0, .int .u32 0, .int .u32 0, .int .u16 0, .string ⟨#[]⟩, .string ⟨#[]⟩, .slice none 0 0] (by simp [go_sem]) (by simp [go_sem]) 32 _ hz3 (by kernel_rfl) rfl (by simp [Value.oneCell']) (fun w9 hw9 => ?_); rw [← hw9] at hzr hbr; clear hw9)
    refine bodyPost_ret (v := .tuple #[.agg #[.int .i64 0, .int .u64 0, .int .i64 0, .int .u32 0, .int .u32 0, .int .u16 0, .string ⟨#[]⟩, .string ⟨#[]⟩, .slice none 0 0], .int .i64 20]) (by exact results_ct rfl _ _ z 32 _ (0, 0) _ _ rfl rfl hzr Try.underlying32 rfl (by kernel_rfl)) rfl ?_
    exact ⟨rfl, hbr⟩
  | some r =>
    obtain ⟨k, v, n, ⟨oc, os_, on, og', om', ol⟩⟩ := r
    rintro e w3 ⟨A', c', xs, css, rfl, hop, hok, hb3⟩
    dsimp only at hop ⊢
    obtain ⟨og, hog⟩ : ∃ og, bstr og' = og := ⟨_, rfl⟩
    obtain ⟨om, hom⟩ : ∃ om, bstr om' = om := ⟨_, rfl⟩
    obtain ⟨oL, hoL⟩ : ∃ oL, ol.length = oL := ⟨_, rfl⟩
    rw [hog, hom, hoL]
    have hw2 := hb2.size
    have hzl := hz.lt
    have hR3 := hop.upd ((Upd.refl (fun x => x = z) w3).alloc (.cells #[.int .i64 k, .int .u64 (v : Int), .int .i64 n, .int .u32 (oc : Int), .int .u32 (os_ : Int), .int .u16 (on : Int), .string og, .string om, .slice A' oL c'] 32)) (fun g hg e => by omega)
    have hR4 := hR3.upd ((Upd.refl (fun x => x = z) _).setRow (g := z) (fun _ => rfl) #[.int .i64 k, .int .u64 (v : Int), .int .i64 n, .int .u32 (oc : Int), .int .u32 (os_ : Int), .int .u16 (on : Int), .string og, .string om, .slice A' oL c']) (fun g hg e => by omega)
    replace hog := Lib.hid hog
    replace hom := Lib.hid hom
    replace hoL := Lib.hid hoL
    have hz3 := (hz.below hb3 hz.lt).alloc (.cells #[.int .i64 k, .int .u64 (v : Int), .int .i64 n, .int .u32 (oc : Int), .int .u32 (os_ : Int), .int .u16 (on : Int), .string og, .string om, .slice A' oL c'] 32)
    have hy3 := (Blk.new w3 32 #[.int .i64 k, .int .u64 (v : Int), .int .i64 n, .int .u32 (oc : Int), .int .u32 (os_ : Int), .int .u16 (on : Int), .string og, .string om, .slice A' oL c']).rec9
    have hb4 := (below_then hb3 hb2).alloc (Nat.le_trans hb2.size hb3.size) (.cells #[.int .i64 k, .int .u64 (v : Int), .int .i64 n, .int .u32 (oc : Int), .int .u32 (os_ : Int), .int .u16 (on : Int), .string og, .string om, .slice A' oL c'] 32)
    have hzr := hz3.row #[.int .i64 k, .int .u64 (v : Int), .int .i64 n, .int .u32 (oc : Int), .int .u32 (os_ : Int), .int .u16 (on : Int), .string og, .string om, .slice A' oL c']
    have hbr := below_row hb4 (g := z) hzw #[.int .i64 k, .int .u64 (v : Int), .int .i64 n, .int .u32 (oc : Int), .int .u32 (os_ : Int), .int .u16 (on : Int), .string og, .string om, .slice A' oL c']
    clear hz hb2 hb3 hop hR3
    go_wp2_with (refine store_row_gen rfl 32 (Operand.tmp 2) _ rfl z #[.int .i64 k, .int .u64 (v : Int), .int .i64 n, .int .u32 (oc : Int), .int .u32 (os_ : Int), .int .u16 (on : Int), .string og, .string om, .slice A' oL c'] (by simp [go_sem]) (by simp [go_sem]) 32 _ hz3 (by kernel_rfl) rfl (by simp [Value.oneCell']) (fun w9 hw9 => ?_); rw [← hw9] at hzr hbr hR4; clear hw9)
    refine bodyPost_ret (v := .tuple #[.agg #[.int .i64 k, .int .u64 (v : Int), .int .i64 n, .int .u32 (oc : Int), .int .u32 (os_ : Int), .int .u16 (on : Int), .string og, .string om, .slice A' oL c'], .int .i64 0]) (by exact results_ct rfl _ _ z 32 _ (0, 0) _ _ rfl rfl hzr Try.underlying32 rfl (by kernel_rfl)) rfl ?_
    refine ⟨A', c', _, _, ?_, hR4.down hw2, hok, hbr⟩
    dsimp only
    rw [hog.out, hom.out, hoL.out]
end Go.Proofs.Ytjljlgkghlphnaa
namespace Go.Proofs.Ytjljlgkghlphnaa
open Go.RowKit
set_option maxRecDepth 100000

def errJ (r : RecD) : Nat := if errP r ≠ 0 then errP r else if 65536 < (bytesP r).length then 22 else 0
theorem bytesP_le {r : RecD} (h : errP r = 0) : (bytesP r).length ≤ 100000 := by
  unfold bytesP
  split
  · simp [putU_len]
  split
  · rename_i h1 h2
    have he : errO r.o = 0 := by
      unfold errP at h
      split at h
      · cases h
      · first | exact h | (rw [if_pos h2] at h; exact h)
    obtain ⟨z1, z2, z3, z4⟩ := errO_zero he
    have hee := encL_le _ z4
    have hbe := bytesO_len r.o
    simp only [List.length_append, putU_len, hbe]
    simp only [List.length_cons, List.length_nil]
    omega
  · simp [putU_len]

set_option maxHeartbeats 3200000 in
theorem jput_walk {k n : Int} {v c1 s1 n1 : Nat} {g m bs : List UInt8} {gg mm : ByteArray} {l : List Val} {A A0 : Option Addr} {K cc B c0 : Nat} {w : World} (ho : OpReads w B ⟨c1, s1, n1, g, m, l⟩ #[.int .u32 (c1 : Int), .int .u32 (s1 : Int), .int .u16 (n1 : Int), .string gg, .string mm, .slice A K cc]) (hB : B ≤ w.heap.size) (hv : v < 18446744073709551616) (hg : g.length ≤ 1000) (hm : m.length ≤ 1000)
    (hA : Reads w w.heap.size 1 A0 bs.length (bys bs)) (hl : bs.length ≤ 100000000) :
    Calls Try.prog 10 #[.slice A0 bs.length c0, .agg #[.int .i64 k, .int .u64 (v : Int), .int .i64 n, .int .u32 (c1 : Int), .int .u32 (s1 : Int), .int .u16 (n1 : Int), .string gg, .string mm, .slice A K cc]] w (PayRes w (errJ ⟨k, v, n, ⟨c1, s1, n1, g, m, l⟩⟩) (bs ++ framed (bytesP ⟨k, v, n, ⟨c1, s1, n1, g, m, l⟩⟩))) := by
  have hR1 := Blk.new w 32 #[.int .i64 k, .int .u64 (v : Int), .int .i64 n, .int .u32 (c1 : Int), .int .u32 (s1 : Int), .int .u16 (n1 : Int), .string gg, .string mm, .slice A K cc]
  have hb1 := (Below.refl w.heap.size w).alloc (Nat.le_refl _) (.cells #[.int .i64 k, .int .u64 (v : Int), .int .i64 n, .int .u32 (c1 : Int), .int .u32 (s1 : Int), .int .u16 (n1 : Int), .string gg, .string mm, .slice A K cc] 32)
  have hpay := pay_walk (k := k) (n := n) (v := v) (ho.below (hb1.mono hB)) (Nat.le_trans hB hb1.size) hv hg hm
  have hc := hR1.rec9
  have hle := bytesP_le (r := ⟨k, v, n, ⟨c1, s1, n1, g, m, l⟩⟩)
  unfold errJ
  obtain ⟨p, hp⟩ : ∃ p, bytesP ⟨k, v, n, ⟨c1, s1, n1, g, m, l⟩⟩ = p := ⟨_, rfl⟩
  obtain ⟨x, hx⟩ : ∃ x, errP ⟨k, v, n, ⟨c1, s1, n1, g, m, l⟩⟩ = x := ⟨_, rfl⟩
  obtain ⟨r, hr⟩ : ∃ r, bs ++ framed p = r := ⟨_, rfl⟩
  rw [hp, hx] at hpay hle
  rw [hp, hx, hr]
  obtain ⟨E, hE⟩ : ∃ E, (if x ≠ 0 then x else if 65536 < p.length then 22 else 0) = E := ⟨_, rfl⟩
  rw [hE]
  replace hE := Lib.hid hE
  have hA1 := (hA.below hb1).more hb1.size
  obtain ⟨N, hN⟩ : ∃ N, bs.length = N := ⟨_, rfl⟩
  rw [hN]
  replace hN := Lib.hid hN
  replace hr := Lib.hid hr
  clear hp hx
  replace hpay := Lib.hid hpay
  replace hle := Lib.hid hle
  replace hA1 := Lib.hid hA1
  replace hb1 := Lib.hid hb1
  replace hl := Lib.hid hl
  clear hA ho hR1
  go_enter Try.func10, Try.ntmps10
  go_wp2_with fail
  refine hpay.out.mono ?_
  clear hpay hc
  intro e w2 h2
  unfold PayRes at h2
  by_cases hx0 : x = 0
  · subst hx0
    obtain ⟨A2, c2, rfl, ho2, hb2', hg2⟩ := h2.1 rfl
    clear h2
    dsimp only
    have hb2 := below_then hb2' hb1.out
    have hle := hle.out rfl
    by_cases hbig : 65536 < p.length
    · have hE2 : E = 22 := by rw [← hE.out, if_neg (by simp), if_pos hbig]
      subst hE2
      have hwr := wrap_big (A := A0) (C := A2) (c := c0) (d := c2) (n := N) (w := w2) hbig (by omega)
      obtain ⟨M, hM⟩ : ∃ M, p.length = M := ⟨_, rfl⟩
      rw [hM] at hwr ⊢
      replace hwr := Lib.hid hwr
      clear ho2 hb2' hg2 hM
      go_wp2_with fail
      refine hwr.out.mono ?_
      clear hwr
      rintro e w3 ⟨rfl, rfl⟩
      dsimp only
      go_wp2_with fail
      go_ret2
      exact ⟨fun h => absurd h (by decide), fun _ => ⟨rfl, hb2⟩⟩
    · have hE2 : E = 0 := by rw [← hE.out, if_neg (by simp), if_neg hbig]
      subst hE2
      have hwr := wrap_walk (c := c0) (d := c2) ((hA1.out.below hb2').more hb2'.size) ho2.reads_ (by have := hl.out; omega) (by omega) hr.out
      rw [hN.out] at hwr
      obtain ⟨M, hM⟩ : ∃ M, p.length = M := ⟨_, rfl⟩
      rw [hM] at hwr ⊢
      replace hwr := Lib.hid hwr
      have hs2 := hb2.size
      clear ho2 hb2' hg2 hM
      go_wp2_with fail
      refine hwr.out.mono ?_
      clear hwr
      rintro e w3 ⟨A3, c3, rfl, ho3, hb3, hg3⟩
      dsimp only
      have hfin := below_then hb3 hb2
      have hg3' : ∀ g, bOf A3 = some g → w.heap.size ≤ g := fun g hg => Nat.le_trans hs2 (hg3 g hg)
      go_wp2_with fail
      go_ret2
      exact ⟨fun _ => ⟨A3, c3, rfl, ho3, hfin, hg3'⟩, fun h => absurd rfl h⟩
  · obtain ⟨rfl, hb2'⟩ := h2.2 hx0
    clear h2
    dsimp only
    have hb2 := below_then hb2' hb1.out
    have hE2 : E = x := by rw [← hE.out, if_pos hx0]
    subst hE2
    have hne : ((E : Int) != 0) = true := bne_iff_ne.2 (by omega)
    replace hx0 := Lib.hid hx0
    go_wp2_with fail
    go_ret2
    exact ⟨fun h => absurd h hx0.out, fun _ => ⟨rfl, hb2⟩⟩
end Go.Proofs.Ytjljlgkghlphnaa
