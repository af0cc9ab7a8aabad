/- A journal's records and states, in plain: what a record's bytes are, what bytes are a record, what records come to. -/
import Derived.Test.YtlkokkbikkbaoaaB2
import Derived.Test.YtlkokkbikkbaoaaB5
set_option linter.unusedSimpArgs false
set_option linter.unusedVariables false
set_option linter.unusedSimpArgs false
set_option linter.unusedVariables false
namespace Go.Proofs.Ytlkokkbikkbaoaa
open Go.RowKit

structure RecD where
  k : Int
  v : Nat
  n : Int
  o : OpD
def opz : OpD := ⟨0, 0, 0, [], [], []⟩
def errP (r : RecD) : Nat := if r.k < 1 ∨ 4 < r.k ∨ r.n < 0 ∨ 2147483647 < r.n ∨ (r.k = 1 ∧ 1 < r.n) then 22 else if r.k = 2 then errO r.o else 0
def bytesP (r : RecD) : List UInt8 :=
  if r.k = 1 then [1] ++ putU r.v 8 ++ putU r.n.toNat 4 else if r.k = 2 then [2] ++ putU r.v 8 ++ bytesO r.o else [UInt8.ofNat r.k.toNat] ++ putU r.n.toNat 4
def rdNum (t : List UInt8) : Option Nat := if t.length = 4 ∧ readU t ≤ 2147483647 then some (readU t) else none
def rdRec1 (k : Nat) (t : List UInt8) : Option RecD :=
  if k = 1 then (if t.length < 8 then none else match rdNum (t.drop 8) with | some n => if n ≤ 1 then some ⟨1, readU (t.take 8), n, opz⟩ else none | none => none)
  else if k = 2 then (if t.length < 8 then none else match rdOp (t.drop 8) with | some (o, q) => if q = t.length - 8 then some ⟨2, readU (t.take 8), 0, o⟩ else none | none => none)
  else if k = 3 ∨ k = 4 then (match rdNum t with | some n => some ⟨k, 0, n, opz⟩ | none => none)
  else none
def rdRec : List UInt8 → Option RecD
  | [] => none
  | k :: t => rdRec1 k.toNat t

theorem readU_put8 (v : Nat) (h : v < 18446744073709551616) : readU (putU v 8) = v := putU_back v 8 h
theorem readU_put4 (v : Nat) (h : v < 4294967296) : readU (putU v 4) = v := putU_back v 4 h
theorem rdNum_put {n : Nat} (h : n ≤ 2147483647) : rdNum (putU n 4) = some n := by
  unfold rdNum
  rw [putU_len, readU_put4 n (by omega), if_pos ⟨rfl, h⟩]

def cleanO (o : OpD) : OpD := ⟨o.c, o.s, o.n, o.g, o.m, o.l.map cleanV⟩
structure StD where
  v : Nat
  last : Nat
  log : List (Nat × OpD)
  sure : Int
def st0 : StD := ⟨0, 0, [], 0⟩
def lastV (l : List (Nat × OpD)) : Nat := match l.getLast? with | some x => x.1 | none => 0
def stepOk (s : StD) (r : RecD) : Bool :=
  if r.k = 1 then decide (s.v < r.v ∨ (r.v = s.v ∧ r.n = 1))
  else if r.k = 2 then decide (0 < r.v ∧ lastV s.log ≤ r.v ∧ s.log.length < 400)
  else if r.k = 3 ∨ r.k = 4 then decide (s.sure ≤ r.n ∧ r.n ≤ s.log.length)
  else false
def stepD (s : StD) (r : RecD) : StD :=
  if stepOk s r = true then
    (if r.k = 1 then ⟨r.v, if r.n = 1 then r.v else s.last, s.log, s.sure⟩
    else if r.k = 2 then ⟨s.v, s.last, s.log ++ [(r.v, cleanO r.o)], s.sure⟩
    else if r.k = 3 then ⟨s.v, s.last, s.log.take r.n.toNat, s.sure⟩
    else ⟨s.v, s.last, s.log, r.n⟩)
  else s

/-- What bytes come to, from a place on; and how far. -/
def recF : Nat → List UInt8 → StD → Nat → StD × Nat
  | 0, _, s, at_ => (s, at_)
  | f + 1, b, s, at_ =>
    if (opened (b.drop at_)).2.2 ≠ 0 then (s, at_)
    else match rdRec (opened (b.drop at_)).1 with
      | none => (s, at_)
      | some r => if stepOk s r = true then recF f b (stepD s r) (at_ + (opened (b.drop at_)).2.1) else (s, at_)
def recD (b : List UInt8) : StD × Nat := recF (b.length + 1) b st0 0
theorem opened_far {b : List UInt8} (h : (opened b).2.2 = 0) : 8 ≤ (opened b).2.1 ∧ (opened b).2.1 ≤ b.length := by
  unfold opened at h ⊢
  split
  · rename_i h1; rw [if_pos h1] at h; cases h
  rename_i h1
  rw [if_neg h1] at h
  split
  · rename_i h2; rw [if_pos h2] at h; cases h
  rename_i h2
  rw [if_neg h2] at h
  split
  · rename_i h3; rw [if_pos h3] at h; cases h
  rename_i h3
  rw [if_neg h3] at h
  split
  · dsimp only; omega
  · rename_i h4; rw [if_neg h4] at h; cases h
end Go.Proofs.Ytlkokkbikkbaoaa
