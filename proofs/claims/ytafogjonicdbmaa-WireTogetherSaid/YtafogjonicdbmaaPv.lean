/- Value trees: what bytes say, and how the machine holds them in rows of its own. -/
import Derived.Test.YtafogjonicdbmaaNaN
import Derived.Test.YtafogjonicdbmaaWireNumbers
namespace Go.Proofs.Ytafogjonicdbmaa
open Go.RowKit

inductive Val where
  | mk (k i : Int) (f : Nat) (s : List UInt8) (l : List Val)

def pl (p : List UInt8 → Option (Val × Nat)) : Nat → List UInt8 → Option (List Val × Nat)
  | 0, _ => some ([], 0)
  | n + 1, b => match p b with
    | none => none
    | some (v, m) => match pl p n (b.drop m) with
      | none => none
      | some (l, m') => some (v :: l, m + m')

/-- The value ahead of bytes, lists in one another at most d deep, and how many bytes it takes. -/
def pv : Nat → List UInt8 → Option (Val × Nat)
  | _, [] => none
  | d, k :: t =>
    if k.toNat = 0 then some (.mk 0 0 0 [] [], 1)
    else if k.toNat = 1 then (if t.length < 8 then none else some (.mk 1 (wrap64 (readU (t.take 8))) 0 [] [], 9))
    else if k.toNat = 2 then (if t.length < 8 then none else if cb (readU (t.take 8)) = readU (t.take 8) then some (.mk 2 0 (readU (t.take 8)) [] [], 9) else none)
    else if k.toNat = 3 then (if (readT t 256).2.2 = 0 then some (.mk 3 0 0 (readT t 256).1 [], 1 + (readT t 256).2.1) else none)
    else if k.toNat = 4 then
      match d, t with
      | 0, _ => none
      | _ + 1, [] => none
      | d + 1, n :: u => if 64 < n.toNat then none else match pl (pv d) n.toNat u with
        | none => none
        | some (l, m) => some (.mk 4 0 0 [] l, 2 + m)
    else none

/-- A value that the machine holds: each list in a row of its own, in blocks of P. -/
inductive VOwn (w : World) (P : Nat → Prop) : Val → Array Value → Prop
  | mk {k i : Int} {f : Nat} {s : List UInt8} {l : List Val} {A : Option Addr} {c : Nat} {xs : List Value} (css : Nat → Array Value) (hn : l.length ≤ 1000000) (ho : Own w 26 5 A l.length c xs) (hP : ∀ g, bOf A = some g → P g)
      (hx : ∀ (j : Nat) (v : Val), l[j]? = some v → VOwn w P v (css j)) (hxs : ∀ j, j < l.length → (xs.drop (j * 5)).take 5 = (css j).toList) :
      VOwn w P (.mk k i f s l) #[.int .i64 k, .int .i64 i, .float .f64 f, .string (bstr s), .slice A l.length c]

theorem VOwn.upd {w w' : World} {P S : Nat → Prop} {v : Val} {cs : Array Value} (h : VOwn w P v cs) (hu : Upd S w w') (hs : ∀ g, P g → ¬ S g) : VOwn w' P v cs := by
  induction h with
  | mk css hn ho hP hx hxs ih => exact .mk css hn (ho.upd hu fun g hg => hs g (hP g hg)) hP (fun j v hv => ih j v hv) hxs
theorem VOwn.mono {w : World} {P Q : Nat → Prop} {v : Val} {cs : Array Value} (h : VOwn w P v cs) (hq : ∀ g, g < w.heap.size → P g → Q g) : VOwn w Q v cs := by
  induction h with
  | mk css hn ho hP hx hxs ih => exact .mk css hn ho (fun g hg => hq g (ho.lt hg) (hP g hg)) (fun j v hv => ih j v hv) hxs
theorem VOwn.size {w : World} {P : Nat → Prop} {v : Val} {cs : Array Value} (h : VOwn w P v cs) : cs.size = 5 := by
  cases h with
  | mk css hn ho hP hx hxs => rfl
theorem VOwn.one {w : World} {P : Nat → Prop} {v : Val} {cs : Array Value} (h : VOwn w P v cs) : ∀ u ∈ cs.toList, u.oneCell' = true := by
  cases h with
  | mk css hn ho hP hx hxs =>
    intro u hu
    simp at hu
    rcases hu with rfl | rfl | rfl | rfl | rfl <;> rfl
theorem VOwn.flat (w : World) (P : Nat → Prop) (k i : Int) (f : Nat) (s : List UInt8) : VOwn w P (.mk k i f s []) #[.int .i64 k, .int .i64 i, .float .f64 f, .string (bstr s), .slice none 0 0] :=
  .mk (l := []) (fun _ => #[]) (by simp) Own.none_ (by simp [bOf]) (by simp) (by simp)
end Go.Proofs.Ytafogjonicdbmaa
