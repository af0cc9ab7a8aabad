/- The client's stub (chapter 29): what it holds, that what others do leaves it, New, name. -/
import Derived.Test.YtgdhiihfcngjbaaOpCl
import Derived.Test.YtgdhiihfcngjbaaSt8
import Derived.Test.YtgdhiihfcngjbaaMore
import Derived.Test.YtgdhiihfcngjbaaRepSame
set_option linter.unusedSimpArgs false
set_option linter.unusedVariables false
namespace Go.Proofs.Ytgdhiihfcngjbaa
open Go.RowKit
set_option maxRecDepth 100000

/-- An open call: the call, how old, whether it is to go. -/
structure OpnD where
  o : OpD
  age : Nat
  now : Bool
/-- An answer. -/
structure RplD where
  c : Nat
  s : Nat
  n : Nat
  e : Int
  v : Val
structure CliD where
  id : Nat
  seq : Nat
  op : List OpnD
  rp : List RplD

/-- A stub at block g: F holds of all blocks that are its own; its rows turn, what its rows point to does not. -/
structure StubX (w : World) (F : Nat → Prop) (g : Nat) (d : CliD) (A : Option Addr) (c : Nat) (A2 : Option Addr) (c2 : Nat) (xs xs2 : List Value) (css css2 : Nat → Array Value) : Prop where
  blk : Blk w g 67 #[.int .u32 (d.id : Int), .int .u32 (d.seq : Int), .slice A d.op.length c, .slice A2 d.rp.length c2]
  ho : Own w 72 8 A d.op.length c xs
  hr : Own w 39 9 A2 d.rp.length c2 xs2
  hx : ∀ j x, d.op[j]? = some x → OpHeld w (fun y => ¬ F y ∨ y = g ∨ bOf A = some y ∨ bOf A2 = some y) x.o (css j)
  hxs : ∀ j x, d.op[j]? = some x → (xs.drop (j * 8)).take 8 = (css j).toList ++ [.int .i64 (x.age : Int), .bool x.now]
  rx : ∀ j x, d.rp[j]? = some x → VOwn w (fun y => F y ∧ y ≠ g ∧ bOf A ≠ some y ∧ bOf A2 ≠ some y) x.v (css2 j)
  rxs : ∀ j x, d.rp[j]? = some x → (xs2.drop (j * 9)).take 9 = [.int .u32 (x.c : Int), .int .u32 (x.s : Int), .int .u16 (x.n : Int), .int .i64 x.e] ++ (css2 j).toList
  fg : F g
  fA : ∀ y, bOf A = some y → F y
  fA2 : ∀ y, bOf A2 = some y → F y
  ft : ∀ y, F y → y < w.heap.size
  hid : d.id < 4294967296
  hsq : d.seq ≤ 1000000
  hn : d.op.length ≤ 4
  hr4 : d.rp.length ≤ 1000000
def StubS (w : World) (F : Nat → Prop) (g : Nat) (d : CliD) : Prop := ∃ A c A2 c2 xs xs2 css css2, StubX w F g d A c A2 c2 xs xs2 css css2
theorem StubX.keep {w W : World} {F S : Nat → Prop} {g : Nat} {d : CliD} {A : Option Addr} {c : Nat} {A2 : Option Addr} {c2 : Nat} {xs xs2 : List Value} {css css2 : Nat → Array Value} (h : StubX w F g d A c A2 c2 xs xs2 css css2) (hu : Upd S w W) (hS : ∀ y, F y → ¬ S y) : StubX W F g d A c A2 c2 xs xs2 css css2 :=
  ⟨h.blk.upd hu (hS g h.fg), h.ho.upd hu (fun y hy => hS y (h.fA y hy)), h.hr.upd hu (fun y hy => hS y (h.fA2 y hy)), fun j x hj => (h.hx j x hj).next hu (fun y _ hy => .inl (fun hf => hS y hf hy)) (fun y _ hp => hp), h.hxs, fun j x hj => (h.rx j x hj).upd hu (fun y hy => hS y hy.1), h.rxs, h.fg, h.fA, h.fA2, fun y hy => Nat.lt_of_lt_of_le (h.ft y hy) hu.size, h.hid, h.hsq, h.hn, h.hr4⟩
theorem StubS.keep {w W : World} {F S : Nat → Prop} {g : Nat} {d : CliD} (h : StubS w F g d) (hu : Upd S w W) (hS : ∀ y, F y → ¬ S y) : StubS W F g d := by
  obtain ⟨A, c, A2, c2, xs, xs2, css, css2, h⟩ := h
  exact ⟨A, c, A2, c2, xs, xs2, css, css2, h.keep hu hS⟩
theorem StubS.below {w W : World} {F : Nat → Prop} {g : Nat} {d : CliD} (h : StubS w F g d) (hb : Below w.heap.size w W) : StubS W F g d :=
  h.keep (Upd.of_below_size (S := fun _ => False) hb) (fun _ _ hf => hf)

theorem cl_new (w : World) (id : Nat) (n : Int) (hid : id < 4294967296) : Calls Try.prog 7 #[.int .u32 (id : Int), .int .i64 n] w
    (fun e w' => e = .returned (.pointer (some ⟨w.heap.size, 0, none⟩)) ∧ StubS w' (fun y => y = w.heap.size) w.heap.size ⟨id, 0, [], []⟩ ∧ Below w.heap.size w w') := by
  go_enter Try.func7, Try.ntmps7
  go_wp2_with fail
  have hx := Blk.new w 67 #[.int .u32 (id : Int), .int .u32 0, .slice none 0 0, .slice none 0 0]
  go_ret
  exact ⟨rfl, ⟨none, 0, none, 0, [], [], fun _ => #[], fun _ => #[], hx, Own.none_, Own.none_, by simp, by simp, by simp, by simp, rfl, by simp [bOf], by simp [bOf], fun y hy => by subst hy; simp, hid, Nat.zero_le _, Nat.zero_le _, Nat.zero_le _⟩, (Below.refl _ _).alloc (Nat.le_refl _) _⟩
theorem cl_name (s : ByteArray) (w : World) (hs : s.size ≤ 1000000000) : Calls Try.prog 23 #[.string s] w (Says w (.bool (decide (1 ≤ s.size) && decide (s.size ≤ 32)))) := by
  go_enter Try.func23, Try.ntmps23
  have e0 : s.toList.isEmpty = !decide (1 ≤ s.size) := by
    rw [ByteArray.toList_eq]
    have hsz : s.size = s.data.toList.length := by rw [Array.length_toList]; rfl
    rw [hsz]
    cases s.data.toList with
    | nil => rfl
    | cons _ _ => simp
  by_cases h1 : 1 ≤ s.size
  · have d1 : decide (1 ≤ s.size) = true := decide_eq_true h1
    rw [d1] at e0 ⊢
    by_cases h2 : s.size ≤ 32
    · have d2 : decide (s.size ≤ 32) = true := decide_eq_true h2
      have d2' : decide ((s.size : Int) ≤ 32) = true := decide_eq_true (by omega)
      rw [d2]
      go_wp2_with fail
      go_ret
      exact ⟨rfl, Below.refl _ _⟩
    · have d2 : decide (s.size ≤ 32) = false := decide_eq_false h2
      have d2' : decide ((s.size : Int) ≤ 32) = false := decide_eq_false (by omega)
      rw [d2]
      go_wp2_with fail
      go_ret
      exact ⟨rfl, Below.refl _ _⟩
  · have d1 : decide (1 ≤ s.size) = false := decide_eq_false h1
    rw [d1] at e0 ⊢
    go_wp2_with fail
    go_ret
    exact ⟨rfl, Below.refl _ _⟩
end Go.Proofs.Ytgdhiihfcngjbaa
