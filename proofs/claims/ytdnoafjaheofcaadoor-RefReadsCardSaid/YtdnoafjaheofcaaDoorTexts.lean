/- Texts and numbers of any width, written and read: wire's and the document's. -/
import Derived.Test.YtdnoafjaheofcaaDoorOpenRef
import Derived.Test.YtdnoafjaheofcaaDoorGrow
set_option linter.unusedSimpArgs false
set_option linter.unusedVariables false
namespace Go.Proofs.YtdnoafjaheofcaaDoor
set_option maxRecDepth 100000
open Go.RowKit

theorem Grows.reads_ {w : World} {t : TypeId} {size n c : Nat} {A : Option Addr} {xs : List Value} {row : Option Nat} (h : Grows w t size A n c xs row) : Reads w w.heap.size size A n xs := by
  rcases h with ⟨h, _⟩ | ⟨_, _, B, hB, h⟩
  · exact h.reads_
  · exact h.more hB
theorem Grows.alloc {w : World} {t : TypeId} {size n c : Nat} {A : Option Addr} {xs : List Value} {row : Option Nat} (h : Grows w t size A n c xs row) (o : Obj) : Grows (w.alloc o) t size A n c xs row :=
  h.below ((Below.refl _ w).alloc (Nat.le_refl _) o)

/-- A row of bytes that may be put on. -/
def GrowBytes (w : World) (n : Nat) (r : List UInt8) (e : Ending) (w' : World) : Prop :=
  ∃ A' c', e = .returned (.slice A' r.length c') ∧ (∃ row, Grows w' 5 1 A' r.length c' (bys r) row ∧ ∀ g, row = some g → w.heap.size ≤ g) ∧ Below w.heap.size w w' ∧ (n < r.length → Own w' 5 1 A' r.length c' (bys r) ∧ ∀ g, bOf A' = some g → w.heap.size ≤ g)

theorem ref_put_full {A : Option Addr} {B : Nat} {bs : List UInt8} {v : Nat} {m : Int} {w : World} (h : Reads w B 1 A bs.length (bys bs)) (hB : B ≤ w.heap.size) (hl : bs.length ≤ 100000000000) (hv : v < 18446744073709551616) :
    Calls Tryd.prog 24 #[.slice A bs.length bs.length, .int .u64 (v : Int), .int .i64 m] w (GrowBytes w bs.length (bs ++ putU v (n8 m))) := by
  obtain ⟨i0, hi, hz0, hz1, hz2⟩ := info_parts info_u8
  go_enter Tryd.func24, Tryd.ntmps24
  obtain ⟨x, hx1, hx2⟩ := n8_if m
  have hn8 := n8_le m
  generalize hk : n8 m = k at hx2 hn8
  replace hk := Lib.hid hk
  go_wp2
  go_loopw [0, 7] (fun s i w' => ∃ (j : Nat) (A' : Option Addr) (c' : Nat) (X : List UInt8) (row : Option Nat), j ≤ k ∧ X.length + j = k ∧ X ++ putU v j = putU v k ∧ s = .slice A' (bs.length + X.length) c' ∧ i = .int .i64 ((j : Int) - 1) ∧ Grows w' 5 1 A' (bs.length + X.length) c' (bys (bs ++ X)) row ∧ Below w.heap.size w w' ∧ (∀ g, row = some g → w.heap.size ≤ g) ∧ (0 < X.length → Own w' 5 1 A' (bs.length + X.length) c' (bys (bs ++ X)) ∧ ∀ g, bOf A' = some g → w.heap.size ≤ g)) (fun _ i _ => (10 + intOf i).toNat)
  case atStart => exact ⟨k, A, bs.length, [], none, Nat.le_refl _, by simp, by simp, by simp, by simp, by simpa using Grows.full h hB (Nat.le_refl _), Below.refl _ _, by simp, by simp⟩
  case round =>
    obtain ⟨j, A', c', X, row, hj, hXj, hX, rfl, rfl, ho, hb, hg, hown0⟩ := hrel
    by_cases hlt : 1 ≤ j
    · have hbyte : (#[Value.int .u8 ((v : Int) / 2 ^ (8 * (j - 1)) % 256)] : Array Value).toList = bys [byteAt v (j - 1)] := by simp [bys, byv, byteAt_val]
      go_wp2_with (at_builtin; go_must (refine wpList_append_grows rfl _ _ 22 22 rfl 5 i0 (.int .u8 0) 1 1 Tryd.underlying22 hi hz0 hz1 hz2 rfl rfl (ho.alloc _) rfl (Src.ofReads Tryd.underlying22 _ (Reads.lit _ _ _ _ 1 _ hbyte rfl) (bys_one _)) (by omega) ?b1 ?b2 ?grow))
      case b1 => unfold maxLen; omega
      case b2 => omega
      case grow =>
        intro A2 c2 w2 hown hgr hat
        go_wp2_with fail
        go_roundw
        case rel =>
          refine ⟨j - 1, A2, c2, X ++ [byteAt v (j - 1)], bOf A2, by omega, by simp; omega, ?_, by simp [Nat.add_assoc], by simp; omega, by simpa [bys_append, Nat.add_assoc] using Grows.own hown, (hb.alloc hb.size _).grown hgr (by have := hb.size; simp; omega) hg, ?_, fun _ => ⟨by simpa [bys_append, Nat.add_assoc] using hown, ?_⟩⟩
          · rw [← hX, show j = (j - 1) + 1 from by omega]; simp [putU]
          all_goals
            rcases hat with h | h
            · rw [h]; exact hg
            · intro g hg'
              rw [h] at hg'
              have := hb.size; simp at hg'; omega
        case measure => simp [intOf]; omega
    · have hj0 : j = 0 := by omega
      subst hj0
      go_wp2_with fail
      go_ret
      simp [putU] at hX
      subst hX
      have hk := hk.out
      subst hk
      exact ⟨A', c', by simp, ⟨row, by simpa using ho, hg⟩, hb, fun hlt => by simpa using hown0 (by simp at hlt; omega)⟩

theorem wire_read_out {A : Option Addr} {m c : Nat} {k : Int} {w : World} (hk : k < 0 ∨ 8 < k ∨ (m : Int) < k) :
    Calls Tryd.prog 52 #[.slice A m c, .int .i64 k] w fun e w' => e = .returned (.tuple #[.int .u64 0, .bool false]) ∧ w = w' := by
  by_cases h0 : k < 0
  · go_enter Tryd.func52, Tryd.ntmps52
    go_wp2
    go_ret2
    exact ⟨rfl, rfl⟩
  by_cases h8 : 8 < k
  · go_enter Tryd.func52, Tryd.ntmps52
    go_wp2
    go_ret2
    exact ⟨rfl, rfl⟩
  · have hm : (m : Int) < k := by omega
    go_enter Tryd.func52, Tryd.ntmps52
    go_wp2
    go_ret2
    exact ⟨rfl, rfl⟩
theorem ref_read_out {A : Option Addr} {m c : Nat} {k : Int} {w : World} (hk : k < 0 ∨ 8 < k ∨ (m : Int) < k) :
    Calls Tryd.prog 40 #[.slice A m c, .int .i64 k] w fun e w' => e = .returned (.tuple #[.int .u64 0, .bool false]) ∧ w = w' := by
  by_cases h0 : k < 0
  · go_enter Tryd.func40, Tryd.ntmps40
    go_wp2
    go_ret2
    exact ⟨rfl, rfl⟩
  by_cases h8 : 8 < k
  · go_enter Tryd.func40, Tryd.ntmps40
    go_wp2
    go_ret2
    exact ⟨rfl, rfl⟩
  · have hm : (m : Int) < k := by omega
    go_enter Tryd.func40, Tryd.ntmps40
    go_wp2
    go_ret2
    exact ⟨rfl, rfl⟩

/-- A number of k bytes ahead of bytes, if they are there. -/
def readN (b : List UInt8) (k : Int) : Nat × Bool := if 0 ≤ k ∧ k ≤ 8 ∧ k ≤ (b.length : Int) then (readU (b.take k.toNat), true) else (0, false)
def ReadRes (w : World) (r : Nat × Bool) (e : Ending) (w' : World) : Prop := e = .returned (.tuple #[.int .u64 (r.1 : Int), .bool r.2]) ∧ Below w.heap.size w w'

theorem read_any {A : Option Addr} {c : Nat} {b : List UInt8} {k : Int} {r : Nat × Bool} {w : World} (h : Reads w w.heap.size 1 A b.length (bys b)) (hc : b.length ≤ c) (hl : b.length ≤ 140737488351232) (hr : readN b k = r) :
    Calls Tryd.prog 52 #[.slice A b.length c, .int .i64 k] w (ReadRes w r) := by
  unfold readN at hr
  by_cases hk : 0 ≤ k ∧ k ≤ 8 ∧ k ≤ (b.length : Int)
  · rw [if_pos hk] at hr
    subst hr
    obtain ⟨j, rfl⟩ : ∃ j : Nat, k = (j : Int) := ⟨k.toNat, by omega⟩
    exact wire_read h (by omega) (by omega) hc hl
  · rw [if_neg hk] at hr
    subst hr
    refine (wire_read_out (by omega)).mono ?_
    rintro e w' ⟨rfl, rfl⟩
    exact ⟨rfl, Below.refl _ _⟩
theorem ref_read_any {A : Option Addr} {c : Nat} {b : List UInt8} {k : Int} {r : Nat × Bool} {w : World} (h : Reads w w.heap.size 1 A b.length (bys b)) (hl : b.length ≤ 140737488351232) (hr : readN b k = r) :
    Calls Tryd.prog 40 #[.slice A b.length c, .int .i64 k] w (ReadRes w r) := by
  unfold readN at hr
  by_cases hk : 0 ≤ k ∧ k ≤ 8 ∧ k ≤ (b.length : Int)
  · rw [if_pos hk] at hr
    subst hr
    obtain ⟨j, rfl⟩ : ∃ j : Nat, k = (j : Int) := ⟨k.toNat, by omega⟩
    exact ref_read h (by omega) (by omega) hl
  · rw [if_neg hk] at hr
    subst hr
    refine (ref_read_out (by omega)).mono ?_
    rintro e w' ⟨rfl, rfl⟩
    exact ⟨rfl, Below.refl _ _⟩

/-- Bytes of a new row, and no error. -/
def TextPut (w : World) (r : List UInt8) (e : Ending) (w' : World) : Prop :=
  ∃ A' c', e = .returned (.tuple #[.slice A' r.length c', .int .i64 0]) ∧ Own w' 5 1 A' r.length c' (bys r) ∧ Below w.heap.size w w' ∧ ∀ g, bOf A' = some g → w.heap.size ≤ g

theorem text_src (w : World) (s : List UInt8) : Src Tryd.prog 1 9 (.string (bstr s)) s.length (bys s) w := by
  have h := Src.ofString (P := Tryd.prog) w Tryd.underlying9 (bstr s)
  rw [bstr_size] at h
  exact h

set_option maxHeartbeats 800000 in
theorem put_text {A : Option Addr} {c B : Nat} {bs s r : List UInt8} {m : Int} {w : World} (hR : Reads w B 1 A bs.length (bys bs)) (hB : B ≤ w.heap.size) (hl : bs.length ≤ 1000000000) (hs : (s.length : Int) ≤ m) (h65 : s.length ≤ 65535) (hr : bs ++ putU s.length 2 ++ s = r) :
    Calls Tryd.prog 19 #[.slice A bs.length c, .string (bstr s), .int .i64 m] w (TextPut w r) := by
  obtain ⟨i0, hi, hz0, hz1, hz2⟩ := info_parts info_u8
  obtain ⟨q, hq⟩ : ∃ q, bs ++ putU s.length 2 = q := ⟨_, rfl⟩
  have hqr : q.length + s.length = r.length := by rw [← hr, ← hq]; simp only [List.length_append]
  have hqs : bys q ++ bys s = bys r := by rw [← bys_append, ← hr, ← hq]
  have hql : q.length ≤ 1000000100 := by rw [← hq]; simp [putU_len]; omega
  have hsz : (bstr s).size = s.length := bstr_size s
  have hmin : (if m < 65535 then m else 65535) = min m 65535 := by omega
  have hmin2 : (s.length : Int) ≤ min m 65535 := by omega
  generalize min m 65535 = mm at hmin hmin2
  clear hr
  replace hq := Lib.hid hq
  replace hqr := Lib.hid hqr
  replace hqs := Lib.hid hqs
  go_enter Tryd.func19, Tryd.ntmps19
  go_wp2_with fail
  all_goals
    refine (wire_put (m := 2) hR hB (by omega) (by omega)).mono ?_
    rw [show n8 2 = 2 from rfl, hq.out]
    rintro e w1 ⟨A1, c1, rfl, ho1, hb1, hg1⟩
    dsimp only
    go_wp2_with (at_builtin; refine wpList_append_mine rfl _ _ 22 9 rfl 5 i0 (.int .u8 0) 1 1 Tryd.underlying22 hi hz0 hz1 hz2 rfl rfl ho1 rfl (text_src _ s) (by unfold maxLen; omega) (by omega) (fun A3 c3 w3 ho3 hg3 hat3 => ?_); rw [hqs.out, hqr.out] at ho3; rw [hqr.out])
    go_ret2
    have hb3 : Below w.heap.size w w3 := hb1.grown hg3 hb1.size hg1
    refine ⟨A3, c3, rfl, ho3, hb3, ?_⟩
    rcases hat3 with e | e
    · rw [e]; exact hg1
    · intro g hg; rw [e] at hg; cases hg; exact hb1.size

set_option maxHeartbeats 800000 in
theorem put_text_no {A : Option Addr} {c n : Nat} {s : List UInt8} {m : Int} {w : World} (hs : m < (s.length : Int) ∨ 65535 < s.length) (hsl : s.length ≤ 1000000000) :
    Calls Tryd.prog 19 #[.slice A n c, .string (bstr s), .int .i64 m] w (fun e w' => e = .returned (.tuple #[.slice none 0 0, .int .i64 22]) ∧ w = w') := by
  have hsz : (bstr s).size = s.length := bstr_size s
  by_cases hm : m < 65535
  · have h1 : m < (s.length : Int) := by omega
    go_enter Tryd.func19, Tryd.ntmps19
    go_wp2
    go_ret2
    exact ⟨rfl, rfl⟩
  · have h1 : (65535 : Int) < (s.length : Int) := by omega
    have h2 : ¬ m < 65535 := hm
    go_enter Tryd.func19, Tryd.ntmps19
    go_wp2
    all_goals
      go_ret2
      exact ⟨rfl, rfl⟩

set_option maxHeartbeats 800000 in
theorem ref_put_text {A : Option Addr} {B : Nat} {bs s r : List UInt8} {m : Int} {w : World} (h : Reads w B 1 A bs.length (bys bs)) (hB : B ≤ w.heap.size) (hl : bs.length ≤ 1000000000) (hs : (s.length : Int) ≤ m) (h65 : s.length ≤ 65535) (hr : bs ++ putU s.length 2 ++ s = r) :
    Calls Tryd.prog 23 #[.slice A bs.length bs.length, .string (bstr s), .int .i64 m] w (TextPut w r) := by
  obtain ⟨i0, hi, hz0, hz1, hz2⟩ := info_parts info_u8
  obtain ⟨q, hq⟩ : ∃ q, bs ++ putU s.length 2 = q := ⟨_, rfl⟩
  have hqr : q.length + s.length = r.length := by rw [← hr, ← hq]; simp only [List.length_append]
  have hqs : bys q ++ bys s = bys r := by rw [← bys_append, ← hr, ← hq]
  have hql : q.length ≤ 1000000100 := by rw [← hq]; simp [putU_len]; omega
  have hq2 : bs.length < q.length := by rw [← hq]; simp [putU_len]
  have hsz : (bstr s).size = s.length := bstr_size s
  clear hr
  replace hq := Lib.hid hq
  replace hqr := Lib.hid hqr
  replace hqs := Lib.hid hqs
  go_enter Tryd.func23, Tryd.ntmps23
  go_wp2_with fail
  refine (ref_put_full (m := 2) h hB (by omega) (by omega)).mono ?_
  rw [show n8 2 = 2 from rfl, hq.out]
  rintro e w1 ⟨A1, c1, rfl, _, hb1, hown⟩
  obtain ⟨ho1, hg1⟩ := hown hq2
  dsimp only
  go_wp2_with (at_builtin; refine wpList_append_mine rfl _ _ 22 9 rfl 5 i0 (.int .u8 0) 1 1 Tryd.underlying22 hi hz0 hz1 hz2 rfl rfl ho1 rfl (text_src _ s) (by unfold maxLen; omega) (by omega) (fun A3 c3 w3 ho3 hg3 hat3 => ?_); rw [hqs.out, hqr.out] at ho3; rw [hqr.out])
  go_ret2
  have hb3 : Below w.heap.size w w3 := hb1.grown hg3 hb1.size hg1
  refine ⟨A3, c3, rfl, ho3, hb3, ?_⟩
  rcases hat3 with e | e
  · rw [e]; exact hg1
  · intro g hg; rw [e] at hg; cases hg; exact hb1.size

theorem ref_put_text_no {A : Option Addr} {c n : Nat} {s : List UInt8} {m : Int} {w : World} (hs : m < (s.length : Int) ∨ 65535 < s.length) (hsl : s.length ≤ 1000000000) :
    Calls Tryd.prog 23 #[.slice A n c, .string (bstr s), .int .i64 m] w (fun e w' => e = .returned (.tuple #[.slice none 0 0, .int .i64 22]) ∧ w = w') := by
  have hsz : (bstr s).size = s.length := bstr_size s
  by_cases hm : m < (s.length : Int)
  · go_enter Tryd.func23, Tryd.ntmps23
    go_wp2
    go_ret2
    exact ⟨rfl, rfl⟩
  · have h1 : (65535 : Int) < (s.length : Int) := by omega
    go_enter Tryd.func23, Tryd.ntmps23
    go_wp2
    go_ret2
    exact ⟨rfl, rfl⟩
end Go.Proofs.YtdnoafjaheofcaaDoor
