/- Value trees that the machine reads, and what Check says of them. -/
import Derived.Test.YtafogjonicdbmaaReadAll
namespace Go.Proofs.Ytafogjonicdbmaa
open Go.RowKit

mutual
def sizeV : Val → Nat
  | .mk k _ _ s l => if k = 1 ∨ k = 2 then 9 else if k = 3 then 3 + s.length else if k = 4 then 2 + sizeL l else 1
def sizeL : List Val → Nat
  | [] => 0
  | v :: l => sizeV v + sizeL l
end
mutual
def strangeV : Val → Bool
  | .mk k _ _ _ l => decide (k < 0 ∨ 4 < k) || (k == 4 && strangeL l)
def strangeL : List Val → Bool
  | [] => false
  | v :: l => strangeV v || strangeL l
end
mutual
def greatV : Val → Int → Bool
  | .mk k _ _ s l, d => if k = 3 then decide (256 < s.length) else if k = 4 then decide (64 < l.length) || decide (d < 1) || greatL l (d - 1) else false
def greatL : List Val → Int → Bool
  | [], _ => false
  | v :: l, d => greatV v d || greatL l d
end
theorem strangeL_any (l : List Val) : strangeL l = l.any strangeV := by
  induction l with
  | nil => rfl
  | cons v l ih => simp [strangeL, ih]
theorem greatL_any (l : List Val) (d : Int) : greatL l d = l.any (greatV · d) := by
  induction l with
  | nil => rfl
  | cons v l ih => simp [greatL, ih]
theorem sizeL_sum (l : List Val) (k : Nat) (hk : k < l.length) : sizeL (l.take (k + 1)) = sizeL (l.take k) + sizeV l[k] := by
  induction l generalizing k with
  | nil => simp at hk
  | cons v l ih =>
    cases k with
    | zero => simp [sizeL]
    | succ k =>
      simp only [List.take_succ_cons, sizeL, List.getElem_cons_succ]
      rw [ih k (by simpa using hk)]
      omega

/-- A value that the machine reads. -/
inductive VReads (w : World) (B : Nat) : Val → Array Value → Prop
  | mk {k i : Int} {f : Nat} {s : List UInt8} {l : List Val} {A : Option Addr} {c : Nat} {xs : List Value} (css : Nat → Array Value) (hn : l.length ≤ 140737488351232) (hr : Reads w B 5 A l.length xs)
      (hx : ∀ (j : Nat) (v : Val), l[j]? = some v → VReads w B v (css j)) (hxs : ∀ j, j < l.length → (xs.drop (j * 5)).take 5 = (css j).toList) :
      VReads w B (.mk k i f s l) #[.int .i64 k, .int .i64 i, .float .f64 f, .string (bstr s), .slice A l.length c]

theorem VOwn.reads {w : World} {P : Nat → Prop} {v : Val} {cs : Array Value} (h : VOwn w P v cs) : VReads w w.heap.size v cs := by
  induction h with
  | mk css hn ho hP hx hxs ih => exact .mk css (by omega) ho.reads_ (fun j v hv => ih j v hv) hxs

/-- An element's five cells, as the walk spells their addresses. -/
theorem elem_cells {w : World} {B n k : Nat} {ad : Addr} {xs : List Value} {a0 a1 a2 a3 a4 : Value} (h : Reads w B 5 (some ad) n xs) (hk : k < n) (hxs : (xs.drop (k * 5)).take 5 = [a0, a1, a2, a3, a4]) :
    w.cell? (ad.add (k * 5)) = some a0 ∧ w.cell? ⟨(ad.add (k * 5)).block, (ad.add (k * 5)).off + 1, none⟩ = some a1 ∧ w.cell? ⟨(ad.add (k * 5)).block, (ad.add (k * 5)).off + 2, none⟩ = some a2 ∧ w.cell? ⟨(ad.add (k * 5)).block, (ad.add (k * 5)).off + 3, none⟩ = some a3 ∧ w.cell? ⟨(ad.add (k * 5)).block, (ad.add (k * 5)).off + 4, none⟩ = some a4 := by
  obtain ⟨ad', e, hb, hc⟩ := h.2 (by omega)
  cases e
  have hl : k * 5 + 5 ≤ xs.length := by rw [h.1]; omega
  have hg : ∀ i u, i < 5 → [a0, a1, a2, a3, a4][i]? = some u → xs[k * 5 + i]? = some u := by
    intro i u hi hu
    rw [← hxs, List.getElem?_take, if_pos hi, List.getElem?_drop] at hu
    exact hu
  have g0 := hc (k * 5 + 0) a0 (hg 0 a0 (by omega) rfl)
  have g1 := hc (k * 5 + (0 + 1)) a1 (hg 1 a1 (by omega) rfl)
  have g2 := hc (k * 5 + (1 + 1)) a2 (hg 2 a2 (by omega) rfl)
  have g3 := hc (k * 5 + (2 + 1)) a3 (hg 3 a3 (by omega) rfl)
  have g4 := hc (k * 5 + (3 + 1)) a4 (hg 4 a4 (by omega) rfl)
  rw [add_pos] at g1 g2 g3 g4
  exact ⟨g0, g1, g2, g3, g4⟩

theorem VReads.form {w : World} {B : Nat} {v : Val} {cs : Array Value} (h : VReads w B v cs) : ∃ k i f s A n c, cs = #[.int .i64 k, .int .i64 i, .float .f64 f, .string s, .slice A n c] := by
  cases h with
  | mk css hn hr hx hxs => exact ⟨_, _, _, _, _, _, _, rfl⟩
theorem VReads.under {w w' : World} {B : Nat} {v : Val} {cs : Array Value} (h : VReads w B v cs) (hb : Below B w w') : VReads w' B v cs := by
  induction h with
  | mk css hn hr hx hxs ih => exact .mk css hn (hr.below hb) (fun j v hv => ih j v hv) hxs

/-- What a search of a list's values tells. -/
def IdxRes (w : World) (p : Val → Bool) (l : List Val) (e : Ending) (w' : World) : Prop := ∃ z : Int, e = .returned (.int .i64 z) ∧ (decide (0 ≤ z)) = l.any p ∧ Below w.heap.size w w'

set_option maxHeartbeats 800000 in
theorem index_strange {A : Option Addr} {c B : Nat} {l : List Val} {xs : List Value} {css : Nat → Array Value} {p : Val → Bool} {w : World} (hr : Reads w B 5 A l.length xs) (hB : B ≤ w.heap.size) (hxs : ∀ j, j < l.length → (xs.drop (j * 5)).take 5 = (css j).toList) (hv : ∀ j v, l[j]? = some v → VReads w B v (css j)) (hlen : l.length ≤ 140737488351232)
    (hcall : ∀ j v, l[j]? = some v → ∀ w1, Below w.heap.size w w1 → Calls Try.prog 42 #[.agg (css j)] w1 (Says w1 (.bool (p v)))) :
    Calls Try.prog 56 #[.slice A l.length c, .func (Fn.func 42) #[] #[]] w (IdxRes w p l) := by
  replace hcall := Lib.hid hcall
  go_enter Try.func56, Try.ntmps56
  go_wp2_with fail
  go_loopw [8] (fun i wr => ∃ k : Nat, k ≤ l.length ∧ i = .int .i64 (k : Int) ∧ (l.take k).any p = false ∧ Below w.heap.size w wr) (fun i _ => l.length - (intOf i).toNat)
  case atStart => exact ⟨0, Nat.zero_le _, rfl, by simp, Below.refl _ _⟩
  case round =>
    rename_i hrel
    obtain ⟨k, hk, rfl, hany, hb⟩ := hrel
    by_cases hlt : k < l.length
    · obtain ⟨ad, rfl, -, -⟩ := hr.2 (by omega)
      have hgk : l[k]? = some l[k] := List.getElem?_eq_getElem hlt
      obtain ⟨k', i', f', s', A', n', c', hform⟩ := (hv k l[k] hgk).form
      have hc5 := hxs k hlt
      rw [hform] at hc5
      obtain ⟨g0, g1, g2, g3, g4⟩ := elem_cells (hr.below (hb.mono hB)) hlt hc5
      have hcl := hcall.out k l[k] hgk wr hb
      rw [hform] at hcl
      have htk : (l.take (k + 1)).any p = ((l.take k).any p || p l[k]) := by rw [List.take_succ_eq_append_getElem hlt, List.any_append]; simp
      have hall : p l[k] = true → l.any p = true := fun hp => List.any_eq_true.2 ⟨l[k], List.getElem_mem hlt, hp⟩
      generalize p l[k] = q at hcl htk hall
      replace hany := Lib.hid hany
      replace htk := Lib.hid htk
      replace hall := Lib.hid hall
      clear hform hc5 hgk
      go_wp2_with fail
      refine hcl.mono ?_
      clear hcl
      rintro e w2 ⟨rfl, hb2⟩
      dsimp only
      have hb2' := below_then hb2 hb
      cases q
      · go_wp2_with fail
        go_roundw
        case rel => exact ⟨k + 1, by omega, by simp, by rw [htk.out, hany.out]; rfl, by assumption⟩
        case measure => simp [intOf]; omega
      · go_wp2_with fail
        go_ret
        exact ⟨_, rfl, by rw [hall.out (by trivial)]; exact decide_eq_true (by omega), hb2'⟩
    · have hk' : k = l.length := by omega
      subst hk'
      rw [List.take_length] at hany
      replace hany := Lib.hid hany
      go_wp2_with fail
      go_ret
      exact ⟨_, rfl, by rw [hany.out]; simp, hb⟩

theorem contains_strange {A : Option Addr} {c B : Nat} {l : List Val} {xs : List Value} {css : Nat → Array Value} {p : Val → Bool} {w : World} (hr : Reads w B 5 A l.length xs) (hB : B ≤ w.heap.size) (hxs : ∀ j, j < l.length → (xs.drop (j * 5)).take 5 = (css j).toList) (hv : ∀ j v, l[j]? = some v → VReads w B v (css j)) (hlen : l.length ≤ 140737488351232)
    (hcall : ∀ j v, l[j]? = some v → ∀ w1, Below w.heap.size w w1 → Calls Try.prog 42 #[.agg (css j)] w1 (Says w1 (.bool (p v)))) :
    Calls Try.prog 53 #[.slice A l.length c, .func (Fn.func 42) #[] #[]] w (Says w (.bool (l.any p))) := by
  have hidx := Lib.hid (index_strange (c := c) hr hB hxs hv hlen hcall)
  clear hr hxs hv hcall
  go_enter Try.func53, Try.ntmps53
  go_wp2_with fail
  refine hidx.out.mono ?_
  rintro e w1 ⟨z, rfl, hz, hb⟩
  dsimp only
  replace hz := Lib.hid hz
  go_wp2_with fail
  go_ret
  refine ⟨?_, hb⟩
  rw [← hz.out]
  rfl

set_option maxHeartbeats 800000 in
theorem index_great {pd : Addr} {A : Option Addr} {c B : Nat} {l : List Val} {xs : List Value} {css : Nat → Array Value} {p : Val → Bool} {w : World} (hr : Reads w B 5 A l.length xs) (hB : B ≤ w.heap.size) (hxs : ∀ j, j < l.length → (xs.drop (j * 5)).take 5 = (css j).toList) (hv : ∀ j v, l[j]? = some v → VReads w B v (css j)) (hlen : l.length ≤ 140737488351232)
    (hcall : ∀ j v, l[j]? = some v → ∀ w1, Below w.heap.size w w1 → Calls Try.prog 54 #[.agg (css j), .pointer (some pd)] w1 (Says w1 (.bool (p v)))) :
    Calls Try.prog 56 #[.slice A l.length c, .func (Fn.func 54) #[] #[.pointer (some pd)]] w (IdxRes w p l) := by
  replace hcall := Lib.hid hcall
  go_enter Try.func56, Try.ntmps56
  go_wp2_with fail
  go_loopw [8] (fun i wr => ∃ k : Nat, k ≤ l.length ∧ i = .int .i64 (k : Int) ∧ (l.take k).any p = false ∧ Below w.heap.size w wr) (fun i _ => l.length - (intOf i).toNat)
  case atStart => exact ⟨0, Nat.zero_le _, rfl, by simp, Below.refl _ _⟩
  case round =>
    rename_i hrel
    obtain ⟨k, hk, rfl, hany, hb⟩ := hrel
    by_cases hlt : k < l.length
    · obtain ⟨ad, rfl, -, -⟩ := hr.2 (by omega)
      have hgk : l[k]? = some l[k] := List.getElem?_eq_getElem hlt
      obtain ⟨k', i', f', s', A', n', c', hform⟩ := (hv k l[k] hgk).form
      have hc5 := hxs k hlt
      rw [hform] at hc5
      obtain ⟨g0, g1, g2, g3, g4⟩ := elem_cells (hr.below (hb.mono hB)) hlt hc5
      have hcl := hcall.out k l[k] hgk wr hb
      rw [hform] at hcl
      have htk : (l.take (k + 1)).any p = ((l.take k).any p || p l[k]) := by rw [List.take_succ_eq_append_getElem hlt, List.any_append]; simp
      have hall : p l[k] = true → l.any p = true := fun hp => List.any_eq_true.2 ⟨l[k], List.getElem_mem hlt, hp⟩
      generalize p l[k] = q at hcl htk hall
      replace hany := Lib.hid hany
      replace htk := Lib.hid htk
      replace hall := Lib.hid hall
      clear hform hc5 hgk
      go_wp2_with fail
      refine hcl.mono ?_
      clear hcl
      rintro e w2 ⟨rfl, hb2⟩
      dsimp only
      have hb2' := below_then hb2 hb
      cases q
      · go_wp2_with fail
        go_roundw
        case rel => exact ⟨k + 1, by omega, by simp, by rw [htk.out, hany.out]; rfl, by assumption⟩
        case measure => simp [intOf]; omega
      · go_wp2_with fail
        go_ret
        exact ⟨_, rfl, by rw [hall.out (by trivial)]; exact decide_eq_true (by omega), hb2'⟩
    · have hk' : k = l.length := by omega
      subst hk'
      rw [List.take_length] at hany
      replace hany := Lib.hid hany
      go_wp2_with fail
      go_ret
      exact ⟨_, rfl, by rw [hany.out]; simp, hb⟩

theorem contains_great {pd : Addr} {A : Option Addr} {c B : Nat} {l : List Val} {xs : List Value} {css : Nat → Array Value} {p : Val → Bool} {w : World} (hr : Reads w B 5 A l.length xs) (hB : B ≤ w.heap.size) (hxs : ∀ j, j < l.length → (xs.drop (j * 5)).take 5 = (css j).toList) (hv : ∀ j v, l[j]? = some v → VReads w B v (css j)) (hlen : l.length ≤ 140737488351232)
    (hcall : ∀ j v, l[j]? = some v → ∀ w1, Below w.heap.size w w1 → Calls Try.prog 54 #[.agg (css j), .pointer (some pd)] w1 (Says w1 (.bool (p v)))) :
    Calls Try.prog 53 #[.slice A l.length c, .func (Fn.func 54) #[] #[.pointer (some pd)]] w (Says w (.bool (l.any p))) := by
  have hidx := Lib.hid (index_great (c := c) hr hB hxs hv hlen hcall)
  clear hr hxs hv hcall
  go_enter Try.func53, Try.ntmps53
  go_wp2_with fail
  refine hidx.out.mono ?_
  rintro e w1 ⟨z, rfl, hz, hb⟩
  dsimp only
  replace hz := Lib.hid hz
  go_wp2_with fail
  go_ret
  refine ⟨?_, hb⟩
  rw [← hz.out]
  rfl
end Go.Proofs.Ytafogjonicdbmaa
