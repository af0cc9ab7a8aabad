/- Values: checks, Clean, Same. -/
import Derived.Test.YtlkokkbikkbaoaaW2
import Derived.BigQuiet
set_option linter.unusedSimpArgs false
set_option linter.unusedVariables false
set_option linter.unusedSimpArgs false
set_option linter.unusedVariables false
namespace Go.Proofs.Ytlkokkbikkbaoaa
set_option maxRecDepth 100000
open Go.RowKit
mutual
def sizeV : Val → Nat
  | .mk k _ _ s l => if k = 1 ∨ k = 2 then 9 else if k = 3 then 3 + s.length else if k = 4 then 2 + sizeL l else 1
def sizeL : List Val → Nat
  | [] => 0
  | v :: l => sizeV v + sizeL l
end
mutual
def strangeV : Val → Bool
  | .mk k _ _ _ l => decide (k < 0 ∨ 4 < k) || (k == 4 && strangeL l)
def strangeL : List Val → Bool
  | [] => false
  | v :: l => strangeV v || strangeL l
end
mutual
def greatV : Val → Int → Bool
  | .mk k _ _ s l, d => if k = 3 then decide (256 < s.length) else if k = 4 then decide (64 < l.length) || decide (d < 1) || greatL l (d - 1) else false
def greatL : List Val → Int → Bool
  | [], _ => false
  | v :: l, d => greatV v d || greatL l d
end
theorem strangeL_any (l : List Val) : strangeL l = l.any strangeV := by
  induction l with
  | nil => rfl
  | cons v l ih => simp [strangeL, ih]
theorem greatL_any (l : List Val) (d : Int) : greatL l d = l.any (greatV · d) := by
  induction l with
  | nil => rfl
  | cons v l ih => simp [greatL, ih]
theorem sizeL_sum (l : List Val) (k : Nat) (hk : k < l.length) : sizeL (l.take (k + 1)) = sizeL (l.take k) + sizeV l[k] := by
  induction l generalizing k with
  | nil => simp at hk
  | cons v l ih =>
    cases k with
    | zero => simp [sizeL]
    | succ k =>
      simp only [List.take_succ_cons, sizeL, List.getElem_cons_succ]
      rw [ih k (by simpa using hk)]
      omega
/-- A value that the machine reads. -/
inductive VReads (w : World) (B : Nat) : Val → Array Value → Prop
  | mk {k i : Int} {f : Nat} {s : List UInt8} {l : List Val} {A : Option Addr} {c : Nat} {xs : List Value} (css : Nat → Array Value) (hn : l.length ≤ 140737488351232) (hr : Reads w B 5 A l.length xs)
      (hx : ∀ (j : Nat) (v : Val), l[j]? = some v → VReads w B v (css j)) (hxs : ∀ j, j < l.length → (xs.drop (j * 5)).take 5 = (css j).toList) :
      VReads w B (.mk k i f s l) #[.int .i64 k, .int .i64 i, .float .f64 f, .string (bstr s), .slice A l.length c]
theorem VOwn.reads {w : World} {P : Nat → Prop} {v : Val} {cs : Array Value} (h : VOwn w P v cs) : VReads w w.heap.size v cs := by
  induction h with
  | mk css hn ho hP hx hxs ih => exact .mk css (by omega) ho.reads_ (fun j v hv => ih j v hv) hxs
/-- An element's five cells, as the walk spells their addresses. -/
theorem elem_cells {w : World} {B n k : Nat} {ad : Addr} {xs : List Value} {a0 a1 a2 a3 a4 : Value} (h : Reads w B 5 (some ad) n xs) (hk : k < n) (hxs : (xs.drop (k * 5)).take 5 = [a0, a1, a2, a3, a4]) :
    w.cell? (ad.add (k * 5)) = some a0 ∧ w.cell? ⟨(ad.add (k * 5)).block, (ad.add (k * 5)).off + 1, none⟩ = some a1 ∧ w.cell? ⟨(ad.add (k * 5)).block, (ad.add (k * 5)).off + 2, none⟩ = some a2 ∧ w.cell? ⟨(ad.add (k * 5)).block, (ad.add (k * 5)).off + 3, none⟩ = some a3 ∧ w.cell? ⟨(ad.add (k * 5)).block, (ad.add (k * 5)).off + 4, none⟩ = some a4 := by
  obtain ⟨ad', e, hb, hc⟩ := h.2 (by omega)
  cases e
  have hl : k * 5 + 5 ≤ xs.length := by rw [h.1]; omega
  have hg : ∀ i u, i < 5 → [a0, a1, a2, a3, a4][i]? = some u → xs[k * 5 + i]? = some u := by
    intro i u hi hu
    rw [← hxs, List.getElem?_take, if_pos hi, List.getElem?_drop] at hu
    exact hu
  have g0 := hc (k * 5 + 0) a0 (hg 0 a0 (by omega) rfl)
  have g1 := hc (k * 5 + (0 + 1)) a1 (hg 1 a1 (by omega) rfl)
  have g2 := hc (k * 5 + (1 + 1)) a2 (hg 2 a2 (by omega) rfl)
  have g3 := hc (k * 5 + (2 + 1)) a3 (hg 3 a3 (by omega) rfl)
  have g4 := hc (k * 5 + (3 + 1)) a4 (hg 4 a4 (by omega) rfl)
  rw [add_pos] at g1 g2 g3 g4
  exact ⟨g0, g1, g2, g3, g4⟩
theorem VReads.form {w : World} {B : Nat} {v : Val} {cs : Array Value} (h : VReads w B v cs) : ∃ k i f s A n c, cs = #[.int .i64 k, .int .i64 i, .float .f64 f, .string s, .slice A n c] := by
  cases h with
  | mk css hn hr hx hxs => exact ⟨_, _, _, _, _, _, _, rfl⟩
theorem VReads.under {w w' : World} {B : Nat} {v : Val} {cs : Array Value} (h : VReads w B v cs) (hb : Below B w w') : VReads w' B v cs := by
  induction h with
  | mk css hn hr hx hxs ih => exact .mk css hn (hr.below hb) (fun j v hv => ih j v hv) hxs
/-- What a search of a list's values tells. -/
def IdxRes (w : World) (p : Val → Bool) (l : List Val) (e : Ending) (w' : World) : Prop := ∃ z : Int, e = .returned (.int .i64 z) ∧ (decide (0 ≤ z)) = l.any p ∧ Below w.heap.size w w'
set_option maxHeartbeats 800000 in
theorem index_strange {A : Option Addr} {c B : Nat} {l : List Val} {xs : List Value} {css : Nat → Array Value} {p : Val → Bool} {w : World} (hr : Reads w B 5 A l.length xs) (hB : B ≤ w.heap.size) (hxs : ∀ j, j < l.length → (xs.drop (j * 5)).take 5 = (css j).toList) (hv : ∀ j v, l[j]? = some v → VReads w B v (css j)) (hlen : l.length ≤ 140737488351232)
    (hcall : ∀ j v, l[j]? = some v → ∀ w1, Below w.heap.size w w1 → Calls Try.prog 64 #[.agg (css j)] w1 (Says w1 (.bool (p v)))) :
    Calls Try.prog 78 #[.slice A l.length c, .func (Fn.func 64) #[] #[]] w (IdxRes w p l) := by
  replace hcall := Lib.hid hcall
  go_enter Try.func78, Try.ntmps78
  go_wp2_with fail
  go_loopw [8] (fun i wr => ∃ k : Nat, k ≤ l.length ∧ i = .int .i64 (k : Int) ∧ (l.take k).any p = false ∧ Below w.heap.size w wr) (fun i _ => l.length - (intOf i).toNat)
  case atStart => exact ⟨0, Nat.zero_le _, rfl, by simp, Below.refl _ _⟩
  case round =>
    rename_i hrel
    obtain ⟨k, hk, rfl, hany, hb⟩ := hrel
    by_cases hlt : k < l.length
    · obtain ⟨ad, rfl, -, -⟩ := hr.2 (by omega)
      have hgk : l[k]? = some l[k] := List.getElem?_eq_getElem hlt
      obtain ⟨k', i', f', s', A', n', c', hform⟩ := (hv k l[k] hgk).form
      have hc5 := hxs k hlt
      rw [hform] at hc5
      obtain ⟨g0, g1, g2, g3, g4⟩ := elem_cells (hr.below (hb.mono hB)) hlt hc5
      have hcl := hcall.out k l[k] hgk wr hb
      rw [hform] at hcl
      have htk : (l.take (k + 1)).any p = ((l.take k).any p || p l[k]) := by rw [List.take_succ_eq_append_getElem hlt, List.any_append]; simp
      have hall : p l[k] = true → l.any p = true := fun hp => List.any_eq_true.2 ⟨l[k], List.getElem_mem hlt, hp⟩
      generalize p l[k] = q at hcl htk hall
      replace hany := Lib.hid hany
      replace htk := Lib.hid htk
      replace hall := Lib.hid hall
      clear hform hc5 hgk
      go_wp2_with fail
      refine hcl.mono ?_
      clear hcl
      rintro e w2 ⟨rfl, hb2⟩
      dsimp only
      have hb2' := below_then hb2 hb
      cases q
      · go_wp2_with fail
        go_roundw
        case rel => exact ⟨k + 1, by omega, by simp, by rw [htk.out, hany.out]; rfl, by assumption⟩
        case measure => simp [intOf]; omega
      · go_wp2_with fail
        go_ret
        exact ⟨_, rfl, by rw [hall.out (by trivial)]; exact decide_eq_true (by omega), hb2'⟩
    · have hk' : k = l.length := by omega
      subst hk'
      rw [List.take_length] at hany
      replace hany := Lib.hid hany
      go_wp2_with fail
      go_ret
      exact ⟨_, rfl, by rw [hany.out]; simp, hb⟩
theorem contains_strange {A : Option Addr} {c B : Nat} {l : List Val} {xs : List Value} {css : Nat → Array Value} {p : Val → Bool} {w : World} (hr : Reads w B 5 A l.length xs) (hB : B ≤ w.heap.size) (hxs : ∀ j, j < l.length → (xs.drop (j * 5)).take 5 = (css j).toList) (hv : ∀ j v, l[j]? = some v → VReads w B v (css j)) (hlen : l.length ≤ 140737488351232)
    (hcall : ∀ j v, l[j]? = some v → ∀ w1, Below w.heap.size w w1 → Calls Try.prog 64 #[.agg (css j)] w1 (Says w1 (.bool (p v)))) :
    Calls Try.prog 73 #[.slice A l.length c, .func (Fn.func 64) #[] #[]] w (Says w (.bool (l.any p))) := by
  have hidx := Lib.hid (index_strange (c := c) hr hB hxs hv hlen hcall)
  clear hr hxs hv hcall
  go_enter Try.func73, Try.ntmps73
  go_wp2_with fail
  refine hidx.out.mono ?_
  rintro e w1 ⟨z, rfl, hz, hb⟩
  dsimp only
  replace hz := Lib.hid hz
  go_wp2_with fail
  go_ret
  refine ⟨?_, hb⟩
  rw [← hz.out]
  rfl
set_option maxHeartbeats 800000 in
theorem index_great {pd : Addr} {A : Option Addr} {c B : Nat} {l : List Val} {xs : List Value} {css : Nat → Array Value} {p : Val → Bool} {w : World} (hr : Reads w B 5 A l.length xs) (hB : B ≤ w.heap.size) (hxs : ∀ j, j < l.length → (xs.drop (j * 5)).take 5 = (css j).toList) (hv : ∀ j v, l[j]? = some v → VReads w B v (css j)) (hlen : l.length ≤ 140737488351232)
    (hcall : ∀ j v, l[j]? = some v → ∀ w1, Below w.heap.size w w1 → Calls Try.prog 74 #[.agg (css j), .pointer (some pd)] w1 (Says w1 (.bool (p v)))) :
    Calls Try.prog 78 #[.slice A l.length c, .func (Fn.func 74) #[] #[.pointer (some pd)]] w (IdxRes w p l) := by
  replace hcall := Lib.hid hcall
  go_enter Try.func78, Try.ntmps78
  go_wp2_with fail
  go_loopw [8] (fun i wr => ∃ k : Nat, k ≤ l.length ∧ i = .int .i64 (k : Int) ∧ (l.take k).any p = false ∧ Below w.heap.size w wr) (fun i _ => l.length - (intOf i).toNat)
  case atStart => exact ⟨0, Nat.zero_le _, rfl, by simp, Below.refl _ _⟩
  case round =>
    rename_i hrel
    obtain ⟨k, hk, rfl, hany, hb⟩ := hrel
    by_cases hlt : k < l.length
    · obtain ⟨ad, rfl, -, -⟩ := hr.2 (by omega)
      have hgk : l[k]? = some l[k] := List.getElem?_eq_getElem hlt
      obtain ⟨k', i', f', s', A', n', c', hform⟩ := (hv k l[k] hgk).form
      have hc5 := hxs k hlt
      rw [hform] at hc5
      obtain ⟨g0, g1, g2, g3, g4⟩ := elem_cells (hr.below (hb.mono hB)) hlt hc5
      have hcl := hcall.out k l[k] hgk wr hb
      rw [hform] at hcl
      have htk : (l.take (k + 1)).any p = ((l.take k).any p || p l[k]) := by rw [List.take_succ_eq_append_getElem hlt, List.any_append]; simp
      have hall : p l[k] = true → l.any p = true := fun hp => List.any_eq_true.2 ⟨l[k], List.getElem_mem hlt, hp⟩
      generalize p l[k] = q at hcl htk hall
      replace hany := Lib.hid hany
      replace htk := Lib.hid htk
      replace hall := Lib.hid hall
      clear hform hc5 hgk
      go_wp2_with fail
      refine hcl.mono ?_
      clear hcl
      rintro e w2 ⟨rfl, hb2⟩
      dsimp only
      have hb2' := below_then hb2 hb
      cases q
      · go_wp2_with fail
        go_roundw
        case rel => exact ⟨k + 1, by omega, by simp, by rw [htk.out, hany.out]; rfl, by assumption⟩
        case measure => simp [intOf]; omega
      · go_wp2_with fail
        go_ret
        exact ⟨_, rfl, by rw [hall.out (by trivial)]; exact decide_eq_true (by omega), hb2'⟩
    · have hk' : k = l.length := by omega
      subst hk'
      rw [List.take_length] at hany
      replace hany := Lib.hid hany
      go_wp2_with fail
      go_ret
      exact ⟨_, rfl, by rw [hany.out]; simp, hb⟩
theorem contains_great {pd : Addr} {A : Option Addr} {c B : Nat} {l : List Val} {xs : List Value} {css : Nat → Array Value} {p : Val → Bool} {w : World} (hr : Reads w B 5 A l.length xs) (hB : B ≤ w.heap.size) (hxs : ∀ j, j < l.length → (xs.drop (j * 5)).take 5 = (css j).toList) (hv : ∀ j v, l[j]? = some v → VReads w B v (css j)) (hlen : l.length ≤ 140737488351232)
    (hcall : ∀ j v, l[j]? = some v → ∀ w1, Below w.heap.size w w1 → Calls Try.prog 74 #[.agg (css j), .pointer (some pd)] w1 (Says w1 (.bool (p v)))) :
    Calls Try.prog 73 #[.slice A l.length c, .func (Fn.func 74) #[] #[.pointer (some pd)]] w (Says w (.bool (l.any p))) := by
  have hidx := Lib.hid (index_great (c := c) hr hB hxs hv hlen hcall)
  clear hr hxs hv hcall
  go_enter Try.func73, Try.ntmps73
  go_wp2_with fail
  refine hidx.out.mono ?_
  rintro e w1 ⟨z, rfl, hz, hb⟩
  dsimp only
  replace hz := Lib.hid hz
  go_wp2_with fail
  go_ret
  refine ⟨?_, hb⟩
  rw [← hz.out]
  rfl
end Go.Proofs.Ytlkokkbikkbaoaa
namespace Go.Proofs.Ytlkokkbikkbaoaa
set_option maxRecDepth 100000
open Go.RowKit
theorem val_strange_list (k i : Int) (f : Nat) (s : ByteArray) (A : Option Addr) (n c : Nat) (q : Bool) (w : World) (hk4 : k = 4) (hidx : ∀ w2, Below w.heap.size w w2 → Calls Try.prog 73 #[.slice A n c, .func (Fn.func 64) #[] #[]] w2 (Says w2 (.bool q))) :
    Calls Try.prog 64 #[.agg #[.int .i64 k, .int .i64 i, .float .f64 f, .string s, .slice A n c]] w (Says w (.bool q)) := by
  have hk : kindOf k = k := by simp [kindOf]; omega
  have k4 : (k == 4) = true := by rw [beq_iff_eq]; exact hk4
  have hS : SV w.heap.size k i f s A n c w (w.alloc (.cells #[.int .i64 k, .int .i64 i, .float .f64 f, .string s, .slice A n c] 64)) := SV.alloc w (Below.refl _ _) k i f s A n c
  replace hidx := Lib.hid hidx
  clear hk4
  go_enter Try.func64, Try.ntmps64
  go_wp2_with fail
  generalize w.alloc (.cells #[.int .i64 k, .int .i64 i, .float .f64 f, .string s, .slice A n c] 64) = w1 at hS ⊢
  generalize hb : w.heap.size = b at hS ⊢
  replace hb := Lib.hid hb
  have hS2 : w1.drew.cell? ⟨b, 0, none⟩ = some (.int .i64 k) ∧ w1.drew.cell? ⟨b, 1, none⟩ = some (.int .i64 i) ∧ w1.drew.cell? ⟨b, 2, none⟩ = some (.float .f64 f) ∧ w1.drew.cell? ⟨b, 3, none⟩ = some (.string s) ∧ w1.drew.cell? ⟨b, 4, none⟩ = some (.slice A n c) ∧ Below w.heap.size w w1.drew ∧ b < w1.drew.heap.size := hS.drew
  refine wp_region_lex (fun W => W.cell? ⟨b, 0, none⟩ = some (.int .i64 k) ∧ W.cell? ⟨b, 1, none⟩ = some (.int .i64 i) ∧ W.cell? ⟨b, 2, none⟩ = some (.float .f64 f) ∧ W.cell? ⟨b, 3, none⟩ = some (.string s) ∧ W.cell? ⟨b, 4, none⟩ = some (.slice A n c) ∧ Below w.heap.size w W ∧ b < W.heap.size) [1, 2, 7, 11] [3, 12] [0, 1, 2, 3, 4, 5, 6, 7, 8, 9, 10, 11, 12, 13, 14, 15] (by kernel_rfl) rfl (by kernel_rfl) (by kernel_rfl) (fun _ _ d _ _ h => by cases d <;> exact h) ?_
  repeat (first | (refine lexG_take _ ?_ rfl rfl rfl rfl (fun _ => ?_) ?_; rotate_left; (focus (go_simp; with_reducible rfl)); try simp only [Act.put, List.setIfInBounds_toArray, List.set_cons_zero, List.set_cons_succ]) | (refine lexG_held _ ?_ rfl rfl rfl rfl (by assumption) (fun _ hSw => ?_) ?_; rotate_left; (focus ((try dsimp only at hSw); go_simp; with_reducible rfl)); try simp only [Act.put, List.setIfInBounds_toArray, List.set_cons_zero, List.set_cons_succ]) | (refine lexG_skip _ rfl rfl (by assumption) ?_; try simp only [Act.put, List.setIfInBounds_toArray, List.set_cons_zero, List.set_cons_succ]))
  refine lexG_now _ rfl rfl rfl (fun K hK => ?_)
  go_wp2_with fail
  refine (val_kind _ _ _ _ _ _ _ _).mono ?_
  rintro e w2 ⟨rfl, hb2⟩
  rw [hk]
  dsimp only
  have hS3 : w2.cell? ⟨b, 0, none⟩ = some (.int .i64 k) ∧ w2.cell? ⟨b, 1, none⟩ = some (.int .i64 i) ∧ w2.cell? ⟨b, 2, none⟩ = some (.float .f64 f) ∧ w2.cell? ⟨b, 3, none⟩ = some (.string s) ∧ w2.cell? ⟨b, 4, none⟩ = some (.slice A n c) ∧ Below w.heap.size w w2 ∧ b < w2.heap.size := hS.drew.below hb2
  refine hK _ _ _ (fun _ h => h) hS3 ?_
  clear hK K hS hS2 hb2
  try simp only [Act.put, List.setIfInBounds_toArray, List.set_cons_zero, List.set_cons_succ]
  repeat (first | (refine lexG_take _ ?_ rfl rfl rfl rfl (fun _ => ?_) ?_; rotate_left; (focus (go_simp; with_reducible rfl)); try simp only [Act.put, List.setIfInBounds_toArray, List.set_cons_zero, List.set_cons_succ]) | (refine lexG_held _ ?_ rfl rfl rfl rfl (by assumption) (fun _ hSw => ?_) ?_; rotate_left; (focus ((try dsimp only at hSw); go_simp; with_reducible rfl)); try simp only [Act.put, List.setIfInBounds_toArray, List.set_cons_zero, List.set_cons_succ]) | (refine lexG_skip _ rfl rfl (by assumption) ?_; try simp only [Act.put, List.setIfInBounds_toArray, List.set_cons_zero, List.set_cons_succ]))
  refine lexG_now _ rfl rfl rfl (fun K hK => ?_)
  go_wp2_with fail
  refine (hidx.out w2 hS3.2.2.2.2.2.1).mono ?_
  rintro e w3 ⟨rfl, hb3⟩
  dsimp only
  have hfin := below_then hb3 hS3.2.2.2.2.2.1
  have hS4 : w3.cell? ⟨b, 0, none⟩ = some (.int .i64 k) ∧ w3.cell? ⟨b, 1, none⟩ = some (.int .i64 i) ∧ w3.cell? ⟨b, 2, none⟩ = some (.float .f64 f) ∧ w3.cell? ⟨b, 3, none⟩ = some (.string s) ∧ w3.cell? ⟨b, 4, none⟩ = some (.slice A n c) ∧ Below w.heap.size w w3 ∧ b < w3.heap.size := SV.below hS3 hb3
  refine hK _ _ _ (fun _ h => h) hS4 ?_
  clear hK K hS3 hS4
  try simp only [Act.put, List.setIfInBounds_toArray, List.set_cons_zero, List.set_cons_succ]
  repeat (first | (refine lexG_take _ ?_ rfl rfl rfl rfl (fun _ => ?_) ?_; rotate_left; (focus (go_simp; with_reducible rfl)); try simp only [Act.put, List.setIfInBounds_toArray, List.set_cons_zero, List.set_cons_succ]) | (refine lexG_held _ ?_ rfl rfl rfl rfl (by assumption) (fun _ hSw => ?_) ?_; rotate_left; (focus ((try dsimp only at hSw); go_simp; with_reducible rfl)); try simp only [Act.put, List.setIfInBounds_toArray, List.set_cons_zero, List.set_cons_succ]) | (refine lexG_skip _ rfl rfl (by assumption) ?_; try simp only [Act.put, List.setIfInBounds_toArray, List.set_cons_zero, List.set_cons_succ]))
  refine lexG_nil ?_
  go_wp2_with fail
  go_ret
  exact ⟨rfl, hfin⟩
theorem val_strange_out (k i : Int) (f : Nat) (s : ByteArray) (A : Option Addr) (n c : Nat) (w : World) (hk4 : k < 0 ∨ 4 < k) :
    Calls Try.prog 64 #[.agg #[.int .i64 k, .int .i64 i, .float .f64 f, .string s, .slice A n c]] w (Says w (.bool true)) := by
  have hk : kindOf k = 0 := by simp [kindOf, hk4]
  have k0 : (k != 0) = true := by rw [bne_iff_ne]; omega
  have hS : SV w.heap.size k i f s A n c w (w.alloc (.cells #[.int .i64 k, .int .i64 i, .float .f64 f, .string s, .slice A n c] 64)) := SV.alloc w (Below.refl _ _) k i f s A n c
  clear hk4
  go_enter Try.func64, Try.ntmps64
  go_wp2_with fail
  generalize w.alloc (.cells #[.int .i64 k, .int .i64 i, .float .f64 f, .string s, .slice A n c] 64) = w1 at hS ⊢
  generalize hb : w.heap.size = b at hS ⊢
  replace hb := Lib.hid hb
  have hS2 : w1.drew.cell? ⟨b, 0, none⟩ = some (.int .i64 k) ∧ w1.drew.cell? ⟨b, 1, none⟩ = some (.int .i64 i) ∧ w1.drew.cell? ⟨b, 2, none⟩ = some (.float .f64 f) ∧ w1.drew.cell? ⟨b, 3, none⟩ = some (.string s) ∧ w1.drew.cell? ⟨b, 4, none⟩ = some (.slice A n c) ∧ Below w.heap.size w w1.drew ∧ b < w1.drew.heap.size := hS.drew
  refine wp_region_lex (fun W => W.cell? ⟨b, 0, none⟩ = some (.int .i64 k) ∧ W.cell? ⟨b, 1, none⟩ = some (.int .i64 i) ∧ W.cell? ⟨b, 2, none⟩ = some (.float .f64 f) ∧ W.cell? ⟨b, 3, none⟩ = some (.string s) ∧ W.cell? ⟨b, 4, none⟩ = some (.slice A n c) ∧ Below w.heap.size w W ∧ b < W.heap.size) [1, 2, 7, 11] [3, 12] [0, 1, 2, 3, 4, 5, 6, 7, 8, 9, 10, 11, 12, 13, 14, 15] (by kernel_rfl) rfl (by kernel_rfl) (by kernel_rfl) (fun _ _ d _ _ h => by cases d <;> exact h) ?_
  repeat (first | (refine lexG_take _ ?_ rfl rfl rfl rfl (fun _ => ?_) ?_; rotate_left; (focus (go_simp; with_reducible rfl)); try simp only [Act.put, List.setIfInBounds_toArray, List.set_cons_zero, List.set_cons_succ]) | (refine lexG_held _ ?_ rfl rfl rfl rfl (by assumption) (fun _ hSw => ?_) ?_; rotate_left; (focus ((try dsimp only at hSw); go_simp; with_reducible rfl)); try simp only [Act.put, List.setIfInBounds_toArray, List.set_cons_zero, List.set_cons_succ]) | (refine lexG_skip _ rfl rfl (by assumption) ?_; try simp only [Act.put, List.setIfInBounds_toArray, List.set_cons_zero, List.set_cons_succ]))
  refine lexG_now _ rfl rfl rfl (fun K hK => ?_)
  go_wp2_with fail
  refine (val_kind _ _ _ _ _ _ _ _).mono ?_
  rintro e w2 ⟨rfl, hb2⟩
  rw [hk]
  dsimp only
  have hS3 : w2.cell? ⟨b, 0, none⟩ = some (.int .i64 k) ∧ w2.cell? ⟨b, 1, none⟩ = some (.int .i64 i) ∧ w2.cell? ⟨b, 2, none⟩ = some (.float .f64 f) ∧ w2.cell? ⟨b, 3, none⟩ = some (.string s) ∧ w2.cell? ⟨b, 4, none⟩ = some (.slice A n c) ∧ Below w.heap.size w w2 ∧ b < w2.heap.size := hS.drew.below hb2
  refine hK _ _ _ (fun _ h => h) hS3 ?_
  clear hK K hS hS2 hb2
  try simp only [Act.put, List.setIfInBounds_toArray, List.set_cons_zero, List.set_cons_succ]
  repeat (first | (refine lexG_take _ ?_ rfl rfl rfl rfl (fun _ => ?_) ?_; rotate_left; (focus (go_simp; with_reducible rfl)); try simp only [Act.put, List.setIfInBounds_toArray, List.set_cons_zero, List.set_cons_succ]) | (refine lexG_held _ ?_ rfl rfl rfl rfl (by assumption) (fun _ hSw => ?_) ?_; rotate_left; (focus ((try dsimp only at hSw); go_simp; with_reducible rfl)); try simp only [Act.put, List.setIfInBounds_toArray, List.set_cons_zero, List.set_cons_succ]) | (refine lexG_skip _ rfl rfl (by assumption) ?_; try simp only [Act.put, List.setIfInBounds_toArray, List.set_cons_zero, List.set_cons_succ]))
  refine lexG_nil ?_
  go_wp2_with fail
  go_ret
  exact ⟨rfl, hS3.2.2.2.2.2.1⟩
theorem val_great_list (k i : Int) (f : Nat) (s : ByteArray) (A : Option Addr) (n c : Nat) (d : Int) (q : Bool) (w : World) (hk4 : k = 4) (hd0 : -9223372036854775808 ≤ d) (hd1 : d ≤ 9223372036854775807)
    (hidx : 1 ≤ d → ∀ w2 pd, Below w.heap.size w w2 → w2.cell? pd = some (.int .i64 d) → pd.block < w2.heap.size → Calls Try.prog 73 #[.slice A n c, .func (Fn.func 74) #[] #[.pointer (some pd)]] w2 (Says w2 (.bool q))) :
    Calls Try.prog 65 #[.agg #[.int .i64 k, .int .i64 i, .float .f64 f, .string s, .slice A n c], .int .i64 d] w (Says w (.bool (decide (64 < n) || decide (d < 1) || q))) := by
  have k4 : (k == 4) = true := by rw [beq_iff_eq]; exact hk4
  have k3 : (k == 3) = false := by rw [beq_eq_false_iff_ne]; omega
  have hmf : ∀ (fn : Fn) (first cap : Array Value) (w : World), (Instr.makeFunc fn first cap).run Try.prog w = .ok (.func fn first cap) w := fun _ _ _ _ => rfl
  have hv := (Blk.new w 64 #[.int .i64 k, .int .i64 i, .float .f64 f, .string s, .slice A n c]).alloc (.cells #[.int .i64 d] 3)
  have hi := Blk.new (w.alloc (.cells #[.int .i64 k, .int .i64 i, .float .f64 f, .string s, .slice A n c] 64)) 3 #[.int .i64 d]
  have hfin : Below w.heap.size w ((w.alloc (.cells #[.int .i64 k, .int .i64 i, .float .f64 f, .string s, .slice A n c] 64)).alloc (.cells #[.int .i64 d] 3)) := ((Below.refl _ w).alloc (Nat.le_refl _) _).alloc (by simp) _
  have he : (w.alloc (.cells #[.int .i64 k, .int .i64 i, .float .f64 f, .string s, .slice A n c] 64)).heap.size = w.heap.size + 1 := by simp
  rw [he] at hi
  have hcl := fun h1 : 1 ≤ d => hidx h1 _ ⟨w.heap.size + 1, 0, none⟩ hfin (hi.cell 0) hi.lt
  clear hk4 hidx he hi hd0 hd1
  replace hcl := Lib.hid hcl
  replace hv := Lib.hid hv
  replace hfin := Lib.hid hfin
  by_cases h64 : 64 < n
  · have e : (decide (64 < n) || decide (d < 1) || q) = true := by simp [h64]
    rw [e]
    have h64i : (64 : Int) < (n : Int) := by omega
    go_enter Try.func65, Try.ntmps65
    go_wp2_with fail
    go_ret
    exact ⟨rfl, hfin.out⟩
  have h64i : (n : Int) ≤ 64 := by omega
  by_cases hd : d < 1
  · have e : (decide (64 < n) || decide (d < 1) || q) = true := by simp [hd]
    rw [e]
    go_enter Try.func65, Try.ntmps65
    go_wp2_with fail
    go_ret
    exact ⟨rfl, hfin.out⟩
  · have e : (decide (64 < n) || decide (d < 1) || q) = q := by simp [h64, hd]
    rw [e]
    go_enter Try.func65, Try.ntmps65
    go_wp2_with fail
    refine (hcl.out (by omega)).mono ?_
    rintro e w3 ⟨rfl, hb3⟩
    dsimp only
    go_wp2_with fail
    go_ret
    refine ⟨?_, below_then hb3 hfin.out⟩
    show Ending.returned (.bool (decide ((64 : Int) < (n : Int)) || q)) = _
    rw [decide_eq_false (show ¬ (64 : Int) < (n : Int) by omega)]
    rfl
set_option maxHeartbeats 800000 in
theorem val_strange {w : World} {B : Nat} {v : Val} {cs : Array Value} (h : VReads w B v cs) : ∀ w1, Below B w w1 → B ≤ w1.heap.size → Calls Try.prog 64 #[.agg cs] w1 (Says w1 (.bool (strangeV v))) := by
  induction h with
  | @mk k i f s l A c xs css hn hr hx hxs ih =>
    intro w1 hb1 hB1
    have hidx : ∀ w2, Below w1.heap.size w1 w2 → Calls Try.prog 73 #[.slice A l.length c, .func (Fn.func 64) #[] #[]] w2 (Says w2 (.bool (l.any strangeV))) := by
      intro w2 hb2
      have hb12 : Below B w w2 := hb1.trans (hb2.mono hB1)
      have hB2 : B ≤ w2.heap.size := Nat.le_trans hB1 hb2.size
      exact contains_strange (hr.below hb12) hB2 hxs (fun j v hv => (hx j v hv).under hb12) hn (fun j v hv w3 hb3 => ih j v hv w3 (hb12.trans (hb3.mono hB2)) (Nat.le_trans hB2 hb3.size))
    have hst : strangeV (.mk k i f s l) = (decide (k < 0 ∨ 4 < k) || (k == 4 && l.any strangeV)) := by rw [← strangeL_any]; rfl
    obtain ⟨sb, hsb⟩ : ∃ sb, bstr s = sb := ⟨_, rfl⟩
    rw [hst, hsb]
    obtain ⟨q, hq⟩ : ∃ q, l.any strangeV = q := ⟨_, rfl⟩
    rw [hq] at hidx ⊢
    obtain ⟨n, hln⟩ : ∃ n, l.length = n := ⟨_, rfl⟩
    rw [hln] at hidx ⊢
    clear ih hx hxs hr hst hq hln hsb hn
    by_cases hflat : 0 ≤ k ∧ k < 4
    · have e : (decide (k < 0 ∨ 4 < k) || (k == 4 && q)) = false := by
        rw [decide_eq_false (by omega), show (k == 4) = false from by rw [beq_eq_false_iff_ne]; omega]
        rfl
      rw [e]
      exact val_strange_flat k i f sb A n c w1 hflat.1 hflat.2
    by_cases hk4 : k = 4
    · have e : (decide (k < 0 ∨ 4 < k) || (k == 4 && q)) = q := by rw [hk4]; simp
      rw [e]
      exact val_strange_list k i f sb A n c q w1 hk4 hidx
    · have e : (decide (k < 0 ∨ 4 < k) || (k == 4 && q)) = true := by rw [decide_eq_true (by omega)]; rfl
      rw [e]
      exact val_strange_out k i f sb A n c w1 (by omega)
theorem val_great_other (k i : Int) (f : Nat) (s : ByteArray) (A : Option Addr) (n c : Nat) (d : Int) (w : World) (hk4 : k ≠ 4) :
    Calls Try.prog 65 #[.agg #[.int .i64 k, .int .i64 i, .float .f64 f, .string s, .slice A n c], .int .i64 d] w (Says w (.bool (if k = 3 then decide (256 < s.size) else false))) := by
  have k4 : (k == 4) = false := by rw [beq_eq_false_iff_ne]; exact hk4
  have hfin : Below w.heap.size w ((w.alloc (.cells #[.int .i64 k, .int .i64 i, .float .f64 f, .string s, .slice A n c] 64)).alloc (.cells #[.int .i64 d] 3)) := ((Below.refl _ w).alloc (Nat.le_refl _) _).alloc (by simp) _
  by_cases h3 : k = 3
  · rw [if_pos h3]
    subst h3
    go_enter Try.func65, Try.ntmps65
    go_wp2
    go_ret
    refine ⟨?_, hfin⟩
    simp [go_sem]
    try omega
  · rw [if_neg h3]
    have k3 : (k == 3) = false := by rw [beq_eq_false_iff_ne]; exact h3
    go_enter Try.func65, Try.ntmps65
    go_wp2
    go_ret
    exact ⟨rfl, hfin⟩
theorem val_great_one (d : Int) (pd : Addr) (cs : Array Value) (q : Bool) (w : World) (hf : ∃ k i f s A n c, cs = #[.int .i64 k, .int .i64 i, .float .f64 f, .string s, .slice A n c]) (hp : w.cell? pd = some (.int .i64 d)) (hpl : pd.block < w.heap.size) (hd : 1 ≤ d) (hd1 : d ≤ 100)
    (hg : ∀ w1, Below w.heap.size w w1 → Calls Try.prog 65 #[.agg cs, .int .i64 (d - 1)] w1 (Says w1 (.bool q))) :
    Calls Try.prog 74 #[.agg cs, .pointer (some pd)] w (Says w (.bool q)) := by
  obtain ⟨k, i, f, s, A, n, c, rfl⟩ := hf
  have hfin := (Below.refl w.heap.size w).alloc (Nat.le_refl _) (.cells #[.int .i64 k, .int .i64 i, .float .f64 f, .string s, .slice A n c] 64)
  have hp1 := (hfin.cell (p := pd) hpl).trans hp
  have hcl := Lib.hid (hg _ hfin)
  replace hfin := Lib.hid hfin
  clear hg hp
  go_enter Try.func74, Try.ntmps74
  go_wp2_with fail
  refine hcl.out.mono ?_
  rintro e w3 ⟨rfl, hb3⟩
  dsimp only
  go_wp2_with fail
  go_ret
  exact ⟨rfl, below_then hb3 hfin.out⟩
set_option maxHeartbeats 800000 in
theorem val_great {w : World} {B : Nat} {v : Val} {cs : Array Value} (h : VReads w B v cs) : ∀ (d : Int) w1, 0 ≤ d → d ≤ 100 → Below B w w1 → B ≤ w1.heap.size → Calls Try.prog 65 #[.agg cs, .int .i64 d] w1 (Says w1 (.bool (greatV v d))) := by
  induction h with
  | @mk k i f s l A c xs css hn hr hx hxs ih =>
    intro d w1 hd0 hd1 hb1 hB1
    by_cases hk4 : k = 4
    · have hgt : greatV (.mk k i f s l) d = (decide (64 < l.length) || decide (d < 1) || l.any (greatV · (d - 1))) := by
        rw [← greatL_any, hk4]; rfl
      rw [hgt]
      refine val_great_list k i f (bstr s) A l.length c d (l.any (greatV · (d - 1))) w1 hk4 (by omega) (by omega) ?_
      · intro h1 w2 pd hb2 hpd hpl
        have hb12 : Below B w w2 := hb1.trans (hb2.mono hB1)
        have hB2 : B ≤ w2.heap.size := Nat.le_trans hB1 hb2.size
        refine contains_great (hr.below hb12) hB2 hxs (fun j v hv => (hx j v hv).under hb12) hn (fun j v hv w3 hb3 => ?_)
        exact val_great_one d pd (css j) _ w3 (hx j v hv).form ((hb3.cell hpl).trans hpd) (Nat.lt_of_lt_of_le hpl hb3.size) (by omega) hd1 (fun w4 hb4 => ih j v hv (d - 1) w4 (by omega) (by omega) ((hb12.trans (hb3.mono hB2)).trans (hb4.mono (Nat.le_trans hB2 hb3.size))) (Nat.le_trans (Nat.le_trans hB2 hb3.size) hb4.size))
    · have hgt : greatV (.mk k i f s l) d = (if k = 3 then decide (256 < s.length) else false) := by
        unfold greatV
        rw [if_neg hk4]
      rw [hgt]
      refine (val_great_other k i f (bstr s) A l.length c d w1 hk4).mono ?_
      rintro e w' ⟨rfl, hb⟩
      rw [bstr_size]
      exact ⟨rfl, hb⟩
theorem sizeL_take (l : List Val) : ∀ n, sizeL (l.take n) ≤ sizeL l := by
  induction l with
  | nil => intro n; simp
  | cons v l ih =>
    intro n
    cases n with
    | zero => simp [sizeL]
    | succ n =>
      simp only [List.take_succ_cons, sizeL]
      have := ih n
      omega
set_option maxHeartbeats 800000 in
theorem val_size {w : World} {B : Nat} {v : Val} {cs : Array Value} (h : VReads w B v cs) : ∀ w1, sizeV v ≤ 1000000000 → Below B w w1 → B ≤ w1.heap.size → Calls Try.prog 66 #[.agg cs] w1 (Says w1 (.int .i64 (sizeV v : Int))) := by
  induction h with
  | @mk k i f s l A c xs css hn hr hx hxs ih =>
    intro w1 hsz hb1 hB1
    have hfin := (Below.refl w1.heap.size w1).alloc (Nat.le_refl _) (.cells #[.int .i64 k, .int .i64 i, .float .f64 f, .string (bstr s), .slice A l.length c] 64)
    have hbs : (bstr s).size = s.length := bstr_size s
    by_cases hk4 : k = 4
    · have hsv : sizeV (.mk k i f s l) = 2 + sizeL l := by rw [hk4]; rfl
      rw [hsv] at hsz ⊢
      subst hk4
      have hb2 : Below B w (w1.alloc (.cells #[.int .i64 4, .int .i64 i, .float .f64 f, .string (bstr s), .slice A l.length c] 64)) := hb1.trans (hfin.mono hB1)
      have hB2 : B ≤ (w1.alloc (.cells #[.int .i64 4, .int .i64 i, .float .f64 f, .string (bstr s), .slice A l.length c] 64)).heap.size := Nat.le_trans hB1 hfin.size
      replace ih := Lib.hid ih
      go_enter Try.func66, Try.ntmps66
      go_wp2_with fail
      generalize w1.alloc (.cells #[.int .i64 4, .int .i64 i, .float .f64 f, .string (bstr s), .slice A l.length c] 64) = w2 at *
      go_loopw [3, 28] (fun n i wr => ∃ j : Nat, j ≤ l.length ∧ i = .int .i64 (j : Int) ∧ n = .int .i64 ((2 + sizeL (l.take j) : Nat) : Int) ∧ Below w2.heap.size w2 wr) (fun _ i _ => l.length - (intOf i).toNat)
      case atStart => exact ⟨0, Nat.zero_le _, rfl, rfl, Below.refl _ _⟩
      case round =>
        obtain ⟨j, hj, rfl, rfl, hb⟩ := hrel
        obtain ⟨z, hz⟩ : ∃ z, 2 + sizeL (l.take j) = z := ⟨_, rfl⟩
        have hz' : sizeL (l.take j) = z - 2 := by omega
        have hz2 : 2 ≤ z := by omega
        rw [hz]
        by_cases hlt : j < l.length
        · obtain ⟨ad, rfl, -, -⟩ := hr.2 (by omega)
          have hgk : l[j]? = some l[j] := List.getElem?_eq_getElem hlt
          obtain ⟨k', i', f', s', A', n', c', hform⟩ := (hx j l[j] hgk).form
          have hc5 := hxs j hlt
          rw [hform] at hc5
          have hbb : Below B w wr := hb2.trans (hb.mono hB2)
          obtain ⟨g0, g1, g2, g3, g4⟩ := elem_cells (hr.below hbb) hlt hc5
          have hss := sizeL_sum l j hlt
          have hsle := sizeL_take l (j + 1)
          obtain ⟨u, hu⟩ : ∃ u, sizeV l[j] = u := ⟨_, rfl⟩
          have hfin3 := (Below.refl wr.heap.size wr).alloc (Nat.le_refl _) (.cells #[.int .i64 k', .int .i64 i', .float .f64 f', .string s', .slice A' n' c'] 64)
          have hcl := ih.out j l[j] hgk _ (by omega) (hbb.trans (hfin3.mono (Nat.le_trans hB2 hb.size))) (Nat.le_trans (Nat.le_trans hB2 hb.size) hfin3.size)
          rw [hform, hu] at hcl
          rw [hu, hz'] at hss
          have hzu : ((z : Nat) : Int) + (u : Int) ≤ 1000000000 := by omega
          have hnext : z + u = 2 + sizeL (l.take (j + 1)) := by omega
          have hb3 := hb.trans (hfin3.mono hb.size)
          replace hnext := Lib.hid hnext
          replace hfin3 := Lib.hid hfin3
          clear hss hsle hform hc5 hgk hu
          have hsf := fun a k x m w => run_store_float (P := Try.prog) a k x m w
          go_wp2_with fail
          refine hcl.mono ?_
          clear hcl
          rintro e w4 ⟨rfl, hb4⟩
          dsimp only
          have hb4' := below_then hb4 hb3
          go_wp2_with fail
          go_roundw
          case rel => exact ⟨j + 1, by omega, by simp, by rw [← hnext.out]; simp, by assumption⟩
          case measure => simp [intOf]; omega
        · have hj' : j = l.length := by omega
          subst hj'
          rw [List.take_length] at hz
          subst hz
          go_wp2_with fail
          go_ret
          exact ⟨rfl, below_then hb hfin⟩
    · have hbs' : ((bstr s).size : Int) ≤ 1000000000 ∨ k ≠ 3 := by
        by_cases h3 : k = 3
        · left
          have : sizeV (.mk k i f s l) = 3 + s.length := by rw [h3]; rfl
          omega
        · exact .inr h3
      by_cases h12 : k = 1 ∨ k = 2
      · have : sizeV (.mk k i f s l) = 9 := by unfold sizeV; rw [if_pos h12]
        rw [this]
        exact val_size_num k i f (bstr s) A l.length c w1 h12
      by_cases h3 : k = 3
      · have hs3 : sizeV (.mk k i f s l) = 3 + s.length := by rw [h3]; rfl
        rw [hs3]
        subst h3
        have hle : (s.length : Int) ≤ 1000000000 := by omega
        have e3 : ((3 + s.length : Nat) : Int) = 1 + (2 + (s.length : Int)) := by omega
        rw [e3]
        clear hbs' h12 hk4 hs3 e3 hsz
        go_enter Try.func66, Try.ntmps66
        go_wp2
        go_ret
        exact ⟨rfl, hfin⟩
      · have hs1 : sizeV (.mk k i f s l) = 1 := by unfold sizeV; rw [if_neg h12, if_neg h3, if_neg hk4]
        rw [hs1]
        have k1 : (k == 1) = false := by rw [beq_eq_false_iff_ne]; omega
        have k2 : (k == 2) = false := by rw [beq_eq_false_iff_ne]; omega
        have k3 : (k == 3) = false := by rw [beq_eq_false_iff_ne]; omega
        have k4 : (k == 4) = false := by rw [beq_eq_false_iff_ne]; omega
        clear hbs' h12 hk4 hs1 hsz
        go_enter Try.func66, Try.ntmps66
        go_wp2
        go_ret
        exact ⟨rfl, hfin⟩
end Go.Proofs.Ytlkokkbikkbaoaa
namespace Go.Proofs.Ytlkokkbikkbaoaa
set_option maxRecDepth 100000
open Go.RowKit
/-- What Check says. -/
def checkV (v : Val) : Nat := if strangeV v then 31 else if greatV v 8 || decide (4096 < sizeV v) then 22 else 0
set_option maxHeartbeats 800000 in
theorem val_check {w : World} {B : Nat} {v : Val} {cs : Array Value} (h : VReads w B v cs) (w1 : World) (hsz : sizeV v ≤ 1000000000) (hb1 : Below B w w1) (hB1 : B ≤ w1.heap.size) :
    Calls Try.prog 52 #[.agg cs] w1 (Says w1 (.int .i64 (checkV v : Int))) := by
  have hst := fun w2 (hb : Below w1.heap.size w1 w2) => val_strange h w2 (hb1.trans (hb.mono hB1)) (Nat.le_trans hB1 hb.size)
  have hgr := fun w2 (hb : Below w1.heap.size w1 w2) => val_great h 8 w2 (by omega) (by omega) (hb1.trans (hb.mono hB1)) (Nat.le_trans hB1 hb.size)
  have hsi := fun w2 (hb : Below w1.heap.size w1 w2) => val_size h w2 hsz (hb1.trans (hb.mono hB1)) (Nat.le_trans hB1 hb.size)
  obtain ⟨k, i, f, s, A, n, c, hform⟩ := h.form
  rw [hform] at hst hgr hsi ⊢
  unfold checkV
  generalize strangeV v = b1 at *
  generalize greatV v 8 = b2 at *
  generalize sizeV v = z at *
  obtain ⟨r, hr⟩ : ∃ r, (if b1 = true then (31 : Nat) else if (b2 || decide (4096 < z)) = true then 22 else 0) = r := ⟨_, rfl⟩
  rw [hr]
  replace hr := Lib.hid hr
  clear hform h hb1 hB1
  replace hst := Lib.hid hst
  replace hgr := Lib.hid hgr
  replace hsi := Lib.hid hsi
  have hS := SV.alloc w1 (Below.refl _ _) k i f s A n c
  go_enter Try.func52, Try.ntmps52
  go_wp2_with fail
  generalize w1.alloc (.cells #[.int .i64 k, .int .i64 i, .float .f64 f, .string s, .slice A n c] 64) = w2 at hS ⊢
  generalize hb : w1.heap.size = b at hS ⊢
  replace hb := Lib.hid hb
  refine (hst.out w2 hS.2.2.2.2.2.1).mono ?_
  rintro e w3 ⟨rfl, hb3⟩
  dsimp only
  have hS3 : SV b k i f s A n c w1 w3 := hS.below hb3
  obtain ⟨e0, e1, e2, e3, e4, e5, e6⟩ := id hS3
  cases b1
  · go_wp2_with fail
    refine (hgr.out w3 e5).mono ?_
    rintro e w4 ⟨rfl, hb4⟩
    dsimp only
    have hS4 : SV b k i f s A n c w1 w4 := hS3.below hb4
    clear e0 e1 e2 e3 e4 e5 e6
    obtain ⟨e0, e1, e2, e3, e4, e5, e6⟩ := id hS4
    cases b2
    · go_wp2_with fail
      refine (hsi.out w4 e5).mono ?_
      rintro e w5 ⟨rfl, hb5⟩
      dsimp only
      have hb5' := below_then hb5 e5
      by_cases h4 : 4096 < z
      · have h4i : (4096 : Int) < (z : Int) := by omega
        have hr' : r = 22 := by rw [← hr.out]; simp [h4]
        subst hr'
        go_wp2_with fail
        go_ret
        exact ⟨rfl, hb5'⟩
      · have h4i : (z : Int) ≤ 4096 := by omega
        have hr' : r = 0 := by rw [← hr.out]; simp [h4]
        subst hr'
        go_wp2_with fail
        go_ret
        exact ⟨rfl, hb5'⟩
    · have hr' : r = 22 := by rw [← hr.out]; simp
      subst hr'
      go_wp2_with fail
      go_ret
      exact ⟨rfl, e5⟩
  · have hr' : r = 31 := by rw [← hr.out]; simp
    subst hr'
    go_wp2_with fail
    go_ret
    exact ⟨rfl, e5⟩
set_option maxHeartbeats 3200000 in
theorem read_tree {A : Option Addr} {m c0 at_ : Nat} {v : Val} {deep : Int} {w : World} (hchk0 : checkV v = 0) (hsz : sizeV v ≤ 1000000000) (hval : ∀ w1, Below w.heap.size w w1 → RdAt w1 (w.heap.size + 1 + 1 + 1) A m c0 0 8 →
      Calls Try.prog 76 #[.pointer (some ⟨w.heap.size + 1 + 1 + 1, 0, none⟩)] w1 (fun e w' => ∃ cs, e = .returned (.agg cs) ∧ VOwn w' (fun g => w1.heap.size ≤ g) v cs ∧ RdAt w' (w.heap.size + 1 + 1 + 1) A m c0 at_ deep ∧ Upd (fun x => x = w.heap.size + 1 + 1 + 1) w1 w')) :
    Calls Try.prog 70 #[.slice A m c0] w (fun e w' => ∃ cs, e = .returned (.tuple #[.agg cs, .int .i64 (at_ : Int), .int .i64 0]) ∧ VOwn w' (fun g => w.heap.size ≤ g) v cs ∧ Below w.heap.size w w') := by
  have hmf : ∀ (fn : Fn) (first cap : Array Value) (w : World), (Instr.makeFunc fn first cap).run Try.prog w = .ok (.func fn first cap) w := fun _ _ _ _ => rfl
  replace hval := Lib.hid hval
  replace hchk0 := Lib.hid hchk0
  go_enter_defers Try.func70, Try.ntmps70
  go_wp2_with fail
  obtain ⟨b0, b1, b2, b3, hb, he⟩ := readStart w A m c0
  have hv := hval.out _ hb b3
  clear hval
  unfold ReadStart at b0 b1 b2 b3 hb he hv
  refine hv.mono ?_
  clear hv
  generalize (((w.alloc (.cells #[.int .i64 0, .int .i64 0, .float .f64 0, .string ⟨#[]⟩, .slice none 0 0] 64)).alloc (.cells #[.int .i64 0] 3)).alloc (.cells #[.int .i64 0] 28)).alloc (.cells #[.slice A m c0, .int .i64 0, .int .i64 8] 134) = w4 at *
  rintro e w5 ⟨cs, rfl, hvo, hR, hu⟩
  obtain ⟨k, i, f, s, A', n', c', hform⟩ := hvo.reads.form
  subst hform
  dsimp only
  have c0' := b0.upd hu (by omega)
  have c1 := b1.upd hu (by omega)
  have c2 := b2.upd hu (by omega)
  have hb5 : Below w.heap.size w w5 := hb.trans (hu.below (by omega) (fun k hk => by omega))
  obtain ⟨z, hz⟩ : ∃ z, w.heap.size = z := ⟨_, rfl⟩
  obtain ⟨q, hq⟩ : ∃ q, w.heap.size + 1 = q := ⟨_, rfl⟩
  obtain ⟨t, ht⟩ : ∃ t, w.heap.size + 1 + 1 = t := ⟨_, rfl⟩
  obtain ⟨r, hr⟩ : ∃ r, w.heap.size + 1 + 1 + 1 = r := ⟨_, rfl⟩
  have hqz : z < q := by omega
  have htq : q < t := by omega
  have hrt : t < r := by omega
  rw [hr] at hR ⊢
  rw [ht] at c2 ⊢
  rw [hq] at c1 ⊢
  rw [hz] at c0' hb5 ⊢
  replace hvo := hvo.mono (Q := fun g => r < g) (fun g _ hg => by omega)
  have hzi := Lib.hid hz
  clear b0 b1 b2 b3 hb he hu hz hq ht hr
  clear w4
  have d0 := c0'.row #[.int .i64 k, .int .i64 i, .float .f64 f, .string s, .slice A' n' c']
  have d1 := c1.farRow (g := z) (by omega) #[.int .i64 k, .int .i64 i, .float .f64 f, .string s, .slice A' n' c']
  have d2 := c2.farRow (g := z) (by omega) #[.int .i64 k, .int .i64 i, .float .f64 f, .string s, .slice A' n' c']
  have d3 := Blk.farRow hR (g := z) (by omega) #[.int .i64 k, .int .i64 i, .float .f64 f, .string s, .slice A' n' c']
  have vo6 := hvo.upd ((Upd.refl (fun x => x = z) w5).setRow (g := z) (fun _ => rfl) #[.int .i64 k, .int .i64 i, .float .f64 f, .string s, .slice A' n' c']) (fun g hg e => by omega)
  have hb6 := below_row hb5 (Nat.le_refl z) #[.int .i64 k, .int .i64 i, .float .f64 f, .string s, .slice A' n' c']
  clear hR c1 c2 hb5
  go_wp2_with (refine store_row_gen rfl 64 _ _ rfl z #[.int .i64 k, .int .i64 i, .float .f64 f, .string s, .slice A' n' c'] rfl rfl 64 _ c0' (by kernel_rfl) rfl (by simp [Value.oneCell']) (fun w6 hw6 => ?_); rw [← hw6] at d0 d1 d2 d3 hb6 vo6; clear hw6 c0'; have x0 := d0.cell 0; have x1 := d0.cell 1; have x2 := d0.cell 2; have x3 := d0.cell 3; have x4 := d0.cell 4)
  have hck := val_check vo6.reads w6 hsz (Below.refl _ _) (Nat.le_refl _)
  rw [hchk0.out] at hck
  refine hck.mono ?_
  clear hck
  rintro e w7 ⟨rfl, hb7⟩
  have vo7 := vo6.upd (S := fun _ => False) (Upd.of_below_size hb7) (fun _ _ h => h)
  dsimp only
  clear x0 x1 x2 x3 x4
  have hz6 := d0.lt
  replace d0 := d0.below hb7 d0.lt
  replace d1 := d1.below hb7 d1.lt
  replace d2 := d2.below hb7 d2.lt
  replace d3 := Blk.below d3 hb7 (Blk.lt d3)
  have hb8 : Below z w w7 := hb6.trans (hb7.mono (Nat.le_of_lt hz6))
  go_wp2_with fail
  refine (must_ok w7).mono ?_
  rintro e w8 ⟨rfl, rfl⟩
  dsimp only
  have hS : w7.drew.cell? ⟨z, 0, none⟩ = some (.int .i64 k) ∧ w7.drew.cell? ⟨z, 1, none⟩ = some (.int .i64 i) ∧ w7.drew.cell? ⟨z, 2, none⟩ = some (.float .f64 f) ∧ w7.drew.cell? ⟨z, 3, none⟩ = some (.string s) ∧ w7.drew.cell? ⟨z, 4, none⟩ = some (.slice A' n' c') ∧ w7.drew.cell? ⟨r, 1, none⟩ = some (.int .i64 (at_ : Int)) ∧ Blk w7.drew z 64 #[.int .i64 k, .int .i64 i, .float .f64 f, .string s, .slice A' n' c'] ∧ (∃ x, Blk w7.drew q 3 #[.int .i64 x]) ∧ (∃ x, Blk w7.drew t 28 #[.int .i64 x]) ∧ Below z w w7.drew :=
    ⟨d0.cell 0, d0.cell 1, d0.cell 2, d0.cell 3, d0.cell 4, Blk.cell d3 1, d0.drew, ⟨_, d1.drew⟩, ⟨_, d2.drew⟩, hb8.drew⟩
  clear d0 d1 d2 d3 hb6 hb7 hb8
  go_wp2_with fail
  refine region_norm ?_; refine wp_region_lex (fun W => W.cell? ⟨z, 0, none⟩ = some (.int .i64 k) ∧ W.cell? ⟨z, 1, none⟩ = some (.int .i64 i) ∧ W.cell? ⟨z, 2, none⟩ = some (.float .f64 f) ∧ W.cell? ⟨z, 3, none⟩ = some (.string s) ∧ W.cell? ⟨z, 4, none⟩ = some (.slice A' n' c') ∧ W.cell? ⟨r, 1, none⟩ = some (.int .i64 (at_ : Int)) ∧ Blk W z 64 #[.int .i64 k, .int .i64 i, .float .f64 f, .string s, .slice A' n' c'] ∧ (∃ x, Blk W q 3 #[.int .i64 x]) ∧ (∃ x, Blk W t 28 #[.int .i64 x]) ∧ Below z w W) [0, 4] [5, 6, 7] [0, 1, 2, 3, 4, 5, 6, 7] (by kernel_rfl) rfl (by kernel_rfl) (by kernel_rfl) (fun _ _ d _ _ h => by cases h.1) ?_
  repeat (first | (refine lexG_take _ ?_ rfl rfl rfl rfl (fun _ => ?_) ?_; rotate_left; (focus (go_simp; with_reducible rfl)); try simp only [Act.put, List.setIfInBounds_toArray, List.set_cons_zero, List.set_cons_succ]) | (refine lexG_held _ ?_ rfl rfl rfl rfl (by assumption) (fun _ hSw => ?_) ?_; rotate_left; (focus ((try dsimp only at hSw); go_simp; with_reducible rfl)); try simp only [Act.put, List.setIfInBounds_toArray, List.set_cons_zero, List.set_cons_succ]) | (refine lexG_skip _ rfl rfl (by assumption) ?_; try simp only [Act.put, List.setIfInBounds_toArray, List.set_cons_zero, List.set_cons_succ]))
  refine lexG_now _ rfl rfl rfl (fun K hK => ?_)
  obtain ⟨_, _, _, _, _, g5, g6, ⟨y7, g7⟩, ⟨y8, g8⟩, g9⟩ := hS
  refine wp_store_row 64 _ _ rfl z #[.int .i64 k, .int .i64 i, .float .f64 f, .string s, .slice A' n' c'] rfl rfl 64 _ g6 (by kernel_rfl) rfl (by simp [Value.oneCell']) ?_
  have vo8 := vo7.upd ((((Upd.refl (fun x => x = z) w7).drew).setRow (g := z) (fun _ => rfl) #[.int .i64 k, .int .i64 i, .float .f64 f, .string s, .slice A' n' c'])) (fun g hg e => by omega)
  have m6 := g6.row #[.int .i64 k, .int .i64 i, .float .f64 f, .string s, .slice A' n' c']
  have m7 := g7.farRow (g := z) (by omega) #[.int .i64 k, .int .i64 i, .float .f64 f, .string s, .slice A' n' c']
  have m8 := g8.farRow (g := z) (by omega) #[.int .i64 k, .int .i64 i, .float .f64 f, .string s, .slice A' n' c']
  have m9 := below_row g9 (Nat.le_refl z) #[.int .i64 k, .int .i64 i, .float .f64 f, .string s, .slice A' n' c']
  have m5 := (cell_setRow_other w7.drew z #[.int .i64 k, .int .i64 i, .float .f64 f, .string s, .slice A' n' c'] ⟨r, 1, none⟩ (by show r ≠ z; omega)).trans g5
  clear g5 g6 g7 g8 g9
  generalize w7.drew.setRow z #[.int .i64 k, .int .i64 i, .float .f64 f, .string s, .slice A' n' c'] = w8 at *
  refine hK _ _ _ (fun _ h => h) ⟨m6.cell 0, m6.cell 1, m6.cell 2, m6.cell 3, m6.cell 4, m5, m6, ⟨_, m7⟩, ⟨_, m8⟩, m9⟩ ?_
  clear hK K
  try simp only [Act.put, List.setIfInBounds_toArray, List.set_cons_zero, List.set_cons_succ]
  refine lexG_now _ rfl rfl rfl (fun K hK => ?_)
  have hc7 := m7.cell 0
  have hf7 := m7.frozen
  go_wp2_with fail
  have vo9 := vo8.upd ((Upd.refl (fun x => x = q) w8).setCell (p := ⟨q, 0, none⟩) (fun _ => rfl) (.int .i64 (at_ : Int))) (fun g hg e => by omega)
  have p6 := m6.far (p := ⟨q, 0, none⟩) (by show z ≠ q; omega) (.int .i64 (at_ : Int))
  have p7 := m7.set_ 0 (.int .i64 (at_ : Int))
  have p8 := m8.far (p := ⟨q, 0, none⟩) (by show t ≠ q; omega) (.int .i64 (at_ : Int))
  have p9 := m9.setCell (p := ⟨q, 0, none⟩) (by show z ≤ q; omega) (.int .i64 (at_ : Int))
  have p5 := (World.cell?_setCell_other w8 ⟨q, 0, none⟩ ⟨r, 1, none⟩ (.int .i64 (at_ : Int)) (fun e => by cases e)).trans m5
  generalize w8.setCell ⟨q, 0, none⟩ (.int .i64 (at_ : Int)) = w9 at *
  refine hK _ _ (fun W => W.cell? ⟨z, 0, none⟩ = some (.int .i64 k) ∧ W.cell? ⟨z, 1, none⟩ = some (.int .i64 i) ∧ W.cell? ⟨z, 2, none⟩ = some (.float .f64 f) ∧ W.cell? ⟨z, 3, none⟩ = some (.string s) ∧ W.cell? ⟨z, 4, none⟩ = some (.slice A' n' c') ∧ W.cell? ⟨r, 1, none⟩ = some (.int .i64 (at_ : Int)) ∧ Blk W z 64 #[.int .i64 k, .int .i64 i, .float .f64 f, .string s, .slice A' n' c'] ∧ (∃ x, Blk W q 3 #[.int .i64 x]) ∧ (∃ x, Blk W t 28 #[.int .i64 x]) ∧ Below z w W) (fun _ h => h) ⟨p6.cell 0, p6.cell 1, p6.cell 2, p6.cell 3, p6.cell 4, p5, p6, ⟨_, p7⟩, ⟨_, p8⟩, p9⟩ ?_
  clear hK K hc7 hf7 m5 m6 m7 m8 m9
  try simp only [Act.put, List.setIfInBounds_toArray, List.set_cons_zero, List.set_cons_succ]
  have hc8 := p8.cell 0
  have hf8 := p8.frozen
  refine lexG_nowF _ rfl rfl rfl (by kernel_rfl) (fun K hK => ?_)
  go_simp
  have vo10 := vo9.upd ((Upd.refl (fun x => x = t) w9).setCell (p := ⟨t, 0, none⟩) (fun _ => rfl) (.int .i64 0)) (fun g hg e => by omega)
  have q6 := p6.far (p := ⟨t, 0, none⟩) (by show z ≠ t; omega) (.int .i64 0)
  have q7 := p7.far (p := ⟨t, 0, none⟩) (by show q ≠ t; omega) (.int .i64 0)
  have q8 := p8.set_ 0 (.int .i64 0)
  have q9 := p9.setCell (p := ⟨t, 0, none⟩) (by show z ≤ t; omega) (.int .i64 0)
  generalize w9.setCell ⟨t, 0, none⟩ (.int .i64 0) = w10 at *
  refine hK _ _ (lexG_nil ⟨rfl, ?_⟩)
  clear hK K p5 p6 p7 p8 p9 hc8 hf8
  go_wp2_with fail
  refine leaves_cons (f := 75) (args := #[.pointer (some ⟨z, 0, none⟩), .pointer (some ⟨q, 0, none⟩), .pointer (some ⟨t, 0, none⟩)]) (by simp) (by simp [go_sem]) ?_
  refine (catch_idle _ _ _ _).mono ?_
  rintro e u' w'' ⟨rfl, rfl, rfl⟩
  have x0 := q6.cell 0
  have x1 := q6.cell 1
  have x2 := q6.cell 2
  have x3 := q6.cell 3
  have x4 := q6.cell 4
  have x5 := q7.cell 0
  have x6 := q8.cell 0
  simp [Leaves, settle, results, Try.results70, go_sem, x0, x1, x2, x3, x4, x5, x6]
  refine ⟨vo10.mono (fun g _ hg => by have := hzi.out; omega), ?_⟩
  rw [hzi.out]
  exact q9
end Go.Proofs.Ytlkokkbikkbaoaa
namespace Go.Proofs.Ytlkokkbikkbaoaa
set_option maxRecDepth 100000
open Go.RowKit
theorem w64_add (a b : Int) : IntKind.i64.wrap (IntKind.i64.wrap a + IntKind.i64.wrap b) = IntKind.i64.wrap (a + b) := by
  simp only [IntKind.wrap, IntKind.bits, IntKind.signed]
  simp
  omega
theorem w64_id (a : Int) (h0 : -1000000000000000000 ≤ a) (h1 : a ≤ 1000000000000000000) : IntKind.i64.wrap a = a := by
  simp only [IntKind.wrap, IntKind.bits, IntKind.signed]
  simp
  omega
/-- A list's item, as a walk finds it. -/
theorem kid {w wr : World} {B : Nat} {l : List Val} {A : Option Addr} {xs : List Value} {css : Nat → Array Value} (hr : Reads w B 5 A l.length xs) (hx : ∀ (j : Nat) (v : Val), l[j]? = some v → VReads w B v (css j)) (hxs : ∀ j, j < l.length → (xs.drop (j * 5)).take 5 = (css j).toList) (hb : Below B w wr) {j : Nat} (hlt : j < l.length) :
    ∃ ad k i f s A' n c, A = some ad ∧ css j = #[.int .i64 k, .int .i64 i, .float .f64 f, .string s, .slice A' n c] ∧ l[j]? = some l[j] ∧ wr.cell? (ad.add (j * 5)) = some (.int .i64 k) ∧ wr.cell? ⟨(ad.add (j * 5)).block, (ad.add (j * 5)).off + 1, none⟩ = some (.int .i64 i) ∧ wr.cell? ⟨(ad.add (j * 5)).block, (ad.add (j * 5)).off + 2, none⟩ = some (.float .f64 f) ∧ wr.cell? ⟨(ad.add (j * 5)).block, (ad.add (j * 5)).off + 3, none⟩ = some (.string s) ∧ wr.cell? ⟨(ad.add (j * 5)).block, (ad.add (j * 5)).off + 4, none⟩ = some (.slice A' n c) := by
  obtain ⟨ad, rfl, -, -⟩ := hr.2 (by omega)
  have hgk : l[j]? = some l[j] := List.getElem?_eq_getElem hlt
  obtain ⟨k', i', f', s', A', n', c', hform⟩ := (hx j l[j] hgk).form
  have hc5 := hxs j hlt
  rw [hform] at hc5
  obtain ⟨g0, g1, g2, g3, g4⟩ := elem_cells (hr.below hb) hlt hc5
  exact ⟨ad, k', i', f', s', A', n', c', rfl, hform, hgk, g0, g1, g2, g3, g4⟩
end Go.Proofs.Ytlkokkbikkbaoaa
namespace Go.Proofs.Ytlkokkbikkbaoaa
set_option maxRecDepth 100000
open Go.RowKit
end Go.Proofs.Ytlkokkbikkbaoaa
namespace Go.Proofs.Ytlkokkbikkbaoaa
set_option maxRecDepth 100000
open Go.RowKit
mutual
theorem great_size : ∀ (v : Val) (d : Nat), greatV v (d : Int) = false → sizeV v ≤ 300 * 65 ^ d
  | .mk k i f s l, d, h => by
    have hp : 1 ≤ 65 ^ d := Nat.pow_pos (by omega)
    unfold greatV at h
    unfold sizeV
    by_cases h12 : k = 1 ∨ k = 2
    · rw [if_pos h12]; omega
    rw [if_neg h12]
    by_cases h3 : k = 3
    · rw [if_pos h3] at h ⊢
      have : ¬ 256 < s.length := by simpa using h
      omega
    rw [if_neg h3] at h ⊢
    by_cases h4 : k = 4
    · rw [if_pos h4] at h ⊢
      simp only [Bool.or_eq_false_iff, decide_eq_false_iff_not] at h
      obtain ⟨⟨h64, hd⟩, hl⟩ := h
      obtain ⟨e, rfl⟩ : ∃ e, d = e + 1 := ⟨d - 1, by omega⟩
      have hl' : greatL l (e : Int) = false := by rw [← hl]; congr 1; omega
      have := great_sizeL l e hl'
      have hq : 1 ≤ 65 ^ e := Nat.pow_pos (by omega)
      have hm : l.length * (300 * 65 ^ e) ≤ 64 * (300 * 65 ^ e) := Nat.mul_le_mul_right _ (by omega)
      rw [Nat.pow_succ]
      omega
    · rw [if_neg h4]; omega
theorem great_sizeL : ∀ (l : List Val) (d : Nat), greatL l (d : Int) = false → sizeL l ≤ l.length * (300 * 65 ^ d)
  | [], d, _ => Nat.zero_le _
  | v :: l, d, h => by
    have h := Bool.or_eq_false_iff.1 (show (greatV v (d : Int) || greatL l (d : Int)) = false from h)
    have h1 := great_size v d h.1
    have h2 := great_sizeL l d h.2
    show sizeV v + sizeL l ≤ (l.length + 1) * (300 * 65 ^ d)
    rw [Nat.succ_mul]
    omega
end
theorem great_w64 {v : Val} (h : greatV v 8 = false) : IntKind.i64.wrap (sizeV v : Int) = (sizeV v : Int) := by
  have := great_size v 8 h
  have e : (65 : Nat) ^ 8 = 318644812890625 := by decide
  rw [e] at this
  exact w64_id _ (by omega) (by omega)
set_option maxHeartbeats 1600000 in
theorem val_size_any {w : World} {B : Nat} {v : Val} {cs : Array Value} (h : VReads w B v cs) : ∀ w1, Below B w w1 → B ≤ w1.heap.size → Calls Try.prog 66 #[.agg cs] w1 (Says w1 (.int .i64 (IntKind.i64.wrap (sizeV v : Int)))) := by
  induction h with
  | @mk k i f s l A c xs css hn hr hx hxs ih =>
    intro w1 hb1 hB1
    have hfin := (Below.refl w1.heap.size w1).alloc (Nat.le_refl _) (.cells #[.int .i64 k, .int .i64 i, .float .f64 f, .string (bstr s), .slice A l.length c] 64)
    have hbs : (bstr s).size = s.length := bstr_size s
    by_cases hk4 : k = 4
    · have hsv : sizeV (.mk k i f s l) = 2 + sizeL l := by rw [hk4]; rfl
      rw [hsv]
      subst hk4
      have hb2 := hb1.trans (hfin.mono hB1)
      have hB2 := Nat.le_trans hB1 hfin.size
      replace ih := Lib.hid ih
      go_enter Try.func66, Try.ntmps66
      go_wp2_with fail
      generalize w1.alloc (.cells #[.int .i64 4, .int .i64 i, .float .f64 f, .string (bstr s), .slice A l.length c] 64) = w2 at *
      go_loopw [3, 28] (fun n i wr => ∃ j : Nat, ∃ z : Int, j ≤ l.length ∧ i = .int .i64 (j : Int) ∧ n = .int .i64 z ∧ z = IntKind.i64.wrap ((2 + sizeL (l.take j) : Nat) : Int) ∧ Below w2.heap.size w2 wr) (fun _ i _ => l.length - (intOf i).toNat)
      case atStart => exact ⟨0, 2, Nat.zero_le _, rfl, rfl, rfl, Below.refl _ _⟩
      case round =>
        rename_i hrel
        obtain ⟨j, z, hj, rfl, rfl, hz, hb⟩ := hrel
        replace hz := Lib.hid hz
        by_cases hlt : j < l.length
        · have hbb : Below B w wr := hb2.trans (hb.mono hB2)
          obtain ⟨ad, k', i', f', s', A', n', c', rfl, hform, hgk, g0, g1, g2, g3, g4⟩ := kid hr hx hxs hbb hlt
          have hss := sizeL_sum l j hlt
          have hfin3 := (Below.refl wr.heap.size wr).alloc (Nat.le_refl _) (.cells #[.int .i64 k', .int .i64 i', .float .f64 f', .string s', .slice A' n' c'] 64)
          have hcl := ih.out j l[j] hgk _ (hbb.trans (hfin3.mono (Nat.le_trans hB2 hb.size))) (Nat.le_trans (Nat.le_trans hB2 hb.size) hfin3.size)
          obtain ⟨u, hu⟩ : ∃ u, IntKind.i64.wrap (sizeV l[j] : Int) = u := ⟨_, rfl⟩
          rw [hform, hu] at hcl
          obtain ⟨y, hy⟩ : ∃ y, IntKind.i64.wrap (z + u) = y := ⟨_, rfl⟩
          have hnext : y = IntKind.i64.wrap ((2 + sizeL (l.take (j + 1)) : Nat) : Int) := by
            rw [← hy, hz.out, ← hu, w64_add, hss]
            congr 1
            omega
          have hb3 := hb.trans (hfin3.mono hb.size)
          replace hnext := Lib.hid hnext
          replace hfin3 := Lib.hid hfin3
          clear hss hform hgk hu hz
          have hsf := fun a k x m w => run_store_float (P := Try.prog) a k x m w
          go_wp2_with fail
          refine hcl.mono ?_
          clear hcl
          rintro e w4 ⟨rfl, hb4⟩
          dsimp only
          have hb4' := below_then hb4 hb3
          go_wp2_with fail
          go_roundw
          case rel => exact ⟨j + 1, y, by omega, by simp, rfl, hnext.out, by assumption⟩
          case measure => simp [intOf]; omega
        · have hj' : j = l.length := by omega
          subst hj'
          rw [List.take_length] at hz
          go_wp2_with fail
          go_ret
          exact ⟨by show Ending.returned (.int .i64 z) = _; rw [hz.out], below_then hb hfin⟩
    · by_cases h12 : k = 1 ∨ k = 2
      · have : sizeV (.mk k i f s l) = 9 := by unfold sizeV; rw [if_pos h12]
        rw [this]
        exact val_size_num k i f (bstr s) A l.length c w1 h12
      by_cases h3 : k = 3
      · have hs3 : sizeV (.mk k i f s l) = 3 + s.length := by rw [h3]; rfl
        rw [hs3]
        subst h3
        obtain ⟨x, hx2⟩ : ∃ x, IntKind.i64.wrap (2 + (s.length : Int)) = x := ⟨_, rfl⟩
        obtain ⟨y, hy⟩ : ∃ y, IntKind.i64.wrap (1 + x) = y := ⟨_, rfl⟩
        have e3 : IntKind.i64.wrap ((3 + s.length : Nat) : Int) = y := by
          rw [← hy, ← hx2]
          have := w64_add 1 (2 + (s.length : Int))
          rw [show IntKind.i64.wrap 1 = 1 from by decide] at this
          rw [this]
          congr 1
          omega
        rw [e3]
        clear h12 hk4 hs3 e3
        go_enter Try.func66, Try.ntmps66
        go_wp2_with fail
        go_ret
        exact ⟨rfl, hfin⟩
      · have hs1 : sizeV (.mk k i f s l) = 1 := by unfold sizeV; rw [if_neg h12, if_neg h3, if_neg hk4]
        rw [hs1]
        have k1 : (k == 1) = false := by rw [beq_eq_false_iff_ne]; omega
        have k2 : (k == 2) = false := by rw [beq_eq_false_iff_ne]; omega
        have k3 : (k == 3) = false := by rw [beq_eq_false_iff_ne]; omega
        have k4 : (k == 4) = false := by rw [beq_eq_false_iff_ne]; omega
        clear h12 hk4 hs1
        go_enter Try.func66, Try.ntmps66
        go_wp2
        go_ret
        exact ⟨rfl, hfin⟩
/-- What a Check says of what kinds, great and Size say. -/
theorem checkV_cases (v : Val) : (strangeV v = true ∧ checkV v = 31) ∨ (strangeV v = false ∧ greatV v 8 = true ∧ checkV v = 22) ∨ (strangeV v = false ∧ greatV v 8 = false ∧ 4096 < sizeV v ∧ checkV v = 22) ∨ (strangeV v = false ∧ greatV v 8 = false ∧ sizeV v ≤ 4096 ∧ checkV v = 0) := by
  unfold checkV
  cases strangeV v
  · cases greatV v 8
    · by_cases h : 4096 < sizeV v
      · exact .inr (.inr (.inl ⟨rfl, rfl, h, by simp [h]⟩))
      · exact .inr (.inr (.inr ⟨rfl, rfl, by omega, by simp [h]⟩))
    · exact .inr (.inl ⟨rfl, rfl, rfl⟩)
  · exact .inl ⟨rfl, rfl⟩
set_option maxHeartbeats 800000 in
theorem val_check_any {w : World} {B : Nat} {v : Val} {cs : Array Value} (h : VReads w B v cs) (w1 : World) (hb1 : Below B w w1) (hB1 : B ≤ w1.heap.size) :
    Calls Try.prog 52 #[.agg cs] w1 (Says w1 (.int .i64 (checkV v : Int))) := by
  have hst := fun w2 (hb : Below w1.heap.size w1 w2) => val_strange h w2 (hb1.trans (hb.mono hB1)) (Nat.le_trans hB1 hb.size)
  have hgr := fun w2 (hb : Below w1.heap.size w1 w2) => val_great h 8 w2 (by omega) (by omega) (hb1.trans (hb.mono hB1)) (Nat.le_trans hB1 hb.size)
  have hsi := fun w2 (hb : Below w1.heap.size w1 w2) => val_size_any h w2 (hb1.trans (hb.mono hB1)) (Nat.le_trans hB1 hb.size)
  have hc := checkV_cases v
  have hw := @great_w64 v
  obtain ⟨k, i, f, s, A, n, c, hform⟩ := h.form
  rw [hform] at hst hgr hsi ⊢
  generalize strangeV v = b1 at *
  generalize greatV v 8 = b2 at *
  generalize checkV v = r at *
  generalize sizeV v = z at *
  obtain ⟨y, hy⟩ : ∃ y, IntKind.i64.wrap (z : Int) = y := ⟨_, rfl⟩
  rw [hy] at hsi hw
  replace hst := Lib.hid hst
  replace hgr := Lib.hid hgr
  replace hsi := Lib.hid hsi
  clear hform h hb1 hB1 hy
  have hS := SV.alloc w1 (Below.refl _ _) k i f s A n c
  go_enter Try.func52, Try.ntmps52
  go_wp2_with fail
  generalize w1.alloc (.cells #[.int .i64 k, .int .i64 i, .float .f64 f, .string s, .slice A n c] 64) = w2 at hS ⊢
  generalize hb : w1.heap.size = b at hS ⊢
  replace hb := Lib.hid hb
  refine (hst.out w2 hS.2.2.2.2.2.1).mono ?_
  rintro e w3 ⟨rfl, hb3⟩
  dsimp only
  have hS3 : SV b k i f s A n c w1 w3 := hS.below hb3
  obtain ⟨e0, e1, e2, e3, e4, e5, e6⟩ := id hS3
  rcases hc with ⟨rfl, rfl⟩ | ⟨rfl, rfl, rfl⟩ | ⟨rfl, rfl, hz, rfl⟩ | ⟨rfl, rfl, hz, rfl⟩
  · go_wp2_with fail
    go_ret
    exact ⟨rfl, e5⟩
  · go_wp2_with fail
    refine (hgr.out w3 e5).mono ?_
    rintro e w4 ⟨rfl, hb4⟩
    dsimp only
    have hb4' := below_then hb4 e5
    clear e0 e1 e2 e3 e4 e5 e6
    go_wp2_with fail
    go_ret
    exact ⟨rfl, hb4'⟩
  all_goals
    have hy := hw rfl
    subst hy
    go_wp2_with fail
    refine (hgr.out w3 e5).mono ?_
    rintro e w4 ⟨rfl, hb4⟩
    dsimp only
    have hS4 : SV b k i f s A n c w1 w4 := hS3.below hb4
    clear e0 e1 e2 e3 e4 e5 e6
    obtain ⟨e0, e1, e2, e3, e4, e5, e6⟩ := id hS4
    go_wp2_with fail
    refine (hsi.out w4 e5).mono ?_
    rintro e w5 ⟨rfl, hb5⟩
    dsimp only
    have hb5' := below_then hb5 e5
  · have hzi : (4096 : Int) < (z : Int) := by omega
    go_wp2_with fail
    go_ret
    exact ⟨rfl, hb5'⟩
  · have hzi : (z : Int) ≤ 4096 := by omega
    go_wp2_with fail
    go_ret
    exact ⟨rfl, hb5'⟩
end Go.Proofs.Ytlkokkbikkbaoaa
namespace Go.Proofs.Ytlkokkbikkbaoaa
set_option maxRecDepth 100000
open Go.RowKit
mutual
def cleanV : Val → Val
  | .mk k i f s l => if k = 1 then .mk 1 i 0 [] [] else if k = 2 then .mk 2 0 (cb f) [] [] else if k = 3 then .mk 3 0 0 s [] else if k = 4 then .mk 4 0 0 [] (cleanL l) else .mk 0 0 0 [] []
def cleanL : List Val → List Val
  | [] => []
  | v :: l => cleanV v :: cleanL l
end
theorem cleanL_map (l : List Val) : cleanL l = l.map cleanV := by
  induction l with
  | nil => rfl
  | cons v l ih => simp [cleanL, ih]
theorem ref_canon (x : Nat) (w : World) : Calls Try.prog 46 #[.float .f64 x] w fun e w' => e = .returned (.float .f64 (cb x)) ∧ w = w' := by
  have ho := order_self x
  have hcan : ∀ w, (callFunc 54 #[.int .u64 9221120237041090561]).run Try.prog w = .ok (.value (.float .f64 9221120237041090561)) w := fun w => run_frombits 9221120237041090561 w
  by_cases h : nanB x = true
  · rw [h] at ho
    have hc : cb x = 9221120237041090561 := by unfold cb; rw [if_pos h]
    rw [hc]
    clear h hc
    go_enter Try.func46, Try.ntmps46
    go_wp2
    go_ret
    exact ⟨rfl, rfl⟩
  · rw [Bool.not_eq_true] at h
    rw [h] at ho
    have hc : cb x = x := by unfold cb; rw [h]; rfl
    rw [hc]
    clear h hc
    go_enter Try.func46, Try.ntmps46
    go_wp2
    go_ret
    exact ⟨rfl, rfl⟩
theorem ref_bits (x : Nat) (w : World) : Calls Try.prog 63 #[.float .f64 x] w fun e w' => e = .returned (.int .u64 (cb x : Int)) ∧ w = w' := by
  obtain ⟨y, hy⟩ : ∃ y, cb x = y := ⟨_, rfl⟩
  have hc := ref_canon x w
  have hb := fun w => run_bits y w
  rw [hy] at hc ⊢
  clear hy
  go_enter Try.func63, Try.ntmps63
  go_wp2_with fail
  refine hc.mono ?_
  rintro e w2 ⟨rfl, rfl⟩
  dsimp only
  go_wp2_with fail
  go_ret
  exact ⟨rfl, rfl⟩
/-- A row of values that a walk fills, one behind another. -/
structure VRow (w : World) (b : Nat) (l : List Val) (A : Option Addr) (c : Nat) (xs : List Value) (css : Nat → Array Value) : Prop where
  ho : Own w 64 5 A l.length c xs
  hA : ∀ g, bOf A = some g → b ≤ g
  hx : ∀ k v, l[k]? = some v → VOwn w (fun g => b ≤ g ∧ some g ≠ bOf A) v (css k)
  hxs : ∀ k, k < l.length → (xs.drop (k * 5)).take 5 = (css k).toList
theorem VRow.nil (w : World) (b : Nat) : VRow w b [] none 0 [] (fun _ => #[]) := ⟨Own.none_, by simp [bOf], by simp, by simp⟩
/-- A value that a call made, appended. -/
theorem VRow.push {w w6 w7 w8 : World} {b c c8 : Nat} {l : List Val} {A A8 : Option Addr} {xs : List Value} {css : Nat → Array Value} {v : Val} {cs : Array Value} {T : Nat → Prop} (R : VRow w b l A c xs css) (hb : b ≤ w.heap.size)
    (hu6 : Upd T w w6) (hT : ∀ g, T g → g < b) (hv : VOwn w6 (fun g => w.heap.size ≤ g) v cs) (h7 : ∃ o, w7 = w6.alloc o) (ho8 : Own w8 64 5 A8 (l.length + 1) c8 (xs ++ cs.toList)) (hg8 : w7.grownBy w8 (bOf A)) (hat8 : bOf A8 = bOf A ∨ bOf A8 = some w7.heap.size) :
    VRow w8 b (l ++ [v]) A8 c8 (xs ++ cs.toList) (fun k => if k = l.length then cs else css k) := by
  obtain ⟨o, rfl⟩ := h7
  have hAl : ∀ g, bOf A = some g → g < w.heap.size := fun g hg => R.ho.lt hg
  have hw6 : w.heap.size ≤ w6.heap.size := hu6.size
  have hw7 : (w6.alloc o).heap.size = w6.heap.size + 1 := by simp
  have hA8 : ∀ g, bOf A8 = some g → b ≤ g := by
    rcases hat8 with e | e
    · rw [e]; exact R.hA
    · intro g hg
      rw [e, hw7] at hg
      cases hg
      omega
  have hfresh : ∀ g, g < w6.heap.size → some g ≠ bOf A → some g ≠ bOf A8 := by
    intro g hg hne
    rcases hat8 with e | e
    · rw [e]; exact hne
    · rw [e, hw7]
      intro e2
      cases e2
      omega
  have hu8 : Upd (fun x => T x ∨ some x = bOf A) w w8 := (((hu6.mono (T := fun x => T x ∨ some x = bOf A) (fun _ _ h => .inl h))).alloc o).grown hg8 (fun k e _ => .inr e.symm)
  have hu68 : Upd (fun x => some x = bOf A) w6 w8 := ((Upd.refl _ w6).alloc o).grown hg8 (fun k e _ => e.symm)
  have hxl : xs.length = l.length * 5 := R.ho.1
  refine ⟨by simpa using ho8, hA8, ?_, ?_⟩
  · intro k u hku
    by_cases hk : k < l.length
    · rw [List.getElem?_append_left hk] at hku
      show VOwn _ _ u (if k = l.length then _ else css k)
      rw [if_neg (by omega)]
      refine ((((R.hx k u hku).mono (Q := fun g => (b ≤ g ∧ some g ≠ bOf A) ∧ g < w.heap.size) (fun g h1 h2 => ⟨h2, h1⟩))).upd hu8 (fun g hg e => ?_)).mono (fun g _ hg => ⟨hg.1.1, hfresh g (by omega) hg.1.2⟩)
      rcases e with e | e
      · have := hT g e; omega
      · exact hg.1.2 e
    · rw [List.getElem?_append_right (by omega)] at hku
      have hk0 : k = l.length := by
        have := (List.getElem?_eq_some_iff.1 hku).1
        simp at this; omega
      subst hk0
      simp at hku
      subst hku
      show VOwn _ _ v (if l.length = l.length then _ else _)
      rw [if_pos rfl]
      refine ((hv.mono (Q := fun g => w.heap.size ≤ g ∧ g < w6.heap.size) (fun g h1 h2 => ⟨h2, h1⟩)).upd hu68 (fun g hg e => ?_)).mono (fun g _ hg => ⟨by omega, hfresh g hg.2 (fun e => by have := hAl g e.symm; omega)⟩)
      have := hAl g e.symm; omega
  · intro k hk
    show _ = (if k = l.length then _ else css k).toList
    by_cases hk2 : k < l.length
    · rw [if_neg (by omega), ← R.hxs k hk2, List.drop_append_of_le_length (by omega), List.take_append_of_le_length (by rw [List.length_drop, hxl]; omega)]
    · have hk0 : k = l.length := by simp at hk; omega
      subst hk0
      rw [if_pos rfl, ← hxl, List.drop_left]
      have := hv.size
      rw [List.take_of_length_le (by simp [this])]
theorem VRow.own {w : World} {b : Nat} {l : List Val} {A : Option Addr} {c : Nat} {xs : List Value} {css : Nat → Array Value} (R : VRow w b l A c xs css) (hn : l.length ≤ 2199023255488) (k i : Int) (f : Nat) (s : List UInt8) : VOwn w (fun g => b ≤ g) (.mk k i f s l) #[.int .i64 k, .int .i64 i, .float .f64 f, .string (bstr s), .slice A l.length c] :=
  .mk css hn R.ho R.hA (fun j v hv => (R.hx j v hv).mono (fun g _ hg => hg.1)) R.hxs
theorem VRow.upd {w w' : World} {b : Nat} {l : List Val} {A : Option Addr} {c : Nat} {xs : List Value} {css : Nat → Array Value} {S : Nat → Prop} (R : VRow w b l A c xs css) (hu : Upd S w w') (hS : ∀ g, b ≤ g → ¬ S g) : VRow w' b l A c xs css :=
  ⟨R.ho.upd hu (fun g hg => hS g (R.hA g hg)), R.hA, fun k v hv => (R.hx k v hv).upd hu (fun g hg => hS g hg.1), R.hxs⟩
/-- What Clean tells of a value. -/
def CleanRes (w : World) (v : Val) (e : Ending) (w' : World) : Prop := ∃ cs, e = .returned (.agg cs) ∧ VOwn w' (fun g => w.heap.size ≤ g) (cleanV v) cs ∧ Below w.heap.size w w'
/-- No list of it is longer than memory may hold. -/
inductive ShortV : Val → Prop
  | mk {k i : Int} {f : Nat} {s : List UInt8} {l : List Val} (h1 : k = 4 → l.length ≤ 2199023255488) (h2 : k = 4 → ∀ v, v ∈ l → ShortV v) : ShortV (.mk k i f s l)
end Go.Proofs.Ytlkokkbikkbaoaa
namespace Go.Proofs.Ytlkokkbikkbaoaa
set_option maxRecDepth 100000
open Go.RowKit
theorem ref_bits' (x : Nat) (w : World) : Calls Try.prog 63 #[.float .f64 x] w fun e w' => e = .returned (.int .u64 (cb x : Int)) ∧ w' = w :=
  (ref_bits x w).mono fun _ _ ⟨h1, h2⟩ => ⟨h1, h2.symm⟩
theorem cell_keep {w w' : World} {p : Addr} {u : Value} (hb : Below w.heap.size w w') (h : w.cell? p = some u) : w'.cell? p = some u := (hb.cell (World.block_lt_of_cell? w p h)).trans h
set_option maxHeartbeats 3200000 in
theorem same_true {w : World} {B : Nat} {v : Val} {cs : Array Value} (h : VReads w B v cs) : ∀ (cs' : Array Value) (w1 : World), VReads w B v cs' → Below B w w1 → B ≤ w1.heap.size → Calls Try.prog 51 #[.agg cs, .agg cs'] w1 (Says w1 (.bool true)) := by
  induction h with
  | @mk k i f s l A c xs css hn hr hx hxs ih =>
    intro cs' w1 h' hb1 hB1
    obtain ⟨css', hn', hr', hx', hxs'⟩ := h'
    rename_i A' c' xs'
    have hS := SV.alloc w1 (Below.refl _ _) k i f (bstr s) A l.length c
    have hfin := (Below.refl w1.heap.size w1).alloc (Nat.le_refl _) (.cells #[.int .i64 k, .int .i64 i, .float .f64 f, .string (bstr s), .slice A l.length c] 64)
    have hS' := SV.alloc (w0 := w1) (w1.alloc (.cells #[.int .i64 k, .int .i64 i, .float .f64 f, .string (bstr s), .slice A l.length c] 64)) hfin k i f (bstr s) A' l.length c'
    have hfin2 := hfin.alloc hfin.size (.cells #[.int .i64 k, .int .i64 i, .float .f64 f, .string (bstr s), .slice A' l.length c'] 64)
    have hsz : (w1.alloc (.cells #[.int .i64 k, .int .i64 i, .float .f64 f, .string (bstr s), .slice A l.length c] 64)).heap.size = w1.heap.size + 1 := by simp
    rw [hsz] at hS'
    have hS2 := hS.below ((Below.refl _ _).alloc (Nat.le_refl _) (.cells #[.int .i64 k, .int .i64 i, .float .f64 f, .string (bstr s), .slice A' l.length c'] 64))
    have hb2 := hb1.trans (hfin2.mono hB1)
    have hB2 := Nat.le_trans hB1 hfin2.size
    replace ih := Lib.hid ih
    have k0 : (k != k) = false := by simp
    have i0 : (i != i) = false := by simp
    have s0 : decide (bstr s = bstr s) = true := decide_eq_true rfl
    obtain ⟨y, hy⟩ : ∃ y, cb f = y := ⟨_, rfl⟩
    have hbit := fun w => ref_bits' f w
    rw [hy] at hbit
    have y0 : ((y : Int) != (y : Int)) = false := by simp
    have l0 : ((l.length : Int) != (l.length : Int)) = false := by simp
    generalize bstr s = sb at *
    clear hS hfin hy
    go_enter Try.func51, Try.ntmps51
    go_wp2_with fail
    generalize (w1.alloc (.cells #[.int .i64 k, .int .i64 i, .float .f64 f, .string sb, .slice A l.length c] 64)).alloc (.cells #[.int .i64 k, .int .i64 i, .float .f64 f, .string sb, .slice A' l.length c'] 64) = w2 at *
    have hSS := Lib.hid hS2
    have hSS' := Lib.hid hS'
    obtain ⟨e0, e1, e2, e3, e4, -, -⟩ := hS2
    obtain ⟨f0, f1, f2, f3, f4, -, -⟩ := hS'
    go_quiet (refine (hbit _).mono (fun e w'' hh => ⟨hh.1, _, hh.2⟩))
    clear e0 e1 e2 e3 e4 f0 f1 f2 f3 f4 hbit k0 i0 s0 y0 l0
    go_wp2_with fail
    have hbq : ∀ n, Below w2.heap.size w2 (w2.drewN n) := fun n => below_drewN (Below.refl _ _) n
    go_loopw [5] (fun i wr => ∃ j : Nat, j ≤ l.length ∧ i = .int .i64 (j : Int) ∧ Below w2.heap.size w2 wr) (fun i _ => l.length - (intOf i).toNat)
    case atStart => exact ⟨0, Nat.zero_le _, rfl, hbq _⟩
    case round =>
      rename_i hrel
      obtain ⟨j, hj, rfl, hb⟩ := hrel
      obtain ⟨-, -, -, -, e4, -, -⟩ := hSS.out.below hb
      obtain ⟨-, -, -, -, f4, -, -⟩ := hSS'.out.below hb
      by_cases hlt : j < l.length
      · have hbb : Below B w wr := hb2.trans (hb.mono hB2)
        obtain ⟨ad, k1, i1, f1, s1, A1, n1, c1, rfl, hform, hgk, g0, g1, g2, g3, g4⟩ := kid hr hx hxs hbb hlt
        obtain ⟨ad', k2, i2, f2, s2, A2, n2, c2, rfl, hform', -, d0, d1, d2, d3, d4⟩ := kid hr' hx' hxs' hbb hlt
        have hcl := fun w4 (hb4 : Below w2.heap.size w2 w4) => ih.out j l[j] hgk (css' j) w4 (hx' j l[j] hgk) (hb2.trans (hb4.mono hB2)) (Nat.le_trans hB2 hb4.size)
        rw [hform, hform'] at hcl
        replace hcl := Lib.hid hcl
        clear hform hform' hgk hbb
        have hS3 : (wr.drew.cell? ⟨w1.heap.size, 4, none⟩ = some (.slice (some ad) l.length c) ∧ wr.drew.cell? ⟨w1.heap.size + 1, 4, none⟩ = some (.slice (some ad') l.length c')) ∧ (wr.drew.cell? (ad.add (j * 5)) = some (.int .i64 k1) ∧ wr.drew.cell? ⟨(ad.add (j * 5)).block, (ad.add (j * 5)).off + 1, none⟩ = some (.int .i64 i1) ∧ wr.drew.cell? ⟨(ad.add (j * 5)).block, (ad.add (j * 5)).off + 2, none⟩ = some (.float .f64 f1) ∧ wr.drew.cell? ⟨(ad.add (j * 5)).block, (ad.add (j * 5)).off + 3, none⟩ = some (.string s1) ∧ wr.drew.cell? ⟨(ad.add (j * 5)).block, (ad.add (j * 5)).off + 4, none⟩ = some (.slice A1 n1 c1)) ∧ (wr.drew.cell? (ad'.add (j * 5)) = some (.int .i64 k2) ∧ wr.drew.cell? ⟨(ad'.add (j * 5)).block, (ad'.add (j * 5)).off + 1, none⟩ = some (.int .i64 i2) ∧ wr.drew.cell? ⟨(ad'.add (j * 5)).block, (ad'.add (j * 5)).off + 2, none⟩ = some (.float .f64 f2) ∧ wr.drew.cell? ⟨(ad'.add (j * 5)).block, (ad'.add (j * 5)).off + 3, none⟩ = some (.string s2) ∧ wr.drew.cell? ⟨(ad'.add (j * 5)).block, (ad'.add (j * 5)).off + 4, none⟩ = some (.slice A2 n2 c2)) ∧ Below w2.heap.size w2 wr.drew := ⟨⟨e4, f4⟩, ⟨g0, g1, g2, g3, g4⟩, ⟨d0, d1, d2, d3, d4⟩, hb.drew⟩
        go_wp2_with fail
        clear e4 f4 g0 g1 g2 g3 g4 d0 d1 d2 d3 d4
        refine wp_region_lex (fun W => (W.cell? ⟨w1.heap.size, 4, none⟩ = some (.slice (some ad) l.length c) ∧ W.cell? ⟨w1.heap.size + 1, 4, none⟩ = some (.slice (some ad') l.length c')) ∧ (W.cell? (ad.add (j * 5)) = some (.int .i64 k1) ∧ W.cell? ⟨(ad.add (j * 5)).block, (ad.add (j * 5)).off + 1, none⟩ = some (.int .i64 i1) ∧ W.cell? ⟨(ad.add (j * 5)).block, (ad.add (j * 5)).off + 2, none⟩ = some (.float .f64 f1) ∧ W.cell? ⟨(ad.add (j * 5)).block, (ad.add (j * 5)).off + 3, none⟩ = some (.string s1) ∧ W.cell? ⟨(ad.add (j * 5)).block, (ad.add (j * 5)).off + 4, none⟩ = some (.slice A1 n1 c1)) ∧ (W.cell? (ad'.add (j * 5)) = some (.int .i64 k2) ∧ W.cell? ⟨(ad'.add (j * 5)).block, (ad'.add (j * 5)).off + 1, none⟩ = some (.int .i64 i2) ∧ W.cell? ⟨(ad'.add (j * 5)).block, (ad'.add (j * 5)).off + 2, none⟩ = some (.float .f64 f2) ∧ W.cell? ⟨(ad'.add (j * 5)).block, (ad'.add (j * 5)).off + 3, none⟩ = some (.string s2) ∧ W.cell? ⟨(ad'.add (j * 5)).block, (ad'.add (j * 5)).off + 4, none⟩ = some (.slice A2 n2 c2)) ∧ Below w2.heap.size w2 W) [1, 4, 6, 9] [10] [0, 1, 2, 3, 4, 5, 6, 7, 8, 9, 10, 11] (by kernel_rfl) rfl (by kernel_rfl) (by kernel_rfl) (fun _ _ d _ _ h => by cases d <;> exact h) ?_
        repeat (first | (refine lexG_take _ ?_ rfl rfl rfl rfl (fun _ => ?_) ?_; rotate_left; (focus (go_simp; with_reducible rfl)); try simp only [Act.put, List.setIfInBounds_toArray, List.set_cons_zero, List.set_cons_succ]) | (refine lexG_held _ ?_ rfl rfl rfl rfl (by assumption) (fun _ hSw => ?_) ?_; rotate_left; (focus ((try dsimp only at hSw); go_simp; with_reducible rfl)); try simp only [Act.put, List.setIfInBounds_toArray, List.set_cons_zero, List.set_cons_succ]) | (refine lexG_skip _ rfl rfl (by assumption) ?_; try simp only [Act.put, List.setIfInBounds_toArray, List.set_cons_zero, List.set_cons_succ]))
        refine lexG_now _ rfl rfl rfl (fun K hK => ?_)
        go_wp2_with fail
        refine (hcl.out wr.drew hS3.2.2.2).mono ?_
        rintro e w4 ⟨rfl, hb4⟩
        dsimp only
        have hb4' := below_then hb4 hS3.2.2.2
        obtain ⟨⟨e4, f4⟩, ⟨g0, g1, g2, g3, g4⟩, ⟨d0, d1, d2, d3, d4⟩, -⟩ := hS3
        refine hK _ _ _ (fun _ h => h) ⟨⟨cell_keep hb4 e4, cell_keep hb4 f4⟩, ⟨cell_keep hb4 g0, cell_keep hb4 g1, cell_keep hb4 g2, cell_keep hb4 g3, cell_keep hb4 g4⟩, ⟨cell_keep hb4 d0, cell_keep hb4 d1, cell_keep hb4 d2, cell_keep hb4 d3, cell_keep hb4 d4⟩, hb4'⟩ ?_
        clear hK K e4 f4 g0 g1 g2 g3 g4 d0 d1 d2 d3 d4 hb4
        try simp only [Act.put, List.setIfInBounds_toArray, List.set_cons_zero, List.set_cons_succ]
        repeat (first | (refine lexG_take _ ?_ rfl rfl rfl rfl (fun _ => ?_) ?_; rotate_left; (focus (go_simp; with_reducible rfl)); try simp only [Act.put, List.setIfInBounds_toArray, List.set_cons_zero, List.set_cons_succ]) | (refine lexG_held _ ?_ rfl rfl rfl rfl (by assumption) (fun _ hSw => ?_) ?_; rotate_left; (focus ((try dsimp only at hSw); go_simp; with_reducible rfl)); try simp only [Act.put, List.setIfInBounds_toArray, List.set_cons_zero, List.set_cons_succ]) | (refine lexG_skip _ rfl rfl (by assumption) ?_; try simp only [Act.put, List.setIfInBounds_toArray, List.set_cons_zero, List.set_cons_succ]))
        refine lexG_nil ?_
        go_wp2_with fail
        go_roundw
        case rel => exact ⟨j + 1, by omega, by simp, by assumption⟩
        case measure => simp [intOf]; omega
      · have hj' : j = l.length := by omega
        subst hj'
        go_wp2_with fail
        go_ret
        exact ⟨rfl, below_then hb hfin2⟩
end Go.Proofs.Ytlkokkbikkbaoaa
