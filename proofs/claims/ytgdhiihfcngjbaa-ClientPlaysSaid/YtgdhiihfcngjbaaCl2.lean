/- client.wrong, and whether one of a row's values is; an open call of the stub's row; the search of Recv. -/
import Derived.Test.YtgdhiihfcngjbaaCl1
import Derived.Test.YtgdhiihfcngjbaaSt9
set_option linter.unusedSimpArgs false
set_option linter.unusedVariables false
namespace Go.Proofs.Ytgdhiihfcngjbaa
open Go.RowKit
set_option maxRecDepth 100000

theorem wrong_walk {w : World} {B : Nat} {v : Val} {cs : Array Value} (h : VReads w B v cs) (w1 : World) (hb1 : Below B w w1) (hB1 : B ≤ w1.heap.size) :
    Calls Try.prog 25 #[.agg cs] w1 (Says w1 (.bool (decide (checkV v ≠ 0)))) := by
  obtain ⟨k, i, f, s, A, n, c, rfl⟩ := h.form
  have hb2 := (Below.refl w1.heap.size w1).alloc (Nat.le_refl _) (.cells #[.int .i64 k, .int .i64 i, .float .f64 f, .string s, .slice A n c] 37)
  have hx := Blk.new w1 37 #[.int .i64 k, .int .i64 i, .float .f64 f, .string s, .slice A n c]
  have hck := val_check_any h (w1.alloc (.cells #[.int .i64 k, .int .i64 i, .float .f64 f, .string s, .slice A n c] 37)) (hb1.trans (hb2.mono hB1)) (Nat.le_trans hB1 hb2.size)
  replace hck := Lib.hid hck
  obtain ⟨y, hy⟩ : ∃ y, checkV v = y := ⟨_, rfl⟩
  rw [hy] at hck ⊢
  clear hy h
  go_enter Try.func25, Try.ntmps25
  go_wp2_with fail
  refine hck.out.mono ?_
  rintro e w2 ⟨rfl, hb3⟩
  dsimp only
  have hbe := hb3.mono hb2.size |> fun h => hb2.trans h
  by_cases h0 : y = 0
  · subst h0
    go_wp2_with fail
    go_ret
    exact ⟨rfl, hbe⟩
  · have e1 : ((y : Int) != 0) = true := by rw [bne_iff_ne]; omega
    have e2 : decide (y ≠ 0) = true := decide_eq_true h0
    try rw [e2]
    go_wp2_with fail
    go_ret
    exact ⟨by simp [h0], hbe⟩
set_option maxHeartbeats 800000 in
theorem index_wrong {A : Option Addr} {c B : Nat} {l : List Val} {xs : List Value} {css : Nat → Array Value} {p : Val → Bool} {w : World} (hr : Reads w B 5 A l.length xs) (hB : B ≤ w.heap.size) (hxs : ∀ j, j < l.length → (xs.drop (j * 5)).take 5 = (css j).toList) (hv : ∀ j v, l[j]? = some v → VReads w B v (css j)) (hlen : l.length ≤ 140737488351232)
    (hcall : ∀ j v, l[j]? = some v → ∀ w1, Below w.heap.size w w1 → Calls Try.prog 25 #[.agg (css j)] w1 (Says w1 (.bool (p v)))) :
    Calls Try.prog 38 #[.slice A l.length c, .func (Fn.func 25) #[] #[]] w (IdxRes w p l) := by
  replace hcall := Lib.hid hcall
  go_enter Try.func38, Try.ntmps38
  go_wp2_with fail
  go_loopw [8] (fun i wr => ∃ k : Nat, k ≤ l.length ∧ i = .int .i64 (k : Int) ∧ (l.take k).any p = false ∧ Below w.heap.size w wr) (fun i _ => l.length - (intOf i).toNat)
  case atStart => exact ⟨0, Nat.zero_le _, rfl, by simp, Below.refl _ _⟩
  case round =>
    rename_i hrel
    obtain ⟨k, hk, rfl, hany, hb⟩ := hrel
    by_cases hlt : k < l.length
    · obtain ⟨ad, rfl, -, -⟩ := hr.2 (by omega)
      have hgk : l[k]? = some l[k] := List.getElem?_eq_getElem hlt
      obtain ⟨k', i', f', s', A', n', c', hform⟩ := (hv k l[k] hgk).form
      have hc5 := hxs k hlt
      rw [hform] at hc5
      obtain ⟨g0, g1, g2, g3, g4⟩ := elem_cells (hr.below (hb.mono hB)) hlt hc5
      have hcl := hcall.out k l[k] hgk wr hb
      rw [hform] at hcl
      have htk : (l.take (k + 1)).any p = ((l.take k).any p || p l[k]) := by rw [List.take_succ_eq_append_getElem hlt, List.any_append]; simp
      have hall : p l[k] = true → l.any p = true := fun hp => List.any_eq_true.2 ⟨l[k], List.getElem_mem hlt, hp⟩
      generalize p l[k] = q at hcl htk hall
      replace hany := Lib.hid hany
      replace htk := Lib.hid htk
      replace hall := Lib.hid hall
      clear hform hc5 hgk
      go_wp2_with fail
      refine hcl.mono ?_
      clear hcl
      rintro e w2 ⟨rfl, hb2⟩
      dsimp only
      have hb2' := below_then hb2 hb
      cases q
      · go_wp2_with fail
        go_roundw
        case rel => exact ⟨k + 1, by omega, by simp, by rw [htk.out, hany.out]; rfl, by assumption⟩
        case measure => simp [intOf]; omega
      · go_wp2_with fail
        go_ret
        exact ⟨_, rfl, by rw [hall.out (by trivial)]; exact decide_eq_true (by omega), hb2'⟩
    · have hk' : k = l.length := by omega
      subst hk'
      rw [List.take_length] at hany
      replace hany := Lib.hid hany
      go_wp2_with fail
      go_ret
      exact ⟨_, rfl, by rw [hany.out]; simp, hb⟩
theorem contains_wrong {A : Option Addr} {c B : Nat} {l : List Val} {xs : List Value} {css : Nat → Array Value} {p : Val → Bool} {w : World} (hr : Reads w B 5 A l.length xs) (hB : B ≤ w.heap.size) (hxs : ∀ j, j < l.length → (xs.drop (j * 5)).take 5 = (css j).toList) (hv : ∀ j v, l[j]? = some v → VReads w B v (css j)) (hlen : l.length ≤ 140737488351232)
    (hcall : ∀ j v, l[j]? = some v → ∀ w1, Below w.heap.size w w1 → Calls Try.prog 25 #[.agg (css j)] w1 (Says w1 (.bool (p v)))) :
    Calls Try.prog 24 #[.slice A l.length c, .func (Fn.func 25) #[] #[]] w (Says w (.bool (l.any p))) := by
  have hidx := Lib.hid (index_wrong (c := c) hr hB hxs hv hlen hcall)
  clear hr hxs hv hcall
  go_enter Try.func24, Try.ntmps24
  go_wp2_with fail
  refine hidx.out.mono ?_
  rintro e w1 ⟨z, rfl, hz, hb⟩
  dsimp only
  replace hz := Lib.hid hz
  go_wp2_with fail
  go_ret
  refine ⟨?_, hb⟩
  rw [← hz.out]
  rfl

/-- An open call of the stub's row, cell by cell. -/
theorem StubX.cells {w : World} {F : Nat → Prop} {g : Nat} {d : CliD} {A : Option Addr} {c : Nat} {A2 : Option Addr} {c2 : Nat} {xs xs2 : List Value} {css css2 : Nat → Array Value} (h : StubX w F g d A c A2 c2 xs xs2 css css2) {j : Nat} {x : OpnD} (hj : d.op[j]? = some x) :
    ∃ gA A1 c1, A = some ⟨gA, 0, none⟩ ∧ css j = #[.int .u32 (x.o.c : Int), .int .u32 (x.o.s : Int), .int .u16 (x.o.n : Int), .string (bstr x.o.g), .string (bstr x.o.m), .slice A1 x.o.l.length c1] ∧
      w.cell? ⟨gA, j * 8, none⟩ = some (.int .u32 (x.o.c : Int)) ∧ w.cell? ⟨gA, j * 8 + 1, none⟩ = some (.int .u32 (x.o.s : Int)) ∧ w.cell? ⟨gA, j * 8 + 2, none⟩ = some (.int .u16 (x.o.n : Int)) ∧ w.cell? ⟨gA, j * 8 + 3, none⟩ = some (.string (bstr x.o.g)) ∧ w.cell? ⟨gA, j * 8 + 4, none⟩ = some (.string (bstr x.o.m)) ∧ w.cell? ⟨gA, j * 8 + 5, none⟩ = some (.slice A1 x.o.l.length c1) ∧ w.cell? ⟨gA, j * 8 + 6, none⟩ = some (.int .i64 (x.age : Int)) ∧ w.cell? ⟨gA, j * 8 + 7, none⟩ = some (.bool x.now) ∧ x.o.c < 4294967296 ∧ x.o.s < 4294967296 ∧ x.o.n < 65536 := by
  have hjl : j < d.op.length := by
    rcases Nat.lt_or_ge j d.op.length with h' | h'
    · exact h'
    · rw [List.getElem?_eq_none h'] at hj; cases hj
  obtain ⟨gA, cur, rfl, hcur, hle, htk, -⟩ := h.ho.open_s (by omega)
  obtain ⟨A1, c1, ys, cs1, hcs, -, -, -, -, -, h3, h4, h5⟩ := (h.hx j x hj).reads
  have hx := h.hxs j x hj
  rw [hcs] at hx
  have hc : ∀ t v, t < 8 → ([Value.int .u32 (x.o.c : Int), .int .u32 (x.o.s : Int), .int .u16 (x.o.n : Int), .string (bstr x.o.g), .string (bstr x.o.m), .slice A1 x.o.l.length c1, .int .i64 (x.age : Int), .bool x.now] : List Value)[t]? = some v → w.cell? ⟨gA, j * 8 + t, none⟩ = some v := fun t v ht hv => by
    rw [hcur.cell]
    have h1 := window hx t ht
    rw [← htk, List.getElem?_take, if_pos (by omega)] at h1
    rw [show cur[j * 8 + t]? = cur.toList[j * 8 + t]? by simp, h1]
    exact hv
  exact ⟨gA, A1, c1, rfl, hcs, hc 0 _ (by decide) rfl, hc 1 _ (by decide) rfl, hc 2 _ (by decide) rfl, hc 3 _ (by decide) rfl, hc 4 _ (by decide) rfl, hc 5 _ (by decide) rfl, hc 6 _ (by decide) rfl, hc 7 _ (by decide) rfl, h3, h4, h5⟩
def isId (c s n : Nat) (x : OpnD) : Bool := x.o.c == c && (x.o.s == s && x.o.n == n)
def idxO (l : List OpnD) (c s n : Nat) : Int := match l.findIdx? (isId c s n) with | some j => (j : Int) | none => -1
theorem recv_is (w : World) {c s n a b m : Nat} {gg mm : ByteArray} {A1 : Option Addr} {L c1 p : Nat} {age : Int} {now : Bool} (h0 : w.cell? ⟨p, 0, none⟩ = some (.int .u32 (c : Int))) (h1 : w.cell? ⟨p, 1, none⟩ = some (.int .u32 (s : Int))) (h2 : w.cell? ⟨p, 2, none⟩ = some (.int .u16 (n : Int))) (hp : p < w.heap.size) :
    Calls Try.prog 28 #[.agg #[.int .u32 (a : Int), .int .u32 (b : Int), .int .u16 (m : Int), .string gg, .string mm, .slice A1 L c1, .int .i64 age, .bool now], .pointer (some ⟨p, 0, none⟩)] w (Says w (.bool (a == c && (b == s && m == n)))) := by
  have hb2 := (Below.refl w.heap.size w).alloc (Nat.le_refl _) (.cells #[.int .u32 (a : Int), .int .u32 (b : Int), .int .u16 (m : Int), .string gg, .string mm, .slice A1 L c1, .int .i64 age, .bool now] 72)
  obtain ⟨q, hq⟩ : ∃ q, (a == c && (b == s && m == n)) = q := ⟨_, rfl⟩
  rw [hq]
  replace hb2 := Lib.hid hb2
  replace hq := Lib.hid hq
  go_enter Try.func28, Try.ntmps28
  go_wp2_with fail
  all_goals (have hq' := hq.out)
  all_goals (rw [← hq'])
  all_goals (go_ret)
  all_goals (refine ⟨?_, ?_⟩)
  all_goals first | (simp; omega) | (simp only [*] at *; exact hb2.out) | skip
end Go.Proofs.Ytgdhiihfcngjbaa
