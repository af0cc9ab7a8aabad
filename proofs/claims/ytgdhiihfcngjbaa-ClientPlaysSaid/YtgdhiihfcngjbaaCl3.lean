/- The search of Recv among the open calls; Open. -/
import Derived.Test.YtgdhiihfcngjbaaCl2
import Derived.Deep.CutRange
set_option linter.unusedSimpArgs false
set_option linter.unusedVariables false
namespace Go.Proofs.Ytgdhiihfcngjbaa
open Go.RowKit
set_option maxRecDepth 100000

theorem StubX.below {w : World} {F : Nat → Prop} {g : Nat} {d : CliD} {A : Option Addr} {c : Nat} {A2 : Option Addr} {c2 : Nat} {xs xs2 : List Value} {css css2 : Nat → Array Value} {W : World} (h : StubX w F g d A c A2 c2 xs xs2 css css2) (hb : Below w.heap.size w W) : StubX W F g d A c A2 c2 xs xs2 css css2 :=
  h.keep (Upd.of_below_size (S := fun _ => False) hb) (fun _ _ hf => hf)
/-- What a search for an id tells. -/
def FoundO (l : List OpnD) (c s n : Nat) (z : Int) : Prop :=
  (z = -1 ∧ ∀ x ∈ l, isId c s n x = false) ∨ ∃ (k : Nat) (x : OpnD), z = (k : Int) ∧ l[k]? = some x ∧ isId c s n x = true ∧ ∀ y ∈ l.take k, isId c s n y = false
set_option maxHeartbeats 1600000 in
theorem idx_open {w : World} {F : Nat → Prop} {g : Nat} {d : CliD} {A : Option Addr} {c : Nat} {A2 : Option Addr} {c2 : Nat} {xs xs2 : List Value} {css css2 : Nat → Array Value} (h : StubX w F g d A c A2 c2 xs xs2 css css2) {p rc rs rn : Nat} (hp : p < w.heap.size) (h0 : w.cell? ⟨p, 0, none⟩ = some (.int .u32 (rc : Int))) (h1 : w.cell? ⟨p, 1, none⟩ = some (.int .u32 (rs : Int))) (h2 : w.cell? ⟨p, 2, none⟩ = some (.int .u16 (rn : Int))) :
    Calls Try.prog 27 #[.slice A d.op.length c, .func (Fn.func 28) #[] #[.pointer (some ⟨p, 0, none⟩)]] w (fun e w' => ∃ z, e = .returned (.int .i64 z) ∧ FoundO d.op rc rs rn z ∧ Below w.heap.size w w') := by
  have hn := h.hn
  obtain ⟨N, hN⟩ : ∃ N, d.op.length = N := ⟨_, rfl⟩
  rw [hN] at hn ⊢
  have hrc := fun W (hW : Below w.heap.size w W) {a b m L c1 : Nat} {gg mm : ByteArray} {A1 : Option Addr} {age : Int} {now : Bool} => recv_is (a := a) (b := b) (m := m) (gg := gg) (mm := mm) (A1 := A1) (L := L) (c1 := c1) (age := age) (now := now) W ((hW.cell (p := ⟨p, _, none⟩) hp).trans h0) ((hW.cell (p := ⟨p, _, none⟩) hp).trans h1) ((hW.cell (p := ⟨p, _, none⟩) hp).trans h2) (Nat.lt_of_lt_of_le hp hW.size)
  replace hrc := Lib.hid hrc
  replace hN := Lib.hid hN
  replace h := Lib.hid h
  clear h0 h1 h2
  go_enter Try.func27, Try.ntmps27
  go_wp2_with fail
  go_loopw [8] (fun i wr => ∃ k : Nat, k ≤ N ∧ i = .int .i64 (k : Int) ∧ (∀ y ∈ d.op.take k, isId rc rs rn y = false) ∧ Below w.heap.size w wr) (fun i _ => N - (intOf i).toNat)
  case atStart => exact ⟨0, Nat.zero_le _, rfl, by simp, Below.refl _ _⟩
  case round =>
    rename_i hrel
    obtain ⟨k, hk, rfl, hany, hb⟩ := hrel
    by_cases hlt : k < N
    · have hgk : d.op[k]? = some (d.op[k]'(by rw [hN.out]; exact hlt)) := List.getElem?_eq_getElem _
      generalize d.op[k]'(by rw [hN.out]; exact hlt) = x at hgk
      have htk : d.op.take (k + 1) = d.op.take k ++ [x] := by rw [List.take_add_one, hgk]; rfl
      obtain ⟨gA, A1, c1, rfl, -, g0, g1, g2, g3, g4, g5, g6, g7, -, -, -⟩ := (h.out.below hb).cells hgk
      have hcl := hrc.out wr hb (a := x.o.c) (b := x.o.s) (m := x.o.n) (gg := bstr x.o.g) (mm := bstr x.o.m) (A1 := A1) (L := x.o.l.length) (c1 := c1) (age := (x.age : Int)) (now := x.now)
      obtain ⟨q, hq⟩ : ∃ q, isId rc rs rn x = q := ⟨_, rfl⟩
      have hq' : (x.o.c == rc && (x.o.s == rs && x.o.n == rn)) = q := hq
      rw [hq'] at hcl
      have hd : decide ((k : Int) < (N : Int)) = true := decide_eq_true (by omega)
      have hkw : IntKind.i64.wrap ((k : Int) + 1) = (k : Int) + 1 := by rw [IntKind.wrap_i64]; omega
      obtain ⟨xo, xage, xnow⟩ := x
      obtain ⟨xc, xs_, xn, xg, xm, xl⟩ := xo
      dsimp only at g0 g1 g2 g3 g4 g5 g6 g7 hcl
      obtain ⟨L, hL⟩ : ∃ L, xl.length = L := ⟨_, rfl⟩
      rw [hL] at g5 hcl
      replace hany := Lib.hid hany
      replace htk := Lib.hid htk
      replace hq := Lib.hid hq
      replace hgk := Lib.hid hgk
      clear hq' hL
      replace hcl := Lib.hid hcl
      go_wp2_with fail
      refine hcl.out.mono ?_
      clear hcl
      rintro e w2 ⟨rfl, hb2⟩
      dsimp only
      have hb2' := below_then hb2 hb
      cases q
      · go_wp2_with fail
        go_roundw
        case rel => exact ⟨k + 1, by omega, by simp, fun y hy => by
          rw [htk.out] at hy
          rcases List.mem_append.1 hy with h' | h'
          · exact hany.out y h'
          · cases List.mem_singleton.1 h'; exact hq.out, by assumption⟩
        case measure => simp [intOf]; omega
      · go_wp2_with fail
        go_ret
        exact ⟨_, rfl, .inr ⟨k, _, rfl, hgk.out, hq.out, hany.out⟩, hb2'⟩
    · have hk' : k = N := by omega
      have hd : decide ((k : Int) < (N : Int)) = false := decide_eq_false (by omega)
      have hal : ∀ y ∈ d.op, isId rc rs rn y = false := fun y hy => hany y (by rw [List.take_of_length_le (by rw [hN.out]; omega)]; exact hy)
      replace hal := Lib.hid hal
      replace hk' := Lib.hid hk'
      clear hany
      go_wp2_with fail
      go_ret
      exact ⟨_, rfl, .inl ⟨rfl, hal.out⟩, hb⟩

theorem info_id : (Try.prog.info? 29).map (fun i => (i.zero, i.size, i.bytes)) = some (some (.agg #[.int .u32 0, .int .u32 0, .int .u16 0]), 3, 12) := by kernel_rfl
def idV (x : OpnD) : List Value := [.int .u32 (x.o.c : Int), .int .u32 (x.o.s : Int), .int .u16 (x.o.n : Int)]
def idRow (l : List OpnD) : List Value := l.flatMap idV
set_option maxHeartbeats 3200000 in
theorem cl_open {w : World} {F : Nat → Prop} {g : Nat} {d : CliD} {A : Option Addr} {c : Nat} {A2 : Option Addr} {c2 : Nat} {xs xs2 : List Value} {css css2 : Nat → Array Value} (h : StubX w F g d A c A2 c2 xs xs2 css css2) :
    Calls Try.prog 10 #[.pointer (some ⟨g, 0, none⟩)] w (fun e w' => ∃ A' c', e = .returned (.slice A' d.op.length c') ∧ Own w' 29 3 A' d.op.length c' (idRow d.op) ∧ (∀ y, bOf A' = some y → w.heap.size ≤ y) ∧ Below w.heap.size w w') := by
  obtain ⟨i0, hi, hz0, hz1, hz2⟩ := info_parts info_id
  have hn := h.hn
  obtain ⟨N, hN⟩ : ∃ N, d.op.length = N := ⟨_, rfl⟩
  rw [hN] at hn ⊢
  have hg2 : w.cell? ⟨g, 2, none⟩ = some (.slice A N c) := by rw [← hN]; exact h.blk.cell 2
  replace hN := Lib.hid hN
  replace h := Lib.hid h
  go_enter Try.func10, Try.ntmps10
  go_wp2_with fail
  go_loopw [3, 11] (fun o i wr => ∃ (k : Nat) (A' : Option Addr) (c' : Nat), k ≤ N ∧ o = .slice A' k c' ∧ i = .int .i64 (k : Int) ∧ Own wr 29 3 A' k c' (idRow (d.op.take k)) ∧ (∀ y, bOf A' = some y → w.heap.size ≤ y) ∧ Below w.heap.size w wr) (fun _ i _ => N - (intOf i).toNat)
  case atStart => exact ⟨0, none, 0, Nat.zero_le _, rfl, rfl, Own.none_, by simp [bOf], Below.refl _ _⟩
  case round =>
    rename_i hrel
    obtain ⟨k, A', c', hk, rfl, rfl, ho, hA', hb⟩ := hrel
    by_cases hlt : k < N
    · have hgk : d.op[k]? = some (d.op[k]'(by rw [hN.out]; exact hlt)) := List.getElem?_eq_getElem _
      generalize d.op[k]'(by rw [hN.out]; exact hlt) = x at hgk
      have htk : idRow (d.op.take (k + 1)) = idRow (d.op.take k) ++ [.int .u32 (x.o.c : Int), .int .u32 (x.o.s : Int), .int .u16 (x.o.n : Int)] := by rw [List.take_add_one, hgk]; simp [idRow, idV]
      obtain ⟨gA, A1, c1, rfl, -, g0, g1, g2, g3, g4, g5, g6, g7, -, -, -⟩ := (h.out.below hb).cells hgk
      have hd : decide ((k : Int) < (N : Int)) = true := decide_eq_true (by omega)
      have hkw : IntKind.i64.wrap ((k : Int) + 1) = (k : Int) + 1 := by rw [IntKind.wrap_i64]; omega
      obtain ⟨xo, xage, xnow⟩ := x
      obtain ⟨xc, xs_, xn, xg, xm, xl⟩ := xo
      dsimp only at g0 g1 g2 g3 g4 g5 g6 g7 htk
      obtain ⟨L, hL⟩ : ∃ L, xl.length = L := ⟨_, rfl⟩
      rw [hL] at g5
      replace htk := Lib.hid htk
      clear hgk hL
      obtain ⟨w6, hw6⟩ : ∃ w6, w6 = wr.alloc (.cells #[.int .u32 (xc : Int), .int .u32 (xs_ : Int), .int .u16 (xn : Int), .string (bstr xg), .string (bstr xm), .slice A1 L c1, .int .i64 (xage : Int), .bool xnow] 72) := ⟨_, rfl⟩
      have hb6 : Below w.heap.size w w6 := by rw [hw6]; exact hb.alloc hb.size _
      have ho6 : Own w6 29 3 A' k c' (idRow (d.op.take k)) := by rw [hw6]; exact ho.alloc _
      have hx6 : Blk w6 wr.heap.size 72 #[.int .u32 (xc : Int), .int .u32 (xs_ : Int), .int .u16 (xn : Int), .string (bstr xg), .string (bstr xm), .slice A1 L c1, .int .i64 (xage : Int), .bool xnow] := by rw [hw6]; exact Blk.new wr _ _
      obtain ⟨y6, hy6⟩ : ∃ y, wr.heap.size = y := ⟨_, rfl⟩
      rw [hy6] at hx6
      go_upto_region 5 with (fail)
      rw [← hw6]
      try rw [hy6]
      clear hw6
      have c0 : w6.cell? ⟨y6, 0, none⟩ = some (.int .u32 (xc : Int)) := hx6.cell 0
      have c1' : w6.cell? ⟨y6, 1, none⟩ = some (.int .u32 (xs_ : Int)) := hx6.cell 1
      have c2' : w6.cell? ⟨y6, 2, none⟩ = some (.int .u16 (xn : Int)) := hx6.cell 2
      have hsrc := Reads.lit (size := 3) w6 #[.int .u32 (xc : Int), .int .u32 (xs_ : Int), .int .u16 (xn : Int)] 29 (0, 0) 1 [.int .u32 (xc : Int), .int .u32 (xs_ : Int), .int .u16 (xn : Int)] rfl rfl
      have hb7 := hb6.alloc hb6.size (.cells #[.int .u32 (xc : Int), .int .u32 (xs_ : Int), .int .u16 (xn : Int)] 29)
      have ho7 := ho6.alloc (.cells #[.int .u32 (xc : Int), .int .u32 (xs_ : Int), .int .u16 (xn : Int)] 29)
      go_wp2_with (at_builtin; go_must (refine wpList_append_mine rfl _ _ 26 26 rfl 29 i0 _ 3 12 Try.underlying26 hi hz0 hz1 hz2 rfl rfl ho7 rfl (Src.ofReads Try.underlying26 _ hsrc (by intro u hu; simp only [List.mem_cons, List.not_mem_nil, or_false] at hu; rcases hu with rfl | rfl | rfl <;> rfl)) (by unfold maxLen; omega) (by omega) (fun A10 c10 w10 ho10 hg10 hat10 => ?_)))
      go_roundw
      case rel => exact ⟨k + 1, A10, c10, by omega, by rfl, by simp, by rw [htk.out]; exact ho10, fun y hy => by
        rcases hat10 with e | e <;> rw [e] at hy
        · exact hA' y hy
        · cases hy; exact hb7.size, hb7.grown hg10 hb7.size (fun y hy => hA' y hy)⟩
      case measure => simp [intOf]; omega
    · have hk' : k = N := by omega
      subst k
      have hd : decide ((N : Int) < (N : Int)) = false := decide_eq_false (by omega)
      have ho' : Own wr 29 3 A' N c' (idRow d.op) := by rw [List.take_of_length_le (by rw [hN.out]; omega)] at ho; exact ho
      clear ho
      go_wp2_with fail
      go_ret
      exact ⟨A', c', rfl, ho', hA', hb⟩
end Go.Proofs.Ytgdhiihfcngjbaa
