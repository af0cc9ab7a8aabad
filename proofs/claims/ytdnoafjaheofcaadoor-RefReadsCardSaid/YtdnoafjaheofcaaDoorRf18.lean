/- References: the chapter's example. -/
import Derived.Test.YtdnoafjaheofcaaDoorRf17
set_option linter.unusedSimpArgs false
set_option linter.unusedVariables false
namespace Go.Proofs.YtdnoafjaheofcaaDoor
open Go.RowKit Go.Sort Go.Lib
set_option maxRecDepth 100000

/-- A reference that lies in a block. -/
structure RefAt (w : World) (y : Nat) (T : TypeId) (g : List UInt8) (v : Nat) (ns : List Int) (A : Option Addr) (c : Nat) : Prop where
  blk : Blk w y T #[.string (bstr g), .int .u32 (v : Int), .slice A ns.length c]
  row : Reads w w.heap.size 1 A ns.length (ints ns)
theorem RefAt.below {w w' : World} {y : Nat} {T : TypeId} {g : List UInt8} {v : Nat} {ns : List Int} {A : Option Addr} {c : Nat} (h : RefAt w y T g v ns A c) (hb : RowKit.Below w.heap.size w w') : RefAt w' y T g v ns A c :=
  ⟨h.blk.below hb h.blk.lt, (h.row.below hb).more hb.size⟩
theorem RefAt.drew {w : World} {y : Nat} {T : TypeId} {g : List UInt8} {v : Nat} {ns : List Int} {A : Option Addr} {c : Nat} (h : RefAt w y T g v ns A c) : RefAt w.drew y T g v ns A c := ⟨h.blk.drew, h.row.drew⟩
theorem RefAt.new {w : World} {T : TypeId} {g : List UInt8} {v : Nat} {ns : List Int} {A : Option Addr} {c : Nat} (h : Reads w w.heap.size 1 A ns.length (ints ns)) : RefAt (w.alloc (.cells #[.string (bstr g), .int .u32 (v : Int), .slice A ns.length c] T)) w.heap.size T g v ns A c :=
  ⟨Blk.new _ _ _, (h.below ((RowKit.Below.refl w.heap.size w).alloc (Nat.le_refl _) _)).more (by simp)⟩
theorem below_alloc (w : World) (o : Obj) : RowKit.Below w.heap.size w (w.alloc o) := (RowKit.Below.refl w.heap.size w).alloc (Nat.le_refl _) o

theorem right_known : rightB [97] [0, 1, 2] = true := by decide
theorem right_nil : rightB [] [] = false := by decide
theorem text_known : textR [97] 1 [0, 1, 2] = [99, 104, 111, 105, 114, 58, 54, 49, 47, 49, 47, 48, 44, 49, 44, 50] := by decide +kernel

set_option maxHeartbeats 6400000 in
theorem known_true (w : World) (hL : LaidW w) : Calls Tryd.prog 5 #[] w (BoolRes w true) := by
  have hA : Reads (w.alloc (.cells #[.int .i64 0, .int .i64 1, .int .i64 2] 3)) (w.alloc (.cells #[.int .i64 0, .int .i64 1, .int .i64 2] 3)).heap.size 1 (some ⟨w.heap.size, 0, none⟩) ([0, 1, 2] : List Int).length (ints [0, 1, 2]) := (Reads.lit (size := 1) w #[.int .i64 0, .int .i64 1, .int .i64 2] 3 (0, 0) 3 (ints [0, 1, 2]) rfl rfl).more (by simp)
  have hb1 := below_alloc w (.cells #[.int .i64 0, .int .i64 1, .int .i64 2] 3)
  obtain ⟨N, hN⟩ : ∃ N, w.heap.size = N := ⟨_, rfl⟩
  rw [hN] at hA
  replace hN := Lib.hid hN
  replace hL := Lib.hid hL
  have hx := RefAt.new (T := 26) (g := [97]) (v := 1) (c := 3) hA
  have hb2 := below_then (below_alloc (w.alloc (.cells #[.int .i64 0, .int .i64 1, .int .i64 2] 3)) (.cells #[.string (bstr [97]), .int .u32 ((1 : Nat) : Int), .slice (some ⟨N, 0, none⟩) ([0, 1, 2] : List Int).length 3] 26)) hb1
  rw [show (w.alloc (.cells #[.int .i64 0, .int .i64 1, .int .i64 2] 3)).heap.size = N + 1 from by rw [World.size_alloc, hN.out]] at hx
  go_enter Tryd.func5, Tryd.ntmps5
  go_upto_region 2 with (fail)
  try rw [hN.out]
  change Code.wp _ _ _ _ ((w.alloc (.cells #[.int .i64 0, .int .i64 1, .int .i64 2] 3)).alloc (.cells #[.string (bstr [97]), .int .u32 ((1 : Nat) : Int), .slice (some ⟨N, 0, none⟩) ([0, 1, 2] : List Int).length 3] 26))
  generalize (w.alloc (.cells #[.int .i64 0, .int .i64 1, .int .i64 2] 3)).alloc (.cells #[.string (bstr [97]), .int .u32 ((1 : Nat) : Int), .slice (some ⟨N, 0, none⟩) ([0, 1, 2] : List Int).length 3] 26) = w2 at *
  obtain ⟨x, ex⟩ : ∃ x, N + 1 = x := ⟨_, rfl⟩
  rw [ex] at hx ⊢
  clear ex
  obtain ⟨g, eg⟩ : ∃ g : List UInt8, [97] = g := ⟨_, rfl⟩
  obtain ⟨v, ev⟩ : ∃ v : Nat, 1 = v := ⟨_, rfl⟩
  obtain ⟨ns, en⟩ : ∃ ns : List Int, [0, 1, 2] = ns := ⟨_, rfl⟩
  have hr : rightB g ns = true := by rw [← eg, ← en]; exact right_known
  have hgl : g.length ≤ 10 := by rw [← eg]; decide
  have hnl : ns.length ≤ 10 := by rw [← en]; decide
  have hv : v < 4294967296 := by omega
  have ht : textR g v ns = [99, 104, 111, 105, 114, 58, 54, 49, 47, 49, 47, 48, 44, 49, 44, 50] := by rw [← eg, ← en, ← ev]; exact text_known
  rw [eg, ev, en] at hx
  obtain ⟨A, eA⟩ : ∃ A : Option Addr, some ⟨N, 0, none⟩ = A := ⟨_, rfl⟩
  rw [eA] at hx
  replace eg := Lib.hid eg
  replace ev := Lib.hid ev
  replace en := Lib.hid en
  replace hr := Lib.hid hr
  replace ht := Lib.hid ht
  clear eA hA hb1
  clear hN
  have c0 := hx.blk.cell 0
  have c1 := hx.blk.cell 1
  have c2 := hx.blk.cell 2
  go_wp2_with fail
  refine (put_yes (g := g) (v := v) (A := A) (c := 3) (ns := ns) (bs := []) (C := none) (d := 0) (r := framed (payR g v ns)) hx.row Reads.none_ (by simp) hv hr.out (by simp)).mono ?_
  rintro e w3 ⟨B3, d3, rfl, ho3, hb3, -⟩
  dsimp only
  clear c0 c1 c2
  have hx3 := hx.below hb3
  have hb03 := below_then hb3 hb2
  have hrd := read_walk (c := d3) ho3.reads_ ho3.le_cap (by rw [framed_len, payR_len]; omega)
  rw [(rdR_framed hr.out hv).1, (rdR_framed hr.out hv).2] at hrd
  obtain ⟨M, hM⟩ : ∃ M, (framed (payR g v ns)).length = M := ⟨_, rfl⟩
  rw [hM] at hrd ⊢
  replace hrd := Lib.hid hrd
  clear hM hx hb3 hb2
  go_wp2_with fail
  refine hrd.out.mono ?_
  clear hrd
  rintro e w4 ⟨A4, c4, rfl, ho4, hb4, -⟩
  dsimp only at ho4 ⊢
  have hx4 := hx3.below hb4
  have hb04 := below_then hb4 hb03
  have hs5 := RefAt.new (T := 26) (g := g) (v := v) (c := c4) ho4.reads_
  have hx5 := hx4.below (below_alloc w4 (.cells #[.string (bstr g), .int .u32 (v : Int), .slice A4 ns.length c4] 26))
  have hb05 := below_then (below_alloc w4 (.cells #[.string (bstr g), .int .u32 (v : Int), .slice A4 ns.length c4] 26)) hb04
  obtain ⟨s, es⟩ : ∃ s, w4.heap.size = s := ⟨_, rfl⟩
  rw [es] at hs5
  replace es := Lib.hid es
  clear hx4 hb04 ho4 hb4 hx3 hb03 ho3
  go_upto_region 4 with (fail)
  try rw [es.out]
  generalize w4.alloc (.cells #[.string (bstr g), .int .u32 (v : Int), .slice A4 ns.length c4] 26) = w5 at *
  have hpa := parse_walk [99, 104, 111, 105, 114, 58, 54, 49, 47, 49, 47, 48, 44, 49, 44, 50] (by simp) w5 (hL.out.next hb05)
  replace hpa := Lib.hid hpa
  go_wp2_with fail
  refine hpa.out.mono ?_
  clear hpa
  rintro e w6 ⟨g6, v6, ns6, b6, A6, c6, rfl, hv6, ho6, hb6, -, -, -, hyes, hno⟩
  dsimp only
  have hb6t : b6 = true := by
    cases b6 with
    | true => rfl
    | false => exact absurd ht.out ((hno rfl).2 g v ns hr.out hv)
  subst hb6t
  obtain ⟨-, -, hsame⟩ := hyes rfl
  obtain ⟨e1, e2, e3⟩ := hsame g v ns hr.out hv ht.out
  obtain rfl : g = g6 := e1.symm
  obtain rfl : v = v6 := e2.symm
  obtain rfl : ns = ns6 := e3.symm
  clear e1 e2 e3
  clear hyes hno hsame
  have hz7 := RefAt.new (T := 26) (g := g) (v := v) (c := c6) ho6.reads_
  have hb67 := below_then (below_alloc w6 (.cells #[.string (bstr g), .int .u32 (v : Int), .slice A6 ns.length c6] 26)) hb6
  have hx7 := hx5.below hb67
  have hs7 := hs5.below hb67
  have hb07 := below_then hb67 hb05
  obtain ⟨z, ez⟩ : ∃ z, w6.heap.size = z := ⟨_, rfl⟩
  rw [ez] at hz7
  replace ez := Lib.hid ez
  clear hx5 hs5 hb05 ho6 hb67 hb6
  go_upto_region 5 with (fail)
  try rw [ez.out]
  generalize w6.alloc (.cells #[.string (bstr g), .int .u32 (v : Int), .slice A6 ns.length c6] 26) = w7 at *
  go_wp2_with fail
  refine (put_no (g := []) (v := 0) (A := none) (c := 0) (ns := []) (C := none) (n := 0) (d := 0) Reads.none_ (by simp) (by simp) right_nil).mono ?_
  rintro e w8 ⟨rfl, hb8⟩
  dsimp only
  have hx8 := hx7.below hb8
  have hs8 := hs7.below hb8
  have hz8 := hz7.below hb8
  have hb08 := below_then hb8 hb07
  clear hx7 hs7 hz7 hb07 hb8
  have htx := text_yes (c := 3) hx8.row hv hr.out (hL.out.next hb08)
  rw [ht.out] at htx
  replace htx := Lib.hid htx
  have c0 := hx8.blk.cell 0
  have c1 := hx8.blk.cell 1
  have c2 := hx8.blk.cell 2
  go_wp2_with fail
  refine htx.out.mono ?_
  clear htx c0 c1 c2
  rintro e w9 ⟨rfl, hb9⟩
  dsimp only
  have hx9 := hx8.below hb9
  have hs9 := hs8.below hb9
  have hz9 := hz8.below hb9
  have hb09 := below_then hb9 hb08
  clear hx8 hs8 hz8 hb08 hb9
  have c0 := hx9.blk.cell 0
  have c1 := hx9.blk.cell 1
  have c2 := hx9.blk.cell 2
  have d0 := hs9.blk.cell 0
  have d1 := hs9.blk.cell 1
  have d2 := hs9.blk.cell 2
  go_wp2_with fail
  refine (same_true (c := 3) (c' := c4) hx9.row hs9.row (by omega)).mono ?_
  clear c0 c1 c2 d0 d1 d2
  rintro e wA ⟨rfl, hbA⟩
  dsimp only
  have hxA := hx9.below hbA
  have hzA := hz9.below hbA
  have hb0A := below_then hbA hb09
  clear hx9 hs9 hz9 hb09 hbA
  have c0 := hxA.blk.cell 0
  have c1 := hxA.blk.cell 1
  have c2 := hxA.blk.cell 2
  have d0 := hzA.blk.cell 0
  have d1 := hzA.blk.cell 1
  have d2 := hzA.blk.cell 2
  go_wp2_with fail
  refine (same_true (c := 3) (c' := c6) hxA.row hzA.row (by omega)).mono ?_
  clear c0 c1 c2 d0 d1 d2
  rintro e wB ⟨rfl, hbB⟩
  dsimp only
  have hxB := hxA.below hbB
  have hb0B := below_then hbB hb0A
  clear hxA hzA hb0A hbB
  have c0 := hxB.blk.cell 0
  have c1 := hxB.blk.cell 1
  have c2 := hxB.blk.cell 2
  go_wp2_with fail
  refine (newer_walk (g := [97]) (g' := g) (v := 2) (v' := (v : Int))).mono ?_
  clear c0 c1 c2
  have hnew : (([97] : List UInt8) == g && decide ((v : Int) < 2)) = true := by rw [← eg.out, ← ev.out]; rfl
  rw [hnew]
  clear hnew
  rintro e wC ⟨rfl, hbC⟩
  dsimp only
  have hb0C := below_then hbC hb0B
  go_wp2_with fail
  go_ret
  exact ⟨rfl, hb0C⟩
end Go.Proofs.YtdnoafjaheofcaaDoor
