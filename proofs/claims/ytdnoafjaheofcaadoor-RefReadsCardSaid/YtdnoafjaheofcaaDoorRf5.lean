/- References read: ref.Read. -/
import Derived.Test.YtdnoafjaheofcaaDoorRf4
set_option linter.unusedSimpArgs false
set_option linter.unusedVariables false
namespace Go.Proofs.YtdnoafjaheofcaaDoor
set_option maxRecDepth 100000
open Go.RowKit

def rdR (b : List UInt8) : RefD := if (rdRef b).2 = true then (rdRef b).1 else ([], 0, [])
def rdE (b : List UInt8) : Int := if (rdRef b).2 = true then 0 else 20

set_option maxHeartbeats 1600000 in
theorem read_walk {A : Option Addr} {c : Nat} {b : List UInt8} {w : World} (h : Reads w w.heap.size 1 A b.length (bys b)) (hc : b.length ≤ c) (hl : b.length ≤ 1000000000) :
    Calls Tryd.prog 12 #[.slice A b.length c] w (RefB w (rdR b) (.int .i64 (rdE b)) 26) := by
  have hy := Blk.new w 26 #[.string ⟨#[]⟩, .int .u32 0, .slice none 0 0]
  have hb0 := (Below.refl w.heap.size w).alloc (Nat.le_refl _) (.cells #[.string ⟨#[]⟩, .int .u32 0, .slice none 0 0] 26)
  have hrd := read_ref ((h.below hb0).more hb0.size) hc hl
  obtain ⟨R, hR⟩ : ∃ R, rdRef b = R := ⟨_, rfl⟩
  rw [show rdR b = (if R.2 = true then R.1 else ([], 0, [])) from by rw [← hR]; rfl, show rdE b = (if R.2 = true then 0 else 20) from by rw [← hR]; rfl]
  rw [hR] at hrd
  clear hR
  obtain ⟨⟨g, v, ns⟩, ok⟩ := R
  dsimp only at hrd ⊢
  obtain ⟨P1, P2, hP⟩ : ∃ P1 P2, (if ok = true then (g, v, ns) else ([], 0, [])) = P1 ∧ (if ok = true then (0 : Int) else 20) = P2 := ⟨_, _, rfl, rfl⟩
  rw [hP.1, hP.2]
  replace hP := Lib.hid hP
  replace hrd := Lib.hid hrd
  obtain ⟨y, ey⟩ : ∃ y, w.heap.size = y := ⟨_, rfl⟩
  have hyb : w.heap.size ≤ y := by rw [ey]; exact Nat.le_refl _
  rw [ey] at hy
  replace ey := Lib.hid ey
  go_enter Tryd.func12, Tryd.ntmps12
  go_upto_region 1 with (fail)
  try rw [ey.out]
  generalize w.alloc (.cells #[.string ⟨#[]⟩, .int .u32 0, .slice none 0 0] 26) = w1 at *
  go_wp2_with fail
  refine hrd.out.mono ?_
  clear hrd
  rintro e w2 ⟨A2, c2, rfl, ho2, hb2, hg2⟩
  dsimp only at ho2 hg2 ⊢
  have hy2 := hy.below hb2 hy.lt
  have hx := Blk.new w2 26 #[.string (bstr g), .int .u32 (v : Int), .slice A2 ns.length c2]
  have hb3 := (Below.refl w2.heap.size w2).alloc (Nat.le_refl _) (.cells #[.string (bstr g), .int .u32 (v : Int), .slice A2 ns.length c2] 26)
  have hy3 := hy2.below hb3 hy2.lt
  have hb03 := below_then hb3 (below_then hb2 hb0)
  have ho3 := ho2.below hb3 (Nat.le_refl _)
  have hyx : y < w2.heap.size := hy2.lt
  obtain ⟨x, ex⟩ : ∃ x, w2.heap.size = x := ⟨_, rfl⟩
  rw [ex] at hx hyx
  replace ex := Lib.hid ex
  have hgy : ∀ q, bOf A2 = some q → y < q := fun q hq => Nat.lt_of_lt_of_le hy.lt (hg2 q hq)
  clear hy2 ho2 hb2 hb3 hb0
  go_upto_region 2 with (fail)
  try rw [ex.out]
  generalize w2.alloc (.cells #[.string (bstr g), .int .u32 (v : Int), .slice A2 ns.length c2] 26) = w3 at *
  have f0 := hy3.frozen 0
  have f1 := hy3.frozen 1
  have f2 := hy3.frozen 2
  have k0 := hy3.cell 0
  have k1 := hy3.cell 1
  have k2 := hy3.cell 2
  have x0 := hx.cell 0
  have x1 := hx.cell 1
  have x2 := hx.cell 2
  cases ok
  · obtain ⟨q1, q2⟩ := hP.out
    simp only [Bool.false_eq_true, if_false] at q1 q2
    subst q1 q2
    go_wp2_with fail
    exact bodyPost_ret (v := .tuple #[.agg #[.string ⟨#[]⟩, .int .u32 0, .slice none 0 0], .int .i64 20]) (results_ct rfl _ _ y 26 _ (0, 0) _ _ rfl rfl (((hy3.set_ 0 (.string ⟨#[]⟩)).set_ 1 (.int .u32 0)).set_ 2 (.slice none 0 0)) Tryd.underlying26 rfl (by kernel_rfl)) rfl (RefB.zero rfl (below_three hb03 hyb _ _ _))
  · obtain ⟨q1, q2⟩ := hP.out
    simp only [if_true] at q1 q2
    subst q1 q2
    go_wp2_with fail
    exact bodyPost_ret (v := .tuple #[.agg #[.string (bstr g), .int .u32 (v : Int), .slice A2 ns.length c2], .int .i64 0]) (results_ct rfl _ _ y 26 _ (0, 0) _ _ rfl rfl (((hy3.set_ 0 (.string (bstr g))).set_ 1 (.int .u32 (v : Int))).set_ 2 (.slice A2 ns.length c2)) Tryd.underlying26 rfl (by kernel_rfl)) rfl
      ⟨A2, c2, rfl, ((ho3.setCell (p := ⟨y, 0, none⟩) (fun e => by have := hgy y e; omega) _).setCell (p := ⟨y, 1, none⟩) (fun e => by have := hgy y e; omega) _).setCell (p := ⟨y, 2, none⟩) (fun e => by have := hgy y e; omega) _, below_three hb03 hyb _ _ _, fun q hq => by have := hgy q hq; omega⟩
end Go.Proofs.YtdnoafjaheofcaaDoor
