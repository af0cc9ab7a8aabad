/- frame.sum, frame.Wrap, the document's Wrap. -/
import Derived.Test.YtdnoafjaheofcaaDoorRead
import Derived.Test.YtdnoafjaheofcaaDoorSum
set_option linter.unusedSimpArgs false
set_option linter.unusedVariables false
namespace Go.Proofs.YtdnoafjaheofcaaDoor
set_option maxRecDepth 100000
open Go.RowKit

def fsum (p : List UInt8) : Nat := crc (putU p.length 4 ++ p)
def framed (p : List UInt8) : List UInt8 := putU p.length 4 ++ putU (fsum p) 4 ++ p
theorem fsum_lt (p : List UInt8) : fsum p < 4294967296 := crc_lt _
theorem framed_len (p : List UInt8) : (framed p).length = 8 + p.length := by simp [framed, putU_len]; omega


theorem wire_put4 {A : Option Addr} {c B : Nat} {bs r : List UInt8} {v : Nat} {w : World} (hr : Reads w B 1 A bs.length (bys bs)) (hB : B ≤ w.heap.size) (hl : bs.length ≤ 100000000000) (hv : v < 18446744073709551616) (he : bs ++ putU v 4 = r) :
    Calls Tryd.prog 20 #[.slice A bs.length c, .int .u64 (v : Int), .int .i64 4] w (NewBytes w r) := by
  subst he
  exact wire_put (m := 4) hr hB hl hv
theorem ref_put4 {A : Option Addr} {c : Nat} {bs r : List UInt8} {v : Nat} {w : World} (h : Own w 5 1 A bs.length c (bys bs)) (hl : bs.length ≤ 100000000000) (hv : v < 18446744073709551616) (he : bs ++ putU v 4 = r) :
    Calls Tryd.prog 24 #[.slice A bs.length c, .int .u64 (v : Int), .int .i64 4] w (PutBytes w A r) := by
  subst he
  exact ref_put (m := 4) h hl hv

theorem sum_walk {A : Option Addr} {c : Nat} {p : List UInt8} {w : World} (h : Reads w w.heap.size 1 A p.length (bys p)) (hl : p.length ≤ 10000000000) :
    Calls Tryd.prog 42 #[.slice A p.length c] w fun e w' => e = .returned (.int .u64 (fsum p : Nat)) ∧ Below w.heap.size w w' := by
  obtain ⟨i0, hi, hz0, hz1, hz2⟩ := info_parts info_u8
  obtain ⟨q, hq⟩ : ∃ q, putU p.length 4 = q := ⟨_, rfl⟩
  obtain ⟨t, ht⟩ : ∃ t, q ++ p = t := ⟨_, rfl⟩
  obtain ⟨r, hcr⟩ : ∃ r, crc t = r := ⟨_, rfl⟩
  have hrl : r < 4294967296 := by rw [← hcr]; exact crc_lt _
  have hql : q.length = 4 := by rw [← hq]; exact putU_len _ _
  have htl : t.length = 4 + p.length := by rw [← ht]; simp [hql]
  replace hq := Lib.hid hq
  replace ht := Lib.hid ht
  replace hcr := Lib.hid hcr
  replace hql := Lib.hid hql
  replace htl := Lib.hid htl
  go_enter Tryd.func42, Tryd.ntmps42
  go_wp2_with fail
  refine (wire_put4 (bs := []) (v := p.length) (B := 0) Reads.none_ (Nat.zero_le _) (by simp) (by omega) hq.out).mono ?_
  rintro e w1 ⟨A1, c1, rfl, ho1, hb1, hg1⟩
  dsimp only
  rw [hql.out] at *
  go_wp2_with (at_builtin; go_must (refine wpList_append_mine rfl _ _ 22 22 rfl 5 i0 (.int .u8 0) 1 1 Tryd.underlying22 hi hz0 hz1 hz2 rfl rfl ho1 rfl (Src.ofReads Tryd.underlying22 _ (h.below hb1) (bys_one _)) ?b1 ?b2 ?grow))
  case b1 => unfold maxLen; omega
  case b2 => omega
  case grow =>
    intro A2 c2 w2 ho2 hg2 hat2
    have hb2 : Below w.heap.size w w2 := hb1.grown hg2 hb1.size hg1
    rw [← bys_append, ht.out, ← htl.out] at ho2
    rw [← htl.out]
    have htb : t.length ≤ 140737488351232 := by rw [htl.out]; omega
    go_wp2_with fail
    refine (sum_contract A2 c2 t w2 ho2.reads_ htb).mono ?_
    rintro e w3 ⟨rfl, hb3⟩
    dsimp only
    rw [hcr.out]
    go_wp2_with fail
    go_ret
    have hq := hq.out
    have ht := ht.out
    have hcr := hcr.out
    subst hq ht hcr
    exact ⟨rfl, hb2.trans (hb3.mono hb2.size)⟩

def WrapOk (w : World) (bs : List UInt8) (k : IntKind) (e : Ending) (w' : World) : Prop :=
  ∃ A' c', e = .returned (.tuple #[.slice A' bs.length c', .int k 0]) ∧ Own w' 5 1 A' bs.length c' (bys bs) ∧ Below w.heap.size w w' ∧ ∀ g, bOf A' = some g → w.heap.size ≤ g

theorem wrap_walk {A C : Option Addr} {c d : Nat} {bs p r : List UInt8} {w : World} (hb : Reads w w.heap.size 1 A bs.length (bys bs)) (h : Reads w w.heap.size 1 C p.length (bys p)) (hbl : bs.length ≤ 1000000000) (hl : p.length ≤ 65536) (he : bs ++ framed p = r) :
    Calls Tryd.prog 21 #[.slice A bs.length c, .slice C p.length d] w (WrapOk w r .i64) := by
  obtain ⟨i0, hi, hz0, hz1, hz2⟩ := info_parts info_u8
  obtain ⟨q, hq⟩ : ∃ q, bs ++ putU p.length 4 = q := ⟨_, rfl⟩
  obtain ⟨s, hs⟩ : ∃ s, fsum p = s := ⟨_, rfl⟩
  have hsl : s < 4294967296 := by rw [← hs]; exact fsum_lt _
  obtain ⟨t, ht⟩ : ∃ t, q ++ putU s 4 = t := ⟨_, rfl⟩
  have hqb : q.length ≤ 1000000100 := by rw [← hq]; simp [putU_len]; omega
  have htb : t.length ≤ 1000000100 := by rw [← ht, ← hq]; simp [putU_len]; omega
  have hr : t ++ p = r := by rw [← he, ← ht, ← hq, ← hs]; simp [framed]
  replace he := Lib.hid he
  replace hq := Lib.hid hq
  replace ht := Lib.hid ht
  replace hs := Lib.hid hs
  replace hr := Lib.hid hr
  have hrl : r.length = t.length + p.length := by rw [← hr.out]; simp
  replace hrl := Lib.hid hrl
  go_enter Tryd.func21, Tryd.ntmps21
  go_wp2_with fail
  refine (wire_put4 hb (Nat.le_refl _) (by omega) (by omega) hq.out).mono ?_
  rintro e w1 ⟨A1, c1, rfl, ho1, hb1, hg1⟩
  dsimp only
  go_wp2_with fail
  refine (sum_walk ((h.below hb1).more hb1.size) (by omega)).mono ?_
  rintro e w2 ⟨rfl, hb2⟩
  dsimp only
  rw [hs.out]
  have ho1' := ho1.below hb2 (Nat.le_refl _)
  go_wp2_with fail
  refine (wire_put4 ho1'.reads_ (Nat.le_refl _) (by omega) (by omega) ht.out).mono ?_
  rintro e w3 ⟨A3, c3, rfl, ho3, hb3, hg3⟩
  dsimp only
  have hb03 : Below w.heap.size w w3 := below_then hb3 (below_then hb2 hb1)
  have hg3' : ∀ g, bOf A3 = some g → w.heap.size ≤ g := fun g hg => Nat.le_trans (Nat.le_trans hb1.size hb2.size) (hg3 g hg)
  go_wp2_with (at_builtin; go_must (refine wpList_append_mine rfl _ _ 22 22 rfl 5 i0 (.int .u8 0) 1 1 Tryd.underlying22 hi hz0 hz1 hz2 rfl rfl ho3 rfl (Src.ofReads Tryd.underlying22 _ (h.below hb03) (bys_one _)) ?b1 ?b2 ?grow))
  case b1 => unfold maxLen; omega
  case b2 => omega
  case grow =>
    intro A4 c4 w4 ho4 hg4 hat4
    have hb4 : Below w.heap.size w w4 := hb03.grown hg4 hb03.size hg3'
    rw [← bys_append, hr.out, ← hrl.out] at ho4
    rw [← hrl.out]
    go_wp2_with fail
    go_ret2
    refine ⟨A4, c4, rfl, ho4, hb4, fun g hg => ?_⟩
    rcases hat4 with h | h <;> rw [h] at hg
    · exact hg3' g hg
    · have := hb03.size; simp at hg; omega

theorem wrap_big {A C : Option Addr} {c d n m : Nat} {w : World} (hl : 65536 < m) (hm : m ≤ 140737488351232) :
    Calls Tryd.prog 21 #[.slice A n c, .slice C m d] w fun e w' => e = .returned (.tuple #[.slice none 0 0, .int .i64 22]) ∧ w = w' := by
  go_enter Tryd.func21, Tryd.ntmps21
  go_wp2
  go_ret2
  exact ⟨rfl, rfl⟩
end Go.Proofs.YtdnoafjaheofcaaDoor
