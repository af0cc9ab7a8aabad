/- the document's Wrap. -/
import Derived.Test.YtdnoafjaheofcaaDoorWrap
import Derived.Test.YtdnoafjaheofcaaDoorGrow
set_option linter.unusedSimpArgs false
set_option linter.unusedVariables false
namespace Go.Proofs.YtdnoafjaheofcaaDoor
set_option maxRecDepth 100000
open Go.RowKit

def WrapRef (w : World) (row : Option Nat) (bs : List UInt8) (e : Ending) (w' : World) : Prop :=
  ∃ A' c', e = .returned (.tuple #[.slice A' bs.length c', .int .i64 0]) ∧ Own w' 5 1 A' bs.length c' (bys bs) ∧ Upd (fun k => some k = row) w w' ∧ (∀ g, bOf A' = some g → bOf A' = row ∨ w.heap.size ≤ g)

theorem wrap_ref {A C : Option Addr} {c d B : Nat} {bs p r : List UInt8} {row : Option Nat} {w : World} (hgrow : Grows w 5 1 A bs.length c (bys bs) row) (h : Reads w B 1 C p.length (bys p)) (hB : B ≤ w.heap.size) (hrow : ∀ g, row = some g → B ≤ g)
    (hbl : bs.length ≤ 1000000000) (hl : p.length ≤ 65536) (he : bs ++ framed p = r) :
    Calls Tryd.prog 25 #[.slice A bs.length c, .slice C p.length d] w (WrapRef w row r) := by
  obtain ⟨i0, hi, hz0, hz1, hz2⟩ := info_parts info_u8
  obtain ⟨q, hq⟩ : ∃ q, putU p.length 4 = q := ⟨_, rfl⟩
  obtain ⟨q2, hq2⟩ : ∃ q2, q ++ p = q2 := ⟨_, rfl⟩
  obtain ⟨bq, hbq⟩ : ∃ bq, bs ++ q = bq := ⟨_, rfl⟩
  obtain ⟨s, hs⟩ : ∃ s, crc q2 = s := ⟨_, rfl⟩
  have hsl : s < 4294967296 := by rw [← hs]; exact crc_lt _
  obtain ⟨t, ht⟩ : ∃ t, bq ++ putU s 4 = t := ⟨_, rfl⟩
  have hql : 4 = q.length := by rw [← hq]; exact (putU_len _ _).symm
  have hq2l : 4 + p.length = q2.length := by rw [← hq2]; simp [← hql]
  have hbql : bs.length + 4 = bq.length := by rw [← hbq]; simp [← hql]
  have htl : bq.length + 4 = t.length := by rw [← ht]; simp [putU_len]
  have hr : t ++ p = r := by rw [← he, ← ht, ← hbq, ← hs, ← hq2, ← hq]; simp [framed, fsum]
  have hrl : t.length + p.length = r.length := by rw [← hr]; simp
  have hb0 : q2.length ≤ 70000 := by omega
  have hb1 : bq.length ≤ 1000000004 := by omega
  have hb2 : t.length ≤ 1000000008 := by omega
  replace he := Lib.hid he
  replace hq := Lib.hid hq
  replace hq2 := Lib.hid hq2
  replace hbq := Lib.hid hbq
  replace ht := Lib.hid ht
  replace hs := Lib.hid hs
  replace hr := Lib.hid hr
  replace hrl := Lib.hid hrl
  replace hql := Lib.hid hql
  replace hq2l := Lib.hid hq2l
  replace hbql := Lib.hid hbql
  replace htl := Lib.hid htl
  go_enter Tryd.func25, Tryd.ntmps25
  go_wp2_with fail
  refine (ref_put4 (bs := []) Own.none_ (by simp) (by omega) hq.out).mono ?_
  rintro e w1 ⟨H1, k1, rfl, ho1, hu1, hg1⟩
  dsimp only
  have hb1' : Below w.heap.size w w1 := hu1.below (Nat.le_refl _) (fun k _ h => by simp [bOf] at h)
  have hH1 : ∀ g, bOf H1 = some g → w.heap.size ≤ g := by
    rcases hg1 with h | h
    · intro g hg; rw [h] at hg; cases hg
    · exact h
  rw [← hql.out] at *
  have hgrow1 := hgrow.below hb1'
  go_wp2_with (at_builtin; go_must (refine wpList_append_grows rfl _ _ 22 22 rfl 5 i0 (.int .u8 0) 1 1 Tryd.underlying22 hi hz0 hz1 hz2 rfl rfl hgrow1 rfl (Src.ofReads Tryd.underlying22 _ ho1.reads_ (bys_one _)) (by omega) ?b1 ?b2 ?grow))
  case b1 => unfold maxLen; omega
  case b2 => omega
  case grow =>
    intro A2 c2 w2 ho2 hg2 hat2
    rw [← bys_append, hbq.out, hbql.out] at ho2
    rw [hbql.out]
    have hu2 : Upd (fun k => some k = row) w w2 := (Upd.of_below_size hb1').grown hg2 (fun k hk _ => hk.symm)
    have ho1b : Own w2 5 1 H1 4 k1 (bys q) := ho1.upd (S := fun k => some k = row) ((Upd.refl _ _).grown hg2 (fun k hk _ => hk.symm)) (fun g hg hrw => by
      have := hgrow.lt hrw.symm; have := hH1 g hg; omega)
    have hA2 : ∀ g, bOf A2 = some g → bOf A2 = row ∨ w.heap.size ≤ g := fun g hg => by
      rcases hat2 with h | h
      · exact .inl h
      · rw [h] at hg; have := hb1'.size; simp at hg; exact .inr (by omega)
    have hne2 : ∀ g, bOf A2 = some g → bOf H1 ≠ some g := fun g hg hh => by
      have := hH1 g hh
      have h3 := ho1.lt hh
      rcases hat2 with h | h
      · have := hgrow.lt (h ▸ hg); omega
      · rw [h] at hg; simp at hg; omega
    clear hat2
    have hp2 := h.upd hu2 (fun k hk hr => by have := hrow k hr.symm; omega) hB
    go_wp2_with (at_builtin; go_must (refine wpList_append_mine rfl _ _ 22 22 rfl 5 i0 (.int .u8 0) 1 1 Tryd.underlying22 hi hz0 hz1 hz2 rfl rfl ho1b rfl (Src.ofReads Tryd.underlying22 _ hp2 (bys_one _)) ?b1 ?b2 ?grow))
    case b1 => unfold maxLen; omega
    case b2 => omega
    case grow =>
      intro H3 k3 w3 ho3 hg3 hat3
      rw [← bys_append, hq2.out, hq2l.out] at ho3
      rw [hq2l.out]
      have hu3 : Upd (fun k => some k = row) w w3 := hu2.grown hg3 (fun k hk hlt => by have := hH1 k hk; omega)
      have ho2b : Own w3 5 1 A2 bq.length c2 (bys bq) := ho2.upd (S := fun k => some k = bOf H1) ((Upd.refl _ _).grown hg3 (fun k hk _ => hk.symm)) (fun g hg hh => hne2 g hg hh.symm)
      go_wp2_with fail
      refine (ref_sum_contract H3 k3 q2 w3 ho3.reads_ (by omega)).mono ?_
      rintro e w4 ⟨rfl, hb4⟩
      dsimp only
      rw [hs.out]
      have ho2c := ho2b.below hb4 (Nat.le_refl _)
      have hu4 : Upd (fun k => some k = row) w w4 := hu3.thenBelow hb4 hu3.size
      go_wp2_with fail
      refine (ref_put4 ho2c (by omega) (by omega) ht.out).mono ?_
      rintro e w5 ⟨A5, c5, rfl, ho5, hu5, hat5⟩
      dsimp only
      have hu5' : Upd (fun k => some k = row) w w5 := hu4.trans hu5 (fun i hi hh => by
        rcases hA2 i hh.symm with h | h
        · rw [← h]; exact hh
        · omega)
      have hA5 : ∀ g, bOf A5 = some g → bOf A5 = row ∨ w.heap.size ≤ g := fun g hg => by
        rcases hat5 with h | h
        · rw [h] at hg ⊢; exact hA2 g hg
        · have := h g hg; have := hu4.size; exact .inr (by omega)
      have hp5 := h.upd hu5' (fun k hk hr => by have := hrow k hr.symm; omega) hB
      go_wp2_with (at_builtin; go_must (refine wpList_append_mine rfl _ _ 22 22 rfl 5 i0 (.int .u8 0) 1 1 Tryd.underlying22 hi hz0 hz1 hz2 rfl rfl ho5 rfl (Src.ofReads Tryd.underlying22 _ hp5 (bys_one _)) ?b1 ?b2 ?grow))
      case b1 => unfold maxLen; omega
      case b2 => omega
      case grow =>
        intro A6 c6 w6 ho6 hg6 hat6
        rw [← bys_append, hr.out, hrl.out] at ho6
        rw [hrl.out]
        go_wp2_with fail
        go_ret2
        refine ⟨A6, c6, rfl, ho6, hu5'.grown hg6 (fun k hk hlt => ?_), fun g hg => ?_⟩
        · rcases hA5 k hk with h | h
          · rw [← h]; exact hk.symm
          · omega
        · rcases hat6 with h | h
          · rw [h] at hg ⊢; exact hA5 g hg
          · rw [h] at hg; have := hu5'.size; simp at hg; exact .inr (by omega)
end Go.Proofs.YtdnoafjaheofcaaDoor
