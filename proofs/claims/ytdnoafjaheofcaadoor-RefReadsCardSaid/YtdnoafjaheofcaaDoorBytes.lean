/- slices.Clone at bytes, string(bytes), append of bytes. -/
import Derived.Test.YtdnoafjaheofcaaDoorRows
import Derived.Test.YtdnoafjaheofcaaDoorKit
set_option linter.unusedSimpArgs false
set_option linter.unusedVariables false
namespace Go.Proofs.YtdnoafjaheofcaaDoor
set_option maxRecDepth 100000
open Go.RowKit

theorem info_u8 : (Tryd.prog.info? 5).map (fun i => (i.zero, i.size, i.bytes)) = some (some (.int .u8 0), 1, 1) := by kernel_rfl

/-! ### slices.Clone, slices.Clip at bytes -/

def NewBytes (w : World) (bs : List UInt8) (e : Ending) (w' : World) : Prop :=
  ∃ A' c', e = .returned (.slice A' bs.length c') ∧ Own w' 5 1 A' bs.length c' (bys bs) ∧ Below w.heap.size w w' ∧ ∀ g, bOf A' = some g → w.heap.size ≤ g

theorem clone_bytes {A : Option Addr} {c B : Nat} {bs : List UInt8} {w : World} (hr : Reads w B 1 A bs.length (bys bs)) (hB : B ≤ w.heap.size) (hl : bs.length ≤ 1000000000000) :
    Calls Tryd.prog 41 #[.slice A bs.length c] w (NewBytes w bs) := by
  obtain ⟨i0, hi, hz0, hz1, hz2⟩ := info_parts info_u8
  have he := fun w A n => Lib.run_eql_slice_nil (P := Tryd.prog) w 22 5 A n c 0 0 Tryd.underlying22
  cases A with
  | none =>
    have hb : bs = [] := by
      rcases Nat.eq_zero_or_pos bs.length with h | h
      · exact List.eq_nil_of_length_eq_zero h
      · obtain ⟨_, h, _⟩ := hr.2 h; cases h
    subst hb
    clear hr
    go_enter Tryd.func41, Tryd.ntmps41
    go_wp2
    go_ret
    exact ⟨none, 0, rfl, Own.none_, Below.refl _ _, by simp [bOf]⟩
  | some a =>
    go_enter Tryd.func41, Tryd.ntmps41
    go_wp2_with (at_builtin; go_must (refine wpList_append_mine rfl _ _ 22 22 rfl 5 i0 (.int .u8 0) 1 1 Tryd.underlying22 hi hz0 hz1 hz2 rfl rfl (Own.new w 5 1 0 #[] rfl (by decide)) rfl (Src.ofReads Tryd.underlying22 _ (hr.alloc hB _) (bys_one _)) ?b1 ?b2 ?grow))
    case b1 => unfold maxLen; omega
    case b2 => omega
    case grow =>
      intro A' c' w' hown hg hat
      go_wp2
      go_ret
      simp only [Nat.zero_add, List.nil_append] at hown ⊢
      refine ⟨A', c', rfl, hown, ((Below.refl _ _).alloc (Nat.le_refl _) _).grown hg (by simp) (fun k hk => by simp [bOf] at hk; omega), ?_⟩
      intro g hg
      rcases hat with h | h <;> rw [h] at hg <;> simp [bOf] at hg <;> omega


theorem conv_bytes {n c B : Nat} {A : Option Addr} {bs : List UInt8} {w : World} (h : Reads w B 1 A n (bys bs)) : (convert 22 9 (.slice A n c)).run Tryd.prog w = .ok (.string (bstr bs)) w :=
  run_bytes_str (P := Tryd.prog) 22 5 Tryd.underlying22 Tryd.underlying5 9 Tryd.underlying9 c h

end Go.Proofs.YtdnoafjaheofcaaDoor
