/- strings.Cut at a separator of one byte; the digits of a number below a hundred; number() at a text that is one. -/
import Derived.Test.YtokcmnenfgbdoaaDoorIdLess
import Derived.Test.YtokcmnenfgbdoaaDoorShelf
import Derived.BigQuiet
import Derived.Lib.CutLaws
import Derived.Lib.AtoiErrMem
namespace Go.Proofs.YtokcmnenfgbdoaaDoor
open Go.RowKit Go.Lib

set_option maxRecDepth 100000 in
theorem cut_inner (s : ByteArray) (c : UInt8) (w : World) (hs : s.size ≤ 140737488351232) : Calls Tryd.prog 21 #[.string s, .string ⟨#[c]⟩] w fun e w' =>
    e = .returned (.tuple #[.string ⟨(Lib.cut s.data.toList [c]).1.toArray⟩, .string ⟨(Lib.cut s.data.toList [c]).2.1.toArray⟩, .bool (Lib.cut s.data.toList [c]).2.2]) ∧ Below w.heap.size w w' := by
  rcases Lib.indexB_cases s ⟨#[c]⟩ with hix | ⟨i, hix, hroom⟩
  · obtain ⟨e1, e2, e3⟩ := Lib.cutB_miss s ⟨#[c]⟩ hix
    have hix' : Lib.indexByte s.data.toList c = -1 := by rw [← Lib.index_one]; exact hix
    rw [e1, e2, e3]
    go_enter Tryd.func21, Tryd.ntmps21
    go_wp2_with fail
    refine (Tryd.stringslite_Index_one _ _ _).mono ?_
    rintro e w' ⟨rfl, rfl⟩
    rw [hix']
    dsimp only
    go_wp2_with fail
    go_ret3
    exact ⟨rfl, Below.refl _ _⟩
  · obtain ⟨e1, e2, e3⟩ := Lib.cutB_hit s ⟨#[c]⟩ i hix
    have hix' : Lib.indexByte s.data.toList c = (i : Int) := by rw [← Lib.index_one]; exact hix
    have hroom' : i + 1 ≤ s.size := hroom
    rw [e1, e2, e3]
    have c1 : (0 : Int) ≤ ↑i := by omega
    have c2 : (↑i : Int) ≤ ↑s.size := by omega
    have c3 : (0 : Int) ≤ ↑i + 1 := by omega
    have c4 : (↑i + 1 : Int) ≤ ↑s.size := by omega
    go_enter Tryd.func21, Tryd.ntmps21
    go_wp2_with fail
    refine (Tryd.stringslite_Index_one _ _ _).mono ?_
    rintro e w' ⟨rfl, rfl⟩
    rw [hix']
    dsimp only
    go_wp2_with fail
    have hwr : IntKind.i64.wrap ((i : Int) + 1) = (i : Int) + 1 := by
      rw [IntKind.wrap_i64]
      omega
    go_quiet (fail)
    go_wp2_with fail
    go_ret3
    exact ⟨rfl, below_drewN (Below.refl _ _) _⟩

theorem cut_one (s : ByteArray) (c : UInt8) (w : World) (hs : s.size ≤ 140737488351232) {x y : ByteArray} {b : Bool} (h1 : ⟨(Lib.cut s.data.toList [c]).1.toArray⟩ = x) (h2 : ⟨(Lib.cut s.data.toList [c]).2.1.toArray⟩ = y) (h3 : (Lib.cut s.data.toList [c]).2.2 = b) :
    Calls Tryd.prog 13 #[.string s, .string ⟨#[c]⟩] w fun e w' => e = .returned (.tuple #[.string x, .string y, .bool b]) ∧ Below w.heap.size w w' := by
  subst h1 h2 h3
  go_enter Tryd.func13, Tryd.ntmps13
  go_wp2_with fail
  refine (cut_inner _ _ _ hs).mono ?_
  rintro e w' ⟨rfl, hb⟩
  dsimp only
  go_wp2_with fail
  go_ret3
  exact ⟨rfl, hb⟩

theorem digits_small (i : Nat) (h : i < 100) (w : World) : Calls Tryd.prog 12 #[.int .u64 i] w fun e w' => e = .returned (.string ⟨(Lib.decDigits i).toArray⟩) ∧ Below w.heap.size w w' := by
  go_enter Tryd.func12, Tryd.ntmps12
  go_wp2_with fail
  refine Calls.mono (R := fun e w' => e = .returned (.string ⟨(Lib.decDigits i).toArray⟩) ∧ Below w.heap.size w w') (h := ?_) (hr := ?_)
  · go_enter Tryd.func20, Tryd.ntmps20
    go_wp2_with fail
    refine Calls.mono (R := fun e w' => e = .returned (.string ⟨(Lib.decDigits i).toArray⟩) ∧ Below w.heap.size w w') (h := ?_) (hr := ?_)
    · go_enter Tryd.func25, Tryd.ntmps25
      have hw : IntKind.i64.wrap (i : Int) = (i : Int) := by
        rw [IntKind.wrap_i64]
        omega
      go_wp2_with fail
      refine (Tryd.internal_strconv_small i h _).mono ?_
      rintro e w' ⟨rfl, rfl⟩
      dsimp only
      go_wp2_with fail
      go_ret
      exact ⟨rfl, Below.refl _ _⟩
    · rintro e w' ⟨rfl, hb⟩
      dsimp only
      go_wp2_with fail
      go_ret
      exact ⟨rfl, hb⟩
  · rintro e w' ⟨rfl, hb⟩
    dsimp only
    go_wp2_with fail
    go_ret
    exact ⟨rfl, hb⟩

theorem number_ok32 (s : ByteArray) (hs : s.size ≤ 140737488351232) (u : Nat) (h : Lib.parseUintB 32 s.data.toList = .ok u) (w : World) :
    Calls Tryd.prog 14 #[.string s, .int .i64 32] w fun e w' => e = .returned (.tuple #[.int .u64 u, .bool true]) ∧ Below w.heap.size w w' := by
  go_enter Tryd.func14, Tryd.ntmps14
  go_wp2_with fail
  refine (Tryd.strconv_ParseUint_10_at32_ok s (by omega) u h w).mono ?_
  rintro e w' ⟨rfl, hw⟩
  dsimp only
  have hb : Below w.heap.size w w' := by
    rcases hw with rfl | rfl
    · exact Below.refl _ _
    · exact Lib.bytesWorld_below _ _ _
  go_wp2_with fail
  go_quiet (fail)
  go_wp2_with fail
  go_ret2
  exact ⟨rfl, below_drewN hb _⟩
theorem number_ok16 (s : ByteArray) (hs : s.size ≤ 140737488351232) (u : Nat) (h : Lib.parseUintB 16 s.data.toList = .ok u) (w : World) :
    Calls Tryd.prog 14 #[.string s, .int .i64 16] w fun e w' => e = .returned (.tuple #[.int .u64 u, .bool true]) ∧ Below w.heap.size w w' := by
  go_enter Tryd.func14, Tryd.ntmps14
  go_wp2_with fail
  refine (Tryd.strconv_ParseUint_10_at16_ok s (by omega) u h w).mono ?_
  rintro e w' ⟨rfl, hw⟩
  dsimp only
  have hb : Below w.heap.size w w' := by
    rcases hw with rfl | rfl
    · exact Below.refl _ _
    · exact Lib.bytesWorld_below _ _ _
  go_wp2_with fail
  go_quiet (fail)
  go_wp2_with fail
  go_ret2
  exact ⟨rfl, below_drewN hb _⟩
end Go.Proofs.YtokcmnenfgbdoaaDoor
