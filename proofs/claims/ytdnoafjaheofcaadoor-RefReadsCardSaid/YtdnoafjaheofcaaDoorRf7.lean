/- References: the laid variables; digits of any number. (Printed by gen_rf7.py.) -/
import Derived.Test.YtdnoafjaheofcaaDoorRf6
import Derived.Test.YtdnoafjaheofcaaDoorRfS
import Derived.Lib.ItoaMem
import Derived.Shelf.Strconv.Itoa3
import Derived.Lib.CutLaws
import Derived.Lib.AtoiErrMem
set_option linter.unusedSimpArgs false
set_option linter.unusedVariables false
namespace Go.Proofs.YtdnoafjaheofcaaDoor
open Go.RowKit Go.Sort Go.Lib
set_option maxRecDepth 100000

/-- The package variables that the statement lists, as this proof uses them; and one that it doesn't list: a number. -/
structure LaidW (w : World) : Prop where
  tab : Lib.TabIs Tryd.prog w "internal/strconv.uint64pow10" .u64 Lib.pow10Tab
  syn : ∃ tp p, w.var? Tryd.prog "strconv.ErrSyntax" = some #[.iface tp p]
  rng : ∃ tp p, w.var? Tryd.prog "strconv.ErrRange" = some #[.iface tp p]
  most : ∃ (g : Nat) (m : Int), Tryd.prog.globalNamed "internal/bytealg.MaxLen" = some g ∧ g < w.heap.size ∧ w.cell? ⟨g, 0, none⟩ = some (.int .i64 m)
theorem g_tab : Tryd.prog.globalNamed "internal/strconv.uint64pow10" = some 0 := by kernel_rfl
theorem g_syn : Tryd.prog.globalNamed "strconv.ErrSyntax" = some 1 := by kernel_rfl
theorem g_rng : Tryd.prog.globalNamed "strconv.ErrRange" = some 2 := by kernel_rfl
theorem var_next {P : Program} {n : String} {g : Nat} {cs : Array Value} {w w' : World} (hg : P.globalNamed n = some g) (h : w.var? P n = some cs) (hb : Below w.heap.size w w') : w'.var? P n = some cs := by
  unfold World.var? at h ⊢
  rw [hg] at h ⊢
  simp only [Option.bind_some] at h ⊢
  have hlt : g < w.heap.size := by
    rcases Nat.lt_or_ge g w.heap.size with h' | h'
    · exact h'
    · rw [Array.getElem?_eq_none h'] at h; cases h
  rw [hb.block g hlt]
  exact h
theorem LaidW.next {w w' : World} (h : LaidW w) (hb : Below w.heap.size w w') : LaidW w' := by
  obtain ⟨h1, ⟨a, b, h2⟩, ⟨c, d, h3⟩, g, m, h4, h5, h6⟩ := h
  exact ⟨var_next g_tab h1 hb, ⟨a, b, var_next g_syn h2 hb⟩, ⟨c, d, var_next g_rng h3 hb⟩, g, m, h4, Nat.lt_of_lt_of_le h5 hb.size, (hb.cell (p := ⟨g, 0, none⟩) h5).trans h6⟩
theorem holds_zero0 (w : World) (T : TypeId) (nd : Nat) (hs : nd ≤ 24) : Holds (fun (b : UInt8) => Value.int .u8 (b.toNat : Int)) (w.alloc (.cells zeros24 T)) w.heap.size 0 (Array.replicate nd (0 : UInt8)) := fun j hj => by
  rw [Array.size_replicate] at hj
  rw [World.cell?_alloc_new, show 0 + j = j by omega, zeros24_at j (by omega)]
  simp [hj]
theorem fin_pos0 (w : World) (o : Obj) (dk : Array UInt8) (k : Nat) : Below w.heap.size w ((putRow (fun (b : UInt8) => Value.int .u8 (b.toNat : Int)) (w.alloc o) w.heap.size 0 dk).drewN k) := by
  obtain ⟨os, e⟩ : ∃ os, (putRow (fun (b : UInt8) => Value.int .u8 (b.toNat : Int)) (w.alloc o) w.heap.size 0 dk).drewN k = grow (w.drewN k) os := by
    rw [alloc_eq_grow]
    obtain ⟨os', _, e⟩ := putRow_grow_new (fun (b : UInt8) => Value.int .u8 (b.toNat : Int)) w #[o] w.heap.size 0 dk (Nat.le_refl _)
    exact ⟨os', by rw [e]; rfl⟩
  rw [e]
  exact ⟨rfl, rfl, rfl, by simp [grow, World.drewN], fun j hj => by simp [grow, World.drewN, Array.getElem?_append, hj]⟩
set_option maxHeartbeats 3200000 in
theorem digits_any (u : Nat) (hu64 : u < 18446744073709551616) (w : World) (hL : LaidW w) : Calls Tryd.prog 47 #[.int .u64 (u : Int), .int .i64 10] w fun e w' => e = .returned (.string ⟨(Lib.decDigits u).toArray⟩) ∧ Below w.heap.size w w' := by
  by_cases hs : u < 100
  · go_enter Tryd.func47, Tryd.ntmps47
    have hw : IntKind.i64.wrap (u : Int) = (u : Int) := by
      rw [IntKind.wrap_i64]
      omega
    have hd : decide ((u : Int) < 100) = true := decide_eq_true (by omega)
    go_wp2_with fail
    refine (Tryd.internal_strconv_small u hs _).mono ?_
    rintro e w' ⟨rfl, rfl⟩
    dsimp only
    go_wp2_with fail
    go_ret
    exact ⟨rfl, Below.refl _ _⟩
  · have hu1 : 1 ≤ u := by omega
    have hd : decide ((u : Int) < 100) = false := decide_eq_false (by omega)
    have hnd20 : Lib.nDigits u ≤ 20 := by have := Lib.numDigits_eq u hu1 hu64; split at this <;> omega
    have hal : Tryd.prog.arrayLen 99 = 24 := by kernel_rfl
    have hsl : ∀ W, (Instr.sliceAt 99 (.pointer (some ⟨w.heap.size, 0, none⟩)) none (some (.int .i64 (Lib.nDigits u : Int))) none).run Tryd.prog W = .ok (.slice (some ⟨w.heap.size, 0, none⟩) (Lib.nDigits u) 24) W := fun W => by
      rw [run_sliceAt_array_h W 99 ⟨w.heap.size, 0, none⟩ (by kernel_rfl) .i64 (Lib.nDigits u : Int) (by omega) (by rw [hal]; omega)]
      go_simp
      try omega
    have hH0 := holds_zero0 w 99 (Lib.nDigits u) (by omega)
    have hnd := fun W (h : LaidW W) => Tryd.internal_strconv_numDigits u hu1 hu64 W h.tab
    have hfmt := Tryd.internal_strconv_formatBase10 w.heap.size 0 24 u (Array.replicate (Lib.nDigits u) 0) (w.alloc (.cells Lib.zeros24 99)) hH0 (by rw [Array.size_replicate]; exact Lib.lt_pow_nDigits u) hu64 (by rw [Array.size_replicate]; omega)
    rw [Array.size_replicate] at hfmt
    have hL1 := hL.next ((Below.refl w.heap.size w).alloc (Nat.le_refl _) (.cells Lib.zeros24 99))
    have hndd := hnd _ hL1
    replace hndd := Lib.hid hndd
    replace hfmt := Lib.hid hfmt
    have HH0 := Lib.hid hH0
    clear hH0 hal hnd hL1
    go_enter Tryd.func47, Tryd.ntmps47
    go_wp2_with fail
    refine hndd.out.mono ?_
    rintro e w' ⟨rfl, rfl⟩
    dsimp only
    go_wp2_with fail
    refine hfmt.out.mono ?_
    rintro e w' ⟨rfl, k, v', dk, rfl, hF⟩
    dsimp only
    have hcv : (convert 22 9 (.slice (some ⟨w.heap.size, 0, none⟩) (Lib.nDigits u) 24)).run Tryd.prog ((putRow (fun (b : UInt8) => Value.int .u8 (b.toNat : Int)) (w.alloc (.cells Lib.zeros24 99)) w.heap.size 0 dk).drewN k) = .ok (.string ⟨(Lib.decDigits u).toArray⟩) ((putRow (fun (b : UInt8) => Value.int .u8 (b.toNat : Int)) (w.alloc (.cells Lib.zeros24 99)) w.heap.size 0 dk).drewN k) := by
      have h := run_convert_bytes_back (P := Tryd.prog) ((putRow (fun (b : UInt8) => Value.int .u8 (b.toNat : Int)) (w.alloc (.cells Lib.zeros24 99)) w.heap.size 0 dk).drewN k) 22 9 5 ⟨w.heap.size, 0, none⟩ 24 (Lib.decDigits u) Tryd.underlying22 Tryd.underlying5 Tryd.underlying9 (fun j hj => by
        rw [Lib.row_is_numeral hF j hj, Lib.add_plain, World.cell?_drewN]
        exact cell?_putRow (fun (b : UInt8) => Value.int .u8 (b.toNat : Int)) _ w.heap.size 0 _ dk HH0.out (by rw [hF.size, Array.size_replicate]) j (by rw [hF.size]; rw [Lib.decDigits_length] at hj; exact hj))
      rw [Lib.decDigits_length] at h
      exact h
    have hb := fin_pos0 w (.cells Lib.zeros24 99) dk k
    go_wp2_with fail
    go_ret
    exact ⟨rfl, hb⟩
theorem digits_w (i : Nat) (h : i < 18446744073709551616) (w : World) (hL : LaidW w) : Calls Tryd.prog 28 #[.int .u64 i, .int .i64 10] w fun e w' => e = .returned (.string ⟨(Lib.decDigits i).toArray⟩) ∧ Below w.heap.size w w' := by
  have hin := digits_any i h w hL
  replace hin := Lib.hid hin
  clear hL
  go_enter Tryd.func28, Tryd.ntmps28
  go_wp2_with fail
  refine hin.out.mono ?_
  rintro e w' ⟨rfl, hb⟩
  dsimp only
  go_wp2_with fail
  go_ret
  exact ⟨rfl, hb⟩
theorem dec_size {u : Nat} (hu64 : u < 18446744073709551616) {D : ByteArray} (e : ⟨(Lib.decDigits u).toArray⟩ = D) : D.size ≤ 20 := by
  subst e
  show (Lib.decDigits u).toArray.size ≤ 20
  rw [List.size_toArray, Lib.decDigits_length]
  by_cases h : u = 0
  · subst h; decide +kernel
  · have := Lib.numDigits_eq u (by omega) hu64; split at this <;> omega
theorem decDigits_step {u : Nat} (h : ¬ u < 10) : Lib.decDigits u = Lib.decDigits (u / 10) ++ [UInt8.ofNat (48 + u % 10)] := by rw [Lib.decDigits, dif_neg h]
theorem ten_piece : ∀ u : Nat, u < 10 → (⟨#[48, 49, 50, 51, 52, 53, 54, 55, 56, 57]⟩ : ByteArray).extract u (u + 1) = bstr [UInt8.ofNat (48 + u)] := by decide +kernel
theorem dec_small (u : Nat) (h : u < 10) (w : World) : Calls Tryd.prog 30 #[.int .u64 (u : Int)] w (fun e w' => e = .returned (.string (bstr (Lib.decDigits u))) ∧ w' = w) := by
  have d1 : decide ((u : Int) < 10) = true := decide_eq_true (by omega)
  have hw : IntKind.u64.wrap ((u : Int) + 1) = (u : Int) + 1 := by rw [IntKind.wrap_u64]; omega
  have hp := ten_piece u h
  have hb : (0 : Int) ≤ (u : Int) := by omega
  have hb2 : (u : Int) ≤ (u : Int) + 1 := by omega
  have hb3 : (u : Int) + 1 ≤ 10 := by omega
  have hn : ((u : Int) + 1).toNat = u + 1 := by omega
  go_enter Tryd.func30, Tryd.ntmps30
  go_wp2_with fail
  go_ret
  exact ⟨by rw [Lib.decDigits_one h]; simp, rfl⟩
theorem dec_any (u : Nat) : u < 18446744073709551616 → ∀ w : World, Calls Tryd.prog 30 #[.int .u64 (u : Int)] w (fun e w' => e = .returned (.string (bstr (Lib.decDigits u))) ∧ w' = w) := by
  induction u using Nat.strongRecOn with
  | ind u ih =>
    intro hu w
    by_cases h : u < 10
    · exact dec_small u h w
    · have i1 := ih (u / 10) (by omega) (by omega)
      have i2 := dec_small (u % 10) (by omega)
      obtain ⟨a, ha⟩ : ∃ a, u / 10 = a := ⟨_, rfl⟩
      obtain ⟨b, hb⟩ : ∃ b, u % 10 = b := ⟨_, rfl⟩
      have hst := decDigits_step h
      rw [ha, hb] at hst
      rw [ha] at i1
      rw [hb] at i2
      have d1 : decide ((u : Int) < 10) = false := decide_eq_false (by omega)
      have q1 : Int.tdiv (u : Int) 10 = (a : Int) := by rw [Int.tdiv_eq_ediv_of_nonneg (by omega)]; omega
      have q2 : (u : Int) / 10 = (a : Int) := by omega
      have r1 : Int.tmod (u : Int) 10 = (b : Int) := by rw [Int.tmod_eq_emod_of_nonneg (by omega)]; omega
      have r2 : (u : Int) % 10 = (b : Int) := by omega
      have wa : IntKind.u64.wrap (a : Int) = (a : Int) := by rw [IntKind.wrap_u64]; omega
      have wb : IntKind.u64.wrap (b : Int) = (b : Int) := by rw [IntKind.wrap_u64]; omega
      have hlen : (Lib.decDigits a).length + (Lib.decDigits b).length ≤ 9223372036854775807 := by
        have h1 := dec_size (u := a) (by omega) rfl
        have h2 := dec_size (u := b) (by omega) rfl
        have e1 : (⟨(Lib.decDigits a).toArray⟩ : ByteArray).size = (Lib.decDigits a).length := List.size_toArray
        have e2 : (⟨(Lib.decDigits b).toArray⟩ : ByteArray).size = (Lib.decDigits b).length := List.size_toArray
        omega
      have hadd := fun W => run_bstr_add (P := Tryd.prog) W (Lib.decDigits a) (Lib.decDigits b) hlen
      have hfin : Lib.decDigits u = Lib.decDigits a ++ Lib.decDigits b := by rw [hst, Lib.decDigits_one (by omega : b < 10)]
      replace i1 := Lib.hid (i1 w)
      replace i2 := Lib.hid (i2 w)
      rw [hfin]
      clear hst hfin ih hlen
      go_enter Tryd.func30, Tryd.ntmps30
      go_wp2_with fail
      refine i1.out.mono ?_
      rintro e w1 ⟨rfl, rfl⟩
      dsimp only
      go_wp2_with fail
      refine i2.out.mono ?_
      rintro e w2 ⟨rfl, rfl⟩
      dsimp only
      go_wp2_with fail
      go_ret
      exact ⟨rfl, rfl⟩
end Go.Proofs.YtdnoafjaheofcaaDoor
