/- CallLimits' walk. -/
import Derived.Test.YtblakaddanoilaaOpCl
import Derived.Test.YtblakaddanoilaaCallKnown
import Derived.Test.YtblakaddanoilaaAlt
import Derived.Deep.CutRange
namespace Go.Proofs.Ytblakaddanoilaa
open Go.RowKit
set_option maxRecDepth 100000

def ints (n : Nat) : List Val := (List.range n).map fun (i : Nat) => .mk 1 (i : Int) 0 [] []
theorem ints_len (n : Nat) : (ints n).length = n := by simp [ints]
theorem ints_succ (n : Nat) : ints (n + 1) = ints n ++ [.mk 1 (n : Int) 0 [] []] := by simp [ints, List.range_succ]
theorem int_check (i : Int) : checkV (.mk 1 i 0 [] []) = 0 := by
  rfl
theorem int_size (i : Int) : (encV (.mk 1 i 0 [] [])).length = 9 := by
  simp [encV, putU_len]
theorem ints_mem {n : Nat} {v : Val} (h : v ∈ ints n) : ∃ i : Nat, i < n ∧ v = .mk 1 (i : Int) 0 [] [] := by
  simp only [ints, List.mem_map, List.mem_range] at h
  obtain ⟨i, h1, h2⟩ := h
  exact ⟨i, h1, h2.symm⟩
theorem errL_all : ∀ l : List Val, (∀ v ∈ l, checkV v = 0) → errL l = 0
  | [], _ => rfl
  | v :: l, h => by
    rw [errL, if_neg (by simp [h v (List.mem_cons_self ..)])]
    exact errL_all l (fun u hu => h u (List.mem_cons_of_mem _ hu))
theorem encL_all : ∀ l : List Val, (∀ v ∈ l, (encV v).length = 9) → (encL l).length = 9 * l.length
  | [], _ => rfl
  | v :: l, h => by
    rw [encL, List.length_append, h v (List.mem_cons_self ..), encL_all l (fun u hu => h u (List.mem_cons_of_mem _ hu)), List.length_cons]
    omega
theorem ints_err (n : Nat) : errL (ints n) = 0 := errL_all _ (fun v hv => by obtain ⟨i, -, rfl⟩ := ints_mem hv; exact int_check _)
theorem ints_size (n : Nat) : (encL (ints n)).length = 9 * n := by
  rw [encL_all _ (fun v hv => by obtain ⟨i, -, rfl⟩ := ints_mem hv; exact int_size _), ints_len]
theorem ints_ok {n : Nat} (hn : n ≤ 100) : ∀ v ∈ ints n, OkV v := fun v hv => by
  obtain ⟨i, hi, rfl⟩ := ints_mem hv
  exact val1_ok 1 i 0 (by decide) (by omega)
theorem int_own (w : World) (P : Nat → Prop) (i : Int) : VOwn w P (.mk 1 i 0 [] []) #[.int .i64 1, .int .i64 i, .float .f64 0, .string ⟨#[]⟩, .slice none 0 0] :=
  .mk (l := []) (s := []) (A := none) (c := 0) (xs := []) (fun _ => #[]) (by simp) Own.none_ (by simp [bOf]) (by simp) (by simp)
theorem errO_22 (g m : List UInt8) (n : Nat) : errO ⟨0, 0, 0, g, m, ints n⟩ = if n ≤ 16 ∧ g.length ≤ 32 ∧ m.length ≤ 32 then 0 else 22 := by
  unfold errO
  dsimp only
  rw [ints_len, ints_err]
  split
  · rw [if_neg (by omega)]
  · split
    · rw [if_neg (by omega)]
    · split
      · rw [if_neg (by omega)]
      · rw [if_pos (by omega)]

set_option maxHeartbeats 6400000 in
theorem callLimits_walk (g m n : Int) (w : World) (g0 : 0 ≤ g) (g1 : g ≤ 255) (m0 : 0 ≤ m) (m1 : m ≤ 255) (n0 : 0 ≤ n) (n1 : n ≤ 255) :
    Calls Try.prog 6 #[.int .u8 g, .int .u8 m, .int .u8 n] w (Says w (.bool true)) := by
  obtain ⟨i0, hi, hz0, hz1, hz2⟩ := info_parts info_u8
  obtain ⟨i1, gi, gz0, gz1, gz2⟩ := info_parts info_val
  have hsf := fun a k x m w => run_store_float (P := Try.prog) a k x m w
  obtain ⟨p, hp, hp40, hpb⟩ : ∃ p : List UInt8, g % 40 = (p.length : Int) ∧ p.length < 40 ∧ bys p = List.replicate p.length (.int .u8 0) :=
    ⟨List.replicate (g % 40).toNat 0, by rw [List.length_replicate]; omega, by rw [List.length_replicate]; omega, by simp [bys, byv]⟩
  obtain ⟨q, hq, hq40, hqb⟩ : ∃ q : List UInt8, m % 40 = (q.length : Int) ∧ q.length < 40 ∧ bys q = List.replicate q.length (.int .u8 0) :=
    ⟨List.replicate (m % 40).toNat 0, by rw [List.length_replicate]; omega, by rw [List.length_replicate]; omega, by simp [bys, byv]⟩
  obtain ⟨k, hk, hk20⟩ : ∃ k : Nat, n % 20 = (k : Int) ∧ k < 20 := ⟨(n % 20).toNat, by omega, by omega⟩
  have tp : g.tmod 40 = (p.length : Int) := by rw [Int.tmod_eq_emod_of_nonneg g0]; exact hp
  have tq : m.tmod 40 = (q.length : Int) := by rw [Int.tmod_eq_emod_of_nonneg m0]; exact hq
  have tk : n.tmod 20 = (k : Int) := by rw [Int.tmod_eq_emod_of_nonneg n0]; exact hk
  have wp_ : IntKind.i64.wrap (p.length : Int) = (p.length : Int) := w64_id _ (by omega) (by omega)
  have wq_ : IntKind.i64.wrap (q.length : Int) = (q.length : Int) := w64_id _ (by omega) (by omega)
  have wk_ : IntKind.i64.wrap (k : Int) = (k : Int) := w64_id _ (by omega) (by omega)
  have hmk1 := fun W => run_make_nat (P := Try.prog) 22 5 i0 (.int .u8 0) Try.underlying22 hi hz0 hz1 rfl .i64 .i64 p.length (by rw [hz2]; omega) (by omega) W
  have hmk2 := fun W => run_make_nat (P := Try.prog) 22 5 i0 (.int .u8 0) Try.underlying22 hi hz0 hz1 rfl .i64 .i64 q.length (by rw [hz2]; omega) (by omega) W
  go_enter Try.func6, Try.ntmps6
  go_wp2_with fail
  refine (known_true _).mono ?_
  rintro e w1 ⟨rfl, hb1⟩
  dsimp only
  go_upto_region 3 with (fail)
  go_cut [7] from 17 to 27 (fun x7 wx => ∃ b : Nat, x7 = .pointer (some ⟨b, 0, none⟩) ∧ w.heap.size ≤ b ∧ Blk wx b 29 #[.int .u32 0, .int .u32 0, .int .u16 0, .string (bstr p), .string (bstr q), .slice none 0 0] ∧ Below w.heap.size w wx)
  case first =>
    obtain ⟨zp, hzp⟩ : ∃ zp, Array.replicate p.length (Value.int .u8 0) = zp := ⟨_, rfl⟩
    obtain ⟨zq, hzq⟩ : ∃ zq, Array.replicate q.length (Value.int .u8 0) = zq := ⟨_, rfl⟩
    have hrp := fun W : World => Reads.lit (size := 1) W zp 5 (0, 0) p.length (bys p) (by rw [hpb, ← hzp]; simp) (by simp [bys])
    have hrq := fun W : World => Reads.lit (size := 1) W zq 5 (0, 0) q.length (bys q) (by rw [hqb, ← hzq]; simp) (by simp [bys])
    rw [hzp] at hmk1
    rw [hzq] at hmk2
    clear hzp hzq hpb hqb
    refine wp_region_alts (fun W => Below w1.drew.heap.size w1.drew W) [4, 9] [3, 8, 11, 12] (.one 0 (.one 1 (.one 2 (.one 5 (.one 6 (.one 7 (.alt 3 (.one 4 (.alt 8 (.one 9 (.one 10 (.one 11 (.one 12 .nil)))) (.one 11 (.one 8 (.one 9 (.one 10 (.one 12 .nil))))))) (.alt 8 (.one 9 (.alt 3 (.one 4 (.one 10 (.one 11 (.one 12 .nil)))) (.one 11 (.one 3 (.one 4 (.one 10 (.one 12 .nil))))))) (.one 11 (.alt 3 (.one 4 (.one 8 (.one 9 (.one 10 (.one 12 .nil))))) (.one 8 (.one 9 (.one 3 (.one 4 (.one 10 (.one 12 .nil)))))))))))))))) (by kernel_rfl) rfl rfl (by kernel_rfl) (by kernel_rfl) (fun _ _ d _ _ h => by cases d <;> exact h) ?_
    have acc0 : Below w.heap.size w w1.drew := hb1.drew
    generalize w1.drew = v0 at *
    repeat (refine altG_take _ ?_ rfl rfl rfl rfl (fun _ => ?_) ?_; rotate_left; (focus (go_simp; with_reducible rfl)); try simp only [Act.put, List.setIfInBounds_toArray, List.set_cons_zero, List.set_cons_succ])
    refine altG_alt rfl ?_ ?_
    · skip
      refine altG_now _ rfl rfl rfl (fun K0 hK => ?_)
      go_wp2_with fail
      have hst := (Below.refl v0.heap.size v0).alloc (Nat.le_refl _) (.cells zp 5)
      have hss : (v0.alloc (.cells zp 5)).heap.size = v0.heap.size + 1 := World.size_alloc ..
      have acc1 := below_then hst acc0
      have hP := hrp v0
      rw [← hss] at hP
      refine hK _ _ (fun W => Below (v0.alloc (.cells zp 5)).heap.size (v0.alloc (.cells zp 5)) W) (fun _ h => below_then h hst) (Below.refl _ _) ?_
      clear hK K0 hst
      replace hss := Lib.hid hss
      generalize v0.alloc (.cells zp 5) = v1 at *
      try simp only [Act.put, List.setIfInBounds_toArray, List.set_cons_zero, List.set_cons_succ]
      have hSk := Below.refl v1.heap.size v1
      repeat (first | (refine altG_take _ ?_ rfl rfl rfl rfl (fun _ => ?_) ?_; rotate_left; (focus (go_simp; with_reducible rfl)); try simp only [Act.put, List.setIfInBounds_toArray, List.set_cons_zero, List.set_cons_succ]) | (refine altG_held _ ?_ rfl rfl rfl rfl (by assumption) (fun _ hSw => ?_) ?_; rotate_left; (focus (have z0 := conv_bytes (c := p.length) ((hP).below hSw); clear hSw; go_simp; with_reducible rfl)); try simp only [Act.put, List.setIfInBounds_toArray, List.set_cons_zero, List.set_cons_succ]) | (refine altG_skip _ rfl rfl (by assumption) ?_; try simp only [Act.put, List.setIfInBounds_toArray, List.set_cons_zero, List.set_cons_succ]))
      refine altG_alt rfl ?_ ?_
      · skip
        refine altG_now _ rfl rfl rfl (fun K0 hK => ?_)
        go_wp2_with fail
        have hst := (Below.refl v1.heap.size v1).alloc (Nat.le_refl _) (.cells zq 5)
        have hss : (v1.alloc (.cells zq 5)).heap.size = v1.heap.size + 1 := World.size_alloc ..
        have acc2 := below_then hst acc1
        have hQ := hrq v1
        rw [← hss] at hQ
        replace hP := (hP.below hst).more hst.size
        refine hK _ _ (fun W => Below (v1.alloc (.cells zq 5)).heap.size (v1.alloc (.cells zq 5)) W) (fun _ h => below_then h hst) (Below.refl _ _) ?_
        clear hK K0 hst
        replace hss := Lib.hid hss
        generalize v1.alloc (.cells zq 5) = v2 at *
        try simp only [Act.put, List.setIfInBounds_toArray, List.set_cons_zero, List.set_cons_succ]
        have hSk := Below.refl v2.heap.size v2
        repeat (first | (refine altG_take _ ?_ rfl rfl rfl rfl (fun _ => ?_) ?_; rotate_left; (focus (go_simp; with_reducible rfl)); try simp only [Act.put, List.setIfInBounds_toArray, List.set_cons_zero, List.set_cons_succ]) | (refine altG_held _ ?_ rfl rfl rfl rfl (by assumption) (fun _ hSw => ?_) ?_; rotate_left; (focus (have z0 := conv_bytes (c := p.length) ((hP).below hSw); have z1 := conv_bytes (c := q.length) ((hQ).below hSw); clear hSw; go_simp; with_reducible rfl)); try simp only [Act.put, List.setIfInBounds_toArray, List.set_cons_zero, List.set_cons_succ]) | (refine altG_skip _ rfl rfl (by assumption) ?_; try simp only [Act.put, List.setIfInBounds_toArray, List.set_cons_zero, List.set_cons_succ]))
        refine altG_now _ rfl rfl rfl (fun K0 hK => ?_)
        go_wp2_with fail
        have hst := (Below.refl v2.heap.size v2).alloc (Nat.le_refl _) (.cells #[.int .u32 0, .int .u32 0, .int .u16 0, .string ⟨#[]⟩, .string ⟨#[]⟩, .slice none 0 0] 29)
        have hss : (v2.alloc (.cells #[.int .u32 0, .int .u32 0, .int .u16 0, .string ⟨#[]⟩, .string ⟨#[]⟩, .slice none 0 0] 29)).heap.size = v2.heap.size + 1 := World.size_alloc ..
        have acc3 := below_then hst acc2
        have hBk := Blk.new v2 29 #[.int .u32 0, .int .u32 0, .int .u16 0, .string ⟨#[]⟩, .string ⟨#[]⟩, .slice none 0 0]
        have hbs : w.heap.size ≤ v2.heap.size := acc2.size
        replace hP := (hP.below hst).more hst.size
        replace hQ := (hQ.below hst).more hst.size
        refine hK _ _ (fun W => Below (v2.alloc (.cells #[.int .u32 0, .int .u32 0, .int .u16 0, .string ⟨#[]⟩, .string ⟨#[]⟩, .slice none 0 0] 29)).heap.size (v2.alloc (.cells #[.int .u32 0, .int .u32 0, .int .u16 0, .string ⟨#[]⟩, .string ⟨#[]⟩, .slice none 0 0] 29)) W) (fun _ h => below_then h hst) (Below.refl _ _) ?_
        clear hK K0 hst
        replace hss := Lib.hid hss
        generalize v2.alloc (.cells #[.int .u32 0, .int .u32 0, .int .u16 0, .string ⟨#[]⟩, .string ⟨#[]⟩, .slice none 0 0] 29) = v3 at *
        try simp only [Act.put, List.setIfInBounds_toArray, List.set_cons_zero, List.set_cons_succ]
        have hSk := Below.refl v3.heap.size v3
        repeat (first | (refine altG_take _ ?_ rfl rfl rfl rfl (fun _ => ?_) ?_; rotate_left; (focus (go_simp; with_reducible rfl)); try simp only [Act.put, List.setIfInBounds_toArray, List.set_cons_zero, List.set_cons_succ]) | (refine altG_held _ ?_ rfl rfl rfl rfl (by assumption) (fun _ hSw => ?_) ?_; rotate_left; (focus (have z0 := conv_bytes (c := p.length) ((hP).below hSw); have z1 := conv_bytes (c := q.length) ((hQ).below hSw); clear hSw; go_simp; with_reducible rfl)); try simp only [Act.put, List.setIfInBounds_toArray, List.set_cons_zero, List.set_cons_succ]) | (refine altG_skip _ rfl rfl (by assumption) ?_; try simp only [Act.put, List.setIfInBounds_toArray, List.set_cons_zero, List.set_cons_succ]))
        refine altG_nowF _ rfl rfl rfl (by kernel_rfl) (fun K0 hK => ?_)
        refine wp_store_row 29 (Operand.tmp 7) (Operand.tmp 27) rfl v2.heap.size #[.int .u32 0, .int .u32 0, .int .u16 0, .string (bstr p), .string (bstr q), .slice none 0 0] (by simp [go_sem]) (by simp [go_sem]) 29 _ hBk (by kernel_rfl) rfl (by simp [Value.oneCell']) ?_
        refine hK _ _ ?_
        clear hK K0
        try simp only [Act.put, List.setIfInBounds_toArray, List.set_cons_zero, List.set_cons_succ]
        refine altG_nil ?_
        have hR := hBk.row #[.int .u32 0, .int .u32 0, .int .u16 0, .string (bstr p), .string (bstr q), .slice none 0 0]
        have hF := below_row acc3 (g := v2.heap.size) hbs #[.int .u32 0, .int .u32 0, .int .u16 0, .string (bstr p), .string (bstr q), .slice none 0 0]
        go_wp2_with fail
        go_meet
        exact ⟨v2.heap.size, rfl, hbs, hR, hF⟩
      · skip
        refine altG_now _ rfl rfl rfl (fun K0 hK => ?_)
        go_wp2_with fail
        have hst := (Below.refl v1.heap.size v1).alloc (Nat.le_refl _) (.cells #[.int .u32 0, .int .u32 0, .int .u16 0, .string ⟨#[]⟩, .string ⟨#[]⟩, .slice none 0 0] 29)
        have hss : (v1.alloc (.cells #[.int .u32 0, .int .u32 0, .int .u16 0, .string ⟨#[]⟩, .string ⟨#[]⟩, .slice none 0 0] 29)).heap.size = v1.heap.size + 1 := World.size_alloc ..
        have acc2 := below_then hst acc1
        have hBk := Blk.new v1 29 #[.int .u32 0, .int .u32 0, .int .u16 0, .string ⟨#[]⟩, .string ⟨#[]⟩, .slice none 0 0]
        have hbs : w.heap.size ≤ v1.heap.size := acc1.size
        replace hP := (hP.below hst).more hst.size
        refine hK _ _ (fun W => Below (v1.alloc (.cells #[.int .u32 0, .int .u32 0, .int .u16 0, .string ⟨#[]⟩, .string ⟨#[]⟩, .slice none 0 0] 29)).heap.size (v1.alloc (.cells #[.int .u32 0, .int .u32 0, .int .u16 0, .string ⟨#[]⟩, .string ⟨#[]⟩, .slice none 0 0] 29)) W) (fun _ h => below_then h hst) (Below.refl _ _) ?_
        clear hK K0 hst
        replace hss := Lib.hid hss
        generalize v1.alloc (.cells #[.int .u32 0, .int .u32 0, .int .u16 0, .string ⟨#[]⟩, .string ⟨#[]⟩, .slice none 0 0] 29) = v2 at *
        try simp only [Act.put, List.setIfInBounds_toArray, List.set_cons_zero, List.set_cons_succ]
        have hSk := Below.refl v2.heap.size v2
        repeat (first | (refine altG_take _ ?_ rfl rfl rfl rfl (fun _ => ?_) ?_; rotate_left; (focus (go_simp; with_reducible rfl)); try simp only [Act.put, List.setIfInBounds_toArray, List.set_cons_zero, List.set_cons_succ]) | (refine altG_held _ ?_ rfl rfl rfl rfl (by assumption) (fun _ hSw => ?_) ?_; rotate_left; (focus (have z0 := conv_bytes (c := p.length) ((hP).below hSw); clear hSw; go_simp; with_reducible rfl)); try simp only [Act.put, List.setIfInBounds_toArray, List.set_cons_zero, List.set_cons_succ]) | (refine altG_skip _ rfl rfl (by assumption) ?_; try simp only [Act.put, List.setIfInBounds_toArray, List.set_cons_zero, List.set_cons_succ]))
        refine altG_now _ rfl rfl rfl (fun K0 hK => ?_)
        go_wp2_with fail
        have hst := (Below.refl v2.heap.size v2).alloc (Nat.le_refl _) (.cells zq 5)
        have hss : (v2.alloc (.cells zq 5)).heap.size = v2.heap.size + 1 := World.size_alloc ..
        have acc3 := below_then hst acc2
        have hQ := hrq v2
        rw [← hss] at hQ
        replace hP := (hP.below hst).more hst.size
        replace hBk := hBk.below hst hBk.lt
        refine hK _ _ (fun W => Below (v2.alloc (.cells zq 5)).heap.size (v2.alloc (.cells zq 5)) W) (fun _ h => below_then h hst) (Below.refl _ _) ?_
        clear hK K0 hst
        replace hss := Lib.hid hss
        generalize v2.alloc (.cells zq 5) = v3 at *
        try simp only [Act.put, List.setIfInBounds_toArray, List.set_cons_zero, List.set_cons_succ]
        have hSk := Below.refl v3.heap.size v3
        repeat (first | (refine altG_take _ ?_ rfl rfl rfl rfl (fun _ => ?_) ?_; rotate_left; (focus (go_simp; with_reducible rfl)); try simp only [Act.put, List.setIfInBounds_toArray, List.set_cons_zero, List.set_cons_succ]) | (refine altG_held _ ?_ rfl rfl rfl rfl (by assumption) (fun _ hSw => ?_) ?_; rotate_left; (focus (have z0 := conv_bytes (c := p.length) ((hP).below hSw); have z1 := conv_bytes (c := q.length) ((hQ).below hSw); clear hSw; go_simp; with_reducible rfl)); try simp only [Act.put, List.setIfInBounds_toArray, List.set_cons_zero, List.set_cons_succ]) | (refine altG_skip _ rfl rfl (by assumption) ?_; try simp only [Act.put, List.setIfInBounds_toArray, List.set_cons_zero, List.set_cons_succ]))
        refine altG_nowF _ rfl rfl rfl (by kernel_rfl) (fun K0 hK => ?_)
        refine wp_store_row 29 (Operand.tmp 7) (Operand.tmp 27) rfl v1.heap.size #[.int .u32 0, .int .u32 0, .int .u16 0, .string (bstr p), .string (bstr q), .slice none 0 0] (by simp [go_sem]) (by simp [go_sem]) 29 _ hBk (by kernel_rfl) rfl (by simp [Value.oneCell']) ?_
        refine hK _ _ ?_
        clear hK K0
        try simp only [Act.put, List.setIfInBounds_toArray, List.set_cons_zero, List.set_cons_succ]
        refine altG_nil ?_
        have hR := hBk.row #[.int .u32 0, .int .u32 0, .int .u16 0, .string (bstr p), .string (bstr q), .slice none 0 0]
        have hF := below_row acc3 (g := v1.heap.size) hbs #[.int .u32 0, .int .u32 0, .int .u16 0, .string (bstr p), .string (bstr q), .slice none 0 0]
        go_wp2_with fail
        go_meet
        exact ⟨v1.heap.size, rfl, hbs, hR, hF⟩
    refine altG_alt rfl ?_ ?_
    · skip
      refine altG_now _ rfl rfl rfl (fun K0 hK => ?_)
      go_wp2_with fail
      have hst := (Below.refl v0.heap.size v0).alloc (Nat.le_refl _) (.cells zq 5)
      have hss : (v0.alloc (.cells zq 5)).heap.size = v0.heap.size + 1 := World.size_alloc ..
      have acc1 := below_then hst acc0
      have hQ := hrq v0
      rw [← hss] at hQ
      refine hK _ _ (fun W => Below (v0.alloc (.cells zq 5)).heap.size (v0.alloc (.cells zq 5)) W) (fun _ h => below_then h hst) (Below.refl _ _) ?_
      clear hK K0 hst
      replace hss := Lib.hid hss
      generalize v0.alloc (.cells zq 5) = v1 at *
      try simp only [Act.put, List.setIfInBounds_toArray, List.set_cons_zero, List.set_cons_succ]
      have hSk := Below.refl v1.heap.size v1
      repeat (first | (refine altG_take _ ?_ rfl rfl rfl rfl (fun _ => ?_) ?_; rotate_left; (focus (go_simp; with_reducible rfl)); try simp only [Act.put, List.setIfInBounds_toArray, List.set_cons_zero, List.set_cons_succ]) | (refine altG_held _ ?_ rfl rfl rfl rfl (by assumption) (fun _ hSw => ?_) ?_; rotate_left; (focus (have z0 := conv_bytes (c := q.length) ((hQ).below hSw); clear hSw; go_simp; with_reducible rfl)); try simp only [Act.put, List.setIfInBounds_toArray, List.set_cons_zero, List.set_cons_succ]) | (refine altG_skip _ rfl rfl (by assumption) ?_; try simp only [Act.put, List.setIfInBounds_toArray, List.set_cons_zero, List.set_cons_succ]))
      refine altG_alt rfl ?_ ?_
      · skip
        refine altG_now _ rfl rfl rfl (fun K0 hK => ?_)
        go_wp2_with fail
        have hst := (Below.refl v1.heap.size v1).alloc (Nat.le_refl _) (.cells zp 5)
        have hss : (v1.alloc (.cells zp 5)).heap.size = v1.heap.size + 1 := World.size_alloc ..
        have acc2 := below_then hst acc1
        have hP := hrp v1
        rw [← hss] at hP
        replace hQ := (hQ.below hst).more hst.size
        refine hK _ _ (fun W => Below (v1.alloc (.cells zp 5)).heap.size (v1.alloc (.cells zp 5)) W) (fun _ h => below_then h hst) (Below.refl _ _) ?_
        clear hK K0 hst
        replace hss := Lib.hid hss
        generalize v1.alloc (.cells zp 5) = v2 at *
        try simp only [Act.put, List.setIfInBounds_toArray, List.set_cons_zero, List.set_cons_succ]
        have hSk := Below.refl v2.heap.size v2
        repeat (first | (refine altG_take _ ?_ rfl rfl rfl rfl (fun _ => ?_) ?_; rotate_left; (focus (go_simp; with_reducible rfl)); try simp only [Act.put, List.setIfInBounds_toArray, List.set_cons_zero, List.set_cons_succ]) | (refine altG_held _ ?_ rfl rfl rfl rfl (by assumption) (fun _ hSw => ?_) ?_; rotate_left; (focus (have z0 := conv_bytes (c := p.length) ((hP).below hSw); have z1 := conv_bytes (c := q.length) ((hQ).below hSw); clear hSw; go_simp; with_reducible rfl)); try simp only [Act.put, List.setIfInBounds_toArray, List.set_cons_zero, List.set_cons_succ]) | (refine altG_skip _ rfl rfl (by assumption) ?_; try simp only [Act.put, List.setIfInBounds_toArray, List.set_cons_zero, List.set_cons_succ]))
        refine altG_now _ rfl rfl rfl (fun K0 hK => ?_)
        go_wp2_with fail
        have hst := (Below.refl v2.heap.size v2).alloc (Nat.le_refl _) (.cells #[.int .u32 0, .int .u32 0, .int .u16 0, .string ⟨#[]⟩, .string ⟨#[]⟩, .slice none 0 0] 29)
        have hss : (v2.alloc (.cells #[.int .u32 0, .int .u32 0, .int .u16 0, .string ⟨#[]⟩, .string ⟨#[]⟩, .slice none 0 0] 29)).heap.size = v2.heap.size + 1 := World.size_alloc ..
        have acc3 := below_then hst acc2
        have hBk := Blk.new v2 29 #[.int .u32 0, .int .u32 0, .int .u16 0, .string ⟨#[]⟩, .string ⟨#[]⟩, .slice none 0 0]
        have hbs : w.heap.size ≤ v2.heap.size := acc2.size
        replace hQ := (hQ.below hst).more hst.size
        replace hP := (hP.below hst).more hst.size
        refine hK _ _ (fun W => Below (v2.alloc (.cells #[.int .u32 0, .int .u32 0, .int .u16 0, .string ⟨#[]⟩, .string ⟨#[]⟩, .slice none 0 0] 29)).heap.size (v2.alloc (.cells #[.int .u32 0, .int .u32 0, .int .u16 0, .string ⟨#[]⟩, .string ⟨#[]⟩, .slice none 0 0] 29)) W) (fun _ h => below_then h hst) (Below.refl _ _) ?_
        clear hK K0 hst
        replace hss := Lib.hid hss
        generalize v2.alloc (.cells #[.int .u32 0, .int .u32 0, .int .u16 0, .string ⟨#[]⟩, .string ⟨#[]⟩, .slice none 0 0] 29) = v3 at *
        try simp only [Act.put, List.setIfInBounds_toArray, List.set_cons_zero, List.set_cons_succ]
        have hSk := Below.refl v3.heap.size v3
        repeat (first | (refine altG_take _ ?_ rfl rfl rfl rfl (fun _ => ?_) ?_; rotate_left; (focus (go_simp; with_reducible rfl)); try simp only [Act.put, List.setIfInBounds_toArray, List.set_cons_zero, List.set_cons_succ]) | (refine altG_held _ ?_ rfl rfl rfl rfl (by assumption) (fun _ hSw => ?_) ?_; rotate_left; (focus (have z0 := conv_bytes (c := p.length) ((hP).below hSw); have z1 := conv_bytes (c := q.length) ((hQ).below hSw); clear hSw; go_simp; with_reducible rfl)); try simp only [Act.put, List.setIfInBounds_toArray, List.set_cons_zero, List.set_cons_succ]) | (refine altG_skip _ rfl rfl (by assumption) ?_; try simp only [Act.put, List.setIfInBounds_toArray, List.set_cons_zero, List.set_cons_succ]))
        refine altG_nowF _ rfl rfl rfl (by kernel_rfl) (fun K0 hK => ?_)
        refine wp_store_row 29 (Operand.tmp 7) (Operand.tmp 27) rfl v2.heap.size #[.int .u32 0, .int .u32 0, .int .u16 0, .string (bstr p), .string (bstr q), .slice none 0 0] (by simp [go_sem]) (by simp [go_sem]) 29 _ hBk (by kernel_rfl) rfl (by simp [Value.oneCell']) ?_
        refine hK _ _ ?_
        clear hK K0
        try simp only [Act.put, List.setIfInBounds_toArray, List.set_cons_zero, List.set_cons_succ]
        refine altG_nil ?_
        have hR := hBk.row #[.int .u32 0, .int .u32 0, .int .u16 0, .string (bstr p), .string (bstr q), .slice none 0 0]
        have hF := below_row acc3 (g := v2.heap.size) hbs #[.int .u32 0, .int .u32 0, .int .u16 0, .string (bstr p), .string (bstr q), .slice none 0 0]
        go_wp2_with fail
        go_meet
        exact ⟨v2.heap.size, rfl, hbs, hR, hF⟩
      · skip
        refine altG_now _ rfl rfl rfl (fun K0 hK => ?_)
        go_wp2_with fail
        have hst := (Below.refl v1.heap.size v1).alloc (Nat.le_refl _) (.cells #[.int .u32 0, .int .u32 0, .int .u16 0, .string ⟨#[]⟩, .string ⟨#[]⟩, .slice none 0 0] 29)
        have hss : (v1.alloc (.cells #[.int .u32 0, .int .u32 0, .int .u16 0, .string ⟨#[]⟩, .string ⟨#[]⟩, .slice none 0 0] 29)).heap.size = v1.heap.size + 1 := World.size_alloc ..
        have acc2 := below_then hst acc1
        have hBk := Blk.new v1 29 #[.int .u32 0, .int .u32 0, .int .u16 0, .string ⟨#[]⟩, .string ⟨#[]⟩, .slice none 0 0]
        have hbs : w.heap.size ≤ v1.heap.size := acc1.size
        replace hQ := (hQ.below hst).more hst.size
        refine hK _ _ (fun W => Below (v1.alloc (.cells #[.int .u32 0, .int .u32 0, .int .u16 0, .string ⟨#[]⟩, .string ⟨#[]⟩, .slice none 0 0] 29)).heap.size (v1.alloc (.cells #[.int .u32 0, .int .u32 0, .int .u16 0, .string ⟨#[]⟩, .string ⟨#[]⟩, .slice none 0 0] 29)) W) (fun _ h => below_then h hst) (Below.refl _ _) ?_
        clear hK K0 hst
        replace hss := Lib.hid hss
        generalize v1.alloc (.cells #[.int .u32 0, .int .u32 0, .int .u16 0, .string ⟨#[]⟩, .string ⟨#[]⟩, .slice none 0 0] 29) = v2 at *
        try simp only [Act.put, List.setIfInBounds_toArray, List.set_cons_zero, List.set_cons_succ]
        have hSk := Below.refl v2.heap.size v2
        repeat (first | (refine altG_take _ ?_ rfl rfl rfl rfl (fun _ => ?_) ?_; rotate_left; (focus (go_simp; with_reducible rfl)); try simp only [Act.put, List.setIfInBounds_toArray, List.set_cons_zero, List.set_cons_succ]) | (refine altG_held _ ?_ rfl rfl rfl rfl (by assumption) (fun _ hSw => ?_) ?_; rotate_left; (focus (have z0 := conv_bytes (c := q.length) ((hQ).below hSw); clear hSw; go_simp; with_reducible rfl)); try simp only [Act.put, List.setIfInBounds_toArray, List.set_cons_zero, List.set_cons_succ]) | (refine altG_skip _ rfl rfl (by assumption) ?_; try simp only [Act.put, List.setIfInBounds_toArray, List.set_cons_zero, List.set_cons_succ]))
        refine altG_now _ rfl rfl rfl (fun K0 hK => ?_)
        go_wp2_with fail
        have hst := (Below.refl v2.heap.size v2).alloc (Nat.le_refl _) (.cells zp 5)
        have hss : (v2.alloc (.cells zp 5)).heap.size = v2.heap.size + 1 := World.size_alloc ..
        have acc3 := below_then hst acc2
        have hP := hrp v2
        rw [← hss] at hP
        replace hQ := (hQ.below hst).more hst.size
        replace hBk := hBk.below hst hBk.lt
        refine hK _ _ (fun W => Below (v2.alloc (.cells zp 5)).heap.size (v2.alloc (.cells zp 5)) W) (fun _ h => below_then h hst) (Below.refl _ _) ?_
        clear hK K0 hst
        replace hss := Lib.hid hss
        generalize v2.alloc (.cells zp 5) = v3 at *
        try simp only [Act.put, List.setIfInBounds_toArray, List.set_cons_zero, List.set_cons_succ]
        have hSk := Below.refl v3.heap.size v3
        repeat (first | (refine altG_take _ ?_ rfl rfl rfl rfl (fun _ => ?_) ?_; rotate_left; (focus (go_simp; with_reducible rfl)); try simp only [Act.put, List.setIfInBounds_toArray, List.set_cons_zero, List.set_cons_succ]) | (refine altG_held _ ?_ rfl rfl rfl rfl (by assumption) (fun _ hSw => ?_) ?_; rotate_left; (focus (have z0 := conv_bytes (c := p.length) ((hP).below hSw); have z1 := conv_bytes (c := q.length) ((hQ).below hSw); clear hSw; go_simp; with_reducible rfl)); try simp only [Act.put, List.setIfInBounds_toArray, List.set_cons_zero, List.set_cons_succ]) | (refine altG_skip _ rfl rfl (by assumption) ?_; try simp only [Act.put, List.setIfInBounds_toArray, List.set_cons_zero, List.set_cons_succ]))
        refine altG_nowF _ rfl rfl rfl (by kernel_rfl) (fun K0 hK => ?_)
        refine wp_store_row 29 (Operand.tmp 7) (Operand.tmp 27) rfl v1.heap.size #[.int .u32 0, .int .u32 0, .int .u16 0, .string (bstr p), .string (bstr q), .slice none 0 0] (by simp [go_sem]) (by simp [go_sem]) 29 _ hBk (by kernel_rfl) rfl (by simp [Value.oneCell']) ?_
        refine hK _ _ ?_
        clear hK K0
        try simp only [Act.put, List.setIfInBounds_toArray, List.set_cons_zero, List.set_cons_succ]
        refine altG_nil ?_
        have hR := hBk.row #[.int .u32 0, .int .u32 0, .int .u16 0, .string (bstr p), .string (bstr q), .slice none 0 0]
        have hF := below_row acc3 (g := v1.heap.size) hbs #[.int .u32 0, .int .u32 0, .int .u16 0, .string (bstr p), .string (bstr q), .slice none 0 0]
        go_wp2_with fail
        go_meet
        exact ⟨v1.heap.size, rfl, hbs, hR, hF⟩
    · skip
      refine altG_now _ rfl rfl rfl (fun K0 hK => ?_)
      go_wp2_with fail
      have hst := (Below.refl v0.heap.size v0).alloc (Nat.le_refl _) (.cells #[.int .u32 0, .int .u32 0, .int .u16 0, .string ⟨#[]⟩, .string ⟨#[]⟩, .slice none 0 0] 29)
      have hss : (v0.alloc (.cells #[.int .u32 0, .int .u32 0, .int .u16 0, .string ⟨#[]⟩, .string ⟨#[]⟩, .slice none 0 0] 29)).heap.size = v0.heap.size + 1 := World.size_alloc ..
      have acc1 := below_then hst acc0
      have hBk := Blk.new v0 29 #[.int .u32 0, .int .u32 0, .int .u16 0, .string ⟨#[]⟩, .string ⟨#[]⟩, .slice none 0 0]
      have hbs : w.heap.size ≤ v0.heap.size := acc0.size
      refine hK _ _ (fun W => Below (v0.alloc (.cells #[.int .u32 0, .int .u32 0, .int .u16 0, .string ⟨#[]⟩, .string ⟨#[]⟩, .slice none 0 0] 29)).heap.size (v0.alloc (.cells #[.int .u32 0, .int .u32 0, .int .u16 0, .string ⟨#[]⟩, .string ⟨#[]⟩, .slice none 0 0] 29)) W) (fun _ h => below_then h hst) (Below.refl _ _) ?_
      clear hK K0 hst
      replace hss := Lib.hid hss
      generalize v0.alloc (.cells #[.int .u32 0, .int .u32 0, .int .u16 0, .string ⟨#[]⟩, .string ⟨#[]⟩, .slice none 0 0] 29) = v1 at *
      try simp only [Act.put, List.setIfInBounds_toArray, List.set_cons_zero, List.set_cons_succ]
      have hSk := Below.refl v1.heap.size v1
      repeat (first | (refine altG_take _ ?_ rfl rfl rfl rfl (fun _ => ?_) ?_; rotate_left; (focus (go_simp; with_reducible rfl)); try simp only [Act.put, List.setIfInBounds_toArray, List.set_cons_zero, List.set_cons_succ]) | (refine altG_held _ ?_ rfl rfl rfl rfl (by assumption) (fun _ hSw => ?_) ?_; rotate_left; (focus (clear hSw; go_simp; with_reducible rfl)); try simp only [Act.put, List.setIfInBounds_toArray, List.set_cons_zero, List.set_cons_succ]) | (refine altG_skip _ rfl rfl (by assumption) ?_; try simp only [Act.put, List.setIfInBounds_toArray, List.set_cons_zero, List.set_cons_succ]))
      refine altG_alt rfl ?_ ?_
      · skip
        refine altG_now _ rfl rfl rfl (fun K0 hK => ?_)
        go_wp2_with fail
        have hst := (Below.refl v1.heap.size v1).alloc (Nat.le_refl _) (.cells zp 5)
        have hss : (v1.alloc (.cells zp 5)).heap.size = v1.heap.size + 1 := World.size_alloc ..
        have acc2 := below_then hst acc1
        have hP := hrp v1
        rw [← hss] at hP
        replace hBk := hBk.below hst hBk.lt
        refine hK _ _ (fun W => Below (v1.alloc (.cells zp 5)).heap.size (v1.alloc (.cells zp 5)) W) (fun _ h => below_then h hst) (Below.refl _ _) ?_
        clear hK K0 hst
        replace hss := Lib.hid hss
        generalize v1.alloc (.cells zp 5) = v2 at *
        try simp only [Act.put, List.setIfInBounds_toArray, List.set_cons_zero, List.set_cons_succ]
        have hSk := Below.refl v2.heap.size v2
        repeat (first | (refine altG_take _ ?_ rfl rfl rfl rfl (fun _ => ?_) ?_; rotate_left; (focus (go_simp; with_reducible rfl)); try simp only [Act.put, List.setIfInBounds_toArray, List.set_cons_zero, List.set_cons_succ]) | (refine altG_held _ ?_ rfl rfl rfl rfl (by assumption) (fun _ hSw => ?_) ?_; rotate_left; (focus (have z0 := conv_bytes (c := p.length) ((hP).below hSw); clear hSw; go_simp; with_reducible rfl)); try simp only [Act.put, List.setIfInBounds_toArray, List.set_cons_zero, List.set_cons_succ]) | (refine altG_skip _ rfl rfl (by assumption) ?_; try simp only [Act.put, List.setIfInBounds_toArray, List.set_cons_zero, List.set_cons_succ]))
        refine altG_now _ rfl rfl rfl (fun K0 hK => ?_)
        go_wp2_with fail
        have hst := (Below.refl v2.heap.size v2).alloc (Nat.le_refl _) (.cells zq 5)
        have hss : (v2.alloc (.cells zq 5)).heap.size = v2.heap.size + 1 := World.size_alloc ..
        have acc3 := below_then hst acc2
        have hQ := hrq v2
        rw [← hss] at hQ
        replace hBk := hBk.below hst hBk.lt
        replace hP := (hP.below hst).more hst.size
        refine hK _ _ (fun W => Below (v2.alloc (.cells zq 5)).heap.size (v2.alloc (.cells zq 5)) W) (fun _ h => below_then h hst) (Below.refl _ _) ?_
        clear hK K0 hst
        replace hss := Lib.hid hss
        generalize v2.alloc (.cells zq 5) = v3 at *
        try simp only [Act.put, List.setIfInBounds_toArray, List.set_cons_zero, List.set_cons_succ]
        have hSk := Below.refl v3.heap.size v3
        repeat (first | (refine altG_take _ ?_ rfl rfl rfl rfl (fun _ => ?_) ?_; rotate_left; (focus (go_simp; with_reducible rfl)); try simp only [Act.put, List.setIfInBounds_toArray, List.set_cons_zero, List.set_cons_succ]) | (refine altG_held _ ?_ rfl rfl rfl rfl (by assumption) (fun _ hSw => ?_) ?_; rotate_left; (focus (have z0 := conv_bytes (c := p.length) ((hP).below hSw); have z1 := conv_bytes (c := q.length) ((hQ).below hSw); clear hSw; go_simp; with_reducible rfl)); try simp only [Act.put, List.setIfInBounds_toArray, List.set_cons_zero, List.set_cons_succ]) | (refine altG_skip _ rfl rfl (by assumption) ?_; try simp only [Act.put, List.setIfInBounds_toArray, List.set_cons_zero, List.set_cons_succ]))
        refine altG_nowF _ rfl rfl rfl (by kernel_rfl) (fun K0 hK => ?_)
        refine wp_store_row 29 (Operand.tmp 7) (Operand.tmp 27) rfl v0.heap.size #[.int .u32 0, .int .u32 0, .int .u16 0, .string (bstr p), .string (bstr q), .slice none 0 0] (by simp [go_sem]) (by simp [go_sem]) 29 _ hBk (by kernel_rfl) rfl (by simp [Value.oneCell']) ?_
        refine hK _ _ ?_
        clear hK K0
        try simp only [Act.put, List.setIfInBounds_toArray, List.set_cons_zero, List.set_cons_succ]
        refine altG_nil ?_
        have hR := hBk.row #[.int .u32 0, .int .u32 0, .int .u16 0, .string (bstr p), .string (bstr q), .slice none 0 0]
        have hF := below_row acc3 (g := v0.heap.size) hbs #[.int .u32 0, .int .u32 0, .int .u16 0, .string (bstr p), .string (bstr q), .slice none 0 0]
        go_wp2_with fail
        go_meet
        exact ⟨v0.heap.size, rfl, hbs, hR, hF⟩
      · skip
        refine altG_now _ rfl rfl rfl (fun K0 hK => ?_)
        go_wp2_with fail
        have hst := (Below.refl v1.heap.size v1).alloc (Nat.le_refl _) (.cells zq 5)
        have hss : (v1.alloc (.cells zq 5)).heap.size = v1.heap.size + 1 := World.size_alloc ..
        have acc2 := below_then hst acc1
        have hQ := hrq v1
        rw [← hss] at hQ
        replace hBk := hBk.below hst hBk.lt
        refine hK _ _ (fun W => Below (v1.alloc (.cells zq 5)).heap.size (v1.alloc (.cells zq 5)) W) (fun _ h => below_then h hst) (Below.refl _ _) ?_
        clear hK K0 hst
        replace hss := Lib.hid hss
        generalize v1.alloc (.cells zq 5) = v2 at *
        try simp only [Act.put, List.setIfInBounds_toArray, List.set_cons_zero, List.set_cons_succ]
        have hSk := Below.refl v2.heap.size v2
        repeat (first | (refine altG_take _ ?_ rfl rfl rfl rfl (fun _ => ?_) ?_; rotate_left; (focus (go_simp; with_reducible rfl)); try simp only [Act.put, List.setIfInBounds_toArray, List.set_cons_zero, List.set_cons_succ]) | (refine altG_held _ ?_ rfl rfl rfl rfl (by assumption) (fun _ hSw => ?_) ?_; rotate_left; (focus (have z0 := conv_bytes (c := q.length) ((hQ).below hSw); clear hSw; go_simp; with_reducible rfl)); try simp only [Act.put, List.setIfInBounds_toArray, List.set_cons_zero, List.set_cons_succ]) | (refine altG_skip _ rfl rfl (by assumption) ?_; try simp only [Act.put, List.setIfInBounds_toArray, List.set_cons_zero, List.set_cons_succ]))
        refine altG_now _ rfl rfl rfl (fun K0 hK => ?_)
        go_wp2_with fail
        have hst := (Below.refl v2.heap.size v2).alloc (Nat.le_refl _) (.cells zp 5)
        have hss : (v2.alloc (.cells zp 5)).heap.size = v2.heap.size + 1 := World.size_alloc ..
        have acc3 := below_then hst acc2
        have hP := hrp v2
        rw [← hss] at hP
        replace hBk := hBk.below hst hBk.lt
        replace hQ := (hQ.below hst).more hst.size
        refine hK _ _ (fun W => Below (v2.alloc (.cells zp 5)).heap.size (v2.alloc (.cells zp 5)) W) (fun _ h => below_then h hst) (Below.refl _ _) ?_
        clear hK K0 hst
        replace hss := Lib.hid hss
        generalize v2.alloc (.cells zp 5) = v3 at *
        try simp only [Act.put, List.setIfInBounds_toArray, List.set_cons_zero, List.set_cons_succ]
        have hSk := Below.refl v3.heap.size v3
        repeat (first | (refine altG_take _ ?_ rfl rfl rfl rfl (fun _ => ?_) ?_; rotate_left; (focus (go_simp; with_reducible rfl)); try simp only [Act.put, List.setIfInBounds_toArray, List.set_cons_zero, List.set_cons_succ]) | (refine altG_held _ ?_ rfl rfl rfl rfl (by assumption) (fun _ hSw => ?_) ?_; rotate_left; (focus (have z0 := conv_bytes (c := p.length) ((hP).below hSw); have z1 := conv_bytes (c := q.length) ((hQ).below hSw); clear hSw; go_simp; with_reducible rfl)); try simp only [Act.put, List.setIfInBounds_toArray, List.set_cons_zero, List.set_cons_succ]) | (refine altG_skip _ rfl rfl (by assumption) ?_; try simp only [Act.put, List.setIfInBounds_toArray, List.set_cons_zero, List.set_cons_succ]))
        refine altG_nowF _ rfl rfl rfl (by kernel_rfl) (fun K0 hK => ?_)
        refine wp_store_row 29 (Operand.tmp 7) (Operand.tmp 27) rfl v0.heap.size #[.int .u32 0, .int .u32 0, .int .u16 0, .string (bstr p), .string (bstr q), .slice none 0 0] (by simp [go_sem]) (by simp [go_sem]) 29 _ hBk (by kernel_rfl) rfl (by simp [Value.oneCell']) ?_
        refine hK _ _ ?_
        clear hK K0
        try simp only [Act.put, List.setIfInBounds_toArray, List.set_cons_zero, List.set_cons_succ]
        refine altG_nil ?_
        have hR := hBk.row #[.int .u32 0, .int .u32 0, .int .u16 0, .string (bstr p), .string (bstr q), .slice none 0 0]
        have hF := below_row acc3 (g := v0.heap.size) hbs #[.int .u32 0, .int .u32 0, .int .u16 0, .string (bstr p), .string (bstr q), .slice none 0 0]
        go_wp2_with fail
        go_meet
        exact ⟨v0.heap.size, rfl, hbs, hR, hF⟩
  case rest =>
    obtain ⟨b, rfl, hbw, B1, hB⟩ := hcut
    generalize wc = w2 at *
    clear hmk1 hmk2 hb1
    have hb2 := B1.lt
    go_wp2_with fail
    go_loopw [8] (fun ii wr => ∃ (j : Nat) (A1 : Option Addr) (c1 : Nat) (xs1 : List Value) (css1 : Nat → Array Value), ii = .int .i64 (j : Int) ∧ j ≤ k ∧ Blk wr b 29 #[.int .u32 0, .int .u32 0, .int .u16 0, .string (bstr p), .string (bstr q), .slice A1 j c1] ∧ VRow wr w2.heap.size (ints j) A1 c1 xs1 css1 ∧ Below w.heap.size w wr ∧ w2.heap.size ≤ wr.heap.size) (fun ii _ => k - (intOf ii).toNat)
    case atStart => exact ⟨0, none, 0, [], _, rfl, Nat.zero_le _, B1, VRow.nil _ _, hB, Nat.le_refl _⟩
    case round =>
      obtain ⟨j, A1, c1, xs1, css1, rfl, hjk, hy, R, hbr, hbrs⟩ := hrel
      by_cases hlt : j < k
      · have hir := fun w => int_ref (j : Int) w
        replace hir := Lib.hid hir
        have hyl := hy.lt
        go_wp2_with fail
        have hS0 : Blk wr.drew b 29 #[.int .u32 0, .int .u32 0, .int .u16 0, .string (bstr p), .string (bstr q), .slice A1 j c1] := hy
        refine wp_region_lex (fun W => Blk W b 29 #[.int .u32 0, .int .u32 0, .int .u16 0, .string (bstr p), .string (bstr q), .slice A1 j c1]) [1] [3, 4, 5, 7] [0, 1, 2, 3, 4, 5, 6, 7] (by kernel_rfl) rfl (by kernel_rfl) (by kernel_rfl) (fun _ _ d _ _ h => by cases d <;> exact h) ?_
        repeat (first | (refine lexG_take _ ?_ rfl rfl rfl rfl (fun _ => ?_) ?_; rotate_left; (focus (go_simp; with_reducible rfl)); try simp only [Act.put, List.setIfInBounds_toArray, List.set_cons_zero, List.set_cons_succ]) | (refine lexG_held _ ?_ rfl rfl rfl rfl (by assumption) (fun _ hSw => ?_) ?_; rotate_left; (focus (have h1 := Blk.op6 hSw; clear hSw; go_simp; with_reducible rfl)); try simp only [Act.put, List.setIfInBounds_toArray, List.set_cons_zero, List.set_cons_succ]) | (refine lexG_skip _ rfl rfl (by assumption) ?_; try simp only [Act.put, List.setIfInBounds_toArray, List.set_cons_zero, List.set_cons_succ]))
        refine lexG_now _ rfl rfl rfl (fun K0 hK => ?_)
        go_wp2_with fail
        refine (hir.out wr.drew).mono ?_
        rintro e w6 ⟨rfl, hb6⟩
        dsimp only
        have hb6' : Below wr.heap.size wr w6 := below_of_drew hb6
        have hy6 := hy.below hb6' hy.lt
        have ho6 := R.ho.below hb6' (Nat.le_refl _)
        have hu6 : Upd (fun _ => False) wr w6 := Upd.of_below_size hb6'
        have hv6 : VOwn w6 (fun g => wr.heap.size ≤ g) (.mk 1 (j : Int) 0 [] []) #[.int .i64 1, .int .i64 (j : Int), .float .f64 0, .string ⟨#[]⟩, .slice none 0 0] := int_own _ _ _
        rw [ints_len] at ho6
        refine hK _ _ _ (fun _ h => h) hy6 ?_
        clear hK K0 hS0
        try simp only [Act.put, List.setIfInBounds_toArray, List.set_cons_zero, List.set_cons_succ]
        have hy7 := hy6.alloc (.cells #[.int .i64 1, .int .i64 (j : Int), .float .f64 0, .string ⟨#[]⟩, .slice none 0 0] 43)
        have ho7 := ho6.alloc (.cells #[.int .i64 1, .int .i64 (j : Int), .float .f64 0, .string ⟨#[]⟩, .slice none 0 0] 43)
        have hsrc := Reads.lit (size := 5) w6 #[.int .i64 1, .int .i64 (j : Int), .float .f64 0, .string ⟨#[]⟩, .slice none 0 0] 43 (0, 0) 1 [.int .i64 1, .int .i64 (j : Int), .float .f64 0, .string ⟨#[]⟩, .slice none 0 0] rfl rfl
        refine lexG_now _ rfl rfl rfl (fun K0 hK => ?_)
        go_wp2_with fail
        refine hK _ _ _ (fun _ h => h) hy7 ?_
        clear hK K0
        try simp only [Act.put, List.setIfInBounds_toArray, List.set_cons_zero, List.set_cons_succ]
        repeat (first | (refine lexG_take _ ?_ rfl rfl rfl rfl (fun _ => ?_) ?_; rotate_left; (focus (go_simp; with_reducible rfl)); try simp only [Act.put, List.setIfInBounds_toArray, List.set_cons_zero, List.set_cons_succ]) | (refine lexG_held _ ?_ rfl rfl rfl rfl (by assumption) (fun _ hSw => ?_) ?_; rotate_left; (focus ((try dsimp only at hSw); go_simp; with_reducible rfl)); try simp only [Act.put, List.setIfInBounds_toArray, List.set_cons_zero, List.set_cons_succ]) | (refine lexG_skip _ rfl rfl (by assumption) ?_; try simp only [Act.put, List.setIfInBounds_toArray, List.set_cons_zero, List.set_cons_succ]))
        refine lexG_now _ rfl rfl rfl (fun K0 hK => ?_)
        refine wp_append_mine _ _ 27 27 rfl 43 i1 _ 5 64 Try.underlying27 gi gz0 gz1 gz2 rfl rfl ho7 rfl (Src.ofReads Try.underlying27 _ hsrc (by intro u hu; simp at hu; rcases hu with rfl | rfl | rfl | rfl | rfl <;> rfl)) (by unfold maxLen; omega) (by omega) (fun A8 c8 w8 ho8 hg8 hat8 => ?_)
        have hy8 := hy7.grown hg8 (fun e => by have := R.hA _ e.symm; omega)
        refine hK _ _ _ (fun _ h => h) hy8 ?_
        clear hK K0
        try simp only [Act.put, List.setIfInBounds_toArray, List.set_cons_zero, List.set_cons_succ]
        repeat (first | (refine lexG_take _ ?_ rfl rfl rfl rfl (fun _ => ?_) ?_; rotate_left; (focus (go_simp; with_reducible rfl)); try simp only [Act.put, List.setIfInBounds_toArray, List.set_cons_zero, List.set_cons_succ]) | (refine lexG_held _ ?_ rfl rfl rfl rfl (by assumption) (fun _ hSw => ?_) ?_; rotate_left; (focus ((try dsimp only at hSw); go_simp; with_reducible rfl)); try simp only [Act.put, List.setIfInBounds_toArray, List.set_cons_zero, List.set_cons_succ]) | (refine lexG_skip _ rfl rfl (by assumption) ?_; try simp only [Act.put, List.setIfInBounds_toArray, List.set_cons_zero, List.set_cons_succ]))
        refine lexG_nowF _ rfl rfl rfl (by kernel_rfl) (fun K0 hK => ?_)
        have y84 := hy8.cell 5
        have yf8 := hy8.frozen 5
        go_simp
        refine hK _ _ ?_
        clear hK K0
        refine lexG_nil ?_
        have R8 := R.push (by omega) hu6 (fun _ h => h.elim) hv6 ⟨_, rfl⟩ (by rw [ints_len]; exact ho8) hg8 hat8
        rw [← ints_succ] at R8
        have hb8 : Below w.heap.size w w8 := ((hbr.trans (hb6'.mono hbr.size)).alloc (Nat.le_trans hbr.size hb6'.size) (.cells #[.int .i64 1, .int .i64 (j : Int), .float .f64 0, .string ⟨#[]⟩, .slice none 0 0] 43)).grown hg8 (by rw [World.size_alloc]; have := hb6'.size; have := hbr.size; omega) (fun k e => by have := R.hA k e; have := hB.size; omega)
        have hs8 : w2.heap.size ≤ w8.heap.size := by have := hg8.size; rw [World.size_alloc] at this; have := hb6'.size; omega
        have hy9 := hy8.set_ 5 (.slice A8 (j + 1) c8)
        have R9 := R8.upd ((Upd.refl (fun x => x = b) w8).setCell (p := ⟨b, 5, none⟩) (fun _ => rfl) (.slice A8 (j + 1) c8)) (fun g hg e => by omega)
        have hb9 := hb8.setCell (p := ⟨b, 5, none⟩) hbw (.slice A8 (j + 1) c8)
        have hs9 : w2.heap.size ≤ (w8.setCell ⟨b, 5, none⟩ (.slice A8 (j + 1) c8)).heap.size := by rw [World.size_setCell]; exact hs8
        clear R8 hb8 hs8 hy8 y84 yf8 hg8 hat8 ho8 hsrc ho7 hy7 ho6 hy6 hb6 hb6' hu6 hv6 R hy hbr hir
        replace hy9 := Lib.hid hy9
        replace R9 := Lib.hid R9
        go_wp2_with fail
        go_roundw
        case rel => exact ⟨j + 1, A8, c8, _, _, by simp, hlt, hy9.out, R9.out, hb9, hs9⟩
        case measure => simp [intOf]; omega
      · have hj : j = k := by omega
        subst hj
        have hop := op_of_row (o := ⟨0, 0, 0, p, q, ints j⟩) R (by dsimp only; rw [ints_len]; omega) (ints_ok (by omega)) (show (0 : Nat) < 4294967296 by decide) (show (0 : Nat) < 4294967296 by decide) (show (0 : Nat) < 65536 by decide)
        dsimp only at hop
        rw [ints_len] at hop
        have hput := call_put (A0 := none) (ca := 0) (bs := []) hop (Nat.le_refl _) Reads.none_ (by simp) (by dsimp only; omega) (by dsimp only; omega)
        have hyc := hy.op6
        have he := errO_22 p q j
        have hrd0 := fun h => rdOp_enc ⟨0, 0, 0, p, q, ints j⟩ [] (ints_ok (by omega)) (show (0 : Nat) < 4294967296 by decide) (show (0 : Nat) < 4294967296 by decide) (show (0 : Nat) < 65536 by decide) h
        have hbe := bytesO_len ⟨0, 0, 0, p, q, ints j⟩
        rw [ints_size] at hbe
        dsimp only at hrd0 hbe
        obtain ⟨x, hx⟩ : ∃ x, bytesO ⟨0, 0, 0, p, q, ints j⟩ = x := ⟨_, rfl⟩
        rw [hx] at hbe
        rw [hx, List.append_nil] at hrd0
        replace hx := Lib.hid hx
        replace hrd0 := Lib.hid hrd0
        clear hop hlt
        by_cases hp32 : p.length ≤ 32
        · have d1 : decide ((p.length : Int) ≤ 32) = true := decide_eq_true (by omega)
          by_cases hq32 : q.length ≤ 32
          · have d2 : decide ((q.length : Int) ≤ 32) = true := decide_eq_true (by omega)
            by_cases hj16 : j ≤ 16
            · have d3 : decide ((j : Int) ≤ 16) = true := decide_eq_true (by omega)
              rw [if_pos ⟨hj16, hp32, hq32⟩] at he
              have hput := hput.mono (fun e w' h => h.1 he)
              have hrd0 := hrd0.out he
              replace he := Lib.hid he
              unfold PutOk at hput
              rw [hx.out, List.nil_append] at hput
              obtain ⟨X, hX⟩ : ∃ X, x.length = X := ⟨_, rfl⟩
              rw [hX] at hput hrd0 hbe
              replace hX := Lib.hid hX
              go_wp2_with fail
              refine hput.mono ?_
              clear hput
              rintro e w3 ⟨A3, c3, rfl, ho3, hb3, -⟩
              dsimp only
              have hrdd := call_read (b := x) (A := A3) (c := c3) (w := w3) (by rw [hX.out]; exact ho3.reads_) ho3.none_cap (by rw [hX.out]; exact ho3.le_cap) (by rw [hX.out]; omega) _ hrd0
              rw [hX.out] at hrdd
              have hb3' := below_then hb3 hbr
              replace hbe := Lib.hid hbe
              replace hrdd := Lib.hid hrdd
              clear hp hq hk hpb hqb R hy hyc ho3 hb3
              go_wp2_with fail
              refine hrdd.out.mono ?_
              clear hrdd
              rintro e w4 ⟨A4, c4, xs4, css4, rfl, R4, hb4⟩
              dsimp only
              rw [List.length_map, ints_len]
              have hb4' := below_then hb4 hb3'
              have v1 : IntKind.i64.wrap (14 + (p.length : Int)) = 14 + (p.length : Int) := w64_id _ (by omega) (by omega)
              have v2 : IntKind.i64.wrap (14 + (p.length : Int) + (q.length : Int)) = 14 + (p.length : Int) + (q.length : Int) := w64_id _ (by omega) (by omega)
              have v3 : IntKind.i64.wrap (14 + (p.length : Int) + (q.length : Int) + 1) = 14 + (p.length : Int) + (q.length : Int) + 1 := w64_id _ (by omega) (by omega)
              have v4 : IntKind.i64.wrap (9 * (j : Int)) = 9 * (j : Int) := w64_id _ (by omega) (by omega)
              have v5 : IntKind.i64.wrap (14 + (p.length : Int) + (q.length : Int) + 1 + 9 * (j : Int)) = 14 + (p.length : Int) + (q.length : Int) + 1 + 9 * (j : Int) := w64_id _ (by omega) (by omega)
              have v6 : ((X : Int) == 14 + (p.length : Int) + (q.length : Int) + 1 + 9 * (j : Int)) = true := by rw [beq_iff_eq]; have := hbe.out; omega
              clear R4 hb4 hb3' hrd0
              go_wp2_with fail
              go_ret
              exact ⟨rfl, hb4'.alloc hb4'.size _⟩
            · have d3 : decide ((j : Int) ≤ 16) = false := decide_eq_false (by omega)
              rw [if_neg (by omega)] at he
              have hput := hput.mono (fun e w' h => h.2 (by rw [he]; decide))
              unfold PutNo at hput
              rw [he] at hput
              replace he := Lib.hid he
              replace hbe := Lib.hid hbe
              clear hp hq hk hpb hqb R hy
              go_wp2_with fail
              refine hput.mono ?_
              clear hput
              rintro e w3 ⟨rfl, hb3⟩
              dsimp only
              have hfin := below_then hb3 hbr
              go_wp2_with fail
              go_ret
              exact ⟨rfl, hfin⟩
          · have d2 : decide ((q.length : Int) ≤ 32) = false := decide_eq_false (by omega)
            rw [if_neg (by omega)] at he
            have hput := hput.mono (fun e w' h => h.2 (by rw [he]; decide))
            unfold PutNo at hput
            rw [he] at hput
            replace he := Lib.hid he
            replace hbe := Lib.hid hbe
            clear hp hq hk hpb hqb R hy
            go_wp2_with fail
            refine hput.mono ?_
            clear hput
            rintro e w3 ⟨rfl, hb3⟩
            dsimp only
            have hfin := below_then hb3 hbr
            go_wp2_with fail
            go_ret
            exact ⟨rfl, hfin⟩
        · have d1 : decide ((p.length : Int) ≤ 32) = false := decide_eq_false (by omega)
          rw [if_neg (by omega)] at he
          have hput := hput.mono (fun e w' h => h.2 (by rw [he]; decide))
          unfold PutNo at hput
          rw [he] at hput
          replace he := Lib.hid he
          replace hbe := Lib.hid hbe
          clear hp hq hk hpb hqb R hy
          go_wp2_with fail
          refine hput.mono ?_
          clear hput
          rintro e w3 ⟨rfl, hb3⟩
          dsimp only
          have hfin := below_then hb3 hbr
          go_wp2_with fail
          go_ret
          exact ⟨rfl, hfin⟩
end Go.Proofs.Ytblakaddanoilaa
