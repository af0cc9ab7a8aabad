/- WireDeep's walk. -/
import Derived.Test.YtafogjonicdbmaaReadTop
import Derived.Test.YtafogjonicdbmaaZeros
namespace Go.Proofs.Ytafogjonicdbmaa
open Go.RowKit

def kidsV : Val → List Val
  | .mk _ _ _ _ l => l

/-- wire.Read at bytes of a known reading. -/
theorem read_bytes {ad : Addr} {c : Nat} {b : List UInt8} {w : World} (h : Reads w w.heap.size 1 (some ad) b.length (bys b)) (hc : b.length ≤ c) (hl : b.length ≤ 1000000000) (hres : (∃ v m, pv 8 b = some (v, m) ∧ checkV v = 0 ∧ sizeV v ≤ 1000000000) ∨ pv 8 b = none) :
    Calls Try.prog 13 #[.slice (some ad) b.length c] w (fun e w' => ∃ k i f s A n c' z ee, e = .returned (.tuple #[.agg #[.int .i64 k, .int .i64 i, .float .f64 f, .string s, .slice A n c'], .int .i64 (z : Nat), .int .i64 (ee : Nat)]) ∧ Below w.heap.size w w' ∧
      ((∃ v, pv 8 b = some (v, z) ∧ ee = 0 ∧ n = (kidsV v).length) ∨ (pv 8 b = none ∧ z = 0 ∧ ee = 20))) := by
  have hva := fun (w1 : World) (hb : Below w.heap.size w w1) (hr : RdAt w1 (w.heap.size + 1 + 1 + 1) (some ad) b.length c 0 8) =>
    value_all (r := w.heap.size + 1 + 1 + 1) (B := w.heap.size) (by omega) hc hl 8 (by omega) w1 0 hr (h.below hb) (Nat.zero_le _)
  rcases hres with ⟨v, m, hp, hk, hs⟩ | hp
  · refine (read_tree (at_ := m) (v := v) (deep := 8) hk hs (fun w1 hb hr => ?_)).mono ?_
    · have hv := hva w1 hb hr
      rw [List.drop_zero, hp] at hv
      refine hv.mono ?_
      rintro e w' ⟨cs, rfl, h1, h2, h3⟩
      rw [Nat.zero_add] at h2
      exact ⟨cs, rfl, h1, h2, h3⟩
    · rintro e w' ⟨cs, rfl, hvo, hb⟩
      cases hvo with
      | @mk k i f s l A c' xs css hn ho hP hx hxs => exact ⟨_, _, _, _, _, _, _, m, 0, rfl, hb, .inl ⟨_, hp, rfl, rfl⟩⟩
  · refine (read_short (fun w1 hb hr => ?_)).mono ?_
    · have hv := hva w1 hb hr
      rw [List.drop_zero, hp] at hv
      exact hv
    · rintro e w' ⟨rfl, hb⟩
      exact ⟨_, _, _, _, _, _, _, 0, 20, rfl, hb, .inr ⟨hp, rfl, rfl⟩⟩

theorem run_append_zeros_any {P : Program} {w : World} (t tn ty e : TypeId) (i : TypeInfo) (z : Value) (k kn : IntKind) (ht : P.underlying t = some (.slice e)) (htn : P.underlying tn = some (.int kn)) (hi : P.info? e = some i) (hz : i.zero = some z)
    (hsize : i.size = 1) (hby : i.bytes = 1) (hzs : z.cells = #[z]) (h1 : z.oneCell' = true) {g n c m : Nat} {xs : List Value} (hown : Own w e 1 (some ⟨g, 0, none⟩) n c xs)
    (h63 : n + m ≤ maxLen) (hbytes : n + m ≤ 140737488355328) :
    ∃ A' c' w', (Builtin.append_ #[t, tn] ty #[.slice (some ⟨g, 0, none⟩) n c, .int k m]).run P w = .ok (.slice A' (n + m) c') w' ∧ Own w' e 1 A' (n + m) c' (xs ++ List.replicate m z) ∧ w.grownBy w' (some g) ∧
      (bOf A' = some g ∨ bOf A' = some w.heap.size) := by
  rcases Nat.eq_zero_or_pos m with h0 | h0
  · subst h0
    refine ⟨some ⟨g, 0, none⟩, c, w, ?_, by simpa using hown, World.grownBy.refl w _, .inl rfl⟩
    have hle := hown.le_cap
    simp [Builtin.append_, run_underlying ht, run_underlying htn, sizeOf, typeInfo, zeroValue, hi, hz, asInt, asIntOf, hby, hsize, hle, Addr.add_lit, IntKind.wrap_i64]
    rfl
  · exact run_append_zeros t tn ty e i z k kn ht htn hi hz hsize hby hzs h1 hown h0 h63 hbytes

def nestB : Nat → List UInt8
  | 0 => []
  | n + 1 => nestB n ++ [4, 1]
theorem nestB_len (n : Nat) : (nestB n).length = 2 * n := by
  induction n with
  | zero => rfl
  | succ n ih => simp [nestB, ih]; omega
def nestV : Nat → Val
  | 0 => .mk 0 0 0 [] []
  | n + 1 => .mk 4 0 0 [] [nestV n]
theorem nest_ok (k : Nat) (h6 : 6 ≤ k) (h8 : k ≤ 8) : pv 8 (nestB k ++ [0]) = some (nestV k, 2 * k + 1) ∧ checkV (nestV k) = 0 ∧ sizeV (nestV k) ≤ 1000000000 := by
  rcases (show k = 6 ∨ k = 7 ∨ k = 8 by omega) with rfl | rfl | rfl
  · exact ⟨rfl, by decide +kernel, by decide +kernel⟩
  · exact ⟨rfl, by decide +kernel, by decide +kernel⟩
  · exact ⟨rfl, by decide +kernel, by decide +kernel⟩
theorem nest_no (k : Nat) (h6 : 9 ≤ k) (h8 : k ≤ 10) : pv 8 (nestB k ++ [0]) = none := by
  rcases (show k = 9 ∨ k = 10 by omega) with rfl | rfl
  · rfl
  · rfl
def nilV : Val := .mk 0 0 0 [] []
theorem pl_nils (d m : Nat) : pl (pv d) m (List.replicate m 0) = some (List.replicate m nilV, m) := by
  induction m with
  | zero => rfl
  | succ m ih =>
    have h0 : pv d (0 :: List.replicate m 0) = some (nilV, 1) := by rw [pv_cons]; rfl
    rw [List.replicate_succ, pl_some (by omega) h0]
    show (pl (pv d) m (List.replicate m 0)).map _ = _
    rw [ih]
    simp [List.replicate_succ, Nat.add_comm]
theorem nils_read (x : UInt8) : pv 8 ([4, x] ++ List.replicate x.toNat 0) = if 64 < x.toNat then none else some (.mk 4 0 0 [] (List.replicate x.toNat nilV), 2 + x.toNat) := by
  show pv 8 (4 :: x :: List.replicate x.toNat 0) = _
  rw [pv_cons]
  simp only [show (4 : UInt8).toNat = 4 from rfl, Nat.reduceEqDiff, if_false, if_true]
  rw [pl_nils]
theorem nils_check (m : Nat) (h : m ≤ 64) : checkV (.mk 4 0 0 [] (List.replicate m nilV)) = 0 ∧ sizeV (.mk 4 0 0 [] (List.replicate m nilV)) = 2 + m := by
  have hs : sizeL (List.replicate m nilV) = m := by
    clear h
    induction m with
    | zero => rfl
    | succ m ih => rw [List.replicate_succ, sizeL, ih]; show 1 + m = m + 1; omega
  have hsz : sizeV (.mk 4 0 0 [] (List.replicate m nilV)) = 2 + m := by
    show 2 + sizeL (List.replicate m nilV) = _
    rw [hs]
  have hst : strangeV (.mk 4 0 0 [] (List.replicate m nilV)) = false := by
    show (decide ((4 : Int) < 0 ∨ (4 : Int) < 4) || ((4 : Int) == 4 && strangeL (List.replicate m nilV))) = false
    rw [strangeL_any]
    have : (List.replicate m nilV).any strangeV = false := by
      rw [List.any_eq_false]
      intro v hv
      rw [List.eq_of_mem_replicate hv]
      decide
    rw [this]
    rfl
  have hg : greatV (.mk 4 0 0 [] (List.replicate m nilV)) 8 = false := by
    show (decide (64 < (List.replicate m nilV).length) || decide ((8 : Int) < 1) || greatL (List.replicate m nilV) (8 - 1)) = false
    rw [greatL_any, List.length_replicate, decide_eq_false (by omega)]
    have : (List.replicate m nilV).any (greatV · (8 - 1)) = false := by
      rw [List.any_eq_false]
      intro v hv
      rw [List.eq_of_mem_replicate hv]
      decide
    rw [this]
    rfl
  refine ⟨?_, hsz⟩
  unfold checkV
  rw [hst, hg, hsz, decide_eq_false (by omega)]
  rfl

set_option maxHeartbeats 3200000 in
theorem wireDeep_walk (n : Int) (x : UInt8) (w : World) (hn0 : 0 ≤ n) (hn1 : n ≤ 255) : Calls Try.prog 7 #[.int .u8 n, .int .u8 (x.toNat : Int)] w (SaysTrue w) := by
  obtain ⟨i0, hi, hz0, hz1, hz2⟩ := info_parts info_u8
  obtain ⟨kk, hkk, hk6, hk10⟩ : ∃ kk : Nat, 8 + (n % 5 - 2) = (kk : Int) ∧ 6 ≤ kk ∧ kk ≤ 10 := ⟨(8 + (n % 5 - 2)).toNat, by omega, by omega, by omega⟩
  have hxl := x.toNat_lt
  go_enter Try.func7, Try.ntmps7
  go_wp2_with fail
  refine (known_true w).mono ?_
  rintro e w1 ⟨rfl, hb1⟩
  go_wp2_with fail
  go_loopw [6, 7] (fun o i wr => ∃ (j : Nat) (A : Option Addr) (c : Nat), j ≤ kk ∧ i = .int .i64 (j : Int) ∧ o = .slice A (2 * j) c ∧ Own wr 5 1 A (2 * j) c (bys (nestB j)) ∧ Below w.heap.size w wr ∧ (∀ g, bOf A = some g → w.heap.size ≤ g)) (fun _ i _ => kk - (intOf i).toNat)
  case atStart => exact ⟨0, none, 0, by omega, rfl, rfl, Own.none_, hb1, by simp [bOf]⟩
  case round =>
    obtain ⟨j, A, c, hj, rfl, rfl, ho, hb, hg⟩ := hrel
    by_cases hlt : j < kk
    · have hsrc := Reads.lit (size := 1) wr #[.int .u8 4, .int .u8 1] 5 (0, 0) 2 (bys [4, 1]) rfl rfl
      have hlt' : (j : Int) < 8 + (n % 5 - 2) := by omega
      have hbs : bys (nestB j) ++ bys [4, 1] = bys (nestB (j + 1)) := by rw [← bys_append]; rfl
      have h2j : 2 * j + 2 = 2 * (j + 1) := by omega
      replace hbs := Lib.hid hbs
      replace h2j := Lib.hid h2j
      go_wp2_with (at_builtin; go_must (refine wpList_append_mine rfl _ _ 22 22 rfl 5 i0 (.int .u8 0) 1 1 Try.underlying22 hi hz0 hz1 hz2 rfl rfl (ho.alloc _) rfl (Src.ofReads Try.underlying22 _ hsrc (bys_one _)) ?b1 ?b2 ?grow))
      case b1 => unfold maxLen; omega
      case b2 => omega
      case grow =>
        intro A3 c3 w3 ho3 hg3 hat3
        rw [hbs.out, h2j.out] at ho3
        rw [h2j.out]
        have hb3 := (hb.alloc hb.size (.cells #[.int .u8 4, .int .u8 1] 5)).grown hg3 (by have := hb.size; simp; omega) hg
        have hgf : ∀ g, bOf A3 = some g → w.heap.size ≤ g := by
          rcases hat3 with e | e
          · rw [e]; exact hg
          · intro g hg'; rw [e] at hg'; simp at hg'; have := hb.size; omega
        clear hat3 hg3 hsrc
        go_wp2_with fail
        refine ⟨⟨j + 1, A3, c3, by omega, by simp, rfl, ho3, hb3, hgf⟩, by simp [intOf]; omega⟩
    · have hj' : j = kk := by omega
      subst hj'
      have hnlt : ¬ (j : Int) < 8 + (n % 5 - 2) := by omega
      have hsrc := Reads.lit (size := 1) wr #[.int .u8 0] 5 (0, 0) 1 (bys [0]) rfl rfl
      obtain ⟨b, hbq⟩ : ∃ b, nestB j ++ [0] = b := ⟨_, rfl⟩
      have hbl : 2 * j + 1 = b.length := by rw [← hbq]; simp [nestB_len]
      have hbs : bys (nestB j) ++ bys [0] = bys b := by rw [← bys_append, hbq]
      have hblb : b.length ≤ 100 := by omega
      replace hbq := Lib.hid hbq
      replace hbl := Lib.hid hbl
      replace hbs := Lib.hid hbs
      go_wp2_with (at_builtin; go_must (refine wpList_append_mine rfl _ _ 22 22 rfl 5 i0 (.int .u8 0) 1 1 Try.underlying22 hi hz0 hz1 hz2 rfl rfl (ho.alloc _) rfl (Src.ofReads Try.underlying22 _ hsrc (bys_one _)) ?b1 ?b2 ?grow))
      case b1 => unfold maxLen; omega
      case b2 => omega
      case grow =>
        intro A3 c3 w3 ho3 hg3 hat3
        rw [hbs.out, hbl.out] at ho3
        rw [hbl.out]
        have hb3 := (hb.alloc hb.size (.cells #[.int .u8 0] 5)).grown hg3 (by have := hb.size; simp; omega) hg
        clear hat3 hg3 hsrc ho hb hg hb1
        go_wp2_with fail
        obtain ⟨g, cur, rfl, -, -, -⟩ := ho3.open_ (by rw [← hbl.out]; omega)
        have hres : (∃ v m, pv 8 b = some (v, m) ∧ checkV v = 0 ∧ sizeV v ≤ 1000000000) ∨ pv 8 b = none := by
          rw [← hbq.out]
          by_cases h8 : j ≤ 8
          · obtain ⟨h1, h2, h3⟩ := nest_ok j hk6 h8
            exact .inl ⟨_, _, h1, h2, h3⟩
          · exact .inr (nest_no j (by omega) hk10)
        have hout1 : ∀ z ee : Nat, ((∃ v, pv 8 b = some (v, z) ∧ ee = 0) ∨ (pv 8 b = none ∧ ee = 20)) → (j ≤ 8 ∧ ee = 0 ∧ z = b.length) ∨ (8 < j ∧ ee = 20) := by
          intro z ee hh
          rw [← hbl.out]
          by_cases h8 : j ≤ 8
          · obtain ⟨h1, -, -⟩ := nest_ok j hk6 h8
            rw [← hbq.out, h1] at hh
            rcases hh with ⟨v, hv, he⟩ | ⟨hv, -⟩
            · injection hv with hv
              injection hv with _ hv
              exact .inl ⟨h8, he, hv.symm⟩
            · cases hv
          · have h1 := nest_no j (by omega) hk10
            rw [← hbq.out, h1] at hh
            rcases hh with ⟨v, hv, he⟩ | ⟨-, he⟩
            · cases hv
            · exact .inr ⟨by omega, he⟩
        replace hout1 := Lib.hid hout1
        refine (read_bytes ho3.reads_ ho3.le_cap (by omega) hres).mono ?_
        clear hres
        rintro e w4 ⟨vk, vi, vf, vs, vA, vn, vc, z1, e1, rfl, hb4', hq1⟩
        dsimp only
        have hq1' := hout1.out z1 e1 (by rcases hq1 with ⟨v, h1, h2, -⟩ | ⟨h1, -, h2⟩; exact .inl ⟨v, h1, h2⟩; exact .inr ⟨h1, h2⟩)
        clear hq1 hout1
        replace hq1' := Lib.hid hq1'
        have hb4 := below_then hb4' hb3
        have hsf := fun a k x m w => run_store_float (P := Try.prog) a k x m w
        have hb5 := hb4.alloc hb4.size (.cells #[.int .i64 vk, .int .i64 vi, .float .f64 vf, .string vs, .slice vA vn vc] 26)
        have he5 : (w4.alloc (.cells #[.int .i64 vk, .int .i64 vi, .float .f64 vf, .string vs, .slice vA vn vc] 26)).heap.size = w4.heap.size + 1 := by simp
        have ho6 := Own.new (w4.alloc (.cells #[.int .i64 vk, .int .i64 vi, .float .f64 vf, .string vs, .slice vA vn vc] 26)) 5 1 2 #[.int .u8 4, .int .u8 (x.toNat : Int)] rfl (by unfold maxLen; omega)
        rw [he5] at ho6
        have hb6 := hb5.alloc hb5.size (.cells #[.int .u8 4, .int .u8 (x.toNat : Int)] 5)
        obtain ⟨A7, c7, w7, hrun, ho7, hg7, hat7⟩ := run_append_zeros_any (P := Try.prog) (m := x.toNat) 22 3 22 5 i0 (.int .u8 0) .i64 .i64 Try.underlying22 Try.underlying3 hi hz0 hz1 hz2 rfl rfl ho6 (by unfold maxLen; omega) (by omega)
        have hb7 := hb6.grown hg7 hb6.size (fun k hk => by cases hk; have := hb4.size; omega)
        obtain ⟨l, hlq⟩ : ∃ l, [4, x] ++ List.replicate x.toNat 0 = l := ⟨_, rfl⟩
        have hll : 2 + x.toNat = l.length := by rw [← hlq]; simp; omega
        have hlb : #[Value.int .u8 4, .int .u8 (x.toNat : Int)].toList ++ List.replicate x.toNat (.int .u8 0) = bys l := by rw [← hlq]; simp [bys, byv]
        rw [hlb, hll] at ho7
        have hllb : l.length ≤ 1000 := by omega
        replace hlq := Lib.hid hlq
        replace hll := Lib.hid hll
        clear hlb ho6 hg7 hat7 ho3
        go_wp2_with (at_builtin; refine Lib.wpList_append_run _ rfl _ _ _ _ rfl _ _ rfl rfl _ _ hrun ?_)
        rw [hll.out]
        obtain ⟨g7, cur7, rfl, -, -, -⟩ := ho7.open_ (by rw [← hll.out]; omega)
        have hres : (∃ v m, pv 8 l = some (v, m) ∧ checkV v = 0 ∧ sizeV v ≤ 1000000000) ∨ pv 8 l = none := by
          rw [← hlq.out, nils_read]
          by_cases h64 : 64 < x.toNat
          · rw [if_pos h64]; exact .inr rfl
          · rw [if_neg h64]
            obtain ⟨h1, h2⟩ := nils_check x.toNat (by omega)
            exact .inl ⟨_, _, rfl, h1, by omega⟩
        have hout2 : ∀ z ee nn : Nat, ((∃ v, pv 8 l = some (v, z) ∧ ee = 0 ∧ nn = (kidsV v).length) ∨ (pv 8 l = none ∧ z = 0 ∧ ee = 20)) → (x.toNat ≤ 64 ∧ ee = 0 ∧ z = 2 + x.toNat ∧ nn = x.toNat) ∨ (64 < x.toNat ∧ ee = 20) := by
          intro z ee nn hh
          rw [← hlq.out, nils_read] at hh
          by_cases h64 : 64 < x.toNat
          · rw [if_pos h64] at hh
            rcases hh with ⟨v, hv, he⟩ | ⟨-, -, he⟩
            · cases hv
            · exact .inr ⟨h64, he⟩
          · rw [if_neg h64] at hh
            rcases hh with ⟨v, hv, he, hnn⟩ | ⟨hv, -⟩
            · injection hv with hv
              injection hv with hv1 hv2
              subst hv1
              exact .inl ⟨by omega, he, hv2.symm, by rw [hnn]; simp [kidsV]⟩
            · cases hv
        replace hout2 := Lib.hid hout2
        have hv5 := Lib.hid hb5
        refine (read_bytes ho7.reads_ ho7.le_cap (by omega) hres).mono ?_
        clear hres
        rintro e w8 ⟨uk, ui, uf, us, uA, un, uc, z2, e2, rfl, hb8', hq2⟩
        dsimp only
        have hq2' := hout2.out z2 e2 un hq2
        clear hq2 hout2
        have hq1'' := hq1'.out
        have hb8 := below_then hb8' hb7
        have hb9 := hb8.alloc hb8.size (.cells #[.int .i64 uk, .int .i64 ui, .float .f64 uf, .string us, .slice uA un uc] 26)
        have hy9 := Blk.new w8 26 #[.int .i64 uk, .int .i64 ui, .float .f64 uf, .string us, .slice uA un uc]
        have g4 := hy9.cell 4
        have e2x : (((2 + x.toNat : Nat) : Int) == (x.toNat : Int) + 2) = true := by rw [beq_iff_eq]; omega
        clear hq1' hb7 hb8' hb6 hb5 hb4 hb4' hb3 hrun ho7 hy9 hv5 he5
        rcases hq1'' with ⟨h8, rfl, rfl⟩ | ⟨h8, rfl⟩
        · have hd1 : n % 5 - 2 ≤ 0 := by omega
          have hd1d : decide (n % 5 - 2 ≤ 0) = true := decide_eq_true hd1
          rcases hq2' with ⟨h64, rfl, rfl, rfl⟩ | ⟨h64, rfl⟩
          · have h64i : (x.toNat : Int) ≤ 64 := by omega
            have h64d : decide ((x.toNat : Int) ≤ 64) = true := decide_eq_true h64i
            go_wp2_with fail
            go_ret
            refine ⟨?_, hb9⟩
            first | rfl | (simp only [hd1d, h64d]; rfl)
          · have h64i : (64 : Int) < (x.toNat : Int) := by omega
            have h64d : decide ((x.toNat : Int) ≤ 64) = false := decide_eq_false (by omega)
            go_wp2_with fail
            go_ret
            refine ⟨?_, hb9⟩
            first | rfl | (simp only [hd1d, h64d]; rfl)
        · have hd1 : 0 < n % 5 - 2 := by omega
          have hd1d : decide (n % 5 - 2 ≤ 0) = false := decide_eq_false (by omega)
          rcases hq2' with ⟨h64, rfl, rfl, rfl⟩ | ⟨h64, rfl⟩
          · have h64i : (x.toNat : Int) ≤ 64 := by omega
            have h64d : decide ((x.toNat : Int) ≤ 64) = true := decide_eq_true h64i
            go_wp2_with fail
            go_ret
            refine ⟨?_, hb9⟩
            first | rfl | (simp only [hd1d, h64d]; rfl)
          · have h64i : (64 : Int) < (x.toNat : Int) := by omega
            have h64d : decide ((x.toNat : Int) ≤ 64) = false := decide_eq_false (by omega)
            go_wp2_with fail
            go_ret
            refine ⟨?_, hb9⟩
            first | rfl | (simp only [hd1d, h64d]; rfl)
/-- The same, at the law's own argument. -/
theorem wireDeep_int (n x : Int) (w : World) (a0 : 0 ≤ n) (a1 : n ≤ 255) (b0 : 0 ≤ x) (b1 : x ≤ 255) : Calls Try.prog 7 #[.int .u8 n, .int .u8 x] w (SaysTrue w) := by
  have hx : x = ((UInt8.ofNat x.toNat).toNat : Int) := by
    have : (UInt8.ofNat x.toNat).toNat = x.toNat % 256 := by simp
    omega
  rw [hx]
  exact wireDeep_walk n _ w a0 a1
end Go.Proofs.Ytafogjonicdbmaa
