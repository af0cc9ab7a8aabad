/- journal.read at any bytes. -/
import Derived.Test.YtlkokkbikkbaoaaJNum
import Derived.Test.YtlkokkbikkbaoaaRdOk
import Derived.Deep.CutRange
set_option linter.unusedSimpArgs false
set_option linter.unusedVariables false
set_option linter.unusedSimpArgs false
set_option linter.unusedVariables false
namespace Go.Proofs.Ytlkokkbikkbaoaa
open Go.RowKit
set_option maxRecDepth 100000

def RecOk (r : RecD) : Prop := (∀ v ∈ r.o.l, OkV v) ∧ r.o.l.length ≤ 16 ∧ r.o.c < 4294967296 ∧ r.o.s < 4294967296 ∧ r.o.n < 65536 ∧ r.v < 18446744073709551616
theorem recok_opz {k n : Int} {v : Nat} (hv : v < 18446744073709551616) : RecOk ⟨k, v, n, opz⟩ := ⟨by simp [opz], by simp [opz], (show (0 : Nat) < 4294967296 by decide), (show (0 : Nat) < 4294967296 by decide), (show (0 : Nat) < 65536 by decide), hv⟩
/-- What reading a record tells: the record and true, or any cells of a record's kind and false. -/
def RecRes (w : World) (o : Option RecD) (e : Ending) (w' : World) : Prop :=
  match o with
  | some r => ∃ A' c' xs css, e = .returned (.tuple #[.agg #[.int .i64 r.k, .int .u64 (r.v : Int), .int .i64 r.n, .int .u32 (r.o.c : Int), .int .u32 (r.o.s : Int), .int .u16 (r.o.n : Int), .string (bstr r.o.g), .string (bstr r.o.m), .slice A' r.o.l.length c'], .bool true]) ∧ VRow w' w.heap.size r.o.l A' c' xs css ∧ RecOk r ∧ Below w.heap.size w w'
  | none => ∃ (k v n c s m : Int) (gg mm : ByteArray) (A' : Option Addr) (K c' : Nat), e = .returned (.tuple #[.agg #[.int .i64 k, .int .u64 v, .int .i64 n, .int .u32 c, .int .u32 s, .int .u16 m, .string gg, .string mm, .slice A' K c'], .bool false]) ∧ Below w.heap.size w w'
theorem rdOp_ten {b : List UInt8} {o : OpD} {q : Nat} (h : rdOp b = some (o, q)) : 10 ≤ b.length := by
  unfold rdOp at h
  split at h
  · cases h
  · omega
theorem w64_sub8 {N : Nat} (h : 8 ≤ N) (hl : N ≤ 1000000000) : IntKind.i64.wrap ((N : Int) - 8) = (N : Int) - 8 := w64_id _ (by omega) (by omega)

set_option maxHeartbeats 12800000 in
theorem jread_in {A : Option Addr} {c : Nat} {b : List UInt8} {w : World} (h : Reads w w.heap.size 1 A b.length (bys b)) (hc : b.length ≤ c) (hl : b.length ≤ 1000000000) (Q : Option RecD) (hQ : rdRec b = Q) :
    Calls Try.prog 36 #[.slice A b.length c] w (RecRes w Q) := by
  have hz := Blk.new w 40 #[.int .i64 0, .int .u64 0, .int .i64 0, .int .u32 0, .int .u32 0, .int .u16 0, .string ⟨#[]⟩, .string ⟨#[]⟩, .slice none 0 0]
  have hb2 := (Below.refl w.heap.size w).alloc (Nat.le_refl _) (.cells #[.int .i64 0, .int .u64 0, .int .i64 0, .int .u32 0, .int .u32 0, .int .u16 0, .string ⟨#[]⟩, .string ⟨#[]⟩, .slice none 0 0] 40)
  cases b with
  | nil =>
    have hQn : Q = none := hQ.symm
    subst hQn
    clear h hc hl hQ
    go_enter Try.func36, Try.ntmps36
    have hzr := hz.row #[.int .i64 0, .int .u64 0, .int .i64 0, .int .u32 0, .int .u32 0, .int .u16 0, .string ⟨#[]⟩, .string ⟨#[]⟩, .slice none 0 0]
    have hbr := below_row hb2 (g := w.heap.size) (Nat.le_refl _) #[.int .i64 0, .int .u64 0, .int .i64 0, .int .u32 0, .int .u32 0, .int .u16 0, .string ⟨#[]⟩, .string ⟨#[]⟩, .slice none 0 0]
    go_wp2_with (refine store_row_gen rfl 40 (Operand.tmp 2) _ rfl w.heap.size #[.int .i64 0, .int .u64 0, .int .i64 0, .int .u32 0, .int .u32 0, .int .u16 0, .string ⟨#[]⟩, .string ⟨#[]⟩, .slice none 0 0] (by simp [go_sem]) (by simp [go_sem]) 40 _ hz (by kernel_rfl) rfl (by simp [Value.oneCell']) (fun w9 hw9 => ?_); rw [← hw9] at hzr hbr; clear hw9)
    refine bodyPost_ret (v := .tuple #[.agg #[.int .i64 0, .int .u64 0, .int .i64 0, .int .u32 0, .int .u32 0, .int .u16 0, .string ⟨#[]⟩, .string ⟨#[]⟩, .slice none 0 0], .bool false]) (by exact results_ct rfl _ _ w.heap.size 40 _ (0, 0) _ _ rfl rfl hzr Try.underlying40 rfl (by kernel_rfl)) rfl ?_
    exact ⟨0, 0, 0, 0, 0, 0, ⟨#[]⟩, ⟨#[]⟩, none, 0, 0, rfl, hbr⟩
  | cons kk t =>
    obtain ⟨ad, rfl, -, -⟩ := h.2 (by simp)
    obtain ⟨k, hk⟩ : ∃ k, kk.toNat = k := ⟨_, rfl⟩
    have hk8 : k < 256 := by rw [← hk]; exact kk.toNat_lt
    have hcell : w.cell? ad = some (.int .u8 (k : Int)) := by
      have hcc := (cut1 h hc).2
      rw [hk] at hcc
      exact hcc
    have hcell2 := (hb2.cell (World.block_lt_of_cell? w _ hcell)).trans hcell
    have hwk := w64_le (e := k) (by omega)
    have hQ1 : rdRec1 k t = Q := by rw [← hk]; exact hQ
    have hcut : Reads w w.heap.size 1 (if c = 1 then some ad else some (ad.add 1)) t.length (bys t) := by
      have hcut := h.cut (k := 1) (cap := c) (by simp) hc
      exact hcut
    have hlt : (kk :: t).length = t.length + 1 := rfl
    rw [hlt] at hc hl ⊢
    obtain ⟨N, hN⟩ : ∃ N, t.length = N := ⟨_, rfl⟩
    rw [hN] at hc hl ⊢
    have hN1 : (1 : Int) ≤ ((N + 1 : Nat) : Int) := by omega
    have hN0 : (((N + 1 : Nat) : Int) == 0) = false := by rw [beq_eq_false_iff_ne]; omega
    replace hN := Lib.hid hN
    replace hQ1 := Lib.hid hQ1
    replace hcut := Lib.hid hcut
    clear h hQ hk
    have hy := Blk.new (w.alloc (.cells #[.int .i64 0, .int .u64 0, .int .i64 0, .int .u32 0, .int .u32 0, .int .u16 0, .string ⟨#[]⟩, .string ⟨#[]⟩, .slice none 0 0] 40)) 40 #[.int .i64 (k : Int), .int .u64 0, .int .i64 0, .int .u32 0, .int .u32 0, .int .u16 0, .string ⟨#[]⟩, .string ⟨#[]⟩, .slice none 0 0]
    have hz3 := hz.alloc (.cells #[.int .i64 (k : Int), .int .u64 0, .int .i64 0, .int .u32 0, .int .u32 0, .int .u16 0, .string ⟨#[]⟩, .string ⟨#[]⟩, .slice none 0 0] 40)
    have hb3 := hb2.alloc hb2.size (.cells #[.int .i64 (k : Int), .int .u64 0, .int .i64 0, .int .u32 0, .int .u32 0, .int .u16 0, .string ⟨#[]⟩, .string ⟨#[]⟩, .slice none 0 0] 40)
    rw [World.size_alloc] at hy
    go_enter Try.func36, Try.ntmps36
    go_upto_region 4 with (fail)
    generalize hw3 : (w.alloc (.cells #[.int .i64 0, .int .u64 0, .int .i64 0, .int .u32 0, .int .u32 0, .int .u16 0, .string ⟨#[]⟩, .string ⟨#[]⟩, .slice none 0 0] 40)).alloc (.cells #[.int .i64 (k : Int), .int .u64 0, .int .i64 0, .int .u32 0, .int .u32 0, .int .u16 0, .string ⟨#[]⟩, .string ⟨#[]⟩, .slice none 0 0] 40) = w3 at *
    obtain ⟨z, hzz⟩ : ∃ z, w.heap.size = z := ⟨_, rfl⟩
    have hzw : w.heap.size ≤ z := by omega
    rw [hzz] at hz3 hy ⊢
    obtain ⟨y, hyy⟩ : ∃ y, z + 1 = y := ⟨_, rfl⟩
    have hzy : z < y := by omega
    rw [hyy] at hy ⊢
    have hcut3 := hcut.out
    have hyw : w.heap.size ≤ y := by omega
    have hys : y < w3.heap.size := hy.lt
    clear hw3 hz hb2 hcell hcell2 hcut
    replace hzz := Lib.hid hzz
    replace hyy := Lib.hid hyy
    go_cut [0] from 17 to 18 (fun x0 wx => wx = w3 ∧ ∃ (A1 : Option Addr) (c1 : Nat), x0 = .slice A1 N c1 ∧ Reads w w.heap.size 1 A1 t.length (bys t) ∧ N ≤ c1 ∧ (A1 = none → c1 = 0))
    case first =>
      by_cases hc1 : c = 1
      · rw [if_pos hc1] at hcut3
        have hN0' : N = 0 := by omega
        go_wp2_with fail
        go_meet
        exact ⟨rfl, some ad, 0, by rw [hN0'], hcut3, by omega, by simp⟩
      · rw [if_neg hc1] at hcut3
        go_wp2_with fail
        go_meet
        exact ⟨rfl, some (ad.add 1), c - 1, rfl, hcut3, by omega, by simp⟩
    case rest =>
      obtain ⟨rfl, A1, c1, rfl, ht, hc1, hA1⟩ := hcut
      clear hcut3
      have hyc := hy.rec9
      have hb3s := hb3.size
      have htw : ∀ W, Below w.heap.size w W → Reads W W.heap.size 1 A1 N (bys t) := fun W hW => by
        have h9 := (ht.below hW).more hW.size
        rw [hN.out] at h9
        exact h9
      have hcutx : ∀ W, Below w.heap.size w W → 8 ≤ N → Reads W W.heap.size 1 (if c1 = 8 then A1 else A1.map (·.add 8)) (t.drop 8).length (bys (t.drop 8)) := fun W hW h8 => by
        have hcut := ((ht.below hW).more hW.size).cut (k := 8) (cap := c1) (by rw [hN.out]; exact h8) (by rw [hN.out]; exact hc1)
        rw [Nat.mul_one, bys_drop, ← List.length_drop] at hcut
        exact hcut
      replace htw := Lib.hid htw
      replace hcutx := Lib.hid hcutx
      have hru := fun W (hW : Below w.heap.size w W) => read_any (k := 8) (c := c1) (b := t) (by have h9 := htw.out W hW; rw [← hN.out] at h9; exact h9) (by rw [hN.out]; exact hc1) (by rw [hN.out]; omega) rfl
      unfold readN at hru
      rw [hN.out] at hru
      replace hru := Lib.hid hru
      clear ht
      by_cases hk1 : k = 1
      · subst hk1
        have hcnum : 8 ≤ N → ∀ W, Below w.heap.size w W → Calls Try.prog 48 #[.slice (if c1 = 8 then A1 else A1.map (·.add 8)) (N - 8) (c1 - 8)] W (NumJ W (rdNum (t.drop 8))) := fun h8 W hW => by
          have h9 := num_walk (c := c1 - 8) (hcutx.out W hW h8) (by rw [List.length_drop, hN.out]; omega) (by rw [List.length_drop, hN.out]; omega) _ rfl
          rw [List.length_drop, hN.out] at h9
          exact h9
        by_cases h8 : 8 ≤ N
        · have hr8 := hru.out wc hb3
          rw [if_pos ⟨by decide, by decide, by omega⟩, show (8 : Int).toNat = 8 from rfl] at hr8
          have hv8 := readU_8 t
          obtain ⟨v, hv⟩ : ∃ v, readU (t.take 8) = v := ⟨_, rfl⟩
          rw [hv] at hr8 hv8
          have hcn := hcnum h8
          obtain ⟨o, ho⟩ : ∃ o, rdNum (t.drop 8) = o := ⟨_, rfl⟩
          rw [ho] at hcn
          obtain ⟨ad1, rfl⟩ : ∃ ad1, A1 = some ad1 := by
            cases A1 with
            | none => have := hA1 rfl; omega
            | some a => exact ⟨a, rfl⟩
          have hQ2 : o.bind (fun n => if n ≤ 1 then some (⟨1, v, (n : Int), opz⟩ : RecD) else none) = Q := by
            rw [← hQ1.out]
            unfold rdRec1
            rw [if_pos rfl, if_neg (by rw [hN.out]; omega), ho, hv]
            cases o <;> rfl
          have h8i : (8 : Int) ≤ (N : Int) := by omega
          replace hQ2 := Lib.hid hQ2
          replace hcn := Lib.hid hcn
          clear hcnum ho hQ1 hru hcutx htw hv
          go_wp2_with fail
          refine hr8.mono ?_
          clear hr8
          rintro e w4 ⟨rfl, hb4⟩
          dsimp only
          have hz4 := (hz3.below hb4 hz3.lt).far (p := ⟨y, 1, none⟩) (show z ≠ y by omega) (.int .u64 (v : Int))
          have hy4' := hy.below hb4 hy.lt
          have hy4 : Blk (w4.setCell ⟨y, 1, none⟩ (.int .u64 (v : Int))) y 40 #[.int .i64 1, .int .u64 (v : Int), .int .i64 0, .int .u32 0, .int .u32 0, .int .u16 0, .string ⟨#[]⟩, .string ⟨#[]⟩, .slice none 0 0] := hy4'.set_ 1 (.int .u64 (v : Int))
          have hb5 := (below_then hb4 hb3).setCell (p := ⟨y, 1, none⟩) hyw (.int .u64 (v : Int))
          have hcc := hy4'.rec9
          have hcf := hy4'.frozen 1
          have hcn2 := hcn.out _ hb5
          clear hyc hb4 hz3 hy hb3 hcn
          by_cases hc8 : c1 = 8
          all_goals
            first | (have hN8 : N = 8 := by omega); subst hN8 hc8; rw [if_pos rfl, Nat.sub_self] at hcn2 | rw [if_neg hc8, Option.map_some] at hcn2
            go_wp2_with fail
            generalize w4.setCell ⟨y, 1, none⟩ (.int .u64 (v : Int)) = w5 at *
            refine hcn2.mono ?_
            clear hcn2 hcc hcf
            rintro e w6 ⟨x, q, rfl, hq, hx, hb6⟩
            dsimp only
            have hz6 := (hz4.below hb6 hz4.lt).far (p := ⟨y, 2, none⟩) (show z ≠ y by omega) (.int .i64 x)
            have hy6 := hy4.below hb6 hy4.lt
            have hb7 := (below_then hb6 hb5).setCell (p := ⟨y, 2, none⟩) hyw (.int .i64 x)
            have hcc := hy6.rec9
            have hcf := hy6.frozen 2
            have hy7 : Blk (w6.setCell ⟨y, 2, none⟩ (.int .i64 x)) y 40 #[.int .i64 1, .int .u64 (v : Int), .int .i64 x, .int .u32 0, .int .u32 0, .int .u16 0, .string ⟨#[]⟩, .string ⟨#[]⟩, .slice none 0 0] := hy6.set_ 2 (.int .i64 x)
            have hcc7 := hy7.rec9
            clear hb6 hz4 hy4 hb5 hy6
            cases o with
            | none =>
              have hq' : q = false := hq
              subst hq'
              have hQn : Q = none := hQ2.out.symm
              subst hQn
              clear hQ2 hx hq
              have hzr := hz6.row #[.int .i64 1, .int .u64 (v : Int), .int .i64 x, .int .u32 0, .int .u32 0, .int .u16 0, .string ⟨#[]⟩, .string ⟨#[]⟩, .slice none 0 0]
              have hbr := below_row hb7 (g := z) hzw #[.int .i64 1, .int .u64 (v : Int), .int .i64 x, .int .u32 0, .int .u32 0, .int .u16 0, .string ⟨#[]⟩, .string ⟨#[]⟩, .slice none 0 0]
              go_wp2_with (refine store_row_gen rfl 40 (Operand.tmp 2) _ rfl z #[.int .i64 1, .int .u64 (v : Int), .int .i64 x, .int .u32 0, .int .u32 0, .int .u16 0, .string ⟨#[]⟩, .string ⟨#[]⟩, .slice none 0 0] (by simp [go_sem]) (by simp [go_sem]) 40 _ hz6 (by kernel_rfl) rfl (by simp [Value.oneCell']) (fun w9 hw9 => ?_); rw [← hw9] at hzr hbr; clear hw9)
              refine bodyPost_ret (v := .tuple #[.agg #[.int .i64 1, .int .u64 (v : Int), .int .i64 x, .int .u32 0, .int .u32 0, .int .u16 0, .string ⟨#[]⟩, .string ⟨#[]⟩, .slice none 0 0], .bool false]) (by exact results_ct rfl _ _ z 40 _ (0, 0) _ _ rfl rfl hzr Try.underlying40 rfl (by kernel_rfl)) rfl ?_
              exact ⟨1, v, x, 0, 0, 0, ⟨#[]⟩, ⟨#[]⟩, none, 0, 0, rfl, hbr⟩
            | some n =>
              have hq' : q = true := hq
              subst hq'
              have hx' := hx n rfl
              subst hx'
              by_cases hn1 : n ≤ 1
              · have dn : decide ((n : Int) ≤ 1) = true := decide_eq_true (by omega)
                have hQn : Q = some ⟨1, v, (n : Int), opz⟩ := by rw [← hQ2.out]; show (if n ≤ 1 then _ else none) = _; rw [if_pos hn1]
                subst hQn
                clear hQ2 hx hq
                have hzr := hz6.row #[.int .i64 1, .int .u64 (v : Int), .int .i64 (n : Int), .int .u32 0, .int .u32 0, .int .u16 0, .string ⟨#[]⟩, .string ⟨#[]⟩, .slice none 0 0]
                have hbr := below_row hb7 (g := z) hzw #[.int .i64 1, .int .u64 (v : Int), .int .i64 (n : Int), .int .u32 0, .int .u32 0, .int .u16 0, .string ⟨#[]⟩, .string ⟨#[]⟩, .slice none 0 0]
                go_wp2_with (refine store_row_gen rfl 40 (Operand.tmp 2) _ rfl z #[.int .i64 1, .int .u64 (v : Int), .int .i64 (n : Int), .int .u32 0, .int .u32 0, .int .u16 0, .string ⟨#[]⟩, .string ⟨#[]⟩, .slice none 0 0] (by simp [go_sem]) (by simp [go_sem]) 40 _ hz6 (by kernel_rfl) rfl (by simp [Value.oneCell']) (fun w9 hw9 => ?_); rw [← hw9] at hzr hbr; clear hw9)
                refine bodyPost_ret (v := .tuple #[.agg #[.int .i64 1, .int .u64 (v : Int), .int .i64 (n : Int), .int .u32 0, .int .u32 0, .int .u16 0, .string ⟨#[]⟩, .string ⟨#[]⟩, .slice none 0 0], .bool true]) (by exact results_ct rfl _ _ z 40 _ (0, 0) _ _ rfl rfl hzr Try.underlying40 rfl (by kernel_rfl)) rfl ?_
                exact ⟨none, 0, [], _, rfl, VRow.nil _ _, recok_opz hv8, hbr⟩
              · have dn : decide ((n : Int) ≤ 1) = false := decide_eq_false (by omega)
                have hQn : Q = none := by rw [← hQ2.out]; show (if n ≤ 1 then _ else none) = _; rw [if_neg hn1]
                subst hQn
                clear hQ2 hx hq
                have hzr := hz6.row #[.int .i64 1, .int .u64 (v : Int), .int .i64 (n : Int), .int .u32 0, .int .u32 0, .int .u16 0, .string ⟨#[]⟩, .string ⟨#[]⟩, .slice none 0 0]
                have hbr := below_row hb7 (g := z) hzw #[.int .i64 1, .int .u64 (v : Int), .int .i64 (n : Int), .int .u32 0, .int .u32 0, .int .u16 0, .string ⟨#[]⟩, .string ⟨#[]⟩, .slice none 0 0]
                go_wp2_with (refine store_row_gen rfl 40 (Operand.tmp 2) _ rfl z #[.int .i64 1, .int .u64 (v : Int), .int .i64 (n : Int), .int .u32 0, .int .u32 0, .int .u16 0, .string ⟨#[]⟩, .string ⟨#[]⟩, .slice none 0 0] (by simp [go_sem]) (by simp [go_sem]) 40 _ hz6 (by kernel_rfl) rfl (by simp [Value.oneCell']) (fun w9 hw9 => ?_); rw [← hw9] at hzr hbr; clear hw9)
                refine bodyPost_ret (v := .tuple #[.agg #[.int .i64 1, .int .u64 (v : Int), .int .i64 (n : Int), .int .u32 0, .int .u32 0, .int .u16 0, .string ⟨#[]⟩, .string ⟨#[]⟩, .slice none 0 0], .bool false]) (by exact results_ct rfl _ _ z 40 _ (0, 0) _ _ rfl rfl hzr Try.underlying40 rfl (by kernel_rfl)) rfl ?_
                exact ⟨1, v, n, 0, 0, 0, ⟨#[]⟩, ⟨#[]⟩, none, 0, 0, rfl, hbr⟩
        · have hr8 := hru.out wc hb3
          rw [if_neg (by omega)] at hr8
          have hQn : Q = none := by rw [← hQ1.out]; unfold rdRec1; rw [if_pos rfl, if_pos (by rw [hN.out]; omega)]
          subst hQn
          clear hcnum hQ1 hru hcutx htw
          go_wp2_with fail
          refine hr8.mono ?_
          clear hr8
          rintro e w4 ⟨rfl, hb4⟩
          dsimp only
          have hz4 := (hz3.below hb4 hz3.lt).far (p := ⟨y, 1, none⟩) (show z ≠ y by omega) (.int .u64 0)
          have hy4' := hy.below hb4 hy.lt
          have hb5 := (below_then hb4 hb3).setCell (p := ⟨y, 1, none⟩) hyw (.int .u64 0)
          have hcc := hy4'.rec9
          have hcf := hy4'.frozen 1
          clear hyc hb4 hz3 hy hb3
          have hzr := hz4.row #[.int .i64 0, .int .u64 0, .int .i64 0, .int .u32 0, .int .u32 0, .int .u16 0, .string ⟨#[]⟩, .string ⟨#[]⟩, .slice none 0 0]
          have hbr := below_row hb5 (g := z) hzw #[.int .i64 0, .int .u64 0, .int .i64 0, .int .u32 0, .int .u32 0, .int .u16 0, .string ⟨#[]⟩, .string ⟨#[]⟩, .slice none 0 0]
          go_wp2_with (refine store_row_gen rfl 40 (Operand.tmp 2) _ rfl z #[.int .i64 0, .int .u64 0, .int .i64 0, .int .u32 0, .int .u32 0, .int .u16 0, .string ⟨#[]⟩, .string ⟨#[]⟩, .slice none 0 0] (by simp [go_sem]) (by simp [go_sem]) 40 _ hz4 (by kernel_rfl) rfl (by simp [Value.oneCell']) (fun w9 hw9 => ?_); rw [← hw9] at hzr hbr; clear hw9)
          refine bodyPost_ret (v := .tuple #[.agg #[.int .i64 0, .int .u64 0, .int .i64 0, .int .u32 0, .int .u32 0, .int .u16 0, .string ⟨#[]⟩, .string ⟨#[]⟩, .slice none 0 0], .bool false]) (by exact results_ct rfl _ _ z 40 _ (0, 0) _ _ rfl rfl hzr Try.underlying40 rfl (by kernel_rfl)) rfl ?_
          exact ⟨0, 0, 0, 0, 0, 0, ⟨#[]⟩, ⟨#[]⟩, none, 0, 0, rfl, hbr⟩
      by_cases hk2 : k = 2
      · subst hk2
        have hcop : 8 ≤ N → ∀ W, Below w.heap.size w W → Calls Try.prog 49 #[.slice (if c1 = 8 then A1 else A1.map (·.add 8)) (N - 8) (c1 - 8)] W (OpRd W (rdOp (t.drop 8))) := fun h8 W hW => by
          have h9 := call_read (c := c1 - 8) (hcutx.out W hW h8) (fun e => by
            have : A1 = none := by
              by_cases hc8 : c1 = 8
              · rw [if_pos hc8] at e; exact e
              · rw [if_neg hc8] at e
                cases A1 with
                | none => rfl
                | some a => cases e
            have := hA1 this
            omega) (by rw [List.length_drop, hN.out]; omega) (by rw [List.length_drop, hN.out]; omega) _ rfl
          rw [List.length_drop, hN.out] at h9
          exact h9
        by_cases h8 : 8 ≤ N
        · have hr8 := hru.out wc hb3
          rw [if_pos ⟨by decide, by decide, by omega⟩, show (8 : Int).toNat = 8 from rfl] at hr8
          have hv8 := readU_8 t
          obtain ⟨v, hv⟩ : ∃ v, readU (t.take 8) = v := ⟨_, rfl⟩
          rw [hv] at hr8 hv8
          have hcn := hcop h8
          have hro := fun o q => rdOp_ok (b := t.drop 8) (o := o) (q := q)
          have hro2 := fun o q => rdOp_ten (b := t.drop 8) (o := o) (q := q)
          rw [List.length_drop, hN.out] at hro2
          obtain ⟨ro, ho⟩ : ∃ ro, rdOp (t.drop 8) = ro := ⟨_, rfl⟩
          rw [ho] at hcn hro hro2
          obtain ⟨ad1, rfl⟩ : ∃ ad1, A1 = some ad1 := by
            cases A1 with
            | none => have := hA1 rfl; omega
            | some a => exact ⟨a, rfl⟩
          have hQ2 : ro.bind (fun x => if x.2 = N - 8 then some (⟨2, v, 0, x.1⟩ : RecD) else none) = Q := by
            rw [← hQ1.out]
            unfold rdRec1
            rw [if_neg (by decide), if_pos rfl, if_neg (by rw [hN.out]; omega), ho, hv, hN.out]
            cases ro <;> rfl
          have h8i : (8 : Int) ≤ (N : Int) := by omega
          have hw8 : IntKind.i64.wrap ((N : Int) - 8) = (N : Int) - 8 := w64_sub8 (by omega) (by omega)
          replace hQ2 := Lib.hid hQ2
          replace hcn := Lib.hid hcn
          replace hro := Lib.hid hro
          replace hro2 := Lib.hid hro2
          clear hcop ho hQ1 hru hcutx htw hv
          go_wp2_with fail
          refine hr8.mono ?_
          clear hr8
          rintro e w4 ⟨rfl, hb4⟩
          dsimp only
          have hz4 := (hz3.below hb4 hz3.lt).far (p := ⟨y, 1, none⟩) (show z ≠ y by omega) (.int .u64 (v : Int))
          have hy4' := hy.below hb4 hy.lt
          have hy4 : Blk (w4.setCell ⟨y, 1, none⟩ (.int .u64 (v : Int))) y 40 #[.int .i64 2, .int .u64 (v : Int), .int .i64 0, .int .u32 0, .int .u32 0, .int .u16 0, .string ⟨#[]⟩, .string ⟨#[]⟩, .slice none 0 0] := hy4'.set_ 1 (.int .u64 (v : Int))
          have hb5 := (below_then hb4 hb3).setCell (p := ⟨y, 1, none⟩) hyw (.int .u64 (v : Int))
          have hcc := hy4'.rec9
          have hcf := hy4'.frozen 1
          have hcn2 := hcn.out _ hb5
          clear hyc hb4 hz3 hy hb3 hcn
          by_cases hc8 : c1 = 8
          all_goals
            first | (have hN8 : N = 8 := by omega); subst hN8 hc8; rw [if_pos rfl, Nat.sub_self] at hcn2 | rw [if_neg hc8, Option.map_some] at hcn2
            go_wp2_with fail
            generalize w4.setCell ⟨y, 1, none⟩ (.int .u64 (v : Int)) = w5 at *
            refine hcn2.mono ?_
            clear hcn2 hcc hcf
            cases ro with
            | none =>
              rintro e w6 ⟨rfl, hb6⟩
              dsimp only
              have hz7 := (((((((hz4.below hb6 hz4.lt).far (p := ⟨y, 3, none⟩) (show z ≠ y by omega) (.int .u32 0)).far (p := ⟨y, 4, none⟩) (show z ≠ y by omega) (.int .u32 0)).far (p := ⟨y, 5, none⟩) (show z ≠ y by omega) (.int .u16 0)).far (p := ⟨y, 6, none⟩) (show z ≠ y by omega) (.string ⟨#[]⟩)).far (p := ⟨y, 7, none⟩) (show z ≠ y by omega) (.string ⟨#[]⟩)).far (p := ⟨y, 8, none⟩) (show z ≠ y by omega) (.slice none 0 0))
              have hy6 := hy4.below hb6 hy4.lt
              have hcc := hy6.rec9
              have hf3 := hy6.frozen 3
              have hf4 := hy6.frozen 4
              have hf5 := hy6.frozen 5
              have hf6 := hy6.frozen 6
              have hf7 := hy6.frozen 7
              have hf8 := hy6.frozen 8
              have hb7 := (((((((below_then hb6 hb5).setCell (p := ⟨y, 3, none⟩) hyw (.int .u32 0)).setCell (p := ⟨y, 4, none⟩) hyw (.int .u32 0)).setCell (p := ⟨y, 5, none⟩) hyw (.int .u16 0)).setCell (p := ⟨y, 6, none⟩) hyw (.string ⟨#[]⟩)).setCell (p := ⟨y, 7, none⟩) hyw (.string ⟨#[]⟩)).setCell (p := ⟨y, 8, none⟩) hyw (.slice none 0 0))
              have hy7 : Blk ((((((w6.setCell ⟨y, 3, none⟩ (.int .u32 0)).setCell ⟨y, 4, none⟩ (.int .u32 0)).setCell ⟨y, 5, none⟩ (.int .u16 0)).setCell ⟨y, 6, none⟩ (.string ⟨#[]⟩)).setCell ⟨y, 7, none⟩ (.string ⟨#[]⟩)).setCell ⟨y, 8, none⟩ (.slice none 0 0)) y 40 #[.int .i64 2, .int .u64 (v : Int), .int .i64 0, .int .u32 0, .int .u32 0, .int .u16 0, .string ⟨#[]⟩, .string ⟨#[]⟩, .slice none 0 0] := ((((((hy6.set_ 3 (.int .u32 0)).set_ 4 (.int .u32 0)).set_ 5 (.int .u16 0)).set_ 6 (.string ⟨#[]⟩)).set_ 7 (.string ⟨#[]⟩)).set_ 8 (.slice none 0 0))
              have hcc7 := hy7.rec9
              have hQn : Q = none := hQ2.out.symm
              subst hQn
              clear hQ2 hz4 hy4 hb5 hb6 hy6
              go_upto_region 24 with (fail)
              generalize (((((w6.setCell ⟨y, 3, none⟩ (.int .u32 0)).setCell ⟨y, 4, none⟩ (.int .u32 0)).setCell ⟨y, 5, none⟩ (.int .u16 0)).setCell ⟨y, 6, none⟩ (.string ⟨#[]⟩)).setCell ⟨y, 7, none⟩ (.string ⟨#[]⟩)).setCell ⟨y, 8, none⟩ (.slice none 0 0) = w7 at *
              clear hcc hf3 hf4 hf5 hf6 hf7 hf8
              have hzr := hz7.row #[.int .i64 2, .int .u64 (v : Int), .int .i64 0, .int .u32 0, .int .u32 0, .int .u16 0, .string ⟨#[]⟩, .string ⟨#[]⟩, .slice none 0 0]
              have hbr := below_row hb7 (g := z) hzw #[.int .i64 2, .int .u64 (v : Int), .int .i64 0, .int .u32 0, .int .u32 0, .int .u16 0, .string ⟨#[]⟩, .string ⟨#[]⟩, .slice none 0 0]
              go_wp2_with (refine store_row_gen rfl 40 (Operand.tmp 2) _ rfl z #[.int .i64 2, .int .u64 (v : Int), .int .i64 0, .int .u32 0, .int .u32 0, .int .u16 0, .string ⟨#[]⟩, .string ⟨#[]⟩, .slice none 0 0] (by simp [go_sem]) (by simp [go_sem]) 40 _ hz7 (by kernel_rfl) rfl (by simp [Value.oneCell']) (fun w9 hw9 => ?_); rw [← hw9] at hzr hbr; clear hw9)
              refine bodyPost_ret (v := .tuple #[.agg #[.int .i64 2, .int .u64 (v : Int), .int .i64 0, .int .u32 0, .int .u32 0, .int .u16 0, .string ⟨#[]⟩, .string ⟨#[]⟩, .slice none 0 0], .bool false]) (by exact results_ct rfl _ _ z 40 _ (0, 0) _ _ rfl rfl hzr Try.underlying40 rfl (by kernel_rfl)) rfl ?_
              exact ⟨2, v, 0, 0, 0, 0, ⟨#[]⟩, ⟨#[]⟩, none, 0, 0, rfl, hbr⟩
            | some oq =>
              obtain ⟨o, q⟩ := oq
              try (exfalso; have := hro2.out o q rfl; omega)
              all_goals
                rintro e w6 ⟨A6, c6, xs6, css6, rfl, R6, hb6⟩
                dsimp only
                have h18 := hro2.out o q rfl
                obtain ⟨hl16, hokv, ho1, ho2, ho3⟩ := hro.out o q rfl
                obtain ⟨oc, os_, on, og', om', ol⟩ := o
                dsimp only at *
                obtain ⟨og, hog⟩ : ∃ og, bstr og' = og := ⟨_, rfl⟩
                obtain ⟨om, hom⟩ : ∃ om, bstr om' = om := ⟨_, rfl⟩
                obtain ⟨oL, hoL⟩ : ∃ oL, ol.length = oL := ⟨_, rfl⟩
                rw [hog, hom, hoL]
                have hy5l := hy4.lt
                have hz5l := hz4.lt
                have R7 := R6.upd (((((((Upd.refl (fun x => x = y) w6).setCell (p := ⟨y, 3, none⟩) (fun _ => rfl) (.int .u32 (oc : Int))).setCell (p := ⟨y, 4, none⟩) (fun _ => rfl) (.int .u32 (os_ : Int))).setCell (p := ⟨y, 5, none⟩) (fun _ => rfl) (.int .u16 (on : Int))).setCell (p := ⟨y, 6, none⟩) (fun _ => rfl) (.string og)).setCell (p := ⟨y, 7, none⟩) (fun _ => rfl) (.string om)).setCell (p := ⟨y, 8, none⟩) (fun _ => rfl) (.slice A6 oL c6)) (fun g hg e => by omega)
                have hs56 := hb6.size
                have hs5w := hb5.size
                replace hog := Lib.hid hog
                replace hom := Lib.hid hom
                replace hoL := Lib.hid hoL
                have hz7 := (((((((hz4.below hb6 hz4.lt).far (p := ⟨y, 3, none⟩) (show z ≠ y by omega) (.int .u32 (oc : Int))).far (p := ⟨y, 4, none⟩) (show z ≠ y by omega) (.int .u32 (os_ : Int))).far (p := ⟨y, 5, none⟩) (show z ≠ y by omega) (.int .u16 (on : Int))).far (p := ⟨y, 6, none⟩) (show z ≠ y by omega) (.string og)).far (p := ⟨y, 7, none⟩) (show z ≠ y by omega) (.string om)).far (p := ⟨y, 8, none⟩) (show z ≠ y by omega) (.slice A6 oL c6))
                have hy6 := hy4.below hb6 hy4.lt
                have hcc := hy6.rec9
                have hf3 := hy6.frozen 3
                have hf4 := hy6.frozen 4
                have hf5 := hy6.frozen 5
                have hf6 := hy6.frozen 6
                have hf7 := hy6.frozen 7
                have hf8 := hy6.frozen 8
                have hb7 := (((((((below_then hb6 hb5).setCell (p := ⟨y, 3, none⟩) hyw (.int .u32 (oc : Int))).setCell (p := ⟨y, 4, none⟩) hyw (.int .u32 (os_ : Int))).setCell (p := ⟨y, 5, none⟩) hyw (.int .u16 (on : Int))).setCell (p := ⟨y, 6, none⟩) hyw (.string og)).setCell (p := ⟨y, 7, none⟩) hyw (.string om)).setCell (p := ⟨y, 8, none⟩) hyw (.slice A6 oL c6))
                have hy7 : Blk ((((((w6.setCell ⟨y, 3, none⟩ (.int .u32 (oc : Int))).setCell ⟨y, 4, none⟩ (.int .u32 (os_ : Int))).setCell ⟨y, 5, none⟩ (.int .u16 (on : Int))).setCell ⟨y, 6, none⟩ (.string og)).setCell ⟨y, 7, none⟩ (.string om)).setCell ⟨y, 8, none⟩ (.slice A6 oL c6)) y 40 #[.int .i64 2, .int .u64 (v : Int), .int .i64 0, .int .u32 (oc : Int), .int .u32 (os_ : Int), .int .u16 (on : Int), .string og, .string om, .slice A6 oL c6] := ((((((hy6.set_ 3 (.int .u32 (oc : Int))).set_ 4 (.int .u32 (os_ : Int))).set_ 5 (.int .u16 (on : Int))).set_ 6 (.string og)).set_ 7 (.string om)).set_ 8 (.slice A6 oL c6))
                have hcc7 := hy7.rec9
                replace R7 := Lib.hid R7
                clear hz4 hy4 hb5 hb6 hy6 R6
                by_cases hqn : q = N - 8
                · have dq : ((q : Int) == (N : Int) - 8) = true := by rw [beq_iff_eq]; omega
                  have hQn : Q = some ⟨2, v, 0, ⟨oc, os_, on, og', om', ol⟩⟩ := by rw [← hQ2.out]; show (if q = N - 8 then _ else none) = _; rw [if_pos hqn]
                  subst hQn
                  replace hqn := Lib.hid hqn
                  clear hQ2 hro hro2
                  go_upto_region 24 with (fail)
                  generalize (((((w6.setCell ⟨y, 3, none⟩ (.int .u32 (oc : Int))).setCell ⟨y, 4, none⟩ (.int .u32 (os_ : Int))).setCell ⟨y, 5, none⟩ (.int .u16 (on : Int))).setCell ⟨y, 6, none⟩ (.string og)).setCell ⟨y, 7, none⟩ (.string om)).setCell ⟨y, 8, none⟩ (.slice A6 oL c6) = w7 at *
                  clear hcc hf3 hf4 hf5 hf6 hf7 hf8
                  have hRr := R7.out.upd ((Upd.refl (fun x => x = z) w7).setRow (g := z) (fun _ => rfl) #[.int .i64 2, .int .u64 (v : Int), .int .i64 0, .int .u32 (oc : Int), .int .u32 (os_ : Int), .int .u16 (on : Int), .string og, .string om, .slice A6 oL c6]) (fun g hg e => by omega)
                  have hzr := hz7.row #[.int .i64 2, .int .u64 (v : Int), .int .i64 0, .int .u32 (oc : Int), .int .u32 (os_ : Int), .int .u16 (on : Int), .string og, .string om, .slice A6 oL c6]
                  have hbr := below_row hb7 (g := z) hzw #[.int .i64 2, .int .u64 (v : Int), .int .i64 0, .int .u32 (oc : Int), .int .u32 (os_ : Int), .int .u16 (on : Int), .string og, .string om, .slice A6 oL c6]
                  go_wp2_with (refine store_row_gen rfl 40 (Operand.tmp 2) _ rfl z #[.int .i64 2, .int .u64 (v : Int), .int .i64 0, .int .u32 (oc : Int), .int .u32 (os_ : Int), .int .u16 (on : Int), .string og, .string om, .slice A6 oL c6] (by simp [go_sem]) (by simp [go_sem]) 40 _ hz7 (by kernel_rfl) rfl (by simp [Value.oneCell']) (fun w9 hw9 => ?_); rw [← hw9] at hzr hbr hRr; clear hw9)
                  refine bodyPost_ret (v := .tuple #[.agg #[.int .i64 2, .int .u64 (v : Int), .int .i64 0, .int .u32 (oc : Int), .int .u32 (os_ : Int), .int .u16 (on : Int), .string og, .string om, .slice A6 oL c6], .bool true]) (by exact results_ct rfl _ _ z 40 _ (0, 0) _ _ rfl rfl hzr Try.underlying40 rfl (by kernel_rfl)) rfl ?_
                  
                  refine ⟨A6, c6, _, _, ?_, hRr.down hs5w, ⟨hokv, hl16, ho1, ho2, ho3, hv8⟩, hbr⟩
                  dsimp only
                  rw [hog.out, hom.out, hoL.out]
                · have dq : ((q : Int) == (N : Int) - 8) = false := by rw [beq_eq_false_iff_ne]; omega
                  have hQn : Q = none := by rw [← hQ2.out]; show (if q = N - 8 then _ else none) = _; rw [if_neg hqn]
                  subst hQn
                  replace hqn := Lib.hid hqn
                  clear hQ2 hro hro2
                  go_upto_region 24 with (fail)
                  generalize (((((w6.setCell ⟨y, 3, none⟩ (.int .u32 (oc : Int))).setCell ⟨y, 4, none⟩ (.int .u32 (os_ : Int))).setCell ⟨y, 5, none⟩ (.int .u16 (on : Int))).setCell ⟨y, 6, none⟩ (.string og)).setCell ⟨y, 7, none⟩ (.string om)).setCell ⟨y, 8, none⟩ (.slice A6 oL c6) = w7 at *
                  clear hcc hf3 hf4 hf5 hf6 hf7 hf8
                  have hzr := hz7.row #[.int .i64 2, .int .u64 (v : Int), .int .i64 0, .int .u32 (oc : Int), .int .u32 (os_ : Int), .int .u16 (on : Int), .string og, .string om, .slice A6 oL c6]
                  have hbr := below_row hb7 (g := z) hzw #[.int .i64 2, .int .u64 (v : Int), .int .i64 0, .int .u32 (oc : Int), .int .u32 (os_ : Int), .int .u16 (on : Int), .string og, .string om, .slice A6 oL c6]
                  go_wp2_with (refine store_row_gen rfl 40 (Operand.tmp 2) _ rfl z #[.int .i64 2, .int .u64 (v : Int), .int .i64 0, .int .u32 (oc : Int), .int .u32 (os_ : Int), .int .u16 (on : Int), .string og, .string om, .slice A6 oL c6] (by simp [go_sem]) (by simp [go_sem]) 40 _ hz7 (by kernel_rfl) rfl (by simp [Value.oneCell']) (fun w9 hw9 => ?_); rw [← hw9] at hzr hbr; clear hw9)
                  refine bodyPost_ret (v := .tuple #[.agg #[.int .i64 2, .int .u64 (v : Int), .int .i64 0, .int .u32 (oc : Int), .int .u32 (os_ : Int), .int .u16 (on : Int), .string og, .string om, .slice A6 oL c6], .bool false]) (by exact results_ct rfl _ _ z 40 _ (0, 0) _ _ rfl rfl hzr Try.underlying40 rfl (by kernel_rfl)) rfl ?_
                  exact ⟨2, v, 0, oc, os_, on, og, om, A6, oL, c6, rfl, hbr⟩
        · have hr8 := hru.out wc hb3
          rw [if_neg (by omega)] at hr8
          have hQn : Q = none := by rw [← hQ1.out]; unfold rdRec1; rw [if_neg (by decide), if_pos rfl, if_pos (by rw [hN.out]; omega)]
          subst hQn
          clear hcop hQ1 hru hcutx htw
          go_wp2_with fail
          refine hr8.mono ?_
          clear hr8
          rintro e w4 ⟨rfl, hb4⟩
          dsimp only
          have hz4 := (hz3.below hb4 hz3.lt).far (p := ⟨y, 1, none⟩) (show z ≠ y by omega) (.int .u64 0)
          have hy4' := hy.below hb4 hy.lt
          have hb5 := (below_then hb4 hb3).setCell (p := ⟨y, 1, none⟩) hyw (.int .u64 0)
          have hcc := hy4'.rec9
          have hcf := hy4'.frozen 1
          clear hyc hb4 hz3 hy hb3
          have hzr := hz4.row #[.int .i64 0, .int .u64 0, .int .i64 0, .int .u32 0, .int .u32 0, .int .u16 0, .string ⟨#[]⟩, .string ⟨#[]⟩, .slice none 0 0]
          have hbr := below_row hb5 (g := z) hzw #[.int .i64 0, .int .u64 0, .int .i64 0, .int .u32 0, .int .u32 0, .int .u16 0, .string ⟨#[]⟩, .string ⟨#[]⟩, .slice none 0 0]
          go_wp2_with (refine store_row_gen rfl 40 (Operand.tmp 2) _ rfl z #[.int .i64 0, .int .u64 0, .int .i64 0, .int .u32 0, .int .u32 0, .int .u16 0, .string ⟨#[]⟩, .string ⟨#[]⟩, .slice none 0 0] (by simp [go_sem]) (by simp [go_sem]) 40 _ hz4 (by kernel_rfl) rfl (by simp [Value.oneCell']) (fun w9 hw9 => ?_); rw [← hw9] at hzr hbr; clear hw9)
          refine bodyPost_ret (v := .tuple #[.agg #[.int .i64 0, .int .u64 0, .int .i64 0, .int .u32 0, .int .u32 0, .int .u16 0, .string ⟨#[]⟩, .string ⟨#[]⟩, .slice none 0 0], .bool false]) (by exact results_ct rfl _ _ z 40 _ (0, 0) _ _ rfl rfl hzr Try.underlying40 rfl (by kernel_rfl)) rfl ?_
          exact ⟨0, 0, 0, 0, 0, 0, ⟨#[]⟩, ⟨#[]⟩, none, 0, 0, rfl, hbr⟩
      by_cases hk34 : k = 3 ∨ k = 4
      · obtain ⟨o, ho⟩ : ∃ o, rdNum t = o := ⟨_, rfl⟩
        have hnw := num_walk (A := A1) (c := c1) (b := t) (w := wc) (by have h9 := htw.out wc hb3; rw [← hN.out] at h9; exact h9) (by rw [hN.out]; exact hc1) (by rw [hN.out]; omega) o ho
        rw [hN.out] at hnw
        have hQ2 : o.map (fun n => (⟨(k : Int), 0, (n : Int), opz⟩ : RecD)) = Q := by
          rw [← hQ1.out]
          unfold rdRec1
          rw [if_neg hk1, if_neg hk2, if_pos hk34, ho]
          cases o <;> rfl
        have d1 : ((k : Int) == 1) = false := by rw [beq_eq_false_iff_ne]; omega
        have d2 : ((k : Int) == 2) = false := by rw [beq_eq_false_iff_ne]; omega
        replace hnw := Lib.hid hnw
        replace hQ2 := Lib.hid hQ2
        clear ho hQ1 hru hcutx htw
        have h34 : ((k : Int) == 3) = true ∨ (((k : Int) == 3) = false ∧ ((k : Int) == 4) = true) := by
          rcases hk34 with h | h
          · left; rw [beq_iff_eq]; omega
          · right; exact ⟨by rw [beq_eq_false_iff_ne]; omega, by rw [beq_iff_eq]; omega⟩
        rcases h34 with d3 | ⟨d3, d4⟩
        all_goals
          go_wp2_with fail
          refine hnw.out.mono ?_
          rintro e w4 ⟨x, q, rfl, hq, hx, hb4⟩
          dsimp only
          have hz4 := hz3.below hb4 hz3.lt
          have hy4 := hy.below hb4 hy.lt
          have hb5 := below_then hb4 hb3
          have hz5 := hz4.far (p := ⟨y, 2, none⟩) (show z ≠ y by omega) (.int .i64 x)
          have hy5 := hy4.set_ 2 (.int .i64 x)
          have hb6 := hb5.setCell (p := ⟨y, 2, none⟩) hyw (.int .i64 x)
          have hyc4 := hy4.rec9
          have hyf4 := hy4.frozen 2
          replace hy5 : Blk (w4.setCell ⟨y, 2, none⟩ (.int .i64 x)) y 40 #[.int .i64 (k : Int), .int .u64 0, .int .i64 x, .int .u32 0, .int .u32 0, .int .u16 0, .string ⟨#[]⟩, .string ⟨#[]⟩, .slice none 0 0] := hy5
          have hyc5 := hy5.rec9
          clear hyc hb4 hz4 hb5 hy4 hz3 hy hb3 hnw
          cases o with
          | none =>
            have hq' : q = false := hq
            subst hq'
            have hQn : Q = none := hQ2.out.symm
            subst hQn
            clear hQ2 hx hq
            have hzr := hz5.row #[.int .i64 (k : Int), .int .u64 0, .int .i64 x, .int .u32 0, .int .u32 0, .int .u16 0, .string ⟨#[]⟩, .string ⟨#[]⟩, .slice none 0 0]
            have hbr := below_row hb6 (g := z) hzw #[.int .i64 (k : Int), .int .u64 0, .int .i64 x, .int .u32 0, .int .u32 0, .int .u16 0, .string ⟨#[]⟩, .string ⟨#[]⟩, .slice none 0 0]
            go_wp2_with (refine store_row_gen rfl 40 (Operand.tmp 2) _ rfl z #[.int .i64 (k : Int), .int .u64 0, .int .i64 x, .int .u32 0, .int .u32 0, .int .u16 0, .string ⟨#[]⟩, .string ⟨#[]⟩, .slice none 0 0] (by simp [go_sem]) (by simp [go_sem]) 40 _ hz5 (by kernel_rfl) rfl (by simp [Value.oneCell']) (fun w9 hw9 => ?_); rw [← hw9] at hzr hbr; clear hw9)
            refine bodyPost_ret (v := .tuple #[.agg #[.int .i64 (k : Int), .int .u64 0, .int .i64 x, .int .u32 0, .int .u32 0, .int .u16 0, .string ⟨#[]⟩, .string ⟨#[]⟩, .slice none 0 0], .bool false]) (by exact results_ct rfl _ _ z 40 _ (0, 0) _ _ rfl rfl hzr Try.underlying40 rfl (by kernel_rfl)) rfl ?_
            exact ⟨k, 0, x, 0, 0, 0, ⟨#[]⟩, ⟨#[]⟩, none, 0, 0, rfl, hbr⟩
          | some n =>
            have hq' : q = true := hq
            subst hq'
            have hx' := hx n rfl
            subst hx'
            have hQn : Q = some ⟨(k : Int), 0, (n : Int), opz⟩ := hQ2.out.symm
            subst hQn
            clear hQ2 hx hq
            have hzr := hz5.row #[.int .i64 (k : Int), .int .u64 0, .int .i64 (n : Int), .int .u32 0, .int .u32 0, .int .u16 0, .string ⟨#[]⟩, .string ⟨#[]⟩, .slice none 0 0]
            have hbr := below_row hb6 (g := z) hzw #[.int .i64 (k : Int), .int .u64 0, .int .i64 (n : Int), .int .u32 0, .int .u32 0, .int .u16 0, .string ⟨#[]⟩, .string ⟨#[]⟩, .slice none 0 0]
            go_wp2_with (refine store_row_gen rfl 40 (Operand.tmp 2) _ rfl z #[.int .i64 (k : Int), .int .u64 0, .int .i64 (n : Int), .int .u32 0, .int .u32 0, .int .u16 0, .string ⟨#[]⟩, .string ⟨#[]⟩, .slice none 0 0] (by simp [go_sem]) (by simp [go_sem]) 40 _ hz5 (by kernel_rfl) rfl (by simp [Value.oneCell']) (fun w9 hw9 => ?_); rw [← hw9] at hzr hbr; clear hw9)
            refine bodyPost_ret (v := .tuple #[.agg #[.int .i64 (k : Int), .int .u64 0, .int .i64 (n : Int), .int .u32 0, .int .u32 0, .int .u16 0, .string ⟨#[]⟩, .string ⟨#[]⟩, .slice none 0 0], .bool true]) (by exact results_ct rfl _ _ z 40 _ (0, 0) _ _ rfl rfl hzr Try.underlying40 rfl (by kernel_rfl)) rfl ?_
            exact ⟨none, 0, [], _, rfl, VRow.nil _ _, recok_opz (show (0 : Nat) < 18446744073709551616 by decide), hbr⟩
      · have d1 : ((k : Int) == 1) = false := by rw [beq_eq_false_iff_ne]; omega
        have d2 : ((k : Int) == 2) = false := by rw [beq_eq_false_iff_ne]; omega
        have d3 : ((k : Int) == 3) = false := by rw [beq_eq_false_iff_ne]; omega
        have d4 : ((k : Int) == 4) = false := by rw [beq_eq_false_iff_ne]; omega
        have hQn : Q = none := by rw [← hQ1.out]; unfold rdRec1; rw [if_neg hk1, if_neg hk2, if_neg hk34]
        subst hQn
        have hzr := hz3.row #[.int .i64 (k : Int), .int .u64 0, .int .i64 0, .int .u32 0, .int .u32 0, .int .u16 0, .string ⟨#[]⟩, .string ⟨#[]⟩, .slice none 0 0]
        have hbr := below_row hb3 (g := z) hzw #[.int .i64 (k : Int), .int .u64 0, .int .i64 0, .int .u32 0, .int .u32 0, .int .u16 0, .string ⟨#[]⟩, .string ⟨#[]⟩, .slice none 0 0]
        go_wp2_with (refine store_row_gen rfl 40 (Operand.tmp 2) _ rfl z #[.int .i64 (k : Int), .int .u64 0, .int .i64 0, .int .u32 0, .int .u32 0, .int .u16 0, .string ⟨#[]⟩, .string ⟨#[]⟩, .slice none 0 0] (by simp [go_sem]) (by simp [go_sem]) 40 _ hz3 (by kernel_rfl) rfl (by simp [Value.oneCell']) (fun w9 hw9 => ?_); rw [← hw9] at hzr hbr; clear hw9)
        refine bodyPost_ret (v := .tuple #[.agg #[.int .i64 (k : Int), .int .u64 0, .int .i64 0, .int .u32 0, .int .u32 0, .int .u16 0, .string ⟨#[]⟩, .string ⟨#[]⟩, .slice none 0 0], .bool false]) (by exact results_ct rfl _ _ z 40 _ (0, 0) _ _ rfl rfl hzr Try.underlying40 rfl (by kernel_rfl)) rfl ?_
        exact ⟨k, 0, 0, 0, 0, 0, ⟨#[]⟩, ⟨#[]⟩, none, 0, 0, rfl, hbr⟩
end Go.Proofs.Ytlkokkbikkbaoaa
