/- journal.Step. -/
import Derived.Test.YtlkokkbikkbaoaaLogW
import Derived.Test.YtlkokkbikkbaoaaJRd
set_option linter.unusedSimpArgs false
set_option linter.unusedVariables false
set_option linter.unusedSimpArgs false
set_option linter.unusedVariables false
namespace Go.Proofs.Ytlkokkbikkbaoaa
open Go.RowKit
set_option maxRecDepth 100000

/-- What a step tells: a state, and whether it was one; the state's log is read in each world in which the log ahead of it is read and that has kept what is new. -/
def StRes (w : World) (L : Option Addr) (cl : Nat) (log : List (Nat × OpD)) (xs : List Value) (css : Nat → Array Value) (s : StD) (ok : Bool) (e : Ending) (w' : World) : Prop :=
  ∃ L' c' xs' css', e = .returned (.tuple #[.agg #[.int .u64 (s.v : Int), .int .u64 (s.last : Int), .slice L' s.log.length c', .int .i64 s.sure], .bool ok]) ∧ Below w.heap.size w w' ∧
    ∀ (S : Nat → Prop) (W : World), Upd S w' W → (∀ g, S g → g < w.heap.size) → LogR W W.heap.size L cl log xs css → LogR W W.heap.size L' c' s.log xs' css'
theorem Blk.st4 {w : World} {g : Nat} {t : TypeId} {a b c d : Value} (x : Blk w g t #[a, b, c, d]) : w.cell? ⟨g, 0, none⟩ = some a ∧ w.cell? ⟨g, 1, none⟩ = some b ∧ w.cell? ⟨g, 2, none⟩ = some c ∧ w.cell? ⟨g, 3, none⟩ = some d := ⟨x.cell 0, x.cell 1, x.cell 2, x.cell 3⟩
theorem wp_append_grows {P : Program} {w : World} {o : Oper} {a : Act} {K : Act → World → Prop} {Q : Exit → Act → World → Prop} (s x : Operand) (t tx : TypeId)
    (ho : o.op = .call { callee := .builtin .append, args := #[s, x], argTypes := #[t, tx] })
    (e : TypeId) (i : TypeInfo) (z : Value) (size bytes : Nat) (ht : P.underlying t = some (.slice e)) (hi : P.info? e = some i) (hz : i.zero = some z)
    (hsize : i.size = size) (hby : i.bytes = bytes) (hzs : z.cells.size = size) {A : Option Addr} {n c : Nat} {xs : List Value} {row : Option Nat} (hs : a.eval s = .slice A n c) (hgr : Grows w e size A n c xs row)
    {y : Value} {m : Nat} {news : List Value} (hx : a.eval x = y) (hsrc : Src P size tx y m news w) (hm : 0 < m) (h63 : n + m ≤ maxLen) (hbytes : (n + m) * bytes ≤ 140737488355328)
    (h : ∀ A' c' w', Own w' e size A' (n + m) c' (xs ++ news) → w.grownBy w' row → (bOf A' = row ∨ bOf A' = some w.heap.size) → K (a.put o.dst (.slice A' (n + m) c')) w') : o.wp P a w K Q := by
  obtain ⟨A', c', w', hrun, h2, h3, h4⟩ := run_append_grows (P := P) (w := w) t tx o.type e i z size bytes ht hi hz hsize hby hzs hgr hsrc hm h63 hbytes
  unfold Oper.wp execOp
  simp only [ho, resolve, invoke, builtin, Sem.run_bind, Sem.run_pure, Result.andThen_ok, List.map_toArray, List.map_cons, List.map_nil, hs, hx, hrun]
  exact h A' c' w' h2 h3 h4
/-- A cleaned call whose row is its own. -/
def OpVRes (w : World) (c s n : Nat) (gg mm : ByteArray) (l : List Val) (K : Nat) (e : Ending) (w' : World) : Prop :=
  ∃ A' c' xs css, e = .returned (.agg #[.int .u32 (c : Int), .int .u32 (s : Int), .int .u16 (n : Int), .string gg, .string mm, .slice A' K c']) ∧ VRow w' w.heap.size (l.map cleanV) A' c' xs css ∧ Below w.heap.size w w'
section
variable {w : World} {B c s n : Nat} {g m : List UInt8} {l : List Val} {gg mm : ByteArray} {A : Option Addr} {K cc : Nat}
theorem clean_progV (h : OpReads w B ⟨c, s, n, g, m, l⟩ #[.int .u32 (c : Int), .int .u32 (s : Int), .int .u16 (n : Int), .string gg, .string mm, .slice A K cc]) (hB : B ≤ w.heap.size) :
    Calls Try.prog 39 #[.agg #[.int .u32 (c : Int), .int .u32 (s : Int), .int .u16 (n : Int), .string gg, .string mm, .slice A K cc]] w (OpVRes w c s n gg mm l K) := by
  obtain ⟨rfl, rfl, rfl⟩ := op_parts h
  obtain ⟨A0, cc0, xs, css, hcs, hr, hx, hxs, hll, hok, hc, hs, hn⟩ := h
  simp at hcs
  obtain ⟨rfl, rfl⟩ := hcs
  exact (op_clean hr hB hxs hx hll (fun j v hv w1 hb1 => val_clean_s (hx j v hv) w1 (short_of_ok (hok v (List.mem_of_getElem? hv))) (hb1.mono hB) (Nat.le_trans hB hb1.size)))
theorem op_of_clean {W : World} {b : Nat} {A' : Option Addr} {c' : Nat} {xs : List Value} {css : Nat → Array Value} (h : OpReads w B ⟨c, s, n, g, m, l⟩ #[.int .u32 (c : Int), .int .u32 (s : Int), .int .u16 (n : Int), .string gg, .string mm, .slice A K cc]) (R : VRow W b (l.map cleanV) A' c' xs css) :
    OpReads W W.heap.size ⟨c, s, n, g, m, l.map cleanV⟩ #[.int .u32 (c : Int), .int .u32 (s : Int), .int .u16 (n : Int), .string gg, .string mm, .slice A' K c'] := by
  obtain ⟨rfl, rfl, rfl⟩ := op_parts h
  obtain ⟨A0, cc0, xs0, css0, hcs, hr, hx, hxs, hll, hok, hc, hs, hn⟩ := h
  have := op_of_row (o := ⟨c, s, n, g, m, l.map cleanV⟩) R (by simp only [List.length_map]; exact hll) (fun v hv => by
    simp only [List.mem_map] at hv
    obtain ⟨u, hu, rfl⟩ := hv
    exact clean_okv (hok u hu)) hc hs hn
  simp only [List.length_map] at this
  exact this
end

set_option maxHeartbeats 12800000 in
theorem step_walk {w : World} {B : Nat} {L : Option Addr} {cl sv sl : Nat} {su : Int} {log : List (Nat × OpD)} {xs : List Value} {css : Nat → Array Value} {k n : Int} {v c1 s1 n1 : Nat} {g m : List UInt8} {gg mm : ByteArray} {l : List Val} {A : Option Addr} {K cc : Nat}
    (hlog : LogR w B L cl log xs css) (ho : OpReads w B ⟨c1, s1, n1, g, m, l⟩ #[.int .u32 (c1 : Int), .int .u32 (s1 : Int), .int .u16 (n1 : Int), .string gg, .string mm, .slice A K cc]) (hB : B ≤ w.heap.size) (hv : v < 18446744073709551616) (hll : log.length ≤ 1000) (hsu0 : 0 ≤ su) :
    Calls Try.prog 21 #[.agg #[.int .u64 (sv : Int), .int .u64 (sl : Int), .slice L log.length cl, .int .i64 su], .agg #[.int .i64 k, .int .u64 (v : Int), .int .i64 n, .int .u32 (c1 : Int), .int .u32 (s1 : Int), .int .u16 (n1 : Int), .string gg, .string mm, .slice A K cc]] w (StRes w L cl log xs css (stepD ⟨sv, sl, log, su⟩ ⟨k, v, n, ⟨c1, s1, n1, g, m, l⟩⟩) (stepOk ⟨sv, sl, log, su⟩ ⟨k, v, n, ⟨c1, s1, n1, g, m, l⟩⟩)) := by
  have hop0 := ho
  replace hop0 := Lib.hid hop0
  have hs0 := Blk.new w 49 #[.int .u64 (sv : Int), .int .u64 (sl : Int), .slice L log.length cl, .int .i64 su]
  have hr0 := Blk.new (w.alloc (.cells #[.int .u64 (sv : Int), .int .u64 (sl : Int), .slice L log.length cl, .int .i64 su] 49)) 40 #[.int .i64 k, .int .u64 (v : Int), .int .i64 n, .int .u32 (c1 : Int), .int .u32 (s1 : Int), .int .u16 (n1 : Int), .string gg, .string mm, .slice A K cc]
  have hz0 := Blk.new ((w.alloc (.cells #[.int .u64 (sv : Int), .int .u64 (sl : Int), .slice L log.length cl, .int .i64 su] 49)).alloc (.cells #[.int .i64 k, .int .u64 (v : Int), .int .i64 n, .int .u32 (c1 : Int), .int .u32 (s1 : Int), .int .u16 (n1 : Int), .string gg, .string mm, .slice A K cc] 40)) 49 #[.int .u64 0, .int .u64 0, .slice none 0 0, .int .i64 0]
  have ho0 := Blk.new (((w.alloc (.cells #[.int .u64 (sv : Int), .int .u64 (sl : Int), .slice L log.length cl, .int .i64 su] 49)).alloc (.cells #[.int .i64 k, .int .u64 (v : Int), .int .i64 n, .int .u32 (c1 : Int), .int .u32 (s1 : Int), .int .u16 (n1 : Int), .string gg, .string mm, .slice A K cc] 40)).alloc (.cells #[.int .u64 0, .int .u64 0, .slice none 0 0, .int .i64 0] 49)) 49 #[.int .u64 (sv : Int), .int .u64 (sl : Int), .slice L log.length cl, .int .i64 su]
  rw [World.size_alloc] at hr0
  rw [World.size_alloc, World.size_alloc] at hz0
  rw [World.size_alloc, World.size_alloc, World.size_alloc] at ho0
  have hs4 := (((hs0).alloc (.cells #[.int .i64 k, .int .u64 (v : Int), .int .i64 n, .int .u32 (c1 : Int), .int .u32 (s1 : Int), .int .u16 (n1 : Int), .string gg, .string mm, .slice A K cc] 40)).alloc (.cells #[.int .u64 0, .int .u64 0, .slice none 0 0, .int .i64 0] 49)).alloc (.cells #[.int .u64 (sv : Int), .int .u64 (sl : Int), .slice L log.length cl, .int .i64 su] 49)
  have hr4 := ((hr0).alloc (.cells #[.int .u64 0, .int .u64 0, .slice none 0 0, .int .i64 0] 49)).alloc (.cells #[.int .u64 (sv : Int), .int .u64 (sl : Int), .slice L log.length cl, .int .i64 su] 49)
  have hz4 := (hz0).alloc (.cells #[.int .u64 (sv : Int), .int .u64 (sl : Int), .slice L log.length cl, .int .i64 su] 49)
  have hb4 := (((((Below.refl w.heap.size w)).alloc (by first | exact Nat.le_refl _ | (simp only [World.size_alloc]; omega)) (.cells #[.int .u64 (sv : Int), .int .u64 (sl : Int), .slice L log.length cl, .int .i64 su] 49)).alloc (by first | exact Nat.le_refl _ | (simp only [World.size_alloc]; omega)) (.cells #[.int .i64 k, .int .u64 (v : Int), .int .i64 n, .int .u32 (c1 : Int), .int .u32 (s1 : Int), .int .u16 (n1 : Int), .string gg, .string mm, .slice A K cc] 40)).alloc (by first | exact Nat.le_refl _ | (simp only [World.size_alloc]; omega)) (.cells #[.int .u64 0, .int .u64 0, .slice none 0 0, .int .i64 0] 49)).alloc (by first | exact Nat.le_refl _ | (simp only [World.size_alloc]; omega)) (.cells #[.int .u64 (sv : Int), .int .u64 (sl : Int), .slice L log.length cl, .int .i64 su] 49)
  have ho4 := ho0
  clear hs0 hr0 hz0 ho0
  obtain ⟨D, hD⟩ : ∃ D, stepD ⟨sv, sl, log, su⟩ ⟨k, v, n, ⟨c1, s1, n1, g, m, l⟩⟩ = D := ⟨_, rfl⟩
  obtain ⟨O, hO⟩ : ∃ O, stepOk ⟨sv, sl, log, su⟩ ⟨k, v, n, ⟨c1, s1, n1, g, m, l⟩⟩ = O := ⟨_, rfl⟩
  rw [hD, hO]
  have hlog0 := hlog
  have hbs : ∀ W, Below w.heap.size w W → OpReads W B ⟨c1, s1, n1, g, m, l⟩ #[.int .u32 (c1 : Int), .int .u32 (s1 : Int), .int .u16 (n1 : Int), .string gg, .string mm, .slice A K cc] := fun W hW => ho.below (hW.mono hB)
  have fin : ∀ W, Below w.heap.size w W → LogR W W.heap.size L cl log xs css := fun W hW => ((hlog.below (hW.mono hB)).up (Nat.le_trans hB hW.size))
  have hcl := hlog.hc
  have hLn := hlog.hA
  obtain ⟨N, hN⟩ : ∃ N, log.length = N := ⟨_, rfl⟩
  rw [hN] at hs4 hr4 hz4 hb4 hcl hll ho4 ⊢
  replace hN := Lib.hid hN
  replace fin := Lib.hid fin
  replace hbs := Lib.hid hbs
  replace hLn := Lib.hid hLn
  replace hlog0 := Lib.hid hlog0
  replace hD := Lib.hid hD
  replace hO := Lib.hid hO
  clear hlog ho
  go_enter Try.func21, Try.ntmps21
  go_upto_region 3 with (fail)
  generalize (((w.alloc (.cells #[.int .u64 (sv : Int), .int .u64 (sl : Int), .slice L N cl, .int .i64 su] 49)).alloc (.cells #[.int .i64 k, .int .u64 (v : Int), .int .i64 n, .int .u32 (c1 : Int), .int .u32 (s1 : Int), .int .u16 (n1 : Int), .string gg, .string mm, .slice A K cc] 40)).alloc (.cells #[.int .u64 0, .int .u64 0, .slice none 0 0, .int .i64 0] 49)).alloc (.cells #[.int .u64 (sv : Int), .int .u64 (sl : Int), .slice L N cl, .int .i64 su] 49) = w4 at *
  obtain ⟨z, hzz⟩ : ∃ z, w.heap.size = z := ⟨_, rfl⟩
  have hwz : w.heap.size ≤ z := by omega
  rw [hzz] at hs4 hr4 hz4 ho4 ⊢
  obtain ⟨y, hyy⟩ : ∃ y, z + 1 = y := ⟨_, rfl⟩
  have hzy : z < y := by omega
  obtain ⟨q, hqq⟩ : ∃ q, z + 2 = q := ⟨_, rfl⟩
  have hyq : y < q := by omega
  obtain ⟨r, hrr⟩ : ∃ r, z + 3 = r := ⟨_, rfl⟩
  have hqr : q < r := by omega
  rw [show z + 1 + 1 = q from hqq] at hz4
  rw [show z + 1 + 1 + 1 = r from hrr] at ho4 ⊢
  rw [show z + 1 + 1 = q from hqq]
  rw [hyy] at hr4 ⊢
  replace hzz := Lib.hid hzz
  replace hyy := Lib.hid hyy
  replace hqq := Lib.hid hqq
  replace hrr := Lib.hid hrr
  have hwq : w.heap.size ≤ q := by omega
  have hwr : w.heap.size ≤ r := by omega
  have hrc := hr4.rec9
  have hsc := hs4.st4
  by_cases hk1 : k = 1
  · subst hk1
    rcases Nat.lt_trichotomy v sv with hvs | hvs | hvs
    all_goals by_cases hn1 : n = 1
    · skip
      have e1 : decide ((sv : Int) < (v : Int)) = false := decide_eq_false (by omega)
      have e1' : decide (sv < v) = false := decide_eq_false (by omega)
      have e2 : ((v : Int) == (sv : Int)) = false := by rw [beq_eq_false_iff_ne]; omega
      have e2' : (v == sv) = false := by rw [beq_eq_false_iff_ne]; omega
      have e3 : decide ((v : Int) < (sv : Int)) = true := decide_eq_true (by omega)
      have e3' : decide (v < sv) = true := decide_eq_true (by omega)
      have en : (n == 1) = true := by rw [beq_iff_eq]; exact hn1
      have en' : (n != 1) = false := by simp [hn1]
      have hOe : O = false := by rw [← hO.out]; unfold stepOk; rw [if_pos rfl]; dsimp only; exact decide_eq_false (by omega)
      have hDe : D = ⟨sv, sl, log, su⟩ := by rw [← hD.out]; unfold stepD; rw [hO.out, hOe]; rw [if_neg (by decide)]
      subst hOe hDe
      clear hO hD
      replace hn1 := Lib.hid hn1
      replace hvs := Lib.hid hvs
      have hs_0 := hs4.far (p := ⟨r, 0, none⟩) (show z ≠ r by omega) (.int .u64 (v : Int))
      have hr_0 := hr4.far (p := ⟨r, 0, none⟩) (show y ≠ r by omega) (.int .u64 (v : Int))
      have hz_0 := hz4.far (p := ⟨r, 0, none⟩) (show q ≠ r by omega) (.int .u64 (v : Int))
      have hf0 := ho4.frozen 0
      have hc0 := ho4.st4
      have ho_0 : Blk ((w4).setCell ⟨r, 0, none⟩ (.int .u64 (v : Int))) r 49 #[.int .u64 (v : Int), .int .u64 (sl : Int), .slice L N cl, .int .i64 su] := ho4.set_ 0 (.int .u64 (v : Int))
      have hb_0 := hb4.setCell (p := ⟨r, 0, none⟩) hwr (.int .u64 (v : Int))
      have hrc0 := hr_0.rec9
      have hsc0 := hs_0.st4
      have hs_1 := hs_0.far (p := ⟨r, 1, none⟩) (show z ≠ r by omega) (.int .u64 (v : Int))
      have hr_1 := hr_0.far (p := ⟨r, 1, none⟩) (show y ≠ r by omega) (.int .u64 (v : Int))
      have hz_1 := hz_0.far (p := ⟨r, 1, none⟩) (show q ≠ r by omega) (.int .u64 (v : Int))
      have hf1 := ho_0.frozen 1
      have hc1 := ho_0.st4
      have ho_1 : Blk (((w4).setCell ⟨r, 0, none⟩ (.int .u64 (v : Int))).setCell ⟨r, 1, none⟩ (.int .u64 (v : Int))) r 49 #[.int .u64 (v : Int), .int .u64 (v : Int), .slice L N cl, .int .i64 su] := ho_0.set_ 1 (.int .u64 (v : Int))
      have hb_1 := hb_0.setCell (p := ⟨r, 1, none⟩) hwr (.int .u64 (v : Int))
      have hrc1 := hr_1.rec9
      have hsc1 := hs_1.st4
      have hcL := ho_1.st4
      go_upto_region 19 with (fail)
      generalize ((w4).setCell ⟨r, 0, none⟩ (.int .u64 (v : Int))).setCell ⟨r, 1, none⟩ (.int .u64 (v : Int)) = w5 at *
      have hsc5 := hs_1.st4
      have hzr := hz_1.row #[.int .u64 (sv : Int), .int .u64 (sl : Int), .slice L N cl, .int .i64 su]
      have hbr := below_row hb_1 (g := q) hwq #[.int .u64 (sv : Int), .int .u64 (sl : Int), .slice L N cl, .int .i64 su]
      go_wp2_with (refine store_row_gen rfl 49 (Operand.tmp 4) _ rfl q #[.int .u64 (sv : Int), .int .u64 (sl : Int), .slice L N cl, .int .i64 su] (by simp [go_sem]) (by simp [go_sem]) 49 _ hz_1 (by kernel_rfl) rfl (by simp [Value.oneCell']) (fun w9 hw9 => ?_); rw [← hw9] at hzr hbr; clear hw9)
      refine bodyPost_ret (v := .tuple #[.agg #[.int .u64 (sv : Int), .int .u64 (sl : Int), .slice L N cl, .int .i64 su], .bool false]) (by exact results_ct rfl _ _ q 49 _ (0, 0) _ _ rfl rfl hzr Try.underlying49 rfl (by kernel_rfl)) rfl ?_
      refine ⟨L, cl, xs, css, ?_, hbr, fun _ _ _ _ h => h⟩
      dsimp only
      rw [hN.out]
    · skip
      have e1 : decide ((sv : Int) < (v : Int)) = false := decide_eq_false (by omega)
      have e1' : decide (sv < v) = false := decide_eq_false (by omega)
      have e2 : ((v : Int) == (sv : Int)) = false := by rw [beq_eq_false_iff_ne]; omega
      have e2' : (v == sv) = false := by rw [beq_eq_false_iff_ne]; omega
      have e3 : decide ((v : Int) < (sv : Int)) = true := decide_eq_true (by omega)
      have e3' : decide (v < sv) = true := decide_eq_true (by omega)
      have en : (n == 1) = false := by rw [beq_eq_false_iff_ne]; exact hn1
      have en' : (n != 1) = true := by simp [hn1]
      have hOe : O = false := by rw [← hO.out]; unfold stepOk; rw [if_pos rfl]; dsimp only; exact decide_eq_false (by omega)
      have hDe : D = ⟨sv, sl, log, su⟩ := by rw [← hD.out]; unfold stepD; rw [hO.out, hOe]; rw [if_neg (by decide)]
      subst hOe hDe
      clear hO hD
      replace hn1 := Lib.hid hn1
      replace hvs := Lib.hid hvs
      have hs_0 := hs4.far (p := ⟨r, 0, none⟩) (show z ≠ r by omega) (.int .u64 (v : Int))
      have hr_0 := hr4.far (p := ⟨r, 0, none⟩) (show y ≠ r by omega) (.int .u64 (v : Int))
      have hz_0 := hz4.far (p := ⟨r, 0, none⟩) (show q ≠ r by omega) (.int .u64 (v : Int))
      have hf0 := ho4.frozen 0
      have hc0 := ho4.st4
      have ho_0 : Blk ((w4).setCell ⟨r, 0, none⟩ (.int .u64 (v : Int))) r 49 #[.int .u64 (v : Int), .int .u64 (sl : Int), .slice L N cl, .int .i64 su] := ho4.set_ 0 (.int .u64 (v : Int))
      have hb_0 := hb4.setCell (p := ⟨r, 0, none⟩) hwr (.int .u64 (v : Int))
      have hrc0 := hr_0.rec9
      have hsc0 := hs_0.st4
      have hcL := ho_0.st4
      go_upto_region 19 with (fail)
      generalize (w4).setCell ⟨r, 0, none⟩ (.int .u64 (v : Int)) = w5 at *
      have hsc5 := hs_0.st4
      have hzr := hz_0.row #[.int .u64 (sv : Int), .int .u64 (sl : Int), .slice L N cl, .int .i64 su]
      have hbr := below_row hb_0 (g := q) hwq #[.int .u64 (sv : Int), .int .u64 (sl : Int), .slice L N cl, .int .i64 su]
      go_wp2_with (refine store_row_gen rfl 49 (Operand.tmp 4) _ rfl q #[.int .u64 (sv : Int), .int .u64 (sl : Int), .slice L N cl, .int .i64 su] (by simp [go_sem]) (by simp [go_sem]) 49 _ hz_0 (by kernel_rfl) rfl (by simp [Value.oneCell']) (fun w9 hw9 => ?_); rw [← hw9] at hzr hbr; clear hw9)
      refine bodyPost_ret (v := .tuple #[.agg #[.int .u64 (sv : Int), .int .u64 (sl : Int), .slice L N cl, .int .i64 su], .bool false]) (by exact results_ct rfl _ _ q 49 _ (0, 0) _ _ rfl rfl hzr Try.underlying49 rfl (by kernel_rfl)) rfl ?_
      refine ⟨L, cl, xs, css, ?_, hbr, fun _ _ _ _ h => h⟩
      dsimp only
      rw [hN.out]
    · skip
      have e1 : decide ((sv : Int) < (v : Int)) = false := decide_eq_false (by omega)
      have e1' : decide (sv < v) = false := decide_eq_false (by omega)
      have e2 : ((v : Int) == (sv : Int)) = true := by rw [beq_iff_eq]; omega
      have e2' : (v == sv) = true := by rw [beq_iff_eq]; omega
      have e3 : decide ((v : Int) < (sv : Int)) = false := decide_eq_false (by omega)
      have e3' : decide (v < sv) = false := decide_eq_false (by omega)
      have en : (n == 1) = true := by rw [beq_iff_eq]; exact hn1
      have en' : (n != 1) = false := by simp [hn1]
      have hOe : O = true := by rw [← hO.out]; unfold stepOk; rw [if_pos rfl]; dsimp only; exact decide_eq_true (by omega)
      have hDe : D = ⟨v, v, log, su⟩ := by rw [← hD.out]; unfold stepD; rw [hO.out, hOe]; rw [if_pos rfl, if_pos rfl, if_pos hn1]
      subst hOe hDe
      clear hO hD
      replace hn1 := Lib.hid hn1
      replace hvs := Lib.hid hvs
      have hs_0 := hs4.far (p := ⟨r, 0, none⟩) (show z ≠ r by omega) (.int .u64 (v : Int))
      have hr_0 := hr4.far (p := ⟨r, 0, none⟩) (show y ≠ r by omega) (.int .u64 (v : Int))
      have hz_0 := hz4.far (p := ⟨r, 0, none⟩) (show q ≠ r by omega) (.int .u64 (v : Int))
      have hf0 := ho4.frozen 0
      have hc0 := ho4.st4
      have ho_0 : Blk ((w4).setCell ⟨r, 0, none⟩ (.int .u64 (v : Int))) r 49 #[.int .u64 (v : Int), .int .u64 (sl : Int), .slice L N cl, .int .i64 su] := ho4.set_ 0 (.int .u64 (v : Int))
      have hb_0 := hb4.setCell (p := ⟨r, 0, none⟩) hwr (.int .u64 (v : Int))
      have hrc0 := hr_0.rec9
      have hsc0 := hs_0.st4
      have hs_1 := hs_0.far (p := ⟨r, 1, none⟩) (show z ≠ r by omega) (.int .u64 (v : Int))
      have hr_1 := hr_0.far (p := ⟨r, 1, none⟩) (show y ≠ r by omega) (.int .u64 (v : Int))
      have hz_1 := hz_0.far (p := ⟨r, 1, none⟩) (show q ≠ r by omega) (.int .u64 (v : Int))
      have hf1 := ho_0.frozen 1
      have hc1 := ho_0.st4
      have ho_1 : Blk (((w4).setCell ⟨r, 0, none⟩ (.int .u64 (v : Int))).setCell ⟨r, 1, none⟩ (.int .u64 (v : Int))) r 49 #[.int .u64 (v : Int), .int .u64 (v : Int), .slice L N cl, .int .i64 su] := ho_0.set_ 1 (.int .u64 (v : Int))
      have hb_1 := hb_0.setCell (p := ⟨r, 1, none⟩) hwr (.int .u64 (v : Int))
      have hrc1 := hr_1.rec9
      have hsc1 := hs_1.st4
      have hcL := ho_1.st4
      go_upto_region 19 with (fail)
      generalize ((w4).setCell ⟨r, 0, none⟩ (.int .u64 (v : Int))).setCell ⟨r, 1, none⟩ (.int .u64 (v : Int)) = w5 at *
      have hsc5 := hs_1.st4
      have hzr := hz_1.row #[.int .u64 (v : Int), .int .u64 (v : Int), .slice L N cl, .int .i64 su]
      have hbr := below_row hb_1 (g := q) hwq #[.int .u64 (v : Int), .int .u64 (v : Int), .slice L N cl, .int .i64 su]
      go_wp2_with (refine store_row_gen rfl 49 (Operand.tmp 4) _ rfl q #[.int .u64 (v : Int), .int .u64 (v : Int), .slice L N cl, .int .i64 su] (by simp [go_sem]) (by simp [go_sem]) 49 _ hz_1 (by kernel_rfl) rfl (by simp [Value.oneCell']) (fun w9 hw9 => ?_); rw [← hw9] at hzr hbr; clear hw9)
      refine bodyPost_ret (v := .tuple #[.agg #[.int .u64 (v : Int), .int .u64 (v : Int), .slice L N cl, .int .i64 su], .bool true]) (by exact results_ct rfl _ _ q 49 _ (0, 0) _ _ rfl rfl hzr Try.underlying49 rfl (by kernel_rfl)) rfl ?_
      refine ⟨L, cl, xs, css, ?_, hbr, fun _ _ _ _ h => h⟩
      dsimp only
      rw [hN.out]
    · skip
      have e1 : decide ((sv : Int) < (v : Int)) = false := decide_eq_false (by omega)
      have e1' : decide (sv < v) = false := decide_eq_false (by omega)
      have e2 : ((v : Int) == (sv : Int)) = true := by rw [beq_iff_eq]; omega
      have e2' : (v == sv) = true := by rw [beq_iff_eq]; omega
      have e3 : decide ((v : Int) < (sv : Int)) = false := decide_eq_false (by omega)
      have e3' : decide (v < sv) = false := decide_eq_false (by omega)
      have en : (n == 1) = false := by rw [beq_eq_false_iff_ne]; exact hn1
      have en' : (n != 1) = true := by simp [hn1]
      have hOe : O = false := by rw [← hO.out]; unfold stepOk; rw [if_pos rfl]; dsimp only; exact decide_eq_false (by omega)
      have hDe : D = ⟨sv, sl, log, su⟩ := by rw [← hD.out]; unfold stepD; rw [hO.out, hOe]; rw [if_neg (by decide)]
      subst hOe hDe
      clear hO hD
      replace hn1 := Lib.hid hn1
      replace hvs := Lib.hid hvs
      have hs_0 := hs4.far (p := ⟨r, 0, none⟩) (show z ≠ r by omega) (.int .u64 (v : Int))
      have hr_0 := hr4.far (p := ⟨r, 0, none⟩) (show y ≠ r by omega) (.int .u64 (v : Int))
      have hz_0 := hz4.far (p := ⟨r, 0, none⟩) (show q ≠ r by omega) (.int .u64 (v : Int))
      have hf0 := ho4.frozen 0
      have hc0 := ho4.st4
      have ho_0 : Blk ((w4).setCell ⟨r, 0, none⟩ (.int .u64 (v : Int))) r 49 #[.int .u64 (v : Int), .int .u64 (sl : Int), .slice L N cl, .int .i64 su] := ho4.set_ 0 (.int .u64 (v : Int))
      have hb_0 := hb4.setCell (p := ⟨r, 0, none⟩) hwr (.int .u64 (v : Int))
      have hrc0 := hr_0.rec9
      have hsc0 := hs_0.st4
      have hcL := ho_0.st4
      go_upto_region 19 with (fail)
      generalize (w4).setCell ⟨r, 0, none⟩ (.int .u64 (v : Int)) = w5 at *
      have hsc5 := hs_0.st4
      have hzr := hz_0.row #[.int .u64 (sv : Int), .int .u64 (sl : Int), .slice L N cl, .int .i64 su]
      have hbr := below_row hb_0 (g := q) hwq #[.int .u64 (sv : Int), .int .u64 (sl : Int), .slice L N cl, .int .i64 su]
      go_wp2_with (refine store_row_gen rfl 49 (Operand.tmp 4) _ rfl q #[.int .u64 (sv : Int), .int .u64 (sl : Int), .slice L N cl, .int .i64 su] (by simp [go_sem]) (by simp [go_sem]) 49 _ hz_0 (by kernel_rfl) rfl (by simp [Value.oneCell']) (fun w9 hw9 => ?_); rw [← hw9] at hzr hbr; clear hw9)
      refine bodyPost_ret (v := .tuple #[.agg #[.int .u64 (sv : Int), .int .u64 (sl : Int), .slice L N cl, .int .i64 su], .bool false]) (by exact results_ct rfl _ _ q 49 _ (0, 0) _ _ rfl rfl hzr Try.underlying49 rfl (by kernel_rfl)) rfl ?_
      refine ⟨L, cl, xs, css, ?_, hbr, fun _ _ _ _ h => h⟩
      dsimp only
      rw [hN.out]
    · skip
      have e1 : decide ((sv : Int) < (v : Int)) = true := decide_eq_true (by omega)
      have e1' : decide (sv < v) = true := decide_eq_true (by omega)
      have e2 : ((v : Int) == (sv : Int)) = false := by rw [beq_eq_false_iff_ne]; omega
      have e2' : (v == sv) = false := by rw [beq_eq_false_iff_ne]; omega
      have e3 : decide ((v : Int) < (sv : Int)) = false := decide_eq_false (by omega)
      have e3' : decide (v < sv) = false := decide_eq_false (by omega)
      have en : (n == 1) = true := by rw [beq_iff_eq]; exact hn1
      have en' : (n != 1) = false := by simp [hn1]
      have hOe : O = true := by rw [← hO.out]; unfold stepOk; rw [if_pos rfl]; dsimp only; exact decide_eq_true (by omega)
      have hDe : D = ⟨v, v, log, su⟩ := by rw [← hD.out]; unfold stepD; rw [hO.out, hOe]; rw [if_pos rfl, if_pos rfl, if_pos hn1]
      subst hOe hDe
      clear hO hD
      replace hn1 := Lib.hid hn1
      replace hvs := Lib.hid hvs
      have hs_0 := hs4.far (p := ⟨r, 0, none⟩) (show z ≠ r by omega) (.int .u64 (v : Int))
      have hr_0 := hr4.far (p := ⟨r, 0, none⟩) (show y ≠ r by omega) (.int .u64 (v : Int))
      have hz_0 := hz4.far (p := ⟨r, 0, none⟩) (show q ≠ r by omega) (.int .u64 (v : Int))
      have hf0 := ho4.frozen 0
      have hc0 := ho4.st4
      have ho_0 : Blk ((w4).setCell ⟨r, 0, none⟩ (.int .u64 (v : Int))) r 49 #[.int .u64 (v : Int), .int .u64 (sl : Int), .slice L N cl, .int .i64 su] := ho4.set_ 0 (.int .u64 (v : Int))
      have hb_0 := hb4.setCell (p := ⟨r, 0, none⟩) hwr (.int .u64 (v : Int))
      have hrc0 := hr_0.rec9
      have hsc0 := hs_0.st4
      have hs_1 := hs_0.far (p := ⟨r, 1, none⟩) (show z ≠ r by omega) (.int .u64 (v : Int))
      have hr_1 := hr_0.far (p := ⟨r, 1, none⟩) (show y ≠ r by omega) (.int .u64 (v : Int))
      have hz_1 := hz_0.far (p := ⟨r, 1, none⟩) (show q ≠ r by omega) (.int .u64 (v : Int))
      have hf1 := ho_0.frozen 1
      have hc1 := ho_0.st4
      have ho_1 : Blk (((w4).setCell ⟨r, 0, none⟩ (.int .u64 (v : Int))).setCell ⟨r, 1, none⟩ (.int .u64 (v : Int))) r 49 #[.int .u64 (v : Int), .int .u64 (v : Int), .slice L N cl, .int .i64 su] := ho_0.set_ 1 (.int .u64 (v : Int))
      have hb_1 := hb_0.setCell (p := ⟨r, 1, none⟩) hwr (.int .u64 (v : Int))
      have hrc1 := hr_1.rec9
      have hsc1 := hs_1.st4
      have hcL := ho_1.st4
      go_upto_region 19 with (fail)
      generalize ((w4).setCell ⟨r, 0, none⟩ (.int .u64 (v : Int))).setCell ⟨r, 1, none⟩ (.int .u64 (v : Int)) = w5 at *
      have hsc5 := hs_1.st4
      have hzr := hz_1.row #[.int .u64 (v : Int), .int .u64 (v : Int), .slice L N cl, .int .i64 su]
      have hbr := below_row hb_1 (g := q) hwq #[.int .u64 (v : Int), .int .u64 (v : Int), .slice L N cl, .int .i64 su]
      go_wp2_with (refine store_row_gen rfl 49 (Operand.tmp 4) _ rfl q #[.int .u64 (v : Int), .int .u64 (v : Int), .slice L N cl, .int .i64 su] (by simp [go_sem]) (by simp [go_sem]) 49 _ hz_1 (by kernel_rfl) rfl (by simp [Value.oneCell']) (fun w9 hw9 => ?_); rw [← hw9] at hzr hbr; clear hw9)
      refine bodyPost_ret (v := .tuple #[.agg #[.int .u64 (v : Int), .int .u64 (v : Int), .slice L N cl, .int .i64 su], .bool true]) (by exact results_ct rfl _ _ q 49 _ (0, 0) _ _ rfl rfl hzr Try.underlying49 rfl (by kernel_rfl)) rfl ?_
      refine ⟨L, cl, xs, css, ?_, hbr, fun _ _ _ _ h => h⟩
      dsimp only
      rw [hN.out]
    · skip
      have e1 : decide ((sv : Int) < (v : Int)) = true := decide_eq_true (by omega)
      have e1' : decide (sv < v) = true := decide_eq_true (by omega)
      have e2 : ((v : Int) == (sv : Int)) = false := by rw [beq_eq_false_iff_ne]; omega
      have e2' : (v == sv) = false := by rw [beq_eq_false_iff_ne]; omega
      have e3 : decide ((v : Int) < (sv : Int)) = false := decide_eq_false (by omega)
      have e3' : decide (v < sv) = false := decide_eq_false (by omega)
      have en : (n == 1) = false := by rw [beq_eq_false_iff_ne]; exact hn1
      have en' : (n != 1) = true := by simp [hn1]
      have hOe : O = true := by rw [← hO.out]; unfold stepOk; rw [if_pos rfl]; dsimp only; exact decide_eq_true (by omega)
      have hDe : D = ⟨v, sl, log, su⟩ := by rw [← hD.out]; unfold stepD; rw [hO.out, hOe]; rw [if_pos rfl, if_pos rfl, if_neg hn1]
      subst hOe hDe
      clear hO hD
      replace hn1 := Lib.hid hn1
      replace hvs := Lib.hid hvs
      have hs_0 := hs4.far (p := ⟨r, 0, none⟩) (show z ≠ r by omega) (.int .u64 (v : Int))
      have hr_0 := hr4.far (p := ⟨r, 0, none⟩) (show y ≠ r by omega) (.int .u64 (v : Int))
      have hz_0 := hz4.far (p := ⟨r, 0, none⟩) (show q ≠ r by omega) (.int .u64 (v : Int))
      have hf0 := ho4.frozen 0
      have hc0 := ho4.st4
      have ho_0 : Blk ((w4).setCell ⟨r, 0, none⟩ (.int .u64 (v : Int))) r 49 #[.int .u64 (v : Int), .int .u64 (sl : Int), .slice L N cl, .int .i64 su] := ho4.set_ 0 (.int .u64 (v : Int))
      have hb_0 := hb4.setCell (p := ⟨r, 0, none⟩) hwr (.int .u64 (v : Int))
      have hrc0 := hr_0.rec9
      have hsc0 := hs_0.st4
      have hcL := ho_0.st4
      go_upto_region 19 with (fail)
      generalize (w4).setCell ⟨r, 0, none⟩ (.int .u64 (v : Int)) = w5 at *
      have hsc5 := hs_0.st4
      have hzr := hz_0.row #[.int .u64 (v : Int), .int .u64 (sl : Int), .slice L N cl, .int .i64 su]
      have hbr := below_row hb_0 (g := q) hwq #[.int .u64 (v : Int), .int .u64 (sl : Int), .slice L N cl, .int .i64 su]
      go_wp2_with (refine store_row_gen rfl 49 (Operand.tmp 4) _ rfl q #[.int .u64 (v : Int), .int .u64 (sl : Int), .slice L N cl, .int .i64 su] (by simp [go_sem]) (by simp [go_sem]) 49 _ hz_0 (by kernel_rfl) rfl (by simp [Value.oneCell']) (fun w9 hw9 => ?_); rw [← hw9] at hzr hbr; clear hw9)
      refine bodyPost_ret (v := .tuple #[.agg #[.int .u64 (v : Int), .int .u64 (sl : Int), .slice L N cl, .int .i64 su], .bool true]) (by exact results_ct rfl _ _ q 49 _ (0, 0) _ _ rfl rfl hzr Try.underlying49 rfl (by kernel_rfl)) rfl ?_
      refine ⟨L, cl, xs, css, ?_, hbr, fun _ _ _ _ h => h⟩
      dsimp only
      rw [hN.out]
  by_cases hk2 : k = 2
  · subst hk2
    obtain ⟨pl, hpl⟩ : ∃ pl, lastV log = pl := ⟨_, rfl⟩
    have hS0 : Below w4.heap.size w4 w4.drew := (Below.refl _ _).drew
    have hlast : ∀ W, Below w.heap.size w W → Calls Try.prog 37 #[.slice L N cl] W (fun e w' => e = .returned (.int .u64 (pl : Int)) ∧ w' = W) := fun W hW => by
      have h := last_log (hlog0.out.below (hW.mono hB)) (by rw [hN.out]; omega)
      rw [hN.out, hpl] at h
      exact h
    replace hlast := Lib.hid hlast
    replace hpl := Lib.hid hpl
    by_cases hv0 : v = 0
    · skip
      have e1 : decide ((0 : Int) < (v : Int)) = false := decide_eq_false (by omega)
      have e1' : decide (0 < v) = false := decide_eq_false (by omega)
      have e2 : ((v : Int) == 0) = true := by rw [beq_iff_eq]; omega
      have e2' : (v == 0) = true := by rw [beq_iff_eq]; omega
      have hOe : O = false := by rw [← hO.out]; unfold stepOk; rw [if_neg (show ¬ ((2 : Int) = 1) by decide), if_pos rfl]; dsimp only; rw [hpl.out, hN.out]; exact decide_eq_false (by omega)
      have hDe : D = ⟨sv, sl, log, su⟩ := by rw [← hD.out]; unfold stepD; rw [hO.out, hOe]; rw [if_neg (by decide)]
      subst hOe hDe
      clear hO hD
      replace hv0 := Lib.hid hv0
      go_wp2_with fail
      refine wp_region_lex (fun W => Below w4.heap.size w4 W) [1, 5, 7, 13] [8] [0, 1, 2, 3, 4, 5, 6, 7, 8, 9, 10, 11, 12, 13, 14, 15, 16, 17] (by kernel_rfl) rfl (by kernel_rfl) (by kernel_rfl) (fun _ _ d _ _ h => by cases d <;> exact h) ?_
      repeat (first | (refine lexG_take _ ?_ rfl rfl rfl rfl (fun _ => ?_) ?_; rotate_left; (focus (go_simp; with_reducible rfl)); try simp only [Act.put, List.setIfInBounds_toArray, List.set_cons_zero, List.set_cons_succ]) | (refine lexG_held _ ?_ rfl rfl rfl rfl (by assumption) (fun _ hSw => ?_) ?_; rotate_left; (focus (have h1 := (hr4.below hSw hr4.lt).rec9; have h2 := (hs4.below hSw hs4.lt).st4; clear hSw; go_simp; with_reducible rfl)); try simp only [Act.put, List.setIfInBounds_toArray, List.set_cons_zero, List.set_cons_succ]) | (refine lexG_skip _ rfl rfl (by assumption) ?_; try simp only [Act.put, List.setIfInBounds_toArray, List.set_cons_zero, List.set_cons_succ]))
      refine lexG_nil ?_
      clear hS0
      generalize hwd : w4.drew = wd at *
      have hs5 : Blk wd z 49 #[.int .u64 (sv : Int), .int .u64 (sl : Int), .slice L N cl, .int .i64 su] := by rw [← hwd]; exact hs4.drew
      have hr5 : Blk wd y 40 #[.int .i64 2, .int .u64 (v : Int), .int .i64 n, .int .u32 (c1 : Int), .int .u32 (s1 : Int), .int .u16 (n1 : Int), .string gg, .string mm, .slice A K cc] := by rw [← hwd]; exact hr4.drew
      have hz5 : Blk wd q 49 #[.int .u64 0, .int .u64 0, .slice none 0 0, .int .i64 0] := by rw [← hwd]; exact hz4.drew
      have ho5 : Blk wd r 49 #[.int .u64 (sv : Int), .int .u64 (sl : Int), .slice L N cl, .int .i64 su] := by rw [← hwd]; exact ho4.drew
      have hb5 : Below w.heap.size w wd := by rw [← hwd]; exact hb4.drew
      clear hwd hs4 hr4 hz4 ho4 hb4 hrc hsc
      have hrl := ho5.lt
      have hS0 : Below wd.heap.size wd wd.drew := (Below.refl _ _).drew
      go_wp2_with fail
      refine wp_region_lex (fun W => Below wd.heap.size wd W) [1, 4, 6] [2, 7, 9, 10, 12] [0, 1, 3, 4, 5, 6, 2, 7, 8, 9, 10, 11, 12] (by kernel_rfl) rfl (by kernel_rfl) (by kernel_rfl) (fun _ _ d _ _ h => by cases d <;> exact h) ?_
      repeat (first | (refine lexG_take _ ?_ rfl rfl rfl rfl (fun _ => ?_) ?_; rotate_left; (focus (go_simp; with_reducible rfl)); try simp only [Act.put, List.setIfInBounds_toArray, List.set_cons_zero, List.set_cons_succ]) | (refine lexG_held _ ?_ rfl rfl rfl rfl (by assumption) (fun _ hSw => ?_) ?_; rotate_left; (focus (have h1 := (hr5.below hSw hr5.lt).rec9; have h2 := (hs5.below hSw hs5.lt).st4; clear hSw; go_simp; with_reducible rfl)); try simp only [Act.put, List.setIfInBounds_toArray, List.set_cons_zero, List.set_cons_succ]) | (refine lexG_skip _ rfl rfl (by assumption) ?_; try simp only [Act.put, List.setIfInBounds_toArray, List.set_cons_zero, List.set_cons_succ]))
      refine lexG_now _ rfl rfl rfl (fun K0 hK => ?_)
      go_wp2_with fail
      refine (clip_log hcl hLn.out).mono ?_
      rintro e w5 ⟨rfl, rfl⟩
      dsimp only
      refine hK _ _ _ (fun _ h => h) hS0 ?_
      clear hK K0
      try simp only [Act.put, List.setIfInBounds_toArray, List.set_cons_zero, List.set_cons_succ]
      repeat (first | (refine lexG_take _ ?_ rfl rfl rfl rfl (fun _ => ?_) ?_; rotate_left; (focus (go_simp; with_reducible rfl)); try simp only [Act.put, List.setIfInBounds_toArray, List.set_cons_zero, List.set_cons_succ]) | (refine lexG_held _ ?_ rfl rfl rfl rfl (by assumption) (fun _ hSw => ?_) ?_; rotate_left; (focus (have h1 := (hr5.below hSw hr5.lt).rec9; have h2 := (hs5.below hSw hs5.lt).st4; clear hSw; go_simp; with_reducible rfl)); try simp only [Act.put, List.setIfInBounds_toArray, List.set_cons_zero, List.set_cons_succ]) | (refine lexG_skip _ rfl rfl (by assumption) ?_; try simp only [Act.put, List.setIfInBounds_toArray, List.set_cons_zero, List.set_cons_succ]))
      refine lexG_now _ rfl rfl rfl (fun K0 hK => ?_)
      have hp := clean_progV (hbs.out wd.drew (below_then hS0 hb5)) (Nat.le_trans hB (below_then hS0 hb5).size)
      go_wp2_with fail
      refine hp.mono ?_
      clear hp
      rintro e w6 ⟨A6, c6, xs6, css6, rfl, R6, hb6⟩
      dsimp only
      have hS6 := below_then hb6 hS0
      refine hK _ _ _ (fun _ h => h) hS6 ?_
      clear hK K0
      try simp only [Act.put, List.setIfInBounds_toArray, List.set_cons_zero, List.set_cons_succ]
      repeat (first | (refine lexG_take _ ?_ rfl rfl rfl rfl (fun _ => ?_) ?_; rotate_left; (focus (go_simp; with_reducible rfl)); try simp only [Act.put, List.setIfInBounds_toArray, List.set_cons_zero, List.set_cons_succ]) | (refine lexG_held _ ?_ rfl rfl rfl rfl (by assumption) (fun _ hSw => ?_) ?_; rotate_left; (focus (have h1 := (hr5.below hSw hr5.lt).rec9; have h2 := (hs5.below hSw hs5.lt).st4; clear hSw; go_simp; with_reducible rfl)); try simp only [Act.put, List.setIfInBounds_toArray, List.set_cons_zero, List.set_cons_succ]) | (refine lexG_skip _ rfl rfl (by assumption) ?_; try simp only [Act.put, List.setIfInBounds_toArray, List.set_cons_zero, List.set_cons_succ]))
      have hS7 := hS6.alloc hS6.size (.cells #[.int .u64 (v : Int), .int .u32 (c1 : Int), .int .u32 (s1 : Int), .int .u16 (n1 : Int), .string gg, .string mm, .slice A6 K c6] 42)
      have hsrc := Reads.lit (size := 7) w6 #[.int .u64 (v : Int), .int .u32 (c1 : Int), .int .u32 (s1 : Int), .int .u16 (n1 : Int), .string gg, .string mm, .slice A6 K c6] 42 (0, 0) 1 [.int .u64 (v : Int), .int .u32 (c1 : Int), .int .u32 (s1 : Int), .int .u16 (n1 : Int), .string gg, .string mm, .slice A6 K c6] rfl rfl
      have R7 := R6.upd ((Upd.refl (fun x => x = r ∨ x = q) w6).alloc (.cells #[.int .u64 (v : Int), .int .u32 (c1 : Int), .int .u32 (s1 : Int), .int .u16 (n1 : Int), .string gg, .string mm, .slice A6 K c6] 42)) (fun g hg e => by have hg' : wd.heap.size ≤ g := hg; omega)
      refine lexG_now _ rfl rfl rfl (fun K0 hK => ?_)
      go_wp2_with fail
      generalize hw7 : w6.alloc (.cells #[.int .u64 (v : Int), .int .u32 (c1 : Int), .int .u32 (s1 : Int), .int .u16 (n1 : Int), .string gg, .string mm, .slice A6 K c6] 42) = w7 at *
      have hw7s : w7.heap.size = w6.heap.size + 1 := by rw [← hw7]; simp
      refine hK _ _ _ (fun _ h => h) hS7 ?_
      clear hK K0
      try simp only [Act.put, List.setIfInBounds_toArray, List.set_cons_zero, List.set_cons_succ]
      repeat (first | (refine lexG_take _ ?_ rfl rfl rfl rfl (fun _ => ?_) ?_; rotate_left; (focus (go_simp; with_reducible rfl)); try simp only [Act.put, List.setIfInBounds_toArray, List.set_cons_zero, List.set_cons_succ]) | (refine lexG_held _ ?_ rfl rfl rfl rfl (by assumption) (fun _ hSw => ?_) ?_; rotate_left; (focus (have h1 := (hr5.below hSw hr5.lt).rec9; have h2 := (hs5.below hSw hs5.lt).st4; clear hSw; go_simp; with_reducible rfl)); try simp only [Act.put, List.setIfInBounds_toArray, List.set_cons_zero, List.set_cons_succ]) | (refine lexG_skip _ rfl rfl (by assumption) ?_; try simp only [Act.put, List.setIfInBounds_toArray, List.set_cons_zero, List.set_cons_succ]))
      have hlw := (hlog0.out.below ((below_then hS7 hb5).mono hB)).r
      rw [hN.out] at hlw
      obtain ⟨i0, hi, hz0, hz1, hz2⟩ := info_parts info_ent
      refine lexG_now _ rfl rfl rfl (fun K0 hK => ?_)
      refine wp_append_grows _ _ 27 27 rfl 42 i0 _ 7 80 Try.underlying27 hi hz0 hz1 hz2 rfl rfl (Grows.full hlw (Nat.le_trans hB (below_then hS7 hb5).size) (Nat.le_refl _)) rfl (Src.ofReads Try.underlying27 _ hsrc (by intro u hu; simp at hu; rcases hu with rfl | rfl | rfl | rfl | rfl | rfl | rfl <;> rfl)) (by decide) (by unfold maxLen; omega) (by omega) (fun A8 c8 w8 ho8 hg8 hat8 => ?_)
      have hb78 : Below w7.heap.size w7 w8 := (Below.refl _ _).grown hg8 (Nat.le_refl _) (fun k hk => by cases hk)
      have hS8 := below_then hb78 hS7
      have hb8 := below_then hS8 hb5
      have hs67 := hb6.size
      have hsd := hS0.size
      have hA8 : bOf A8 = some w7.heap.size := by
        rcases hat8 with h | h
        · exfalso
          rcases ho8.2 with ⟨_, h0, _⟩ | ⟨g, cur, hA, _⟩
          · omega
          · rw [hA] at h; cases h
        · exact h
      refine hK _ _ _ (fun _ h => h) hS8 ?_
      clear hK K0
      try simp only [Act.put, List.setIfInBounds_toArray, List.set_cons_zero, List.set_cons_succ]
      repeat (first | (refine lexG_take _ ?_ rfl rfl rfl rfl (fun _ => ?_) ?_; rotate_left; (focus (go_simp; with_reducible rfl)); try simp only [Act.put, List.setIfInBounds_toArray, List.set_cons_zero, List.set_cons_succ]) | (refine lexG_held _ ?_ rfl rfl rfl rfl (by assumption) (fun _ hSw => ?_) ?_; rotate_left; (focus (have h1 := (hr5.below hSw hr5.lt).rec9; have h2 := (hs5.below hSw hs5.lt).st4; clear hSw; go_simp; with_reducible rfl)); try simp only [Act.put, List.setIfInBounds_toArray, List.set_cons_zero, List.set_cons_succ]) | (refine lexG_skip _ rfl rfl (by assumption) ?_; try simp only [Act.put, List.setIfInBounds_toArray, List.set_cons_zero, List.set_cons_succ]))
      have hs8 := hs5.below hS8 hs5.lt
      have hz8 := (hz5.below hS8 hz5.lt).far (p := ⟨r, 2, none⟩) (show q ≠ r by omega) (.slice A8 (N + 1) c8)
      have hs9 := hs8.far (p := ⟨r, 2, none⟩) (show z ≠ r by omega) (.slice A8 (N + 1) c8)
      have ho8' := ho5.below hS8 ho5.lt
      have hf0 := ho8'.frozen 2
      have hc0 := ho8'.st4
      have hs8c := hs8.st4
      have ho9 : Blk (w8.setCell ⟨r, 2, none⟩ (.slice A8 (N + 1) c8)) r 49 #[.int .u64 (sv : Int), .int .u64 (sl : Int), .slice A8 (N + 1) c8, .int .i64 su] := ho8'.set_ 2 (.slice A8 (N + 1) c8)
      have hb9 := hb8.setCell (p := ⟨r, 2, none⟩) hwr (.slice A8 (N + 1) c8)
      have hO9 := ho8.upd ((Upd.refl (fun x => x = r ∨ x = q) w8).setCell (p := ⟨r, 2, none⟩) (fun _ => .inl rfl) (.slice A8 (N + 1) c8)) (fun g hg e => by rw [hA8] at hg; cases hg; omega)
      have R8 := (R7.upd (Upd.of_below_size hb78) (fun g hg e => by have hg' : wd.heap.size ≤ g := hg; omega)).upd ((Upd.refl (fun x => x = r ∨ x = q) w8).setCell (p := ⟨r, 2, none⟩) (fun _ => .inl rfl) (.slice A8 (N + 1) c8)) (fun g hg e => by have hg' : wd.heap.size ≤ g := hg; omega)
      refine lexG_nowF _ rfl rfl rfl (by kernel_rfl) (fun K0 hK => ?_)
      go_simp
      generalize w8.setCell ⟨r, 2, none⟩ (.slice A8 (N + 1) c8) = w9 at *
      refine hK _ _ ?_
      clear hK K0
      refine lexG_nil ?_
      have hco := ho9.st4
      have hcs := hs9.st4
      clear hf0 hc0 hs8c hlw hsrc
      go_upto_region 19 with (fail)
      have hzr := hz8.row #[.int .u64 (sv : Int), .int .u64 (sl : Int), .slice L N cl, .int .i64 su]
      have hbr := below_row hb9 (g := q) hwq #[.int .u64 (sv : Int), .int .u64 (sl : Int), .slice L N cl, .int .i64 su]
      go_wp2_with (refine store_row_gen rfl 49 (Operand.tmp 4) _ rfl q #[.int .u64 (sv : Int), .int .u64 (sl : Int), .slice L N cl, .int .i64 su] (by simp [go_sem]) (by simp [go_sem]) 49 _ hz8 (by kernel_rfl) rfl (by simp [Value.oneCell']) (fun w9 hw9 => ?_); rw [← hw9] at hzr hbr; clear hw9)
      refine bodyPost_ret (v := .tuple #[.agg #[.int .u64 (sv : Int), .int .u64 (sl : Int), .slice L N cl, .int .i64 su], .bool false]) (by exact results_ct rfl _ _ q 49 _ (0, 0) _ _ rfl rfl hzr Try.underlying49 rfl (by kernel_rfl)) rfl ?_
      refine ⟨L, cl, xs, css, ?_, hbr, fun _ _ _ _ h => h⟩
      dsimp only
      rw [hN.out]
    by_cases hvl : v < pl
    · skip
      have e1 : decide ((0 : Int) < (v : Int)) = true := decide_eq_true (by omega)
      have e1' : decide (0 < v) = true := decide_eq_true (by omega)
      have e2 : ((v : Int) == 0) = false := by rw [beq_eq_false_iff_ne]; omega
      have e2' : (v == 0) = false := by rw [beq_eq_false_iff_ne]; omega
      have e3 : decide ((pl : Int) ≤ (v : Int)) = false := decide_eq_false (by omega)
      have e3' : decide (pl ≤ v) = false := decide_eq_false (by omega)
      have e4 : decide ((v : Int) < (pl : Int)) = true := decide_eq_true (by omega)
      have e4' : decide (v < pl) = true := decide_eq_true (by omega)
      have hOe : O = false := by rw [← hO.out]; unfold stepOk; rw [if_neg (show ¬ ((2 : Int) = 1) by decide), if_pos rfl]; dsimp only; rw [hpl.out, hN.out]; exact decide_eq_false (by omega)
      have hDe : D = ⟨sv, sl, log, su⟩ := by rw [← hD.out]; unfold stepD; rw [hO.out, hOe]; rw [if_neg (by decide)]
      subst hOe hDe
      clear hO hD
      go_wp2_with fail
      refine wp_region_lex (fun W => Below w4.heap.size w4 W) [1, 5, 7, 13] [8] [0, 1, 2, 3, 4, 5, 6, 7, 8, 9, 10, 11, 12, 13, 14, 15, 16, 17] (by kernel_rfl) rfl (by kernel_rfl) (by kernel_rfl) (fun _ _ d _ _ h => by cases d <;> exact h) ?_
      repeat (first | (refine lexG_take _ ?_ rfl rfl rfl rfl (fun _ => ?_) ?_; rotate_left; (focus (go_simp; with_reducible rfl)); try simp only [Act.put, List.setIfInBounds_toArray, List.set_cons_zero, List.set_cons_succ]) | (refine lexG_held _ ?_ rfl rfl rfl rfl (by assumption) (fun _ hSw => ?_) ?_; rotate_left; (focus (have h1 := (hr4.below hSw hr4.lt).rec9; have h2 := (hs4.below hSw hs4.lt).st4; clear hSw; go_simp; with_reducible rfl)); try simp only [Act.put, List.setIfInBounds_toArray, List.set_cons_zero, List.set_cons_succ]) | (refine lexG_skip _ rfl rfl (by assumption) ?_; try simp only [Act.put, List.setIfInBounds_toArray, List.set_cons_zero, List.set_cons_succ]))
      refine lexG_now _ rfl rfl rfl (fun K0 hK => ?_)
      have hp := hlast.out w4.drew (below_then hS0 hb4)
      go_wp2_with fail
      refine hp.mono ?_
      clear hp
      rintro e w5 ⟨rfl, rfl⟩
      dsimp only
      refine hK _ _ _ (fun _ h => h) hS0 ?_
      clear hK K0
      try simp only [Act.put, List.setIfInBounds_toArray, List.set_cons_zero, List.set_cons_succ]
      repeat (first | (refine lexG_take _ ?_ rfl rfl rfl rfl (fun _ => ?_) ?_; rotate_left; (focus (go_simp; with_reducible rfl)); try simp only [Act.put, List.setIfInBounds_toArray, List.set_cons_zero, List.set_cons_succ]) | (refine lexG_held _ ?_ rfl rfl rfl rfl (by assumption) (fun _ hSw => ?_) ?_; rotate_left; (focus (have h1 := (hr4.below hSw hr4.lt).rec9; have h2 := (hs4.below hSw hs4.lt).st4; clear hSw; go_simp; with_reducible rfl)); try simp only [Act.put, List.setIfInBounds_toArray, List.set_cons_zero, List.set_cons_succ]) | (refine lexG_skip _ rfl rfl (by assumption) ?_; try simp only [Act.put, List.setIfInBounds_toArray, List.set_cons_zero, List.set_cons_succ]))
      refine lexG_nil ?_
      clear hS0
      generalize hwd : w4.drew = wd at *
      have hs5 : Blk wd z 49 #[.int .u64 (sv : Int), .int .u64 (sl : Int), .slice L N cl, .int .i64 su] := by rw [← hwd]; exact hs4.drew
      have hr5 : Blk wd y 40 #[.int .i64 2, .int .u64 (v : Int), .int .i64 n, .int .u32 (c1 : Int), .int .u32 (s1 : Int), .int .u16 (n1 : Int), .string gg, .string mm, .slice A K cc] := by rw [← hwd]; exact hr4.drew
      have hz5 : Blk wd q 49 #[.int .u64 0, .int .u64 0, .slice none 0 0, .int .i64 0] := by rw [← hwd]; exact hz4.drew
      have ho5 : Blk wd r 49 #[.int .u64 (sv : Int), .int .u64 (sl : Int), .slice L N cl, .int .i64 su] := by rw [← hwd]; exact ho4.drew
      have hb5 : Below w.heap.size w wd := by rw [← hwd]; exact hb4.drew
      clear hwd hs4 hr4 hz4 ho4 hb4 hrc hsc
      have hrl := ho5.lt
      have hS0 : Below wd.heap.size wd wd.drew := (Below.refl _ _).drew
      go_wp2_with fail
      refine wp_region_lex (fun W => Below wd.heap.size wd W) [1, 4, 6] [2, 7, 9, 10, 12] [0, 1, 3, 4, 5, 6, 2, 7, 8, 9, 10, 11, 12] (by kernel_rfl) rfl (by kernel_rfl) (by kernel_rfl) (fun _ _ d _ _ h => by cases d <;> exact h) ?_
      repeat (first | (refine lexG_take _ ?_ rfl rfl rfl rfl (fun _ => ?_) ?_; rotate_left; (focus (go_simp; with_reducible rfl)); try simp only [Act.put, List.setIfInBounds_toArray, List.set_cons_zero, List.set_cons_succ]) | (refine lexG_held _ ?_ rfl rfl rfl rfl (by assumption) (fun _ hSw => ?_) ?_; rotate_left; (focus (have h1 := (hr5.below hSw hr5.lt).rec9; have h2 := (hs5.below hSw hs5.lt).st4; clear hSw; go_simp; with_reducible rfl)); try simp only [Act.put, List.setIfInBounds_toArray, List.set_cons_zero, List.set_cons_succ]) | (refine lexG_skip _ rfl rfl (by assumption) ?_; try simp only [Act.put, List.setIfInBounds_toArray, List.set_cons_zero, List.set_cons_succ]))
      refine lexG_now _ rfl rfl rfl (fun K0 hK => ?_)
      go_wp2_with fail
      refine (clip_log hcl hLn.out).mono ?_
      rintro e w5 ⟨rfl, rfl⟩
      dsimp only
      refine hK _ _ _ (fun _ h => h) hS0 ?_
      clear hK K0
      try simp only [Act.put, List.setIfInBounds_toArray, List.set_cons_zero, List.set_cons_succ]
      repeat (first | (refine lexG_take _ ?_ rfl rfl rfl rfl (fun _ => ?_) ?_; rotate_left; (focus (go_simp; with_reducible rfl)); try simp only [Act.put, List.setIfInBounds_toArray, List.set_cons_zero, List.set_cons_succ]) | (refine lexG_held _ ?_ rfl rfl rfl rfl (by assumption) (fun _ hSw => ?_) ?_; rotate_left; (focus (have h1 := (hr5.below hSw hr5.lt).rec9; have h2 := (hs5.below hSw hs5.lt).st4; clear hSw; go_simp; with_reducible rfl)); try simp only [Act.put, List.setIfInBounds_toArray, List.set_cons_zero, List.set_cons_succ]) | (refine lexG_skip _ rfl rfl (by assumption) ?_; try simp only [Act.put, List.setIfInBounds_toArray, List.set_cons_zero, List.set_cons_succ]))
      refine lexG_now _ rfl rfl rfl (fun K0 hK => ?_)
      have hp := clean_progV (hbs.out wd.drew (below_then hS0 hb5)) (Nat.le_trans hB (below_then hS0 hb5).size)
      go_wp2_with fail
      refine hp.mono ?_
      clear hp
      rintro e w6 ⟨A6, c6, xs6, css6, rfl, R6, hb6⟩
      dsimp only
      have hS6 := below_then hb6 hS0
      refine hK _ _ _ (fun _ h => h) hS6 ?_
      clear hK K0
      try simp only [Act.put, List.setIfInBounds_toArray, List.set_cons_zero, List.set_cons_succ]
      repeat (first | (refine lexG_take _ ?_ rfl rfl rfl rfl (fun _ => ?_) ?_; rotate_left; (focus (go_simp; with_reducible rfl)); try simp only [Act.put, List.setIfInBounds_toArray, List.set_cons_zero, List.set_cons_succ]) | (refine lexG_held _ ?_ rfl rfl rfl rfl (by assumption) (fun _ hSw => ?_) ?_; rotate_left; (focus (have h1 := (hr5.below hSw hr5.lt).rec9; have h2 := (hs5.below hSw hs5.lt).st4; clear hSw; go_simp; with_reducible rfl)); try simp only [Act.put, List.setIfInBounds_toArray, List.set_cons_zero, List.set_cons_succ]) | (refine lexG_skip _ rfl rfl (by assumption) ?_; try simp only [Act.put, List.setIfInBounds_toArray, List.set_cons_zero, List.set_cons_succ]))
      have hS7 := hS6.alloc hS6.size (.cells #[.int .u64 (v : Int), .int .u32 (c1 : Int), .int .u32 (s1 : Int), .int .u16 (n1 : Int), .string gg, .string mm, .slice A6 K c6] 42)
      have hsrc := Reads.lit (size := 7) w6 #[.int .u64 (v : Int), .int .u32 (c1 : Int), .int .u32 (s1 : Int), .int .u16 (n1 : Int), .string gg, .string mm, .slice A6 K c6] 42 (0, 0) 1 [.int .u64 (v : Int), .int .u32 (c1 : Int), .int .u32 (s1 : Int), .int .u16 (n1 : Int), .string gg, .string mm, .slice A6 K c6] rfl rfl
      have R7 := R6.upd ((Upd.refl (fun x => x = r ∨ x = q) w6).alloc (.cells #[.int .u64 (v : Int), .int .u32 (c1 : Int), .int .u32 (s1 : Int), .int .u16 (n1 : Int), .string gg, .string mm, .slice A6 K c6] 42)) (fun g hg e => by have hg' : wd.heap.size ≤ g := hg; omega)
      refine lexG_now _ rfl rfl rfl (fun K0 hK => ?_)
      go_wp2_with fail
      generalize hw7 : w6.alloc (.cells #[.int .u64 (v : Int), .int .u32 (c1 : Int), .int .u32 (s1 : Int), .int .u16 (n1 : Int), .string gg, .string mm, .slice A6 K c6] 42) = w7 at *
      have hw7s : w7.heap.size = w6.heap.size + 1 := by rw [← hw7]; simp
      refine hK _ _ _ (fun _ h => h) hS7 ?_
      clear hK K0
      try simp only [Act.put, List.setIfInBounds_toArray, List.set_cons_zero, List.set_cons_succ]
      repeat (first | (refine lexG_take _ ?_ rfl rfl rfl rfl (fun _ => ?_) ?_; rotate_left; (focus (go_simp; with_reducible rfl)); try simp only [Act.put, List.setIfInBounds_toArray, List.set_cons_zero, List.set_cons_succ]) | (refine lexG_held _ ?_ rfl rfl rfl rfl (by assumption) (fun _ hSw => ?_) ?_; rotate_left; (focus (have h1 := (hr5.below hSw hr5.lt).rec9; have h2 := (hs5.below hSw hs5.lt).st4; clear hSw; go_simp; with_reducible rfl)); try simp only [Act.put, List.setIfInBounds_toArray, List.set_cons_zero, List.set_cons_succ]) | (refine lexG_skip _ rfl rfl (by assumption) ?_; try simp only [Act.put, List.setIfInBounds_toArray, List.set_cons_zero, List.set_cons_succ]))
      have hlw := (hlog0.out.below ((below_then hS7 hb5).mono hB)).r
      rw [hN.out] at hlw
      obtain ⟨i0, hi, hz0, hz1, hz2⟩ := info_parts info_ent
      refine lexG_now _ rfl rfl rfl (fun K0 hK => ?_)
      refine wp_append_grows _ _ 27 27 rfl 42 i0 _ 7 80 Try.underlying27 hi hz0 hz1 hz2 rfl rfl (Grows.full hlw (Nat.le_trans hB (below_then hS7 hb5).size) (Nat.le_refl _)) rfl (Src.ofReads Try.underlying27 _ hsrc (by intro u hu; simp at hu; rcases hu with rfl | rfl | rfl | rfl | rfl | rfl | rfl <;> rfl)) (by decide) (by unfold maxLen; omega) (by omega) (fun A8 c8 w8 ho8 hg8 hat8 => ?_)
      have hb78 : Below w7.heap.size w7 w8 := (Below.refl _ _).grown hg8 (Nat.le_refl _) (fun k hk => by cases hk)
      have hS8 := below_then hb78 hS7
      have hb8 := below_then hS8 hb5
      have hs67 := hb6.size
      have hsd := hS0.size
      have hA8 : bOf A8 = some w7.heap.size := by
        rcases hat8 with h | h
        · exfalso
          rcases ho8.2 with ⟨_, h0, _⟩ | ⟨g, cur, hA, _⟩
          · omega
          · rw [hA] at h; cases h
        · exact h
      refine hK _ _ _ (fun _ h => h) hS8 ?_
      clear hK K0
      try simp only [Act.put, List.setIfInBounds_toArray, List.set_cons_zero, List.set_cons_succ]
      repeat (first | (refine lexG_take _ ?_ rfl rfl rfl rfl (fun _ => ?_) ?_; rotate_left; (focus (go_simp; with_reducible rfl)); try simp only [Act.put, List.setIfInBounds_toArray, List.set_cons_zero, List.set_cons_succ]) | (refine lexG_held _ ?_ rfl rfl rfl rfl (by assumption) (fun _ hSw => ?_) ?_; rotate_left; (focus (have h1 := (hr5.below hSw hr5.lt).rec9; have h2 := (hs5.below hSw hs5.lt).st4; clear hSw; go_simp; with_reducible rfl)); try simp only [Act.put, List.setIfInBounds_toArray, List.set_cons_zero, List.set_cons_succ]) | (refine lexG_skip _ rfl rfl (by assumption) ?_; try simp only [Act.put, List.setIfInBounds_toArray, List.set_cons_zero, List.set_cons_succ]))
      have hs8 := hs5.below hS8 hs5.lt
      have hz8 := (hz5.below hS8 hz5.lt).far (p := ⟨r, 2, none⟩) (show q ≠ r by omega) (.slice A8 (N + 1) c8)
      have hs9 := hs8.far (p := ⟨r, 2, none⟩) (show z ≠ r by omega) (.slice A8 (N + 1) c8)
      have ho8' := ho5.below hS8 ho5.lt
      have hf0 := ho8'.frozen 2
      have hc0 := ho8'.st4
      have hs8c := hs8.st4
      have ho9 : Blk (w8.setCell ⟨r, 2, none⟩ (.slice A8 (N + 1) c8)) r 49 #[.int .u64 (sv : Int), .int .u64 (sl : Int), .slice A8 (N + 1) c8, .int .i64 su] := ho8'.set_ 2 (.slice A8 (N + 1) c8)
      have hb9 := hb8.setCell (p := ⟨r, 2, none⟩) hwr (.slice A8 (N + 1) c8)
      have hO9 := ho8.upd ((Upd.refl (fun x => x = r ∨ x = q) w8).setCell (p := ⟨r, 2, none⟩) (fun _ => .inl rfl) (.slice A8 (N + 1) c8)) (fun g hg e => by rw [hA8] at hg; cases hg; omega)
      have R8 := (R7.upd (Upd.of_below_size hb78) (fun g hg e => by have hg' : wd.heap.size ≤ g := hg; omega)).upd ((Upd.refl (fun x => x = r ∨ x = q) w8).setCell (p := ⟨r, 2, none⟩) (fun _ => .inl rfl) (.slice A8 (N + 1) c8)) (fun g hg e => by have hg' : wd.heap.size ≤ g := hg; omega)
      refine lexG_nowF _ rfl rfl rfl (by kernel_rfl) (fun K0 hK => ?_)
      go_simp
      generalize w8.setCell ⟨r, 2, none⟩ (.slice A8 (N + 1) c8) = w9 at *
      refine hK _ _ ?_
      clear hK K0
      refine lexG_nil ?_
      have hco := ho9.st4
      have hcs := hs9.st4
      clear hf0 hc0 hs8c hlw hsrc
      go_upto_region 19 with (fail)
      have hzr := hz8.row #[.int .u64 (sv : Int), .int .u64 (sl : Int), .slice L N cl, .int .i64 su]
      have hbr := below_row hb9 (g := q) hwq #[.int .u64 (sv : Int), .int .u64 (sl : Int), .slice L N cl, .int .i64 su]
      go_wp2_with (refine store_row_gen rfl 49 (Operand.tmp 4) _ rfl q #[.int .u64 (sv : Int), .int .u64 (sl : Int), .slice L N cl, .int .i64 su] (by simp [go_sem]) (by simp [go_sem]) 49 _ hz8 (by kernel_rfl) rfl (by simp [Value.oneCell']) (fun w9 hw9 => ?_); rw [← hw9] at hzr hbr; clear hw9)
      refine bodyPost_ret (v := .tuple #[.agg #[.int .u64 (sv : Int), .int .u64 (sl : Int), .slice L N cl, .int .i64 su], .bool false]) (by exact results_ct rfl _ _ q 49 _ (0, 0) _ _ rfl rfl hzr Try.underlying49 rfl (by kernel_rfl)) rfl ?_
      refine ⟨L, cl, xs, css, ?_, hbr, fun _ _ _ _ h => h⟩
      dsimp only
      rw [hN.out]
    by_cases hful : 400 ≤ N
    · skip
      have e1 : decide ((0 : Int) < (v : Int)) = true := decide_eq_true (by omega)
      have e1' : decide (0 < v) = true := decide_eq_true (by omega)
      have e2 : ((v : Int) == 0) = false := by rw [beq_eq_false_iff_ne]; omega
      have e2' : (v == 0) = false := by rw [beq_eq_false_iff_ne]; omega
      have e3 : decide ((pl : Int) ≤ (v : Int)) = true := decide_eq_true (by omega)
      have e3' : decide (pl ≤ v) = true := decide_eq_true (by omega)
      have e4 : decide ((v : Int) < (pl : Int)) = false := decide_eq_false (by omega)
      have e4' : decide (v < pl) = false := decide_eq_false (by omega)
      have e5 : decide ((N : Int) < 400) = false := decide_eq_false (by omega)
      have e5' : decide (N < 400) = false := decide_eq_false (by omega)
      have e6 : decide ((400 : Int) ≤ (N : Int)) = true := decide_eq_true (by omega)
      have hOe : O = false := by rw [← hO.out]; unfold stepOk; rw [if_neg (show ¬ ((2 : Int) = 1) by decide), if_pos rfl]; dsimp only; rw [hpl.out, hN.out]; exact decide_eq_false (by omega)
      have hDe : D = ⟨sv, sl, log, su⟩ := by rw [← hD.out]; unfold stepD; rw [hO.out, hOe]; rw [if_neg (by decide)]
      subst hOe hDe
      clear hO hD
      go_wp2_with fail
      refine wp_region_lex (fun W => Below w4.heap.size w4 W) [1, 5, 7, 13] [8] [0, 1, 2, 3, 4, 5, 6, 7, 8, 9, 10, 11, 12, 13, 14, 15, 16, 17] (by kernel_rfl) rfl (by kernel_rfl) (by kernel_rfl) (fun _ _ d _ _ h => by cases d <;> exact h) ?_
      repeat (first | (refine lexG_take _ ?_ rfl rfl rfl rfl (fun _ => ?_) ?_; rotate_left; (focus (go_simp; with_reducible rfl)); try simp only [Act.put, List.setIfInBounds_toArray, List.set_cons_zero, List.set_cons_succ]) | (refine lexG_held _ ?_ rfl rfl rfl rfl (by assumption) (fun _ hSw => ?_) ?_; rotate_left; (focus (have h1 := (hr4.below hSw hr4.lt).rec9; have h2 := (hs4.below hSw hs4.lt).st4; clear hSw; go_simp; with_reducible rfl)); try simp only [Act.put, List.setIfInBounds_toArray, List.set_cons_zero, List.set_cons_succ]) | (refine lexG_skip _ rfl rfl (by assumption) ?_; try simp only [Act.put, List.setIfInBounds_toArray, List.set_cons_zero, List.set_cons_succ]))
      refine lexG_now _ rfl rfl rfl (fun K0 hK => ?_)
      have hp := hlast.out w4.drew (below_then hS0 hb4)
      go_wp2_with fail
      refine hp.mono ?_
      clear hp
      rintro e w5 ⟨rfl, rfl⟩
      dsimp only
      refine hK _ _ _ (fun _ h => h) hS0 ?_
      clear hK K0
      try simp only [Act.put, List.setIfInBounds_toArray, List.set_cons_zero, List.set_cons_succ]
      repeat (first | (refine lexG_take _ ?_ rfl rfl rfl rfl (fun _ => ?_) ?_; rotate_left; (focus (go_simp; with_reducible rfl)); try simp only [Act.put, List.setIfInBounds_toArray, List.set_cons_zero, List.set_cons_succ]) | (refine lexG_held _ ?_ rfl rfl rfl rfl (by assumption) (fun _ hSw => ?_) ?_; rotate_left; (focus (have h1 := (hr4.below hSw hr4.lt).rec9; have h2 := (hs4.below hSw hs4.lt).st4; clear hSw; go_simp; with_reducible rfl)); try simp only [Act.put, List.setIfInBounds_toArray, List.set_cons_zero, List.set_cons_succ]) | (refine lexG_skip _ rfl rfl (by assumption) ?_; try simp only [Act.put, List.setIfInBounds_toArray, List.set_cons_zero, List.set_cons_succ]))
      refine lexG_nil ?_
      clear hS0
      generalize hwd : w4.drew = wd at *
      have hs5 : Blk wd z 49 #[.int .u64 (sv : Int), .int .u64 (sl : Int), .slice L N cl, .int .i64 su] := by rw [← hwd]; exact hs4.drew
      have hr5 : Blk wd y 40 #[.int .i64 2, .int .u64 (v : Int), .int .i64 n, .int .u32 (c1 : Int), .int .u32 (s1 : Int), .int .u16 (n1 : Int), .string gg, .string mm, .slice A K cc] := by rw [← hwd]; exact hr4.drew
      have hz5 : Blk wd q 49 #[.int .u64 0, .int .u64 0, .slice none 0 0, .int .i64 0] := by rw [← hwd]; exact hz4.drew
      have ho5 : Blk wd r 49 #[.int .u64 (sv : Int), .int .u64 (sl : Int), .slice L N cl, .int .i64 su] := by rw [← hwd]; exact ho4.drew
      have hb5 : Below w.heap.size w wd := by rw [← hwd]; exact hb4.drew
      clear hwd hs4 hr4 hz4 ho4 hb4 hrc hsc
      have hrl := ho5.lt
      have hS0 : Below wd.heap.size wd wd.drew := (Below.refl _ _).drew
      go_wp2_with fail
      refine wp_region_lex (fun W => Below wd.heap.size wd W) [1, 4, 6] [2, 7, 9, 10, 12] [0, 1, 3, 4, 5, 6, 2, 7, 8, 9, 10, 11, 12] (by kernel_rfl) rfl (by kernel_rfl) (by kernel_rfl) (fun _ _ d _ _ h => by cases d <;> exact h) ?_
      repeat (first | (refine lexG_take _ ?_ rfl rfl rfl rfl (fun _ => ?_) ?_; rotate_left; (focus (go_simp; with_reducible rfl)); try simp only [Act.put, List.setIfInBounds_toArray, List.set_cons_zero, List.set_cons_succ]) | (refine lexG_held _ ?_ rfl rfl rfl rfl (by assumption) (fun _ hSw => ?_) ?_; rotate_left; (focus (have h1 := (hr5.below hSw hr5.lt).rec9; have h2 := (hs5.below hSw hs5.lt).st4; clear hSw; go_simp; with_reducible rfl)); try simp only [Act.put, List.setIfInBounds_toArray, List.set_cons_zero, List.set_cons_succ]) | (refine lexG_skip _ rfl rfl (by assumption) ?_; try simp only [Act.put, List.setIfInBounds_toArray, List.set_cons_zero, List.set_cons_succ]))
      refine lexG_now _ rfl rfl rfl (fun K0 hK => ?_)
      go_wp2_with fail
      refine (clip_log hcl hLn.out).mono ?_
      rintro e w5 ⟨rfl, rfl⟩
      dsimp only
      refine hK _ _ _ (fun _ h => h) hS0 ?_
      clear hK K0
      try simp only [Act.put, List.setIfInBounds_toArray, List.set_cons_zero, List.set_cons_succ]
      repeat (first | (refine lexG_take _ ?_ rfl rfl rfl rfl (fun _ => ?_) ?_; rotate_left; (focus (go_simp; with_reducible rfl)); try simp only [Act.put, List.setIfInBounds_toArray, List.set_cons_zero, List.set_cons_succ]) | (refine lexG_held _ ?_ rfl rfl rfl rfl (by assumption) (fun _ hSw => ?_) ?_; rotate_left; (focus (have h1 := (hr5.below hSw hr5.lt).rec9; have h2 := (hs5.below hSw hs5.lt).st4; clear hSw; go_simp; with_reducible rfl)); try simp only [Act.put, List.setIfInBounds_toArray, List.set_cons_zero, List.set_cons_succ]) | (refine lexG_skip _ rfl rfl (by assumption) ?_; try simp only [Act.put, List.setIfInBounds_toArray, List.set_cons_zero, List.set_cons_succ]))
      refine lexG_now _ rfl rfl rfl (fun K0 hK => ?_)
      have hp := clean_progV (hbs.out wd.drew (below_then hS0 hb5)) (Nat.le_trans hB (below_then hS0 hb5).size)
      go_wp2_with fail
      refine hp.mono ?_
      clear hp
      rintro e w6 ⟨A6, c6, xs6, css6, rfl, R6, hb6⟩
      dsimp only
      have hS6 := below_then hb6 hS0
      refine hK _ _ _ (fun _ h => h) hS6 ?_
      clear hK K0
      try simp only [Act.put, List.setIfInBounds_toArray, List.set_cons_zero, List.set_cons_succ]
      repeat (first | (refine lexG_take _ ?_ rfl rfl rfl rfl (fun _ => ?_) ?_; rotate_left; (focus (go_simp; with_reducible rfl)); try simp only [Act.put, List.setIfInBounds_toArray, List.set_cons_zero, List.set_cons_succ]) | (refine lexG_held _ ?_ rfl rfl rfl rfl (by assumption) (fun _ hSw => ?_) ?_; rotate_left; (focus (have h1 := (hr5.below hSw hr5.lt).rec9; have h2 := (hs5.below hSw hs5.lt).st4; clear hSw; go_simp; with_reducible rfl)); try simp only [Act.put, List.setIfInBounds_toArray, List.set_cons_zero, List.set_cons_succ]) | (refine lexG_skip _ rfl rfl (by assumption) ?_; try simp only [Act.put, List.setIfInBounds_toArray, List.set_cons_zero, List.set_cons_succ]))
      have hS7 := hS6.alloc hS6.size (.cells #[.int .u64 (v : Int), .int .u32 (c1 : Int), .int .u32 (s1 : Int), .int .u16 (n1 : Int), .string gg, .string mm, .slice A6 K c6] 42)
      have hsrc := Reads.lit (size := 7) w6 #[.int .u64 (v : Int), .int .u32 (c1 : Int), .int .u32 (s1 : Int), .int .u16 (n1 : Int), .string gg, .string mm, .slice A6 K c6] 42 (0, 0) 1 [.int .u64 (v : Int), .int .u32 (c1 : Int), .int .u32 (s1 : Int), .int .u16 (n1 : Int), .string gg, .string mm, .slice A6 K c6] rfl rfl
      have R7 := R6.upd ((Upd.refl (fun x => x = r ∨ x = q) w6).alloc (.cells #[.int .u64 (v : Int), .int .u32 (c1 : Int), .int .u32 (s1 : Int), .int .u16 (n1 : Int), .string gg, .string mm, .slice A6 K c6] 42)) (fun g hg e => by have hg' : wd.heap.size ≤ g := hg; omega)
      refine lexG_now _ rfl rfl rfl (fun K0 hK => ?_)
      go_wp2_with fail
      generalize hw7 : w6.alloc (.cells #[.int .u64 (v : Int), .int .u32 (c1 : Int), .int .u32 (s1 : Int), .int .u16 (n1 : Int), .string gg, .string mm, .slice A6 K c6] 42) = w7 at *
      have hw7s : w7.heap.size = w6.heap.size + 1 := by rw [← hw7]; simp
      refine hK _ _ _ (fun _ h => h) hS7 ?_
      clear hK K0
      try simp only [Act.put, List.setIfInBounds_toArray, List.set_cons_zero, List.set_cons_succ]
      repeat (first | (refine lexG_take _ ?_ rfl rfl rfl rfl (fun _ => ?_) ?_; rotate_left; (focus (go_simp; with_reducible rfl)); try simp only [Act.put, List.setIfInBounds_toArray, List.set_cons_zero, List.set_cons_succ]) | (refine lexG_held _ ?_ rfl rfl rfl rfl (by assumption) (fun _ hSw => ?_) ?_; rotate_left; (focus (have h1 := (hr5.below hSw hr5.lt).rec9; have h2 := (hs5.below hSw hs5.lt).st4; clear hSw; go_simp; with_reducible rfl)); try simp only [Act.put, List.setIfInBounds_toArray, List.set_cons_zero, List.set_cons_succ]) | (refine lexG_skip _ rfl rfl (by assumption) ?_; try simp only [Act.put, List.setIfInBounds_toArray, List.set_cons_zero, List.set_cons_succ]))
      have hlw := (hlog0.out.below ((below_then hS7 hb5).mono hB)).r
      rw [hN.out] at hlw
      obtain ⟨i0, hi, hz0, hz1, hz2⟩ := info_parts info_ent
      refine lexG_now _ rfl rfl rfl (fun K0 hK => ?_)
      refine wp_append_grows _ _ 27 27 rfl 42 i0 _ 7 80 Try.underlying27 hi hz0 hz1 hz2 rfl rfl (Grows.full hlw (Nat.le_trans hB (below_then hS7 hb5).size) (Nat.le_refl _)) rfl (Src.ofReads Try.underlying27 _ hsrc (by intro u hu; simp at hu; rcases hu with rfl | rfl | rfl | rfl | rfl | rfl | rfl <;> rfl)) (by decide) (by unfold maxLen; omega) (by omega) (fun A8 c8 w8 ho8 hg8 hat8 => ?_)
      have hb78 : Below w7.heap.size w7 w8 := (Below.refl _ _).grown hg8 (Nat.le_refl _) (fun k hk => by cases hk)
      have hS8 := below_then hb78 hS7
      have hb8 := below_then hS8 hb5
      have hs67 := hb6.size
      have hsd := hS0.size
      have hA8 : bOf A8 = some w7.heap.size := by
        rcases hat8 with h | h
        · exfalso
          rcases ho8.2 with ⟨_, h0, _⟩ | ⟨g, cur, hA, _⟩
          · omega
          · rw [hA] at h; cases h
        · exact h
      refine hK _ _ _ (fun _ h => h) hS8 ?_
      clear hK K0
      try simp only [Act.put, List.setIfInBounds_toArray, List.set_cons_zero, List.set_cons_succ]
      repeat (first | (refine lexG_take _ ?_ rfl rfl rfl rfl (fun _ => ?_) ?_; rotate_left; (focus (go_simp; with_reducible rfl)); try simp only [Act.put, List.setIfInBounds_toArray, List.set_cons_zero, List.set_cons_succ]) | (refine lexG_held _ ?_ rfl rfl rfl rfl (by assumption) (fun _ hSw => ?_) ?_; rotate_left; (focus (have h1 := (hr5.below hSw hr5.lt).rec9; have h2 := (hs5.below hSw hs5.lt).st4; clear hSw; go_simp; with_reducible rfl)); try simp only [Act.put, List.setIfInBounds_toArray, List.set_cons_zero, List.set_cons_succ]) | (refine lexG_skip _ rfl rfl (by assumption) ?_; try simp only [Act.put, List.setIfInBounds_toArray, List.set_cons_zero, List.set_cons_succ]))
      have hs8 := hs5.below hS8 hs5.lt
      have hz8 := (hz5.below hS8 hz5.lt).far (p := ⟨r, 2, none⟩) (show q ≠ r by omega) (.slice A8 (N + 1) c8)
      have hs9 := hs8.far (p := ⟨r, 2, none⟩) (show z ≠ r by omega) (.slice A8 (N + 1) c8)
      have ho8' := ho5.below hS8 ho5.lt
      have hf0 := ho8'.frozen 2
      have hc0 := ho8'.st4
      have hs8c := hs8.st4
      have ho9 : Blk (w8.setCell ⟨r, 2, none⟩ (.slice A8 (N + 1) c8)) r 49 #[.int .u64 (sv : Int), .int .u64 (sl : Int), .slice A8 (N + 1) c8, .int .i64 su] := ho8'.set_ 2 (.slice A8 (N + 1) c8)
      have hb9 := hb8.setCell (p := ⟨r, 2, none⟩) hwr (.slice A8 (N + 1) c8)
      have hO9 := ho8.upd ((Upd.refl (fun x => x = r ∨ x = q) w8).setCell (p := ⟨r, 2, none⟩) (fun _ => .inl rfl) (.slice A8 (N + 1) c8)) (fun g hg e => by rw [hA8] at hg; cases hg; omega)
      have R8 := (R7.upd (Upd.of_below_size hb78) (fun g hg e => by have hg' : wd.heap.size ≤ g := hg; omega)).upd ((Upd.refl (fun x => x = r ∨ x = q) w8).setCell (p := ⟨r, 2, none⟩) (fun _ => .inl rfl) (.slice A8 (N + 1) c8)) (fun g hg e => by have hg' : wd.heap.size ≤ g := hg; omega)
      refine lexG_nowF _ rfl rfl rfl (by kernel_rfl) (fun K0 hK => ?_)
      go_simp
      generalize w8.setCell ⟨r, 2, none⟩ (.slice A8 (N + 1) c8) = w9 at *
      refine hK _ _ ?_
      clear hK K0
      refine lexG_nil ?_
      have hco := ho9.st4
      have hcs := hs9.st4
      clear hf0 hc0 hs8c hlw hsrc
      go_upto_region 19 with (fail)
      have hzr := hz8.row #[.int .u64 (sv : Int), .int .u64 (sl : Int), .slice L N cl, .int .i64 su]
      have hbr := below_row hb9 (g := q) hwq #[.int .u64 (sv : Int), .int .u64 (sl : Int), .slice L N cl, .int .i64 su]
      go_wp2_with (refine store_row_gen rfl 49 (Operand.tmp 4) _ rfl q #[.int .u64 (sv : Int), .int .u64 (sl : Int), .slice L N cl, .int .i64 su] (by simp [go_sem]) (by simp [go_sem]) 49 _ hz8 (by kernel_rfl) rfl (by simp [Value.oneCell']) (fun w9 hw9 => ?_); rw [← hw9] at hzr hbr; clear hw9)
      refine bodyPost_ret (v := .tuple #[.agg #[.int .u64 (sv : Int), .int .u64 (sl : Int), .slice L N cl, .int .i64 su], .bool false]) (by exact results_ct rfl _ _ q 49 _ (0, 0) _ _ rfl rfl hzr Try.underlying49 rfl (by kernel_rfl)) rfl ?_
      refine ⟨L, cl, xs, css, ?_, hbr, fun _ _ _ _ h => h⟩
      dsimp only
      rw [hN.out]
    skip
    have e1 : decide ((0 : Int) < (v : Int)) = true := decide_eq_true (by omega)
    have e1' : decide (0 < v) = true := decide_eq_true (by omega)
    have e2 : ((v : Int) == 0) = false := by rw [beq_eq_false_iff_ne]; omega
    have e2' : (v == 0) = false := by rw [beq_eq_false_iff_ne]; omega
    have e3 : decide ((pl : Int) ≤ (v : Int)) = true := decide_eq_true (by omega)
    have e3' : decide (pl ≤ v) = true := decide_eq_true (by omega)
    have e4 : decide ((v : Int) < (pl : Int)) = false := decide_eq_false (by omega)
    have e4' : decide (v < pl) = false := decide_eq_false (by omega)
    have e5 : decide ((N : Int) < 400) = true := decide_eq_true (by omega)
    have e5' : decide (N < 400) = true := decide_eq_true (by omega)
    have e6 : decide ((400 : Int) ≤ (N : Int)) = false := decide_eq_false (by omega)
    have hOe : O = true := by rw [← hO.out]; unfold stepOk; rw [if_neg (show ¬ ((2 : Int) = 1) by decide), if_pos rfl]; dsimp only; rw [hpl.out, hN.out]; exact decide_eq_true (by omega)
    have hDe : D = ⟨sv, sl, log ++ [(v, ⟨c1, s1, n1, g, m, l.map cleanV⟩)], su⟩ := by rw [← hD.out]; unfold stepD; rw [hO.out, hOe]; rw [if_pos rfl, if_neg (show ¬ ((2 : Int) = 1) by decide), if_pos rfl]; rfl
    subst hOe hDe
    clear hO hD
    go_wp2_with fail
    refine wp_region_lex (fun W => Below w4.heap.size w4 W) [1, 5, 7, 13] [8] [0, 1, 2, 3, 4, 5, 6, 7, 8, 9, 10, 11, 12, 13, 14, 15, 16, 17] (by kernel_rfl) rfl (by kernel_rfl) (by kernel_rfl) (fun _ _ d _ _ h => by cases d <;> exact h) ?_
    repeat (first | (refine lexG_take _ ?_ rfl rfl rfl rfl (fun _ => ?_) ?_; rotate_left; (focus (go_simp; with_reducible rfl)); try simp only [Act.put, List.setIfInBounds_toArray, List.set_cons_zero, List.set_cons_succ]) | (refine lexG_held _ ?_ rfl rfl rfl rfl (by assumption) (fun _ hSw => ?_) ?_; rotate_left; (focus (have h1 := (hr4.below hSw hr4.lt).rec9; have h2 := (hs4.below hSw hs4.lt).st4; clear hSw; go_simp; with_reducible rfl)); try simp only [Act.put, List.setIfInBounds_toArray, List.set_cons_zero, List.set_cons_succ]) | (refine lexG_skip _ rfl rfl (by assumption) ?_; try simp only [Act.put, List.setIfInBounds_toArray, List.set_cons_zero, List.set_cons_succ]))
    refine lexG_now _ rfl rfl rfl (fun K0 hK => ?_)
    have hp := hlast.out w4.drew (below_then hS0 hb4)
    go_wp2_with fail
    refine hp.mono ?_
    clear hp
    rintro e w5 ⟨rfl, rfl⟩
    dsimp only
    refine hK _ _ _ (fun _ h => h) hS0 ?_
    clear hK K0
    try simp only [Act.put, List.setIfInBounds_toArray, List.set_cons_zero, List.set_cons_succ]
    repeat (first | (refine lexG_take _ ?_ rfl rfl rfl rfl (fun _ => ?_) ?_; rotate_left; (focus (go_simp; with_reducible rfl)); try simp only [Act.put, List.setIfInBounds_toArray, List.set_cons_zero, List.set_cons_succ]) | (refine lexG_held _ ?_ rfl rfl rfl rfl (by assumption) (fun _ hSw => ?_) ?_; rotate_left; (focus (have h1 := (hr4.below hSw hr4.lt).rec9; have h2 := (hs4.below hSw hs4.lt).st4; clear hSw; go_simp; with_reducible rfl)); try simp only [Act.put, List.setIfInBounds_toArray, List.set_cons_zero, List.set_cons_succ]) | (refine lexG_skip _ rfl rfl (by assumption) ?_; try simp only [Act.put, List.setIfInBounds_toArray, List.set_cons_zero, List.set_cons_succ]))
    refine lexG_nil ?_
    clear hS0
    generalize hwd : w4.drew = wd at *
    have hs5 : Blk wd z 49 #[.int .u64 (sv : Int), .int .u64 (sl : Int), .slice L N cl, .int .i64 su] := by rw [← hwd]; exact hs4.drew
    have hr5 : Blk wd y 40 #[.int .i64 2, .int .u64 (v : Int), .int .i64 n, .int .u32 (c1 : Int), .int .u32 (s1 : Int), .int .u16 (n1 : Int), .string gg, .string mm, .slice A K cc] := by rw [← hwd]; exact hr4.drew
    have hz5 : Blk wd q 49 #[.int .u64 0, .int .u64 0, .slice none 0 0, .int .i64 0] := by rw [← hwd]; exact hz4.drew
    have ho5 : Blk wd r 49 #[.int .u64 (sv : Int), .int .u64 (sl : Int), .slice L N cl, .int .i64 su] := by rw [← hwd]; exact ho4.drew
    have hb5 : Below w.heap.size w wd := by rw [← hwd]; exact hb4.drew
    clear hwd hs4 hr4 hz4 ho4 hb4 hrc hsc
    have hrl := ho5.lt
    have hS0 : Below wd.heap.size wd wd.drew := (Below.refl _ _).drew
    go_wp2_with fail
    refine wp_region_lex (fun W => Below wd.heap.size wd W) [1, 4, 6] [2, 7, 9, 10, 12] [0, 1, 3, 4, 5, 6, 2, 7, 8, 9, 10, 11, 12] (by kernel_rfl) rfl (by kernel_rfl) (by kernel_rfl) (fun _ _ d _ _ h => by cases d <;> exact h) ?_
    repeat (first | (refine lexG_take _ ?_ rfl rfl rfl rfl (fun _ => ?_) ?_; rotate_left; (focus (go_simp; with_reducible rfl)); try simp only [Act.put, List.setIfInBounds_toArray, List.set_cons_zero, List.set_cons_succ]) | (refine lexG_held _ ?_ rfl rfl rfl rfl (by assumption) (fun _ hSw => ?_) ?_; rotate_left; (focus (have h1 := (hr5.below hSw hr5.lt).rec9; have h2 := (hs5.below hSw hs5.lt).st4; clear hSw; go_simp; with_reducible rfl)); try simp only [Act.put, List.setIfInBounds_toArray, List.set_cons_zero, List.set_cons_succ]) | (refine lexG_skip _ rfl rfl (by assumption) ?_; try simp only [Act.put, List.setIfInBounds_toArray, List.set_cons_zero, List.set_cons_succ]))
    refine lexG_now _ rfl rfl rfl (fun K0 hK => ?_)
    go_wp2_with fail
    refine (clip_log hcl hLn.out).mono ?_
    rintro e w5 ⟨rfl, rfl⟩
    dsimp only
    refine hK _ _ _ (fun _ h => h) hS0 ?_
    clear hK K0
    try simp only [Act.put, List.setIfInBounds_toArray, List.set_cons_zero, List.set_cons_succ]
    repeat (first | (refine lexG_take _ ?_ rfl rfl rfl rfl (fun _ => ?_) ?_; rotate_left; (focus (go_simp; with_reducible rfl)); try simp only [Act.put, List.setIfInBounds_toArray, List.set_cons_zero, List.set_cons_succ]) | (refine lexG_held _ ?_ rfl rfl rfl rfl (by assumption) (fun _ hSw => ?_) ?_; rotate_left; (focus (have h1 := (hr5.below hSw hr5.lt).rec9; have h2 := (hs5.below hSw hs5.lt).st4; clear hSw; go_simp; with_reducible rfl)); try simp only [Act.put, List.setIfInBounds_toArray, List.set_cons_zero, List.set_cons_succ]) | (refine lexG_skip _ rfl rfl (by assumption) ?_; try simp only [Act.put, List.setIfInBounds_toArray, List.set_cons_zero, List.set_cons_succ]))
    refine lexG_now _ rfl rfl rfl (fun K0 hK => ?_)
    have hp := clean_progV (hbs.out wd.drew (below_then hS0 hb5)) (Nat.le_trans hB (below_then hS0 hb5).size)
    go_wp2_with fail
    refine hp.mono ?_
    clear hp
    rintro e w6 ⟨A6, c6, xs6, css6, rfl, R6, hb6⟩
    dsimp only
    have hS6 := below_then hb6 hS0
    refine hK _ _ _ (fun _ h => h) hS6 ?_
    clear hK K0
    try simp only [Act.put, List.setIfInBounds_toArray, List.set_cons_zero, List.set_cons_succ]
    repeat (first | (refine lexG_take _ ?_ rfl rfl rfl rfl (fun _ => ?_) ?_; rotate_left; (focus (go_simp; with_reducible rfl)); try simp only [Act.put, List.setIfInBounds_toArray, List.set_cons_zero, List.set_cons_succ]) | (refine lexG_held _ ?_ rfl rfl rfl rfl (by assumption) (fun _ hSw => ?_) ?_; rotate_left; (focus (have h1 := (hr5.below hSw hr5.lt).rec9; have h2 := (hs5.below hSw hs5.lt).st4; clear hSw; go_simp; with_reducible rfl)); try simp only [Act.put, List.setIfInBounds_toArray, List.set_cons_zero, List.set_cons_succ]) | (refine lexG_skip _ rfl rfl (by assumption) ?_; try simp only [Act.put, List.setIfInBounds_toArray, List.set_cons_zero, List.set_cons_succ]))
    have hS7 := hS6.alloc hS6.size (.cells #[.int .u64 (v : Int), .int .u32 (c1 : Int), .int .u32 (s1 : Int), .int .u16 (n1 : Int), .string gg, .string mm, .slice A6 K c6] 42)
    have hsrc := Reads.lit (size := 7) w6 #[.int .u64 (v : Int), .int .u32 (c1 : Int), .int .u32 (s1 : Int), .int .u16 (n1 : Int), .string gg, .string mm, .slice A6 K c6] 42 (0, 0) 1 [.int .u64 (v : Int), .int .u32 (c1 : Int), .int .u32 (s1 : Int), .int .u16 (n1 : Int), .string gg, .string mm, .slice A6 K c6] rfl rfl
    have R7 := R6.upd ((Upd.refl (fun x => x = r ∨ x = q) w6).alloc (.cells #[.int .u64 (v : Int), .int .u32 (c1 : Int), .int .u32 (s1 : Int), .int .u16 (n1 : Int), .string gg, .string mm, .slice A6 K c6] 42)) (fun g hg e => by have hg' : wd.heap.size ≤ g := hg; omega)
    refine lexG_now _ rfl rfl rfl (fun K0 hK => ?_)
    go_wp2_with fail
    generalize hw7 : w6.alloc (.cells #[.int .u64 (v : Int), .int .u32 (c1 : Int), .int .u32 (s1 : Int), .int .u16 (n1 : Int), .string gg, .string mm, .slice A6 K c6] 42) = w7 at *
    have hw7s : w7.heap.size = w6.heap.size + 1 := by rw [← hw7]; simp
    refine hK _ _ _ (fun _ h => h) hS7 ?_
    clear hK K0
    try simp only [Act.put, List.setIfInBounds_toArray, List.set_cons_zero, List.set_cons_succ]
    repeat (first | (refine lexG_take _ ?_ rfl rfl rfl rfl (fun _ => ?_) ?_; rotate_left; (focus (go_simp; with_reducible rfl)); try simp only [Act.put, List.setIfInBounds_toArray, List.set_cons_zero, List.set_cons_succ]) | (refine lexG_held _ ?_ rfl rfl rfl rfl (by assumption) (fun _ hSw => ?_) ?_; rotate_left; (focus (have h1 := (hr5.below hSw hr5.lt).rec9; have h2 := (hs5.below hSw hs5.lt).st4; clear hSw; go_simp; with_reducible rfl)); try simp only [Act.put, List.setIfInBounds_toArray, List.set_cons_zero, List.set_cons_succ]) | (refine lexG_skip _ rfl rfl (by assumption) ?_; try simp only [Act.put, List.setIfInBounds_toArray, List.set_cons_zero, List.set_cons_succ]))
    have hlw := (hlog0.out.below ((below_then hS7 hb5).mono hB)).r
    rw [hN.out] at hlw
    obtain ⟨i0, hi, hz0, hz1, hz2⟩ := info_parts info_ent
    refine lexG_now _ rfl rfl rfl (fun K0 hK => ?_)
    refine wp_append_grows _ _ 27 27 rfl 42 i0 _ 7 80 Try.underlying27 hi hz0 hz1 hz2 rfl rfl (Grows.full hlw (Nat.le_trans hB (below_then hS7 hb5).size) (Nat.le_refl _)) rfl (Src.ofReads Try.underlying27 _ hsrc (by intro u hu; simp at hu; rcases hu with rfl | rfl | rfl | rfl | rfl | rfl | rfl <;> rfl)) (by decide) (by unfold maxLen; omega) (by omega) (fun A8 c8 w8 ho8 hg8 hat8 => ?_)
    have hb78 : Below w7.heap.size w7 w8 := (Below.refl _ _).grown hg8 (Nat.le_refl _) (fun k hk => by cases hk)
    have hS8 := below_then hb78 hS7
    have hb8 := below_then hS8 hb5
    have hs67 := hb6.size
    have hsd := hS0.size
    have hA8 : bOf A8 = some w7.heap.size := by
      rcases hat8 with h | h
      · exfalso
        rcases ho8.2 with ⟨_, h0, _⟩ | ⟨g, cur, hA, _⟩
        · omega
        · rw [hA] at h; cases h
      · exact h
    refine hK _ _ _ (fun _ h => h) hS8 ?_
    clear hK K0
    try simp only [Act.put, List.setIfInBounds_toArray, List.set_cons_zero, List.set_cons_succ]
    repeat (first | (refine lexG_take _ ?_ rfl rfl rfl rfl (fun _ => ?_) ?_; rotate_left; (focus (go_simp; with_reducible rfl)); try simp only [Act.put, List.setIfInBounds_toArray, List.set_cons_zero, List.set_cons_succ]) | (refine lexG_held _ ?_ rfl rfl rfl rfl (by assumption) (fun _ hSw => ?_) ?_; rotate_left; (focus (have h1 := (hr5.below hSw hr5.lt).rec9; have h2 := (hs5.below hSw hs5.lt).st4; clear hSw; go_simp; with_reducible rfl)); try simp only [Act.put, List.setIfInBounds_toArray, List.set_cons_zero, List.set_cons_succ]) | (refine lexG_skip _ rfl rfl (by assumption) ?_; try simp only [Act.put, List.setIfInBounds_toArray, List.set_cons_zero, List.set_cons_succ]))
    have hs8 := hs5.below hS8 hs5.lt
    have hz8 := (hz5.below hS8 hz5.lt).far (p := ⟨r, 2, none⟩) (show q ≠ r by omega) (.slice A8 (N + 1) c8)
    have hs9 := hs8.far (p := ⟨r, 2, none⟩) (show z ≠ r by omega) (.slice A8 (N + 1) c8)
    have ho8' := ho5.below hS8 ho5.lt
    have hf0 := ho8'.frozen 2
    have hc0 := ho8'.st4
    have hs8c := hs8.st4
    have ho9 : Blk (w8.setCell ⟨r, 2, none⟩ (.slice A8 (N + 1) c8)) r 49 #[.int .u64 (sv : Int), .int .u64 (sl : Int), .slice A8 (N + 1) c8, .int .i64 su] := ho8'.set_ 2 (.slice A8 (N + 1) c8)
    have hb9 := hb8.setCell (p := ⟨r, 2, none⟩) hwr (.slice A8 (N + 1) c8)
    have hO9 := ho8.upd ((Upd.refl (fun x => x = r ∨ x = q) w8).setCell (p := ⟨r, 2, none⟩) (fun _ => .inl rfl) (.slice A8 (N + 1) c8)) (fun g hg e => by rw [hA8] at hg; cases hg; omega)
    have R8 := (R7.upd (Upd.of_below_size hb78) (fun g hg e => by have hg' : wd.heap.size ≤ g := hg; omega)).upd ((Upd.refl (fun x => x = r ∨ x = q) w8).setCell (p := ⟨r, 2, none⟩) (fun _ => .inl rfl) (.slice A8 (N + 1) c8)) (fun g hg e => by have hg' : wd.heap.size ≤ g := hg; omega)
    refine lexG_nowF _ rfl rfl rfl (by kernel_rfl) (fun K0 hK => ?_)
    go_simp
    generalize w8.setCell ⟨r, 2, none⟩ (.slice A8 (N + 1) c8) = w9 at *
    refine hK _ _ ?_
    clear hK K0
    refine lexG_nil ?_
    have hco := ho9.st4
    have hcs := hs9.st4
    clear hf0 hc0 hs8c hlw hsrc
    go_upto_region 19 with (fail)
    have hOr := hO9.upd ((Upd.refl (fun x => x = r ∨ x = q) w9).setRow (g := q) (fun _ => .inr rfl) #[.int .u64 (sv : Int), .int .u64 (sl : Int), .slice A8 (N + 1) c8, .int .i64 su]) (fun g hg e => by rw [hA8] at hg; cases hg; omega)
    have Rr := R8.upd ((Upd.refl (fun x => x = r ∨ x = q) w9).setRow (g := q) (fun _ => .inr rfl) #[.int .u64 (sv : Int), .int .u64 (sl : Int), .slice A8 (N + 1) c8, .int .i64 su]) (fun g hg e => by have hg' : wd.heap.size ≤ g := hg; omega)
    have hzr := hz8.row #[.int .u64 (sv : Int), .int .u64 (sl : Int), .slice A8 (N + 1) c8, .int .i64 su]
    have hbr := below_row hb9 (g := q) hwq #[.int .u64 (sv : Int), .int .u64 (sl : Int), .slice A8 (N + 1) c8, .int .i64 su]
    go_wp2_with (refine store_row_gen rfl 49 (Operand.tmp 4) _ rfl q #[.int .u64 (sv : Int), .int .u64 (sl : Int), .slice A8 (N + 1) c8, .int .i64 su] (by simp [go_sem]) (by simp [go_sem]) 49 _ hz8 (by kernel_rfl) rfl (by simp [Value.oneCell']) (fun w9 hw9 => ?_); rw [← hw9] at hzr hbr hOr Rr; clear hw9)
    refine bodyPost_ret (v := .tuple #[.agg #[.int .u64 (sv : Int), .int .u64 (sl : Int), .slice A8 (N + 1) c8, .int .i64 su], .bool true]) (by exact results_ct rfl _ _ q 49 _ (0, 0) _ _ rfl rfl hzr Try.underlying49 rfl (by kernel_rfl)) rfl ?_
    refine ⟨A8, c8, _, _, ?_, hbr, fun S W hu hSu h => h.push (o := ⟨c1, s1, n1, g, m, l.map cleanV⟩) (Below.refl _ _) (Nat.le_refl _) (by rw [hN.out]; exact hOr.upd hu (fun g hg e => by rw [hA8] at hg; cases hg; have := hSu _ e; have := hb5.size; omega)) (op_of_clean hop0.out (Rr.upd hu (fun g hg e => by have hg' : wd.heap.size ≤ g := hg; have := hSu g e; have := hb5.size; omega))) hv⟩
    dsimp only
    rw [List.length_append, hN.out]
    rfl
  by_cases hk3 : k = 3
  · subst hk3
    by_cases hlo : n < su
    · skip
      have e1 : decide (su ≤ n) = false := decide_eq_false (by omega)
      have e2 : decide (n < su) = true := decide_eq_true hlo
      have hOe : O = false := by rw [← hO.out]; unfold stepOk; rw [if_neg (show ¬ ((3 : Int) = 1) by decide), if_neg (show ¬ ((3 : Int) = 2) by decide), if_pos (show ((3 : Int) = 3 ∨ (3 : Int) = 4) by decide)]; dsimp only; rw [hN.out]; exact decide_eq_false (by omega)
      have hDe : D = ⟨sv, sl, log, su⟩ := by rw [← hD.out]; unfold stepD; rw [hO.out, hOe]; rw [if_neg (by decide)]
      subst hOe hDe
      clear hO hD
      have hzr := hz4.row #[.int .u64 (sv : Int), .int .u64 (sl : Int), .slice L N cl, .int .i64 su]
      have hbr := below_row hb4 (g := q) hwq #[.int .u64 (sv : Int), .int .u64 (sl : Int), .slice L N cl, .int .i64 su]
      go_wp2_with (refine store_row_gen rfl 49 (Operand.tmp 4) _ rfl q #[.int .u64 (sv : Int), .int .u64 (sl : Int), .slice L N cl, .int .i64 su] (by simp [go_sem]) (by simp [go_sem]) 49 _ hz4 (by kernel_rfl) rfl (by simp [Value.oneCell']) (fun w9 hw9 => ?_); rw [← hw9] at hzr hbr; clear hw9)
      refine bodyPost_ret (v := .tuple #[.agg #[.int .u64 (sv : Int), .int .u64 (sl : Int), .slice L N cl, .int .i64 su], .bool false]) (by exact results_ct rfl _ _ q 49 _ (0, 0) _ _ rfl rfl hzr Try.underlying49 rfl (by kernel_rfl)) rfl ?_
      refine ⟨L, cl, xs, css, ?_, hbr, fun _ _ _ _ h => h⟩
      dsimp only
      rw [hN.out]
    by_cases hhi : (N : Int) < n
    · skip
      have e1 : decide (su ≤ n) = true := decide_eq_true (by omega)
      have e2 : decide (n < su) = false := decide_eq_false (by omega)
      have e3 : decide (n ≤ (N : Int)) = false := decide_eq_false (by omega)
      have e4 : decide ((N : Int) < n) = true := decide_eq_true hhi
      have hOe : O = false := by rw [← hO.out]; unfold stepOk; rw [if_neg (show ¬ ((3 : Int) = 1) by decide), if_neg (show ¬ ((3 : Int) = 2) by decide), if_pos (show ((3 : Int) = 3 ∨ (3 : Int) = 4) by decide)]; dsimp only; rw [hN.out]; exact decide_eq_false (by omega)
      have hDe : D = ⟨sv, sl, log, su⟩ := by rw [← hD.out]; unfold stepD; rw [hO.out, hOe]; rw [if_neg (by decide)]
      subst hOe hDe
      clear hO hD
      have hzr := hz4.row #[.int .u64 (sv : Int), .int .u64 (sl : Int), .slice L N cl, .int .i64 su]
      have hbr := below_row hb4 (g := q) hwq #[.int .u64 (sv : Int), .int .u64 (sl : Int), .slice L N cl, .int .i64 su]
      go_wp2_with (refine store_row_gen rfl 49 (Operand.tmp 4) _ rfl q #[.int .u64 (sv : Int), .int .u64 (sl : Int), .slice L N cl, .int .i64 su] (by simp [go_sem]) (by simp [go_sem]) 49 _ hz4 (by kernel_rfl) rfl (by simp [Value.oneCell']) (fun w9 hw9 => ?_); rw [← hw9] at hzr hbr; clear hw9)
      refine bodyPost_ret (v := .tuple #[.agg #[.int .u64 (sv : Int), .int .u64 (sl : Int), .slice L N cl, .int .i64 su], .bool false]) (by exact results_ct rfl _ _ q 49 _ (0, 0) _ _ rfl rfl hzr Try.underlying49 rfl (by kernel_rfl)) rfl ?_
      refine ⟨L, cl, xs, css, ?_, hbr, fun _ _ _ _ h => h⟩
      dsimp only
      rw [hN.out]
    by_cases hneg : n < 0
    · skip
      exact absurd hsu0 (by omega)
    obtain ⟨j, rfl⟩ : ∃ j : Nat, n = (j : Int) := ⟨n.toNat, by omega⟩
    have hjN : j ≤ N := by omega
    have hjc : j ≤ cl := by omega
    have e1 : decide (su ≤ (j : Int)) = true := decide_eq_true (by omega)
    have e2 : decide ((j : Int) < su) = false := decide_eq_false (by omega)
    have e3 : decide ((j : Int) ≤ (N : Int)) = true := decide_eq_true (by omega)
    have e4 : decide ((N : Int) < (j : Int)) = false := decide_eq_false (by omega)
    have e3' : decide (j ≤ N) = true := decide_eq_true (by omega)
    have e4' : decide (N < j) = false := decide_eq_false (by omega)
    have hOe : O = true := by rw [← hO.out]; unfold stepOk; rw [if_neg (show ¬ ((3 : Int) = 1) by decide), if_neg (show ¬ ((3 : Int) = 2) by decide), if_pos (show ((3 : Int) = 3 ∨ (3 : Int) = 4) by decide)]; dsimp only; rw [hN.out]; exact decide_eq_true (by omega)
    have hDe : D = ⟨sv, sl, log.take j, su⟩ := by rw [← hD.out]; unfold stepD; rw [hO.out, hOe]; rw [if_pos rfl, if_neg (show ¬ ((3 : Int) = 1) by decide), if_neg (show ¬ ((3 : Int) = 2) by decide), if_pos rfl]; rfl
    subst hOe hDe
    clear hO hD
    have hll2 : (log.take j).length = j := by rw [List.length_take, hN.out]; omega
    replace hll2 := Lib.hid hll2
    replace hjN := Lib.hid hjN
    have hlr := hlog0.out.first (k := j) (by rw [hN.out]; exact hjN.out)
    have hre : ∀ W, Below w.heap.size w W → Reads W B 7 L j (xs.take (j * 7)) := fun W hW => by
      have h := (hlr.below (hW.mono hB)).r
      rw [hll2.out] at h
      exact h
    have hclo := clone_log (c := cl) (hre w4 hb4) hlr.one (Nat.le_trans hB hb4.size) (by omega)
    replace hlr := Lib.hid hlr
    replace hclo := Lib.hid hclo
    clear hre
    go_wp2_with fail
    refine hclo.out.mono ?_
    rintro e w5 ⟨A5, c5, rfl, ho5, hb5, hg5⟩
    dsimp only
    have hz5 := hz4.below hb5 hz4.lt
    have ho5' := ho4.below hb5 ho4.lt
    have hb5' := below_then hb5 hb4
    have hrl := ho4.lt
    have hzl := hz4.lt
    have hf0 := ho5'.frozen 2
    have hc0 := ho5'.st4
    have hz6 := hz5.far (p := ⟨r, 2, none⟩) (show q ≠ r by omega) (.slice A5 j c5)
    have ho6 : Blk (w5.setCell ⟨r, 2, none⟩ (.slice A5 j c5)) r 49 #[.int .u64 (sv : Int), .int .u64 (sl : Int), .slice A5 j c5, .int .i64 su] := ho5'.set_ 2 (.slice A5 j c5)
    have hb6 := hb5'.setCell (p := ⟨r, 2, none⟩) hwr (.slice A5 j c5)
    have hco := ho6.st4
    have hO6 := ho5.upd ((Upd.refl (fun x => x = r ∨ x = q) w5).setCell (p := ⟨r, 2, none⟩) (fun _ => .inl rfl) (.slice A5 j c5)) (fun g hg e => by have := hg5 g hg; omega)
    go_upto_region 19 with (fail)
    generalize w5.setCell ⟨r, 2, none⟩ (.slice A5 j c5) = w6 at *
    have hOr := hO6.upd ((Upd.refl (fun x => x = r ∨ x = q) w6).setRow (g := q) (fun _ => .inr rfl) #[.int .u64 (sv : Int), .int .u64 (sl : Int), .slice A5 j c5, .int .i64 su]) (fun g hg e => by have := hg5 g hg; omega)
    have hzr := hz6.row #[.int .u64 (sv : Int), .int .u64 (sl : Int), .slice A5 j c5, .int .i64 su]
    have hbr := below_row hb6 (g := q) hwq #[.int .u64 (sv : Int), .int .u64 (sl : Int), .slice A5 j c5, .int .i64 su]
    go_wp2_with (refine store_row_gen rfl 49 (Operand.tmp 4) _ rfl q #[.int .u64 (sv : Int), .int .u64 (sl : Int), .slice A5 j c5, .int .i64 su] (by simp [go_sem]) (by simp [go_sem]) 49 _ hz6 (by kernel_rfl) rfl (by simp [Value.oneCell']) (fun w9 hw9 => ?_); rw [← hw9] at hzr hbr hOr; clear hw9)
    refine bodyPost_ret (v := .tuple #[.agg #[.int .u64 (sv : Int), .int .u64 (sl : Int), .slice A5 j c5, .int .i64 su], .bool true]) (by exact results_ct rfl _ _ q 49 _ (0, 0) _ _ rfl rfl hzr Try.underlying49 rfl (by kernel_rfl)) rfl ?_
    refine ⟨A5, c5, xs.take (j * 7), css, ?_, hbr, fun S W hu hSu h => ?_⟩
    · dsimp only
      rw [hll2.out]
    · refine (h.first (k := j) (by rw [hN.out]; exact hjN.out)).move (Below.refl _ _) (Nat.le_refl _) ?_
      rw [hll2.out]
      exact hOr.upd hu (fun g hg e => by have := hg5 g hg; have := hSu g e; have := hb4.size; omega)
  by_cases hk4 : k = 4
  · subst hk4
    by_cases hlo : n < su
    · skip
      have e1 : decide (su ≤ n) = false := decide_eq_false (by omega)
      have e2 : decide (n < su) = true := decide_eq_true hlo
      have hOe : O = false := by rw [← hO.out]; unfold stepOk; rw [if_neg (show ¬ ((4 : Int) = 1) by decide), if_neg (show ¬ ((4 : Int) = 2) by decide), if_pos (show ((4 : Int) = 3 ∨ (4 : Int) = 4) by decide)]; dsimp only; rw [hN.out]; exact decide_eq_false (by omega)
      have hDe : D = ⟨sv, sl, log, su⟩ := by rw [← hD.out]; unfold stepD; rw [hO.out, hOe]; rw [if_neg (by decide)]
      subst hOe hDe
      clear hO hD
      have hs_0 := hs4.far (p := ⟨r, 3, none⟩) (show z ≠ r by omega) (.int .i64 n)
      have hr_0 := hr4.far (p := ⟨r, 3, none⟩) (show y ≠ r by omega) (.int .i64 n)
      have hz_0 := hz4.far (p := ⟨r, 3, none⟩) (show q ≠ r by omega) (.int .i64 n)
      have hf0 := ho4.frozen 3
      have hc0 := ho4.st4
      have ho_0 : Blk ((w4).setCell ⟨r, 3, none⟩ (.int .i64 n)) r 49 #[.int .u64 (sv : Int), .int .u64 (sl : Int), .slice L N cl, .int .i64 n] := ho4.set_ 3 (.int .i64 n)
      have hb_0 := hb4.setCell (p := ⟨r, 3, none⟩) hwr (.int .i64 n)
      have hrc0 := hr_0.rec9
      have hsc0 := hs_0.st4
      have hcL := ho_0.st4
      go_upto_region 19 with (fail)
      generalize (w4).setCell ⟨r, 3, none⟩ (.int .i64 n) = w5 at *
      have hsc5 := hs_0.st4
      have hzr := hz_0.row #[.int .u64 (sv : Int), .int .u64 (sl : Int), .slice L N cl, .int .i64 su]
      have hbr := below_row hb_0 (g := q) hwq #[.int .u64 (sv : Int), .int .u64 (sl : Int), .slice L N cl, .int .i64 su]
      go_wp2_with (refine store_row_gen rfl 49 (Operand.tmp 4) _ rfl q #[.int .u64 (sv : Int), .int .u64 (sl : Int), .slice L N cl, .int .i64 su] (by simp [go_sem]) (by simp [go_sem]) 49 _ hz_0 (by kernel_rfl) rfl (by simp [Value.oneCell']) (fun w9 hw9 => ?_); rw [← hw9] at hzr hbr; clear hw9)
      refine bodyPost_ret (v := .tuple #[.agg #[.int .u64 (sv : Int), .int .u64 (sl : Int), .slice L N cl, .int .i64 su], .bool false]) (by exact results_ct rfl _ _ q 49 _ (0, 0) _ _ rfl rfl hzr Try.underlying49 rfl (by kernel_rfl)) rfl ?_
      refine ⟨L, cl, xs, css, ?_, hbr, fun _ _ _ _ h => h⟩
      dsimp only
      rw [hN.out]
    by_cases hhi : (N : Int) < n
    · skip
      have e1 : decide (su ≤ n) = true := decide_eq_true (by omega)
      have e2 : decide (n < su) = false := decide_eq_false (by omega)
      have e3 : decide (n ≤ (N : Int)) = false := decide_eq_false (by omega)
      have e4 : decide ((N : Int) < n) = true := decide_eq_true hhi
      have hOe : O = false := by rw [← hO.out]; unfold stepOk; rw [if_neg (show ¬ ((4 : Int) = 1) by decide), if_neg (show ¬ ((4 : Int) = 2) by decide), if_pos (show ((4 : Int) = 3 ∨ (4 : Int) = 4) by decide)]; dsimp only; rw [hN.out]; exact decide_eq_false (by omega)
      have hDe : D = ⟨sv, sl, log, su⟩ := by rw [← hD.out]; unfold stepD; rw [hO.out, hOe]; rw [if_neg (by decide)]
      subst hOe hDe
      clear hO hD
      have hs_0 := hs4.far (p := ⟨r, 3, none⟩) (show z ≠ r by omega) (.int .i64 n)
      have hr_0 := hr4.far (p := ⟨r, 3, none⟩) (show y ≠ r by omega) (.int .i64 n)
      have hz_0 := hz4.far (p := ⟨r, 3, none⟩) (show q ≠ r by omega) (.int .i64 n)
      have hf0 := ho4.frozen 3
      have hc0 := ho4.st4
      have ho_0 : Blk ((w4).setCell ⟨r, 3, none⟩ (.int .i64 n)) r 49 #[.int .u64 (sv : Int), .int .u64 (sl : Int), .slice L N cl, .int .i64 n] := ho4.set_ 3 (.int .i64 n)
      have hb_0 := hb4.setCell (p := ⟨r, 3, none⟩) hwr (.int .i64 n)
      have hrc0 := hr_0.rec9
      have hsc0 := hs_0.st4
      have hcL := ho_0.st4
      go_upto_region 19 with (fail)
      generalize (w4).setCell ⟨r, 3, none⟩ (.int .i64 n) = w5 at *
      have hsc5 := hs_0.st4
      have hzr := hz_0.row #[.int .u64 (sv : Int), .int .u64 (sl : Int), .slice L N cl, .int .i64 su]
      have hbr := below_row hb_0 (g := q) hwq #[.int .u64 (sv : Int), .int .u64 (sl : Int), .slice L N cl, .int .i64 su]
      go_wp2_with (refine store_row_gen rfl 49 (Operand.tmp 4) _ rfl q #[.int .u64 (sv : Int), .int .u64 (sl : Int), .slice L N cl, .int .i64 su] (by simp [go_sem]) (by simp [go_sem]) 49 _ hz_0 (by kernel_rfl) rfl (by simp [Value.oneCell']) (fun w9 hw9 => ?_); rw [← hw9] at hzr hbr; clear hw9)
      refine bodyPost_ret (v := .tuple #[.agg #[.int .u64 (sv : Int), .int .u64 (sl : Int), .slice L N cl, .int .i64 su], .bool false]) (by exact results_ct rfl _ _ q 49 _ (0, 0) _ _ rfl rfl hzr Try.underlying49 rfl (by kernel_rfl)) rfl ?_
      refine ⟨L, cl, xs, css, ?_, hbr, fun _ _ _ _ h => h⟩
      dsimp only
      rw [hN.out]
    skip
    have e1 : decide (su ≤ n) = true := decide_eq_true (by omega)
    have e2 : decide (n < su) = false := decide_eq_false (by omega)
    have e3 : decide (n ≤ (N : Int)) = true := decide_eq_true (by omega)
    have e4 : decide ((N : Int) < n) = false := decide_eq_false (by omega)
    have hOe : O = true := by rw [← hO.out]; unfold stepOk; rw [if_neg (show ¬ ((4 : Int) = 1) by decide), if_neg (show ¬ ((4 : Int) = 2) by decide), if_pos (show ((4 : Int) = 3 ∨ (4 : Int) = 4) by decide)]; dsimp only; rw [hN.out]; exact decide_eq_true (by omega)
    have hDe : D = ⟨sv, sl, log, n⟩ := by rw [← hD.out]; unfold stepD; rw [hO.out, hOe]; rw [if_pos rfl, if_neg (show ¬ ((4 : Int) = 1) by decide), if_neg (show ¬ ((4 : Int) = 2) by decide), if_neg (show ¬ ((4 : Int) = 3) by decide)]
    subst hOe hDe
    clear hO hD
    have hs_0 := hs4.far (p := ⟨r, 3, none⟩) (show z ≠ r by omega) (.int .i64 n)
    have hr_0 := hr4.far (p := ⟨r, 3, none⟩) (show y ≠ r by omega) (.int .i64 n)
    have hz_0 := hz4.far (p := ⟨r, 3, none⟩) (show q ≠ r by omega) (.int .i64 n)
    have hf0 := ho4.frozen 3
    have hc0 := ho4.st4
    have ho_0 : Blk ((w4).setCell ⟨r, 3, none⟩ (.int .i64 n)) r 49 #[.int .u64 (sv : Int), .int .u64 (sl : Int), .slice L N cl, .int .i64 n] := ho4.set_ 3 (.int .i64 n)
    have hb_0 := hb4.setCell (p := ⟨r, 3, none⟩) hwr (.int .i64 n)
    have hrc0 := hr_0.rec9
    have hsc0 := hs_0.st4
    have hcL := ho_0.st4
    go_upto_region 19 with (fail)
    generalize (w4).setCell ⟨r, 3, none⟩ (.int .i64 n) = w5 at *
    have hsc5 := hs_0.st4
    have hzr := hz_0.row #[.int .u64 (sv : Int), .int .u64 (sl : Int), .slice L N cl, .int .i64 n]
    have hbr := below_row hb_0 (g := q) hwq #[.int .u64 (sv : Int), .int .u64 (sl : Int), .slice L N cl, .int .i64 n]
    go_wp2_with (refine store_row_gen rfl 49 (Operand.tmp 4) _ rfl q #[.int .u64 (sv : Int), .int .u64 (sl : Int), .slice L N cl, .int .i64 n] (by simp [go_sem]) (by simp [go_sem]) 49 _ hz_0 (by kernel_rfl) rfl (by simp [Value.oneCell']) (fun w9 hw9 => ?_); rw [← hw9] at hzr hbr; clear hw9)
    refine bodyPost_ret (v := .tuple #[.agg #[.int .u64 (sv : Int), .int .u64 (sl : Int), .slice L N cl, .int .i64 n], .bool true]) (by exact results_ct rfl _ _ q 49 _ (0, 0) _ _ rfl rfl hzr Try.underlying49 rfl (by kernel_rfl)) rfl ?_
    refine ⟨L, cl, xs, css, ?_, hbr, fun _ _ _ _ h => h⟩
    dsimp only
    rw [hN.out]
  have d1 : (k == 1) = false := by rw [beq_eq_false_iff_ne]; exact hk1
  have d2 : (k == 2) = false := by rw [beq_eq_false_iff_ne]; exact hk2
  have d3 : (k == 3) = false := by rw [beq_eq_false_iff_ne]; exact hk3
  have d4 : (k == 4) = false := by rw [beq_eq_false_iff_ne]; exact hk4
  have hOe : O = false := by rw [← hO.out]; unfold stepOk; rw [if_neg hk1, if_neg hk2, if_neg (fun h => h.elim hk3 hk4)]
  have hDe : D = ⟨sv, sl, log, su⟩ := by rw [← hD.out]; unfold stepD; rw [hO.out, hOe]; rw [if_neg (by decide)]
  subst hOe hDe
  clear hO hD
  have hzr := hz4.row #[.int .u64 (sv : Int), .int .u64 (sl : Int), .slice L N cl, .int .i64 su]
  have hbr := below_row hb4 (g := q) hwq #[.int .u64 (sv : Int), .int .u64 (sl : Int), .slice L N cl, .int .i64 su]
  go_wp2_with (refine store_row_gen rfl 49 (Operand.tmp 4) _ rfl q #[.int .u64 (sv : Int), .int .u64 (sl : Int), .slice L N cl, .int .i64 su] (by simp [go_sem]) (by simp [go_sem]) 49 _ hz4 (by kernel_rfl) rfl (by simp [Value.oneCell']) (fun w9 hw9 => ?_); rw [← hw9] at hzr hbr; clear hw9)
  refine bodyPost_ret (v := .tuple #[.agg #[.int .u64 (sv : Int), .int .u64 (sl : Int), .slice L N cl, .int .i64 su], .bool false]) (by exact results_ct rfl _ _ q 49 _ (0, 0) _ _ rfl rfl hzr Try.underlying49 rfl (by kernel_rfl)) rfl ?_
  refine ⟨L, cl, xs, css, ?_, hbr, fun _ _ _ _ h => h⟩
  dsimp only
  rw [hN.out]
end Go.Proofs.Ytlkokkbikkbaoaa
