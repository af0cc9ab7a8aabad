/- choirlaw26.Rep.report; literal logs; choirlaw26.known. -/
import Derived.Test.YtfmmabkekjchjaaVl8
set_option linter.unusedSimpArgs false
set_option linter.unusedVariables false
namespace Go.Proofs.Ytfmmabkekjchjaa
open Go.RowKit
set_option maxRecDepth 100000

/-- A report of few numbers, its log in new memory. -/
def RepN (w : World) (f v s N : Nat) (e : Ending) (w' : World) : Prop :=
  ∃ (lg : List (Nat × OpD)) (xf xs_ : Int) (xv : Nat) (A : Option Addr) (c : Nat) (xs : List Value) (css : Nat → Array Value), e = .returned (.agg #[.int .i64 xf, .int .u64 (xv : Int), .slice A N c, .int .i64 xs_]) ∧ lg.length = N ∧ OkLog lg ∧ LogP w' (w.heap.size + 2) A c lg xs css ∧ Below w.heap.size w w' ∧ -1 ≤ xf ∧ xf ≤ 7 ∧ xv < 5

set_option maxHeartbeats 6400000 in
theorem report_walk {w : World} {B c f v s : Nat} {A : Option Addr} {l : List UInt8} (h : Reads w B 1 A l.length (bys l)) (hB : B ≤ w.heap.size) (hl : l.length ≤ 1000) (hf : f ≤ 255) (hv : v ≤ 255) (hs : s ≤ 255) :
    Calls Try.prog 8 #[.agg #[.int .u8 (f : Int), .int .u8 (v : Int), .int .u8 (s : Int), .slice A l.length c]] w (RepN w f v s l.length) := by
  have hlog := fun W (hW : Below w.heap.size w W) => log_walk (c := c) (h.below (hW.mono hB)) (Nat.le_trans hB hW.size) hl
  obtain ⟨N, hN⟩ : ∃ N, l.length = N := ⟨_, rfl⟩
  rw [hN] at hl hlog ⊢
  obtain ⟨xf, hxf⟩ : ∃ xf : Int, (f : Int) % 9 - 1 = xf := ⟨_, rfl⟩
  obtain ⟨xv, hxv⟩ : ∃ xv : Nat, (v : Int) % 5 = (xv : Int) := ⟨v % 5, by omega⟩
  obtain ⟨xs_, hxs⟩ : ∃ xs_ : Int, (s : Int) % 8 = xs_ := ⟨_, rfl⟩
  have t9 : (f : Int).tmod 9 = (f : Int) % 9 := Int.tmod_eq_emod_of_nonneg (by omega)
  have t5 : (v : Int).tmod 5 = (xv : Int) := by rw [Int.tmod_eq_emod_of_nonneg (by omega)]; exact hxv
  have t8 : (s : Int).tmod 8 = xs_ := by rw [Int.tmod_eq_emod_of_nonneg (by omega)]; exact hxs
  have hb0 : -1 ≤ xf ∧ xf ≤ 7 ∧ xv < 5 ∧ 0 ≤ xs_ ∧ xs_ ≤ 7 := by omega
  have w9 : IntKind.i64.wrap ((f : Int) % 9 - 1) = xf := by rw [IntKind.wrap_i64]; omega
  have w9' : IntKind.u8.wrap ((f : Int) % 9) = (f : Int) % 9 := by unfold IntKind.wrap; simp [IntKind.bits, IntKind.signed]; omega
  have w5' : IntKind.u8.wrap (xv : Int) = (xv : Int) := by unfold IntKind.wrap; simp [IntKind.bits, IntKind.signed]; omega
  have w8' : IntKind.u8.wrap xs_ = xs_ := by unfold IntKind.wrap; simp [IntKind.bits, IntKind.signed]; omega
  have w55 : IntKind.u64.wrap (xv : Int) = (xv : Int) := by unfold IntKind.wrap; simp [IntKind.bits, IntKind.signed]; omega
  have w99 : IntKind.i64.wrap ((f : Int) % 9) = (f : Int) % 9 := by rw [IntKind.wrap_i64]; omega
  have w88 : IntKind.i64.wrap xs_ = xs_ := by rw [IntKind.wrap_i64]; omega
  replace hlog := Lib.hid hlog
  replace hxf := Lib.hid hxf
  have hq1 := (Blk.new w 27 #[.int .u8 (f : Int), .int .u8 (v : Int), .int .u8 (s : Int), .slice A N c]).alloc (.cells #[.int .i64 0, .int .u64 0, .slice none 0 0, .int .i64 0] 31)
  have hz1 := Blk.new (w.alloc (.cells #[.int .u8 (f : Int), .int .u8 (v : Int), .int .u8 (s : Int), .slice A N c] 27)) 31 #[.int .i64 0, .int .u64 0, .slice none 0 0, .int .i64 0]
  rw [World.size_alloc] at hz1
  have hb1 := ((Below.refl w.heap.size w).alloc (Nat.le_refl _) (.cells #[.int .u8 (f : Int), .int .u8 (v : Int), .int .u8 (s : Int), .slice A N c] 27)).alloc (by simp) (.cells #[.int .i64 0, .int .u64 0, .slice none 0 0, .int .i64 0] 31)
  go_enter Try.func8, Try.ntmps8
  go_upto_region 1 with (fail)
  generalize (w.alloc (.cells #[.int .u8 (f : Int), .int .u8 (v : Int), .int .u8 (s : Int), .slice A N c] 27)).alloc (.cells #[.int .i64 0, .int .u64 0, .slice none 0 0, .int .i64 0] 31) = w1 at *
  have hS0 : Below w1.heap.size w1 w1.drew := (Below.refl _ _).drew
  have hql := hq1.lt
  have hzl := hz1.lt
  clear hxv hxs
  refine wp_region_lex (fun W => Below w1.heap.size w1 W) [1, 6, 10, 13] [11, 17] [0, 1, 2, 3, 4, 5, 6, 7, 8, 9, 10, 12, 13, 14, 15, 11, 16, 17] (by kernel_rfl) rfl (by kernel_rfl) (by kernel_rfl) (fun _ _ d _ _ h => by cases d <;> exact h) ?_
  repeat (first | (refine lexG_take _ ?_ rfl rfl rfl rfl (fun _ => ?_) ?_; rotate_left; (focus (go_simp; with_reducible rfl)); try simp only [Act.put, List.setIfInBounds_toArray, List.set_cons_zero, List.set_cons_succ]) | (refine lexG_held _ ?_ rfl rfl rfl rfl (by assumption) (fun _ hSw => ?_) ?_; rotate_left; (focus (have h1 := (hq1.below hSw hql).st4; clear hSw; go_simp; with_reducible rfl)); try simp only [Act.put, List.setIfInBounds_toArray, List.set_cons_zero, List.set_cons_succ]) | (refine lexG_skip _ rfl rfl (by assumption) ?_; try simp only [Act.put, List.setIfInBounds_toArray, List.set_cons_zero, List.set_cons_succ]))
  refine lexG_now _ rfl rfl rfl (fun K0 hK => ?_)
  go_wp2_with fail
  refine (hlog.out _ (below_then hS0 hb1)).mono ?_
  rintro e w6 ⟨lg, A6, c6, xs6, css6, rfl, hlen, hok, P6, hb6⟩
  try dsimp only
  have hS6 := below_then hb6 hS0
  refine hK _ _ _ (fun _ h => h) hS6 ?_
  clear hK K0
  try simp only [Act.put, List.setIfInBounds_toArray, List.set_cons_zero, List.set_cons_succ]
  repeat (first | (refine lexG_take _ ?_ rfl rfl rfl rfl (fun _ => ?_) ?_; rotate_left; (focus (go_simp; with_reducible rfl)); try simp only [Act.put, List.setIfInBounds_toArray, List.set_cons_zero, List.set_cons_succ]) | (refine lexG_held _ ?_ rfl rfl rfl rfl (by assumption) (fun _ hSw => ?_) ?_; rotate_left; (focus (have h1 := (hq1.below hSw hql).st4; clear hSw; go_simp; with_reducible rfl)); try simp only [Act.put, List.setIfInBounds_toArray, List.set_cons_zero, List.set_cons_succ]) | (refine lexG_skip _ rfl rfl (by assumption) ?_; try simp only [Act.put, List.setIfInBounds_toArray, List.set_cons_zero, List.set_cons_succ]))
  have hz6 := hz1.below hS6 hzl
  have hzr := hz6.row #[.int .i64 xf, .int .u64 (xv : Int), .slice A6 N c6, .int .i64 xs_]
  have hbz := below_row (below_then hS6 hb1) (g := w.heap.size + 1) (by omega) #[.int .i64 xf, .int .u64 (xv : Int), .slice A6 N c6, .int .i64 xs_]
  have P7 := P6.upd (b' := w.heap.size + 2) ((Upd.refl (fun g => g = w.heap.size + 1) w6).setRow (g := w.heap.size + 1) (fun _ => rfl) #[.int .i64 xf, .int .u64 (xv : Int), .slice A6 N c6, .int .i64 xs_]) (fun g hg => by have h1 : g = w.heap.size + 1 := hg; have h2 := hS0.size; omega) (by have := hS0.size; omega)
  refine lexG_nowF _ rfl rfl rfl (by kernel_rfl) (fun K0 hK => ?_)
  refine wp_store_row 31 (Operand.tmp 2) _ rfl (w.heap.size + 1) #[.int .i64 xf, .int .u64 (xv : Int), .slice A6 N c6, .int .i64 xs_] (by simp [go_sem]) (by simp [go_sem]) 31 _ hz6 (by kernel_rfl) rfl (by simp [Value.oneCell']) ?_
  generalize w6.setRow (w.heap.size + 1) #[.int .i64 xf, .int .u64 (xv : Int), .slice A6 N c6, .int .i64 xs_] = w7 at *
  go_simp
  refine hK _ _ ?_
  clear hK K0
  refine lexG_nil ?_
  go_wp2_with fail
  refine bodyPost_ret (v := .agg #[.int .i64 xf, .int .u64 (xv : Int), .slice A6 N c6, .int .i64 xs_]) ?hr rfl ⟨lg, xf, xs_, xv, A6, c6, xs6, css6, rfl, hlen, hok, P7, hbz, hb0.1, hb0.2.1, hb0.2.2.1⟩
  case hr => exact results_cell_row rfl _ _ (w.heap.size + 1) 31 _ (0, 0) _ rfl hzr Try.underlying31 rfl (by kernel_rfl)

/-- Entries whose calls have no arguments. -/
def entV (x : Nat × OpD) : List Value := [.int .u64 (x.1 : Int), .int .u32 (x.2.c : Int), .int .u32 (x.2.s : Int), .int .u16 (x.2.n : Int), .string (bstr x.2.g), .string (bstr x.2.m), .slice none 0 0]
def entRow (l : List (Nat × OpD)) : List Value := l.flatMap entV
theorem entRow_len (l : List (Nat × OpD)) : (entRow l).length = l.length * 7 := by
  unfold entRow
  induction l with
  | nil => rfl
  | cons x l ih => rw [List.flatMap_cons, List.length_append, ih, List.length_cons, show (entV x).length = 7 from rfl]; omega
theorem entRow_at (l : List (Nat × OpD)) (j : Nat) (x : Nat × OpD) (h : l[j]? = some x) : ((entRow l).drop (j * 7)).take 7 = entV x := by
  unfold entRow
  induction l generalizing j with
  | nil => cases h
  | cons y l ih =>
    have hey : (entV y).length = 7 := rfl
    rw [List.flatMap_cons]
    cases j with
    | zero =>
      simp at h
      subst h
      rw [Nat.zero_mul, List.drop_zero, List.take_append_of_le_length (by rw [hey]; omega)]
      rfl
    | succ j =>
      rw [List.getElem?_cons_succ] at h
      rw [Nat.succ_mul, Nat.add_comm, ← List.drop_drop, List.drop_left' hey]
      exact ih j h
theorem op_none (w : World) (B : Nat) {c s n : Nat} (g m : List UInt8) (hc : c < 4294967296) (hs : s < 4294967296) (hn : n < 65536) : OpReads w B ⟨c, s, n, g, m, []⟩ #[.int .u32 (c : Int), .int .u32 (s : Int), .int .u16 (n : Int), .string (bstr g), .string (bstr m), .slice none 0 0] :=
  ⟨none, 0, [], fun _ => #[], rfl, Reads.none_, by simp, by simp, by simp, by simp, hc, hs, hn⟩
theorem logR_flat {w : World} {B c : Nat} {A : Option Addr} {l : List (Nat × OpD)} (h : Reads w B 7 A l.length (entRow l)) (hc : l.length ≤ c) (hA : A = none → c = 0) (hx : ∀ x ∈ l, x.2.l = [] ∧ x.1 < 18446744073709551616 ∧ x.2.c < 4294967296 ∧ x.2.s < 4294967296 ∧ x.2.n < 65536) :
    LogR w B A c l (entRow l) (fun j => ((l[j]?).map fun x => ((entV x).drop 1).toArray).getD #[]) := by
  refine ⟨h, hc, hA, fun j x hj => ?_, fun j x hj => ?_, fun x hm => (hx x hm).2.1, fun u hu => ?_⟩
  · obtain ⟨h0, h1, h2, h3, h4⟩ := hx x (List.mem_of_getElem? hj)
    simp only [hj]
    obtain ⟨v, ⟨oc, os_, on, g, m, ol⟩⟩ := x
    dsimp only at h0 h2 h3 h4
    subst h0
    exact op_none w B g m h2 h3 h4
  · simp only [hj]
    rw [entRow_at l j x hj]
    rfl
  · unfold entRow at hu
    rw [List.mem_flatMap] at hu
    obtain ⟨x, _, hu⟩ := hu
    unfold entV at hu
    simp only [List.mem_cons, List.not_mem_nil, or_false] at hu
    rcases hu with rfl | rfl | rfl | rfl | rfl | rfl | rfl <;> rfl
def z0 : OpD := ⟨0, 0, 0, [], [], []⟩
def kla : List (Nat × OpD) := [(2, z0)]
def klb : List (Nat × OpD) := [(2, z0), (3, z0)]
def kra : RpD := ⟨0, 3, 0, []⟩
def krb : RpD := ⟨1, 2, 0, kla⟩
theorem k_same : sameN kla klb = 1 ∧ sameN kla kla = 1 := ⟨rfl, rfl⟩
theorem k_ch1 : chOk 3 [krb, kra] = true ∧ (chooseS 3 [krb, kra]).1.f = 0 := by decide +kernel
theorem k_ch2 : chOk 3 [kra, kra] = false := by decide +kernel
theorem k_rep : repOk kla klb 1 = true := by decide +kernel
theorem k_bet : betterB 3 2 0 1 0 1 = true := rfl
theorem k_fre : freshB [] 0 0 0 = true := rfl
end Go.Proofs.Ytfmmabkekjchjaa
