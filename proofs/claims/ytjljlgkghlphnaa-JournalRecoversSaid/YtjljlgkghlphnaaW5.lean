/- Values read, in both ways. -/
import Derived.Test.YtjljlgkghlphnaaW4
set_option linter.unusedSimpArgs false
set_option linter.unusedVariables false
namespace Go.Proofs.Ytjljlgkghlphnaa
set_option maxRecDepth 100000
open Go.RowKit
theorem results_ctt {P : Program} {fn : Func} {p u x : Tmp} {ty : TypeId} (h : fn.results = #[.cell p ty, .tmp u, .tmp x]) (tmps : Array Value) (w : World) (g : Nat) (t : TypeId) (cs : Array Value) (fr : Nat × Nat) (d : TypeDesc) (v y : Value)
    (hp : tmps.getD p undef = .pointer (some ⟨g, 0, none⟩)) (hv : tmps.getD u undef = v) (hy : tmps.getD x undef = y) (hg : w.heap[g]? = some (.cells cs t fr))
    (hu : P.underlying ty = some d) (hd : (match d with | .struct _ | .array _ _ => true | _ => false) = true) (hi : (P.info? ty).map (·.size) = some cs.size) :
    (results fn tmps).run P w = .ok (.tuple #[.agg cs, v, y]) w := by
  have hp' : tmps[p]?.getD undef = .pointer (some ⟨g, 0, none⟩) := by simpa using hp
  have hv' : tmps[u]?.getD undef = v := by simpa using hv
  have hy' : tmps[x]?.getD undef = y := by simpa using hy
  simp [results, h, hp', hv', hy', asAddr, run_loadVar_row w g t ty cs fr d hg hu hd hi]
def pvE : Nat → List UInt8 → Option (Val × Nat)
  | 0, _ => none
  | _ + 1, [] => none
  | e + 1, k :: t =>
    if k.toNat = 0 then some (.mk 0 0 0 [] [], 1)
    else if k.toNat = 1 then (if t.length < 8 then none else some (.mk 1 (wrap64 (readU (t.take 8))) 0 [] [], 9))
    else if k.toNat = 2 then (if t.length < 8 then none else if cb (readU (t.take 8)) = readU (t.take 8) then some (.mk 2 0 (readU (t.take 8)) [] [], 9) else none)
    else if k.toNat = 3 then (if (readT t 256).2.2 = 0 then some (.mk 3 0 0 (readT t 256).1 [], 1 + (readT t 256).2.1) else none)
    else if k.toNat = 4 then
      match t with
      | [] => none
      | n :: u => if 64 < n.toNat then none else match pl (pvE e) n.toNat u with
        | none => none
        | some (l, m) => some (.mk 4 0 0 [] l, 2 + m)
    else none
/-- What read tells. -/
def RRes (w : World) (o : Option (Val × Nat)) (e : Ending) (w' : World) : Prop :=
  match o with
  | some (v, m) => ∃ cs, e = .returned (.tuple #[.agg cs, .int .i64 (m : Int), .bool true]) ∧ VOwn w' (fun g => w.heap.size ≤ g) v cs ∧ Below w.heap.size w w'
  | none => ∃ k i f s A n c z, e = .returned (.tuple #[.agg #[.int .i64 k, .int .i64 i, .float .f64 f, .string s, .slice A n c], .int .i64 z, .bool false]) ∧ Below w.heap.size w w'
set_option maxRecDepth 100000 in
set_option maxHeartbeats 1600000 in
theorem refread_end {A : Option Addr} {c : Nat} {d : Int} {w : World} : Calls Try.prog 90 #[.slice A 0 c, .int .i64 d] w (RRes w none) := by
  have hz3 := Blk.new w 110 #[.int .i64 0, .int .i64 0, .float .f64 0, .string ⟨#[]⟩, .slice none 0 0]
  have hb4 := (Below.refl w.heap.size w).alloc (Nat.le_refl _) (.cells #[.int .i64 0, .int .i64 0, .float .f64 0, .string ⟨#[]⟩, .slice none 0 0] 110)
  have hz4 := hz3.row #[.int .i64 0, .int .i64 0, .float .f64 0, .string ⟨#[]⟩, .slice none 0 0]
  have hb5 := below_row hb4 (g := w.heap.size) (by omega) #[.int .i64 0, .int .i64 0, .float .f64 0, .string ⟨#[]⟩, .slice none 0 0]
  go_enter Try.func90, Try.ntmps90
  go_wp2_with (refine store_row_gen rfl 110 (Operand.tmp 4) _ rfl w.heap.size #[.int .i64 0, .int .i64 0, .float .f64 0, .string ⟨#[]⟩, .slice none 0 0] (by simp [go_sem]) (by simp [go_sem]) 110 _ hz3 (by kernel_rfl) rfl (by simp [Value.oneCell']) (fun w6 hw6 => ?_); rw [← hw6] at hz4 hb5; clear hw6)
  refine bodyPost_ret (v := .tuple #[.agg #[.int .i64 0, .int .i64 0, .float .f64 0, .string ⟨#[]⟩, .slice none 0 0], .int .i64 0, .bool false]) ?hr rfl ?_
  case hr => exact results_ctt rfl _ _ w.heap.size 110 _ (0, 0) _ _ _ rfl rfl rfl hz4 Try.underlying110 rfl (by kernel_rfl)
  exact ⟨_, _, _, _, _, _, _, _, rfl, hb5⟩
set_option maxRecDepth 100000 in
set_option maxHeartbeats 1600000 in
theorem refread_deep {A : Option Addr} {n c : Nat} {d : Int} {w : World} (hn : 0 < n) (hd : 8 < d) : Calls Try.prog 90 #[.slice A n c, .int .i64 d] w (RRes w none) := by
  have hn0 : ((n : Int) == 0) = false := by rw [beq_eq_false_iff_ne]; omega
  have hz3 := Blk.new w 110 #[.int .i64 0, .int .i64 0, .float .f64 0, .string ⟨#[]⟩, .slice none 0 0]
  have hb4 := (Below.refl w.heap.size w).alloc (Nat.le_refl _) (.cells #[.int .i64 0, .int .i64 0, .float .f64 0, .string ⟨#[]⟩, .slice none 0 0] 110)
  have hz4 := hz3.row #[.int .i64 0, .int .i64 0, .float .f64 0, .string ⟨#[]⟩, .slice none 0 0]
  have hb5 := below_row hb4 (g := w.heap.size) (by omega) #[.int .i64 0, .int .i64 0, .float .f64 0, .string ⟨#[]⟩, .slice none 0 0]
  go_enter Try.func90, Try.ntmps90
  go_wp2_with (refine store_row_gen rfl 110 (Operand.tmp 4) _ rfl w.heap.size #[.int .i64 0, .int .i64 0, .float .f64 0, .string ⟨#[]⟩, .slice none 0 0] (by simp [go_sem]) (by simp [go_sem]) 110 _ hz3 (by kernel_rfl) rfl (by simp [Value.oneCell']) (fun w6 hw6 => ?_); rw [← hw6] at hz4 hb5; clear hw6)
  refine bodyPost_ret (v := .tuple #[.agg #[.int .i64 0, .int .i64 0, .float .f64 0, .string ⟨#[]⟩, .slice none 0 0], .int .i64 0, .bool false]) ?hr rfl ?_
  case hr => exact results_ctt rfl _ _ w.heap.size 110 _ (0, 0) _ _ _ rfl rfl rfl hz4 Try.underlying110 rfl (by kernel_rfl)
  exact ⟨_, _, _, _, _, _, _, _, rfl, hb5⟩
set_option maxRecDepth 100000 in
set_option maxHeartbeats 1600000 in
theorem refread_nil {ad : Addr} {n c : Nat} {d : Int} {w : World} (hn : 0 < n) (hd : d ≤ 8) (hk : w.cell? ad = some (.int .u8 0)) : Calls Try.prog 90 #[.slice (some ad) n c, .int .i64 d] w (RRes w (some (.mk 0 0 0 [] [], 1))) := by
  have hn0 : ((n : Int) == 0) = false := by rw [beq_eq_false_iff_ne]; omega
  have hz3 := Blk.new w 110 #[.int .i64 0, .int .i64 0, .float .f64 0, .string ⟨#[]⟩, .slice none 0 0]
  have hb4 := (Below.refl w.heap.size w).alloc (Nat.le_refl _) (.cells #[.int .i64 0, .int .i64 0, .float .f64 0, .string ⟨#[]⟩, .slice none 0 0] 110)
  have hk1 := (hb4.cell (World.block_lt_of_cell? w _ hk)).trans hk
  have hz4 := hz3.row #[.int .i64 0, .int .i64 0, .float .f64 0, .string ⟨#[]⟩, .slice none 0 0]
  have hb5 := below_row hb4 (g := w.heap.size) (by omega) #[.int .i64 0, .int .i64 0, .float .f64 0, .string ⟨#[]⟩, .slice none 0 0]
  have h0 : (0 : Nat) < n := hn
  go_enter Try.func90, Try.ntmps90
  go_wp2_with (refine store_row_gen rfl 110 (Operand.tmp 4) _ rfl w.heap.size #[.int .i64 0, .int .i64 0, .float .f64 0, .string ⟨#[]⟩, .slice none 0 0] (by simp [go_sem]) (by simp [go_sem]) 110 _ hz3 (by kernel_rfl) rfl (by simp [Value.oneCell']) (fun w6 hw6 => ?_); rw [← hw6] at hz4 hb5; clear hw6)
  refine bodyPost_ret (v := .tuple #[.agg #[.int .i64 0, .int .i64 0, .float .f64 0, .string ⟨#[]⟩, .slice none 0 0], .int .i64 1, .bool true]) ?hr rfl ?_
  case hr => exact results_ctt rfl _ _ w.heap.size 110 _ (0, 0) _ _ _ rfl rfl rfl hz4 Try.underlying110 rfl (by kernel_rfl)
  exact ⟨_, rfl, VOwn.flat _ _ 0 0 0 [], hb5⟩
/-- b[1:] -/
theorem cut1 {w : World} {B : Nat} {ad : Addr} {c : Nat} {k : UInt8} {t : List UInt8} (hr : Reads w B 1 (some ad) (k :: t).length (bys (k :: t))) (hc : (k :: t).length ≤ c) : Reads w B 1 (if c = 1 then some ad else some (ad.add 1)) t.length (bys t) ∧ w.cell? ad = some (.int .u8 (k.toNat : Int)) := by
  have h1 := hr.cut (k := 1) (cap := c) (by simp) hc
  refine ⟨by simpa [bys] using h1, ?_⟩
  obtain ⟨a, e, -, hcell⟩ := hr.2 (by simp)
  cases e
  have := hcell 0 (byv k) (by simp [bys])
  simpa [byv, Addr.add] using this
set_option maxRecDepth 100000 in
set_option maxHeartbeats 1600000 in
theorem refread_int {ad : Addr} {c : Nat} {k : UInt8} {t : List UInt8} {d : Int} {w : World} (hr : Reads w w.heap.size 1 (some ad) (k :: t).length (bys (k :: t))) (hc : (k :: t).length ≤ c) (hl : (k :: t).length ≤ 1000000000) (hd : d ≤ 8) (hk : k.toNat = 1) :
    Calls Try.prog 90 #[.slice (some ad) (k :: t).length c, .int .i64 d] w (RRes w (if t.length < 8 then none else some (Val.mk 1 (wrap64 (readU (t.take 8))) 0 [] [], 9))) := by
  obtain ⟨ht, hk0⟩ := cut1 hr hc
  rw [hk] at hk0
  obtain ⟨n, hn⟩ : ∃ n, (k :: t).length = n := ⟨_, rfl⟩
  have hnt : n - 1 = t.length := by rw [← hn]; simp
  rw [hn] at hc hl ⊢
  have hn1 : 1 ≤ n := by rw [← hn]; simp
  clear hr hn hk
  have hn0 : ((n : Int) == 0) = false := by rw [beq_eq_false_iff_ne]; omega
  have hz3 := Blk.new w 110 #[.int .i64 0, .int .i64 0, .float .f64 0, .string ⟨#[]⟩, .slice none 0 0]
  have hb4 := (Below.refl w.heap.size w).alloc (Nat.le_refl _) (.cells #[.int .i64 0, .int .i64 0, .float .f64 0, .string ⟨#[]⟩, .slice none 0 0] 110)
  have hk1 : (w.alloc (.cells #[.int .i64 0, .int .i64 0, .float .f64 0, .string ⟨#[]⟩, .slice none 0 0] 110)).cell? ad = some (.int .u8 1) := (hb4.cell (World.block_lt_of_cell? w _ hk0)).trans hk0
  have h0 : (0 : Nat) < n := by omega
  obtain ⟨u, hu⟩ : ∃ u, readN t 8 = u := ⟨_, rfl⟩
  have hcall : ∀ A2 c2, Reads w w.heap.size 1 A2 t.length (bys t) → n - 1 ≤ c2 → Calls Try.prog 32 #[.slice A2 (n - 1) c2, .int .i64 8] (w.alloc (.cells #[.int .i64 0, .int .i64 0, .float .f64 0, .string ⟨#[]⟩, .slice none 0 0] 110)) (ReadRes (w.alloc (.cells #[.int .i64 0, .int .i64 0, .float .f64 0, .string ⟨#[]⟩, .slice none 0 0] 110)) u) := by
    intro A2 c2 h2 h3
    rw [hnt] at h3 ⊢
    exact ref_read_any ((h2.below hb4).more hb4.size) (by omega) hu
  have hcall2 : Calls Try.prog 32 #[.slice (if c = 1 then some ad else some (ad.add 1)) (n - 1) (c - 1), .int .i64 8] _ _ := hcall _ (c - 1) ht (by omega)
  obtain ⟨q, v⟩ := u
  replace hnt := Lib.hid hnt
  replace hu := Lib.hid hu
  clear hcall ht hk0
  obtain ⟨o, ho⟩ : ∃ o, (if t.length < 8 then none else some (Val.mk 1 (wrap64 (readU (t.take 8))) 0 [] [], 9)) = o := ⟨_, rfl⟩
  rw [ho]
  have hfin : ∀ w6, Below w.heap.size w w6 → RRes w o (.returned (.tuple #[.agg #[.int .i64 1, .int .i64 (wrap64 q), .float .f64 0, .string ⟨#[]⟩, .slice none 0 0], .int .i64 9, .bool v])) w6 := by
    rw [← ho]
    intro w6 h6
    have e := hu.out
    unfold readN at e
    by_cases h8 : t.length < 8
    · rw [if_neg (by omega)] at e
      rw [if_pos h8]
      cases e
      exact ⟨_, _, _, _, _, _, _, _, rfl, h6⟩
    · rw [if_pos (by omega)] at e
      rw [if_neg h8]
      cases e
      exact ⟨_, rfl, VOwn.flat _ _ 1 _ 0 [], h6⟩
  replace hfin := Lib.hid hfin
  clear ho
  by_cases hc1 : c = 1
  · rw [if_pos hc1] at hcall2
    have hn1' : n = 1 := by omega
    subst hc1 hn1'
    replace hcall2 : Calls Try.prog 32 #[.slice (some ad) 0 0, .int .i64 8] _ _ := hcall2
    go_enter Try.func90, Try.ntmps90
    go_wp2_with fail
    refine hcall2.mono ?_
    clear hcall2
    rintro e w3 ⟨rfl, hb3⟩
    dsimp only
    go_wp2_with fail
    refine (int_ref _ _).mono ?_
    rintro e w4 ⟨rfl, hb5⟩
    dsimp only
    have hz4 := hz3.below hb3 hz3.lt
    have hz5 := hz4.below hb5 hz4.lt
    have hb6 := below_then hb5 (below_then hb3 hb4)
    have hz6 := hz5.row #[.int .i64 1, .int .i64 (wrap64 q), .float .f64 0, .string ⟨#[]⟩, .slice none 0 0]
    have hb7 := below_row hb6 (g := w.heap.size) (by omega) #[.int .i64 1, .int .i64 (wrap64 q), .float .f64 0, .string ⟨#[]⟩, .slice none 0 0]
    clear hk1 hb3 hb4 hb5 hz3 hz4
    go_wp2_with (refine store_row_gen rfl 110 (Operand.tmp 4) _ rfl w.heap.size #[.int .i64 1, .int .i64 (wrap64 q), .float .f64 0, .string ⟨#[]⟩, .slice none 0 0] rfl rfl 110 _ hz5 (by kernel_rfl) rfl (by simp [Value.oneCell']) (fun w6 hw6 => ?_); rw [← hw6] at hz6 hb7; clear hw6)
    refine bodyPost_ret (v := .tuple #[.agg #[.int .i64 1, .int .i64 (wrap64 q), .float .f64 0, .string ⟨#[]⟩, .slice none 0 0], .int .i64 9, .bool v]) ?hr rfl ?_
    case hr => exact results_ctt rfl _ _ w.heap.size 110 _ (0, 0) _ _ _ rfl rfl rfl hz6 Try.underlying110 rfl (by kernel_rfl)
    exact hfin.out _ hb7
  · rw [if_neg hc1] at hcall2
    go_enter Try.func90, Try.ntmps90
    go_wp2_with fail
    refine hcall2.mono ?_
    clear hcall2
    rintro e w3 ⟨rfl, hb3⟩
    dsimp only
    go_wp2_with fail
    refine (int_ref _ _).mono ?_
    rintro e w4 ⟨rfl, hb5⟩
    dsimp only
    have hz4 := hz3.below hb3 hz3.lt
    have hz5 := hz4.below hb5 hz4.lt
    have hb6 := below_then hb5 (below_then hb3 hb4)
    have hz6 := hz5.row #[.int .i64 1, .int .i64 (wrap64 q), .float .f64 0, .string ⟨#[]⟩, .slice none 0 0]
    have hb7 := below_row hb6 (g := w.heap.size) (by omega) #[.int .i64 1, .int .i64 (wrap64 q), .float .f64 0, .string ⟨#[]⟩, .slice none 0 0]
    clear hk1 hb3 hb4 hb5 hz3 hz4
    go_wp2_with (refine store_row_gen rfl 110 (Operand.tmp 4) _ rfl w.heap.size #[.int .i64 1, .int .i64 (wrap64 q), .float .f64 0, .string ⟨#[]⟩, .slice none 0 0] rfl rfl 110 _ hz5 (by kernel_rfl) rfl (by simp [Value.oneCell']) (fun w6 hw6 => ?_); rw [← hw6] at hz6 hb7; clear hw6)
    refine bodyPost_ret (v := .tuple #[.agg #[.int .i64 1, .int .i64 (wrap64 q), .float .f64 0, .string ⟨#[]⟩, .slice none 0 0], .int .i64 9, .bool v]) ?hr rfl ?_
    case hr => exact results_ctt rfl _ _ w.heap.size 110 _ (0, 0) _ _ _ rfl rfl rfl hz6 Try.underlying110 rfl (by kernel_rfl)
    exact hfin.out _ hb7
set_option maxRecDepth 100000 in
set_option maxHeartbeats 1600000 in
theorem refread_float {ad : Addr} {c : Nat} {k : UInt8} {t : List UInt8} {d : Int} {w : World} (hr : Reads w w.heap.size 1 (some ad) (k :: t).length (bys (k :: t))) (hc : (k :: t).length ≤ c) (hl : (k :: t).length ≤ 1000000000) (hd : d ≤ 8) (hk : k.toNat = 2) :
    Calls Try.prog 90 #[.slice (some ad) (k :: t).length c, .int .i64 d] w (RRes w (if t.length < 8 then none else if cb (readU (t.take 8)) = readU (t.take 8) then some (Val.mk 2 0 (readU (t.take 8)) [] [], 9) else none)) := by
  obtain ⟨ht, hk0⟩ := cut1 hr hc
  rw [hk] at hk0
  obtain ⟨n, hn⟩ : ∃ n, (k :: t).length = n := ⟨_, rfl⟩
  have hnt : n - 1 = t.length := by rw [← hn]; simp
  rw [hn] at hc hl ⊢
  have hn1 : 1 ≤ n := by rw [← hn]; simp
  clear hr hn hk
  have hn0 : ((n : Int) == 0) = false := by rw [beq_eq_false_iff_ne]; omega
  have hz3 := Blk.new w 110 #[.int .i64 0, .int .i64 0, .float .f64 0, .string ⟨#[]⟩, .slice none 0 0]
  have hb4 := (Below.refl w.heap.size w).alloc (Nat.le_refl _) (.cells #[.int .i64 0, .int .i64 0, .float .f64 0, .string ⟨#[]⟩, .slice none 0 0] 110)
  have hk1 : (w.alloc (.cells #[.int .i64 0, .int .i64 0, .float .f64 0, .string ⟨#[]⟩, .slice none 0 0] 110)).cell? ad = some (.int .u8 2) := (hb4.cell (World.block_lt_of_cell? w _ hk0)).trans hk0
  have h0 : (0 : Nat) < n := by omega
  obtain ⟨u, hu⟩ : ∃ u, readN t 8 = u := ⟨_, rfl⟩
  have hcall : ∀ A2 c2, Reads w w.heap.size 1 A2 t.length (bys t) → n - 1 ≤ c2 → Calls Try.prog 32 #[.slice A2 (n - 1) c2, .int .i64 8] (w.alloc (.cells #[.int .i64 0, .int .i64 0, .float .f64 0, .string ⟨#[]⟩, .slice none 0 0] 110)) (ReadRes (w.alloc (.cells #[.int .i64 0, .int .i64 0, .float .f64 0, .string ⟨#[]⟩, .slice none 0 0] 110)) u) := by
    intro A2 c2 h2 h3
    rw [hnt] at h3 ⊢
    exact ref_read_any ((h2.below hb4).more hb4.size) (by omega) hu
  have hcall2 : Calls Try.prog 32 #[.slice (if c = 1 then some ad else some (ad.add 1)) (n - 1) (c - 1), .int .i64 8] _ _ := hcall _ (c - 1) ht (by omega)
  obtain ⟨q, v⟩ := u
  obtain ⟨y, hy⟩ : ∃ y, cb q = y := ⟨_, rfl⟩
  have hbit := fun w => ref_bits q w
  have hflt := fun w => float_ref q w
  rw [hy] at hbit hflt
  have hfb := fun w => run_frombits q w
  replace hnt := Lib.hid hnt
  replace hu := Lib.hid hu
  clear hcall ht hk0
  obtain ⟨o, ho⟩ : ∃ o, (if t.length < 8 then none else if cb (readU (t.take 8)) = readU (t.take 8) then some (Val.mk 2 0 (readU (t.take 8)) [] [], 9) else none) = o := ⟨_, rfl⟩
  rw [ho]
  have hfin : ∀ w6 b, b = (v && decide (y = q)) → Below w.heap.size w w6 → RRes w o (.returned (.tuple #[.agg #[.int .i64 2, .int .i64 0, .float .f64 y, .string ⟨#[]⟩, .slice none 0 0], .int .i64 9, .bool b])) w6 := by
    rw [← ho, ← hy]
    intro w6 b hb h6
    have e := hu.out
    unfold readN at e
    by_cases h8 : t.length < 8
    · rw [if_neg (by omega)] at e
      rw [if_pos h8]
      cases e
      rw [hb]
      exact ⟨_, _, _, _, _, _, _, _, rfl, h6⟩
    · rw [if_pos (by omega)] at e
      rw [if_neg h8]
      cases e
      by_cases h9 : cb (readU (t.take 8)) = readU (t.take 8)
      · rw [if_pos h9, hb]
        have e9 : (8 : Int).toNat = 8 := rfl
        simp only [e9, h9]
        exact ⟨_, rfl, VOwn.flat _ _ 2 0 _ [], h6⟩
      · rw [if_neg h9, hb]
        have e9 : (8 : Int).toNat = 8 := rfl
        simp only [e9, decide_eq_false h9]
        exact ⟨_, _, _, _, _, _, _, _, rfl, h6⟩
  replace hfin := Lib.hid hfin
  have hyq : ((y : Int) == (q : Int)) = decide (y = q) := by
    by_cases h : y = q
    · subst h; simp
    · rw [decide_eq_false h, beq_eq_false_iff_ne]; omega
  generalize decide (y = q) = b0 at *
  clear ho hy
  by_cases hc1 : c = 1
  · rw [if_pos hc1] at hcall2
    have hn1' : n = 1 := by omega
    subst hc1 hn1'
    replace hcall2 : Calls Try.prog 32 #[.slice (some ad) 0 0, .int .i64 8] _ _ := hcall2
    go_enter Try.func90, Try.ntmps90
    go_wp2_with fail
    refine hcall2.mono ?_
    clear hcall2
    rintro e w3 ⟨rfl, hb3⟩
    dsimp only
    go_wp2_with fail
    refine (hflt _).mono ?_
    rintro e w4 ⟨rfl, hb5⟩
    dsimp only
    have hz4 := hz3.below hb3 hz3.lt
    have hz5 := hz4.below hb5 hz4.lt
    have hb6 := below_then hb5 (below_then hb3 hb4)
    have hz6 := hz5.row #[.int .i64 2, .int .i64 0, .float .f64 y, .string ⟨#[]⟩, .slice none 0 0]
    have hb7 := below_row hb6 (g := w.heap.size) (by omega) #[.int .i64 2, .int .i64 0, .float .f64 y, .string ⟨#[]⟩, .slice none 0 0]
    clear hk1 hb3 hb4 hb5 hz3 hz4
    cases v
    · go_wp2_with (refine store_row_gen rfl 110 (Operand.tmp 4) _ rfl w.heap.size #[.int .i64 2, .int .i64 0, .float .f64 y, .string ⟨#[]⟩, .slice none 0 0] rfl rfl 110 _ hz5 (by kernel_rfl) rfl (by simp [Value.oneCell']) (fun w6 hw6 => ?_); rw [← hw6] at hz6 hb7; clear hw6)
      refine bodyPost_ret (v := .tuple #[.agg #[.int .i64 2, .int .i64 0, .float .f64 y, .string ⟨#[]⟩, .slice none 0 0], .int .i64 9, .bool false]) ?hr rfl ?_
      case hr => exact results_ctt rfl _ _ w.heap.size 110 _ (0, 0) _ _ _ rfl rfl rfl hz6 Try.underlying110 rfl (by kernel_rfl)
      exact hfin.out _ _ rfl hb7
    · go_wp2_with fail
      refine (hbit _).mono ?_
      rintro e w5 ⟨rfl, rfl⟩
      dsimp only
      go_wp2_with (refine store_row_gen rfl 110 (Operand.tmp 4) _ rfl w.heap.size #[.int .i64 2, .int .i64 0, .float .f64 y, .string ⟨#[]⟩, .slice none 0 0] rfl rfl 110 _ hz5 (by kernel_rfl) rfl (by simp [Value.oneCell']) (fun w6 hw6 => ?_); rw [← hw6] at hz6 hb7; clear hw6)
      refine bodyPost_ret (v := .tuple #[.agg #[.int .i64 2, .int .i64 0, .float .f64 y, .string ⟨#[]⟩, .slice none 0 0], .int .i64 9, .bool b0]) ?hr rfl ?_
      case hr => exact results_ctt rfl _ _ w.heap.size 110 _ (0, 0) _ _ _ rfl rfl rfl hz6 Try.underlying110 rfl (by kernel_rfl)
      exact hfin.out _ _ rfl hb7
  · rw [if_neg hc1] at hcall2
    go_enter Try.func90, Try.ntmps90
    go_wp2_with fail
    refine hcall2.mono ?_
    clear hcall2
    rintro e w3 ⟨rfl, hb3⟩
    dsimp only
    go_wp2_with fail
    refine (hflt _).mono ?_
    rintro e w4 ⟨rfl, hb5⟩
    dsimp only
    have hz4 := hz3.below hb3 hz3.lt
    have hz5 := hz4.below hb5 hz4.lt
    have hb6 := below_then hb5 (below_then hb3 hb4)
    have hz6 := hz5.row #[.int .i64 2, .int .i64 0, .float .f64 y, .string ⟨#[]⟩, .slice none 0 0]
    have hb7 := below_row hb6 (g := w.heap.size) (by omega) #[.int .i64 2, .int .i64 0, .float .f64 y, .string ⟨#[]⟩, .slice none 0 0]
    clear hk1 hb3 hb4 hb5 hz3 hz4
    cases v
    · go_wp2_with (refine store_row_gen rfl 110 (Operand.tmp 4) _ rfl w.heap.size #[.int .i64 2, .int .i64 0, .float .f64 y, .string ⟨#[]⟩, .slice none 0 0] rfl rfl 110 _ hz5 (by kernel_rfl) rfl (by simp [Value.oneCell']) (fun w6 hw6 => ?_); rw [← hw6] at hz6 hb7; clear hw6)
      refine bodyPost_ret (v := .tuple #[.agg #[.int .i64 2, .int .i64 0, .float .f64 y, .string ⟨#[]⟩, .slice none 0 0], .int .i64 9, .bool false]) ?hr rfl ?_
      case hr => exact results_ctt rfl _ _ w.heap.size 110 _ (0, 0) _ _ _ rfl rfl rfl hz6 Try.underlying110 rfl (by kernel_rfl)
      exact hfin.out _ _ rfl hb7
    · go_wp2_with fail
      refine (hbit _).mono ?_
      rintro e w5 ⟨rfl, rfl⟩
      dsimp only
      go_wp2_with (refine store_row_gen rfl 110 (Operand.tmp 4) _ rfl w.heap.size #[.int .i64 2, .int .i64 0, .float .f64 y, .string ⟨#[]⟩, .slice none 0 0] rfl rfl 110 _ hz5 (by kernel_rfl) rfl (by simp [Value.oneCell']) (fun w6 hw6 => ?_); rw [← hw6] at hz6 hb7; clear hw6)
      refine bodyPost_ret (v := .tuple #[.agg #[.int .i64 2, .int .i64 0, .float .f64 y, .string ⟨#[]⟩, .slice none 0 0], .int .i64 9, .bool b0]) ?hr rfl ?_
      case hr => exact results_ctt rfl _ _ w.heap.size 110 _ (0, 0) _ _ _ rfl rfl rfl hz6 Try.underlying110 rfl (by kernel_rfl)
      exact hfin.out _ _ rfl hb7
set_option maxRecDepth 100000 in
set_option maxHeartbeats 1600000 in
theorem refread_text {ad : Addr} {c : Nat} {k : UInt8} {t : List UInt8} {d : Int} {w : World} (hr : Reads w w.heap.size 1 (some ad) (k :: t).length (bys (k :: t))) (hc : (k :: t).length ≤ c) (hl : (k :: t).length ≤ 1000000000) (hd : d ≤ 8) (hk : k.toNat = 3) :
    Calls Try.prog 90 #[.slice (some ad) (k :: t).length c, .int .i64 d] w (RRes w (if (readT t 256).2.2 = 0 then some (Val.mk 3 0 0 (readT t 256).1 [], 1 + (readT t 256).2.1) else none)) := by
  obtain ⟨ht, hk0⟩ := cut1 hr hc
  rw [hk] at hk0
  obtain ⟨n, hn⟩ : ∃ n, (k :: t).length = n := ⟨_, rfl⟩
  have hnt : n - 1 = t.length := by rw [← hn]; simp
  rw [hn] at hc hl ⊢
  have hn1 : 1 ≤ n := by rw [← hn]; simp
  clear hr hn hk
  have hn0 : ((n : Int) == 0) = false := by rw [beq_eq_false_iff_ne]; omega
  have hz3 := Blk.new w 110 #[.int .i64 0, .int .i64 0, .float .f64 0, .string ⟨#[]⟩, .slice none 0 0]
  have hb4 := (Below.refl w.heap.size w).alloc (Nat.le_refl _) (.cells #[.int .i64 0, .int .i64 0, .float .f64 0, .string ⟨#[]⟩, .slice none 0 0] 110)
  have hk1 : (w.alloc (.cells #[.int .i64 0, .int .i64 0, .float .f64 0, .string ⟨#[]⟩, .slice none 0 0] 110)).cell? ad = some (.int .u8 3) := (hb4.cell (World.block_lt_of_cell? w _ hk0)).trans hk0
  have h0 : (0 : Nat) < n := by omega
  have htn := readT_n t
  have hte := readT_e t 256
  obtain ⟨u, hu⟩ : ∃ u, readT t 256 = u := ⟨_, rfl⟩
  rw [hu] at htn hte ⊢
  have hcall : ∀ A2 c2, Reads w w.heap.size 1 A2 t.length (bys t) → n - 1 ≤ c2 → Calls Try.prog 61 #[.slice A2 (n - 1) c2, .int .i64 256] (w.alloc (.cells #[.int .i64 0, .int .i64 0, .float .f64 0, .string ⟨#[]⟩, .slice none 0 0] 110)) (TextRes (w.alloc (.cells #[.int .i64 0, .int .i64 0, .float .f64 0, .string ⟨#[]⟩, .slice none 0 0] 110)) u) := by
    intro A2 c2 h2 h3
    rw [hnt] at h3 ⊢
    exact ref_read_text ((h2.below hb4).more hb4.size) h3 (by omega) hu
  have hcall2 : Calls Try.prog 61 #[.slice (if c = 1 then some ad else some (ad.add 1)) (n - 1) (c - 1), .int .i64 256] _ _ := hcall _ (c - 1) ht (by omega)
  replace hnt := Lib.hid hnt
  clear hcall ht hk0 hu
  obtain ⟨o, ho⟩ : ∃ o, (if (u).2.2 = 0 then some (Val.mk 3 0 0 (u).1 [], 1 + (u).2.1) else none) = o := ⟨_, rfl⟩
  rw [ho]
  obtain ⟨s, m, x⟩ := u
  have hfin : ∀ w6 b, b = decide (x = 0) → Below w.heap.size w w6 → RRes w o (.returned (.tuple #[.agg #[.int .i64 3, .int .i64 0, .float .f64 0, .string (bstr s), .slice none 0 0], .int .i64 (1 + (m : Int)), .bool b])) w6 := by
    rw [← ho]
    intro w6 b hb h6
    by_cases h9 : x = 0
    · subst h9
      rw [if_pos rfl, hb]
      refine ⟨_, ?_, VOwn.flat _ _ 3 0 0 s, h6⟩
      have e : ((1 + m : Nat) : Int) = 1 + (m : Int) := by omega
      show Ending.returned _ = Ending.returned (.tuple #[_, .int .i64 ((1 + m : Nat) : Int), _])
      rw [e]
      rfl
    · rw [if_neg h9, hb, decide_eq_false h9]
      exact ⟨_, _, _, _, _, _, _, _, rfl, h6⟩
  replace hfin := Lib.hid hfin
  have hyq : ((x : Int) == 0) = decide (x = 0) := by
    by_cases h : x = 0
    · subst h; simp
    · rw [decide_eq_false h, beq_eq_false_iff_ne]; omega
  dsimp only at htn
  generalize decide (x = 0) = b0 at *
  clear ho hte
  by_cases hc1 : c = 1
  · rw [if_pos hc1] at hcall2
    have hn1' : n = 1 := by omega
    subst hc1 hn1'
    replace hcall2 : Calls Try.prog 61 #[.slice (some ad) 0 0, .int .i64 256] _ _ := hcall2
    go_enter Try.func90, Try.ntmps90
    go_wp2_with fail
    refine hcall2.mono ?_
    clear hcall2
    rintro e w3 ⟨rfl, hb3⟩
    dsimp only
    go_wp2_with fail
    refine (text_ref _ _).mono ?_
    rintro e w4 ⟨rfl, hb5⟩
    dsimp only
    have hz4 := hz3.below hb3 hz3.lt
    have hz5 := hz4.below hb5 hz4.lt
    have hb6 := below_then hb5 (below_then hb3 hb4)
    have hz6 := hz5.row #[.int .i64 3, .int .i64 0, .float .f64 0, .string (bstr s), .slice none 0 0]
    have hb7 := below_row hb6 (g := w.heap.size) (by omega) #[.int .i64 3, .int .i64 0, .float .f64 0, .string (bstr s), .slice none 0 0]
    clear hk1 hb3 hb4 hb5 hz3 hz4
    go_wp2_with (refine store_row_gen rfl 110 (Operand.tmp 4) _ rfl w.heap.size #[.int .i64 3, .int .i64 0, .float .f64 0, .string (bstr s), .slice none 0 0] rfl rfl 110 _ hz5 (by kernel_rfl) rfl (by simp [Value.oneCell']) (fun w6 hw6 => ?_); rw [← hw6] at hz6 hb7; clear hw6)
    refine bodyPost_ret (v := .tuple #[.agg #[.int .i64 3, .int .i64 0, .float .f64 0, .string (bstr s), .slice none 0 0], .int .i64 (1 + (m : Int)), .bool b0]) ?hr rfl ?_
    case hr => exact results_ctt rfl _ _ w.heap.size 110 _ (0, 0) _ _ _ rfl rfl rfl hz6 Try.underlying110 rfl (by kernel_rfl)
    exact hfin.out _ _ rfl hb7
  · rw [if_neg hc1] at hcall2
    go_enter Try.func90, Try.ntmps90
    go_wp2_with fail
    refine hcall2.mono ?_
    clear hcall2
    rintro e w3 ⟨rfl, hb3⟩
    dsimp only
    go_wp2_with fail
    refine (text_ref _ _).mono ?_
    rintro e w4 ⟨rfl, hb5⟩
    dsimp only
    have hz4 := hz3.below hb3 hz3.lt
    have hz5 := hz4.below hb5 hz4.lt
    have hb6 := below_then hb5 (below_then hb3 hb4)
    have hz6 := hz5.row #[.int .i64 3, .int .i64 0, .float .f64 0, .string (bstr s), .slice none 0 0]
    have hb7 := below_row hb6 (g := w.heap.size) (by omega) #[.int .i64 3, .int .i64 0, .float .f64 0, .string (bstr s), .slice none 0 0]
    clear hk1 hb3 hb4 hb5 hz3 hz4
    go_wp2_with (refine store_row_gen rfl 110 (Operand.tmp 4) _ rfl w.heap.size #[.int .i64 3, .int .i64 0, .float .f64 0, .string (bstr s), .slice none 0 0] rfl rfl 110 _ hz5 (by kernel_rfl) rfl (by simp [Value.oneCell']) (fun w6 hw6 => ?_); rw [← hw6] at hz6 hb7; clear hw6)
    refine bodyPost_ret (v := .tuple #[.agg #[.int .i64 3, .int .i64 0, .float .f64 0, .string (bstr s), .slice none 0 0], .int .i64 (1 + (m : Int)), .bool b0]) ?hr rfl ?_
    case hr => exact results_ctt rfl _ _ w.heap.size 110 _ (0, 0) _ _ _ rfl rfl rfl hz6 Try.underlying110 rfl (by kernel_rfl)
    exact hfin.out _ _ rfl hb7
end Go.Proofs.Ytjljlgkghlphnaa
namespace Go.Proofs.Ytjljlgkghlphnaa
set_option maxRecDepth 100000
open Go.RowKit
set_option maxRecDepth 100000 in
set_option maxHeartbeats 1600000 in
theorem refread_other {ad : Addr} {n c : Nat} {x : Int} {d : Int} {w : World} (hn : 0 < n) (hd : d ≤ 8) (hk : w.cell? ad = some (.int .u8 x)) (hx : 4 < x) (hx2 : x ≤ 255) : Calls Try.prog 90 #[.slice (some ad) n c, .int .i64 d] w (RRes w none) := by
  have hn0 : ((n : Int) == 0) = false := by rw [beq_eq_false_iff_ne]; omega
  have hz3 := Blk.new w 110 #[.int .i64 0, .int .i64 0, .float .f64 0, .string ⟨#[]⟩, .slice none 0 0]
  have hb4 := (Below.refl w.heap.size w).alloc (Nat.le_refl _) (.cells #[.int .i64 0, .int .i64 0, .float .f64 0, .string ⟨#[]⟩, .slice none 0 0] 110)
  have hz4 := hz3.row #[.int .i64 0, .int .i64 0, .float .f64 0, .string ⟨#[]⟩, .slice none 0 0]
  have hb5 := below_row hb4 (g := w.heap.size) (by omega) #[.int .i64 0, .int .i64 0, .float .f64 0, .string ⟨#[]⟩, .slice none 0 0]
  have hk1 := (hb4.cell (World.block_lt_of_cell? w _ hk)).trans hk
  have x0 : (x == 0) = false := by rw [beq_eq_false_iff_ne]; omega
  have x1 : (x == 1) = false := by rw [beq_eq_false_iff_ne]; omega
  have x2 : (x == 2) = false := by rw [beq_eq_false_iff_ne]; omega
  have x3 : (x == 3) = false := by rw [beq_eq_false_iff_ne]; omega
  have x4 : (x == 4) = false := by rw [beq_eq_false_iff_ne]; omega
  go_enter Try.func90, Try.ntmps90
  go_wp2_with (refine store_row_gen rfl 110 (Operand.tmp 4) _ rfl w.heap.size #[.int .i64 0, .int .i64 0, .float .f64 0, .string ⟨#[]⟩, .slice none 0 0] (by simp [go_sem]) (by simp [go_sem]) 110 _ hz3 (by kernel_rfl) rfl (by simp [Value.oneCell']) (fun w6 hw6 => ?_); rw [← hw6] at hz4 hb5; clear hw6)
  refine bodyPost_ret (v := .tuple #[.agg #[.int .i64 0, .int .i64 0, .float .f64 0, .string ⟨#[]⟩, .slice none 0 0], .int .i64 0, .bool false]) ?hr rfl ?_
  case hr => exact results_ctt rfl _ _ w.heap.size 110 _ (0, 0) _ _ _ rfl rfl rfl hz4 Try.underlying110 rfl (by kernel_rfl)
  exact ⟨_, _, _, _, _, _, _, _, rfl, hb5⟩
set_option maxRecDepth 100000 in
set_option maxHeartbeats 1600000 in
theorem refread_list1 {ad : Addr} {c : Nat} {d : Int} {w : World} (hd : d ≤ 8) (hk : w.cell? ad = some (.int .u8 4)) : Calls Try.prog 90 #[.slice (some ad) 1 c, .int .i64 d] w (RRes w none) := by
  have hz3 := Blk.new w 110 #[.int .i64 0, .int .i64 0, .float .f64 0, .string ⟨#[]⟩, .slice none 0 0]
  have hb4 := (Below.refl w.heap.size w).alloc (Nat.le_refl _) (.cells #[.int .i64 0, .int .i64 0, .float .f64 0, .string ⟨#[]⟩, .slice none 0 0] 110)
  have hz4 := hz3.row #[.int .i64 0, .int .i64 0, .float .f64 0, .string ⟨#[]⟩, .slice none 0 0]
  have hb5 := below_row hb4 (g := w.heap.size) (by omega) #[.int .i64 0, .int .i64 0, .float .f64 0, .string ⟨#[]⟩, .slice none 0 0]
  have hk1 := (hb4.cell (World.block_lt_of_cell? w _ hk)).trans hk
  go_enter Try.func90, Try.ntmps90
  go_wp2_with (refine store_row_gen rfl 110 (Operand.tmp 4) _ rfl w.heap.size #[.int .i64 0, .int .i64 0, .float .f64 0, .string ⟨#[]⟩, .slice none 0 0] (by simp [go_sem]) (by simp [go_sem]) 110 _ hz3 (by kernel_rfl) rfl (by simp [Value.oneCell']) (fun w6 hw6 => ?_); rw [← hw6] at hz4 hb5; clear hw6)
  refine bodyPost_ret (v := .tuple #[.agg #[.int .i64 0, .int .i64 0, .float .f64 0, .string ⟨#[]⟩, .slice none 0 0], .int .i64 0, .bool false]) ?hr rfl ?_
  case hr => exact results_ctt rfl _ _ w.heap.size 110 _ (0, 0) _ _ _ rfl rfl rfl hz4 Try.underlying110 rfl (by kernel_rfl)
  exact ⟨_, _, _, _, _, _, _, _, rfl, hb5⟩
set_option maxRecDepth 100000 in
set_option maxHeartbeats 1600000 in
theorem refread_many {ad : Addr} {n c : Nat} {x d : Int} {w : World} (hn : 2 ≤ n) (hd : d ≤ 8) (hk : w.cell? ad = some (.int .u8 4)) (hx : w.cell? ⟨ad.block, ad.off + 1, none⟩ = some (.int .u8 x)) (h64 : 64 < x) (hx2 : x ≤ 255) : Calls Try.prog 90 #[.slice (some ad) n c, .int .i64 d] w (RRes w none) := by
  have hn0 : ((n : Int) == 0) = false := by rw [beq_eq_false_iff_ne]; omega
  have hn2 : (2 : Int) ≤ (n : Int) := by omega
  have h0 : (0 : Nat) < n := by omega
  have h1 : (1 : Nat) < n := by omega
  have hz3 := Blk.new w 110 #[.int .i64 0, .int .i64 0, .float .f64 0, .string ⟨#[]⟩, .slice none 0 0]
  have hb4 := (Below.refl w.heap.size w).alloc (Nat.le_refl _) (.cells #[.int .i64 0, .int .i64 0, .float .f64 0, .string ⟨#[]⟩, .slice none 0 0] 110)
  have hz4 := hz3.row #[.int .i64 0, .int .i64 0, .float .f64 0, .string ⟨#[]⟩, .slice none 0 0]
  have hb5 := below_row hb4 (g := w.heap.size) (by omega) #[.int .i64 0, .int .i64 0, .float .f64 0, .string ⟨#[]⟩, .slice none 0 0]
  have hk1 := (hb4.cell (World.block_lt_of_cell? w _ hk)).trans hk
  have hx1 := (hb4.cell (World.block_lt_of_cell? w _ hx)).trans hx
  go_enter Try.func90, Try.ntmps90
  go_wp2_with (refine store_row_gen rfl 110 (Operand.tmp 4) _ rfl w.heap.size #[.int .i64 0, .int .i64 0, .float .f64 0, .string ⟨#[]⟩, .slice none 0 0] (by simp [go_sem]) (by simp [go_sem]) 110 _ hz3 (by kernel_rfl) rfl (by simp [Value.oneCell']) (fun w6 hw6 => ?_); rw [← hw6] at hz4 hb5; clear hw6)
  refine bodyPost_ret (v := .tuple #[.agg #[.int .i64 0, .int .i64 0, .float .f64 0, .string ⟨#[]⟩, .slice none 0 0], .int .i64 0, .bool false]) ?hr rfl ?_
  case hr => exact results_ctt rfl _ _ w.heap.size 110 _ (0, 0) _ _ _ rfl rfl rfl hz4 Try.underlying110 rfl (by kernel_rfl)
  exact ⟨_, _, _, _, _, _, _, _, rfl, hb5⟩
/-- The state of a list half read. -/
structure ERel (e : Nat) (b : List UInt8) (n z : Nat) (w wr : World) (j : Nat) (l1 : List Val) (A : Option Addr) (c' : Nat) (xs : List Value) (css : Nat → Array Value) (at' : Nat) : Prop where
  jn : j ≤ n
  jl : l1.length = j
  hat : at' ≤ b.length
  hl : 2 ≤ at'
  hz : Blk wr z 110 #[.int .i64 0, .int .i64 0, .float .f64 0, .string ⟨#[]⟩, .slice none 0 0]
  hy : Blk wr (z + 1) 110 #[.int .i64 4, .int .i64 0, .float .f64 0, .string ⟨#[]⟩, .slice A j c']
  R : VRow wr (z + 2) l1 A c' xs css
  hb : Below z w wr
  pp : pl (pvE e) n (b.drop 2) = (pl (pvE e) (n - j) (b.drop at')).map (fun x => (l1 ++ x.1, (at' - 2) + x.2))
theorem pvE_le : ∀ (e : Nat) (b : List UInt8) (v : Val) (m : Nat), pvE e b = some (v, m) → m ≤ b.length := by
  intro e
  induction e with
  | zero => intro b v m h; simp [pvE] at h
  | succ e ih =>
    intro b v m h
    cases b with
    | nil => simp [pvE] at h
    | cons k t =>
      unfold pvE at h
      repeat' split at h
      all_goals first | (cases h; done) | skip
      all_goals first | (simp only [Option.some.injEq, Prod.mk.injEq] at h; obtain ⟨-, rfl⟩ := h; simp only [List.length_cons]) | skip
      all_goals first | omega | (have := readT_le t 256 (by assumption); omega) | skip
      all_goals
        rename_i l2 m2 heq2
        have := (pl_le ih _ _ _ _ heq2).1
        omega
/-- The contract of read at a depth. -/
def ReadAt (e : Nat) (d : Int) : Prop := ∀ (w : World) (A : Option Addr) (c : Nat) (b : List UInt8), Reads w w.heap.size 1 A b.length (bys b) → b.length ≤ c → b.length ≤ 1000000000 → Calls Try.prog 90 #[.slice A b.length c, .int .i64 d] w (RRes w (pvE e b))
set_option maxRecDepth 100000 in
set_option maxHeartbeats 6400000 in
theorem refread_list {e : Nat} {d : Int} (IH : ReadAt e (d + 1)) {ad : Addr} {c : Nat} {b : List UInt8} {n : Nat} {w : World} (hr : Reads w w.heap.size 1 (some ad) b.length (bys b)) (hc : b.length ≤ c) (hl : b.length ≤ 1000000000) (hd : d ≤ 8) (hd0 : -10 ≤ d) (h2 : 2 ≤ b.length)
    (hk : w.cell? ad = some (.int .u8 4)) (hx : w.cell? ⟨ad.block, ad.off + 1, none⟩ = some (.int .u8 (n : Int))) (h64 : n ≤ 64) (o : Option (Val × Nat)) (ho : o = (pl (pvE e) n (b.drop 2)).map (fun x => (.mk 4 0 0 [] x.1, 2 + x.2))) :
    Calls Try.prog 90 #[.slice (some ad) b.length c, .int .i64 d] w (RRes w o) := by
  obtain ⟨i1, gi, gz0, gz1, gz2⟩ := info_parts info_val
  have hsf := fun a k x m w => run_store_float (P := Try.prog) a k x m w
  have hn0 : ((b.length : Int) == 0) = false := by rw [beq_eq_false_iff_ne]; omega
  have hn2 : (2 : Int) ≤ (b.length : Int) := by omega
  have h0 : (0 : Nat) < b.length := by omega
  have h1 : (1 : Nat) < b.length := by omega
  have h64i : (n : Int) ≤ 64 := by omega
  have hz3 := Blk.new w 110 #[.int .i64 0, .int .i64 0, .float .f64 0, .string ⟨#[]⟩, .slice none 0 0]
  have hb4 := (Below.refl w.heap.size w).alloc (Nat.le_refl _) (.cells #[.int .i64 0, .int .i64 0, .float .f64 0, .string ⟨#[]⟩, .slice none 0 0] 110)
  have hk1 := (hb4.cell (World.block_lt_of_cell? w _ hk)).trans hk
  have hx1 := (hb4.cell (World.block_lt_of_cell? w _ hx)).trans hx
  have hy3 := Blk.new (w.alloc (.cells #[.int .i64 0, .int .i64 0, .float .f64 0, .string ⟨#[]⟩, .slice none 0 0] 110)) 110 #[.int .i64 4, .int .i64 0, .float .f64 0, .string ⟨#[]⟩, .slice none 0 0]
  have hsz : (w.alloc (.cells #[.int .i64 0, .int .i64 0, .float .f64 0, .string ⟨#[]⟩, .slice none 0 0] 110)).heap.size = w.heap.size + 1 := by simp
  rw [hsz] at hy3
  have hz4 := hz3.alloc (.cells #[.int .i64 4, .int .i64 0, .float .f64 0, .string ⟨#[]⟩, .slice none 0 0] 110)
  have hb5 := hb4.alloc hb4.size (.cells #[.int .i64 4, .int .i64 0, .float .f64 0, .string ⟨#[]⟩, .slice none 0 0] 110)
  replace IH := Lib.hid IH
  replace ho := Lib.hid ho
  go_enter Try.func90, Try.ntmps90
  go_wp2_with fail
  clear hk1 hx1 hz3 hb4 hsz
  generalize (w.alloc (.cells #[.int .i64 0, .int .i64 0, .float .f64 0, .string ⟨#[]⟩, .slice none 0 0] 110)).alloc (.cells #[.int .i64 4, .int .i64 0, .float .f64 0, .string ⟨#[]⟩, .slice none 0 0] 110) = w2 at *
  obtain ⟨z, hz⟩ : ∃ z, w.heap.size = z := ⟨_, rfl⟩
  rw [hz] at hz4 hy3 hb5 hr ⊢
  replace hz := Lib.hid hz
  obtain ⟨N, hN⟩ : ∃ N, b.length = N := ⟨_, rfl⟩
  have hrB := hr
  rw [hN] at hc hl h2 hn0 hn2 h0 h1 ⊢
  replace hN := Lib.hid hN
  go_loopw [16, 17] (fun at_ i wr => ∃ (j : Nat) (l1 : List Val) (A : Option Addr) (c' : Nat) (xs : List Value) (css : Nat → Array Value) (at' : Nat), at_ = .int .i64 (at' : Int) ∧ i = .int .i64 (j : Int) ∧ ERel e b n z w wr j l1 A c' xs css at') (fun _ i _ => n - (intOf i).toNat)
  case atStart => exact ⟨0, [], none, 0, [], _, 2, rfl, rfl, ⟨Nat.zero_le _, rfl, by rw [hN.out]; exact h2, Nat.le_refl _, hz4, hy3, VRow.nil _ _, hb5, by simp⟩⟩
  case round =>
    rename_i hrel
    obtain ⟨j, l1, A, c', xs, css, at', rfl, rfl, R⟩ := hrel
    have hjn := R.jn
    have hat := R.hat
    rw [hN.out] at hat
    have hxr := (R.hb.cell (p := ⟨ad.block, ad.off + 1, none⟩) (by rw [← hz.out]; exact World.block_lt_of_cell? w _ hx)).trans hx
    have hwz : z + 1 < wr.heap.size := R.hy.lt
    by_cases hlt : j < n
    · have hat1 : (at' : Int) ≤ (N : Int) := by omega
      have hcut := ((hrB.below R.hb).cut (k := at') (cap := c) (by rw [hN.out]; exact hat) (by rw [hN.out]; exact hc)).more (show z ≤ wr.heap.size by omega)
      rw [Nat.mul_one, bys_drop] at hcut
      obtain ⟨bd, hbd⟩ : ∃ bd, b.drop at' = bd := ⟨_, rfl⟩
      have hbl : bd.length = N - at' := by rw [← hbd, List.length_drop, hN.out]
      rw [hbd, hN.out, ← hbl] at hcut
      have hcall := IH.out wr _ (c - at') bd hcut (by omega) (by omega)
      rw [hbl] at hcall
      have hpp := R.pp
      rw [hbd] at hpp
      have hmle : ∀ v m, pvE e bd = some (v, m) → m ≤ N - at' := fun v m h => by rw [← hbl]; exact pvE_le _ _ _ _ h
      have hnil : bd.length = 0 → pvE e bd = none := by
        intro h
        have : bd = [] := List.eq_nil_of_length_eq_zero h
        subst this
        cases e <;> rfl
      rw [hbl] at hnil
      clear hcut hbl
      replace hbd := Lib.hid hbd
      obtain ⟨rr, hrr⟩ : ∃ rr, pvE e bd = rr := ⟨_, rfl⟩
      rw [hrr] at hcall hmle hnil
      replace hrr := Lib.hid hrr
      replace hpp := Lib.hid hpp
      by_cases hcc : c = at'
      · rw [if_pos hcc, show c - at' = 0 from by omega, hnil (by omega)] at hcall
        rw [hnil (by omega)] at hrr
        go_wp2_with fail
        refine hcall.mono ?_
        clear hcall
        rintro e2 w6 ⟨k', i', f', s', A', n', c', z', rfl, hb6⟩
        dsimp only
        have ho' : o = none := by rw [ho.out, hpp.out, pl_none (by omega) hrr.out]; rfl
        have hz6 := (R.hz.below hb6 R.hz.lt).alloc (.cells #[.int .i64 k', .int .i64 i', .float .f64 f', .string s', .slice A' n' c'] 110)
        have hb7 := (R.hb.trans (hb6.mono (Nat.le_of_lt R.hz.lt))).alloc (by rw [← hz.out]; exact Nat.le_trans (R.hb.size) hb6.size) (.cells #[.int .i64 k', .int .i64 i', .float .f64 f', .string s', .slice A' n' c'] 110)
        have hz7 := hz6.row #[.int .i64 0, .int .i64 0, .float .f64 0, .string ⟨#[]⟩, .slice none 0 0]
        have hb8 := below_row hb7 (g := z) (Nat.le_refl _) #[.int .i64 0, .int .i64 0, .float .f64 0, .string ⟨#[]⟩, .slice none 0 0]
        clear R hb6
        go_wp2_with (refine store_row_gen rfl 110 (Operand.tmp 4) _ rfl z #[.int .i64 0, .int .i64 0, .float .f64 0, .string ⟨#[]⟩, .slice none 0 0] (by simp [go_sem]) (by simp [go_sem]) 110 _ hz6 (by kernel_rfl) rfl (by simp [Value.oneCell']) (fun w6 hw6 => ?_); rw [← hw6] at hz7 hb8; clear hw6)
        refine bodyPost_ret (v := .tuple #[.agg #[.int .i64 0, .int .i64 0, .float .f64 0, .string ⟨#[]⟩, .slice none 0 0], .int .i64 0, .bool false]) ?hr rfl ?_
        case hr => exact results_ctt rfl _ _ z 110 _ (0, 0) _ _ _ rfl rfl rfl hz7 Try.underlying110 rfl (by kernel_rfl)
        try rw [ho']
        refine ⟨_, _, _, _, _, _, _, _, rfl, ?_⟩
        rw [hz.out]
        exact hb8
      · rw [if_neg hcc, Option.map_some] at hcall
        go_wp2_with fail
        refine hcall.mono ?_
        clear hcall
        cases rr with
        | none =>
          rintro e2 w6 ⟨k', i', f', s', A', n', c', z', rfl, hb6⟩
          dsimp only
          have ho' : o = none := by rw [ho.out, hpp.out, pl_none (by omega) hrr.out]; rfl
          have hz6 := (R.hz.below hb6 R.hz.lt).alloc (.cells #[.int .i64 k', .int .i64 i', .float .f64 f', .string s', .slice A' n' c'] 110)
          have hb7 := (R.hb.trans (hb6.mono (Nat.le_of_lt R.hz.lt))).alloc (by rw [← hz.out]; exact Nat.le_trans (R.hb.size) hb6.size) (.cells #[.int .i64 k', .int .i64 i', .float .f64 f', .string s', .slice A' n' c'] 110)
          have hz7 := hz6.row #[.int .i64 0, .int .i64 0, .float .f64 0, .string ⟨#[]⟩, .slice none 0 0]
          have hb8 := below_row hb7 (g := z) (Nat.le_refl _) #[.int .i64 0, .int .i64 0, .float .f64 0, .string ⟨#[]⟩, .slice none 0 0]
          clear R hb6
          go_wp2_with (refine store_row_gen rfl 110 (Operand.tmp 4) _ rfl z #[.int .i64 0, .int .i64 0, .float .f64 0, .string ⟨#[]⟩, .slice none 0 0] (by simp [go_sem]) (by simp [go_sem]) 110 _ hz6 (by kernel_rfl) rfl (by simp [Value.oneCell']) (fun w6 hw6 => ?_); rw [← hw6] at hz7 hb8; clear hw6)
          refine bodyPost_ret (v := .tuple #[.agg #[.int .i64 0, .int .i64 0, .float .f64 0, .string ⟨#[]⟩, .slice none 0 0], .int .i64 0, .bool false]) ?hr rfl ?_
          case hr => exact results_ctt rfl _ _ z 110 _ (0, 0) _ _ _ rfl rfl rfl hz7 Try.underlying110 rfl (by kernel_rfl)
          try rw [ho']
          refine ⟨_, _, _, _, _, _, _, _, rfl, ?_⟩
          rw [hz.out]
          exact hb8
        | some vm =>
          obtain ⟨v, m⟩ := vm
          rintro e2 w6 ⟨cs, rfl, hv, hb6⟩
          dsimp only
          obtain ⟨k', i', f', s', A', n', c9, hform⟩ := hv.reads.form
          subst hform
          have hm := hmle v m rfl
          have hone := hv.one
          have hb6u := Upd.of_below_size (S := fun _ => False) hb6
          have hy6 := (R.hy.below hb6 R.hy.lt).alloc (.cells #[.int .i64 k', .int .i64 i', .float .f64 f', .string s', .slice A' n' c9] 110)
          have hz6 := (R.hz.below hb6 R.hz.lt).alloc (.cells #[.int .i64 k', .int .i64 i', .float .f64 f', .string s', .slice A' n' c9] 110)
          have hv6 := hv.upd ((Upd.refl (fun _ => False) w6).alloc (.cells #[.int .i64 k', .int .i64 i', .float .f64 f', .string s', .slice A' n' c9] 110)) (fun _ _ h => h)
          have hu6 := hb6u.alloc (.cells #[.int .i64 k', .int .i64 i', .float .f64 f', .string s', .slice A' n' c9] 110)
          have hbv := Blk.new w6 110 #[.int .i64 k', .int .i64 i', .float .f64 f', .string s', .slice A' n' c9]
          have ho6 := R.R.ho.upd hu6 (fun g _ h => h)
          rw [R.jl] at ho6
          have hb7 := (R.hb.trans (hb6.mono (Nat.le_of_lt R.hz.lt))).alloc (by have := hb6.size; omega) (.cells #[.int .i64 k', .int .i64 i', .float .f64 f', .string s', .slice A' n' c9] 110)
          have hw7 : z + 1 < (w6.alloc (.cells #[.int .i64 k', .int .i64 i', .float .f64 f', .string s', .slice A' n' c9] 110)).heap.size := hy6.lt
          have hw67 : (w6.alloc (.cells #[.int .i64 k', .int .i64 i', .float .f64 f', .string s', .slice A' n' c9] 110)).heap.size = w6.heap.size + 1 := by simp
          have y4 := hy6.cell 4
          have v0 := hbv.cell 0
          have v1 := hbv.cell 1
          have v2 := hbv.cell 2
          have v3 := hbv.cell 3
          have v4 := hbv.cell 4
          have hsrc := Reads.lit (size := 5) (w6.alloc (.cells #[.int .i64 k', .int .i64 i', .float .f64 f', .string s', .slice A' n' c9] 110)) #[.int .i64 k', .int .i64 i', .float .f64 f', .string s', .slice A' n' c9] 110 (0, 0) 1 [.int .i64 k', .int .i64 i', .float .f64 f', .string s', .slice A' n' c9] rfl rfl
          rw [hw67] at hsrc
          have hwz6 : z + 1 < w6.heap.size := by have := hb6.size; omega
          clear hb6 hv hb6u hbv
          replace hw67 := Lib.hid hw67
          go_wp2_with (at_builtin; go_must (refine wpList_append_mine rfl _ _ 28 28 rfl 110 i1 _ 5 64 Try.underlying28 gi gz0 gz1 gz2 rfl rfl (ho6.alloc (.cells #[.int .i64 k', .int .i64 i', .float .f64 f', .string s', .slice A' n' c9] 110)) rfl (Src.ofReads Try.underlying28 _ hsrc (by intro u hu; exact hone u (by simpa using hu))) ?b1 ?b2 ?grow))
          case b1 => unfold maxLen; omega
          case b2 => omega
          case grow =>
            intro A8 c8 w8 ho8 hg8 hat8
            have hAz : ∀ g, bOf A = some g → z + 2 ≤ g := R.R.hA
            have R8 := R.R.push (w6 := w6.alloc (.cells #[.int .i64 k', .int .i64 i', .float .f64 f', .string s', .slice A' n' c9] 110)) (by omega) hu6 (fun _ h => h.elim) hv6 ⟨_, rfl⟩ (by rw [R.jl]; exact ho8) hg8 (by rw [World.size_alloc]; rw [hw67.out]; exact hat8)
            have hy8 := (hy6.alloc (.cells #[.int .i64 k', .int .i64 i', .float .f64 f', .string s', .slice A' n' c9] 110)).grown hg8 (fun e => by have := hAz _ e.symm; omega)
            have hz8 := (hz6.alloc (.cells #[.int .i64 k', .int .i64 i', .float .f64 f', .string s', .slice A' n' c9] 110)).grown hg8 (fun e => by have := hAz _ e.symm; omega)
            have hb8 := (hb7.alloc (by omega) (.cells #[.int .i64 k', .int .i64 i', .float .f64 f', .string s', .slice A' n' c9] 110)).grown hg8 (by rw [World.size_alloc]; omega) (fun k e => by have := hAz k e; omega)
            have hy9 := hy8.set_ 4 (.slice A8 (j + 1) c8)
            have hz9 := hz8.far (p := ⟨z + 1, 4, none⟩) (by show z ≠ z + 1; omega) (.slice A8 (j + 1) c8)
            have hb9 := hb8.setCell (p := ⟨z + 1, 4, none⟩) (by show z ≤ z + 1; omega) (.slice A8 (j + 1) c8)
            have R9 := R8.upd ((Upd.refl (fun x => x = z + 1) w8).setCell (p := ⟨z + 1, 4, none⟩) (fun _ => rfl) (.slice A8 (j + 1) c8)) (fun g hg e => by omega)
            have y84 := hy8.cell 4
            have yf8 := hy8.frozen 4
            have hnew : ERel e b n z w (w8.setCell ⟨z + 1, 4, none⟩ (.slice A8 (j + 1) c8)) (j + 1) (l1 ++ [v]) A8 c8 (xs ++ (#[.int .i64 k', .int .i64 i', .float .f64 f', .string s', .slice A' n' c9] : Array Value).toList) (fun k => if k = l1.length then #[.int .i64 k', .int .i64 i', .float .f64 f', .string s', .slice A' n' c9] else css k) (at' + m) := by
              refine ⟨by omega, by simp [R.jl], by rw [hN.out]; omega, by have := R.hl; omega, hz9, hy9, R9, hb9, ?_⟩
              have hl2 := R.hl
              rw [hpp.out, pl_some (by omega) hrr.out, ← hbd.out, List.drop_drop]
              rw [show n - j - 1 = n - (j + 1) from by omega]
              cases pl (pvE e) (n - (j + 1)) (b.drop (at' + m)) with
              | none => rfl
              | some x =>
                simp only [Option.map_some, List.append_assoc, List.singleton_append]
                rw [show at' - 2 + (m + x.2) = at' + m - 2 + x.2 from by omega]
            clear hy9 hz9 hb9 R9 hy8 hz8 hb8 R8 hsrc ho8 hg8 hat8 hv6 hu6 hz6 hy6 y4 v0 v1 v2 v3 v4 ho6 hone R hmle
            replace hnew := Lib.hid hnew
            have hwm : IntKind.i64.wrap ((at' : Int) + (m : Int)) = (at' : Int) + (m : Int) := w64_id _ (by omega) (by omega)
            go_wp2_with fail
            go_roundw
            case rel => exact ⟨j + 1, l1 ++ [v], A8, c8, _, _, at' + m, by simp, by simp, hnew.out⟩
            case measure => simp [intOf]; omega
    · have hjn' : j = n := by omega
      subst hjn'
      have y0 := R.hy.cell 0
      have y1 := R.hy.cell 1
      have y2 := R.hy.cell 2
      have y3 := R.hy.cell 3
      have y4 := R.hy.cell 4
      have hjl := R.jl
      have hz7 := R.hz.row #[.int .i64 4, .int .i64 0, .float .f64 0, .string ⟨#[]⟩, .slice A j c']
      have hb8 := below_row R.hb (g := z) (Nat.le_refl _) #[.int .i64 4, .int .i64 0, .float .f64 0, .string ⟨#[]⟩, .slice A j c']
      have hzz := R.hz
      have hown := (R.R.upd ((Upd.refl (fun x => x = z) wr).setRow (g := z) (fun _ => rfl) #[.int .i64 4, .int .i64 0, .float .f64 0, .string ⟨#[]⟩, .slice A j c']) (fun g hg e => by omega)).own (by omega) 4 0 0 []
      rw [hjl] at hown
      have ho' : o = some (.mk 4 0 0 [] l1, at') := by
        have hl2 := R.hl
        rw [ho.out, R.pp, Nat.sub_self]
        simp only [pl, Option.map_some, List.append_nil, Nat.add_zero]
        rw [show 2 + (at' - 2) = at' from by omega]
      clear R
      go_wp2_with (refine store_row_gen rfl 110 (Operand.tmp 4) _ rfl z #[.int .i64 4, .int .i64 0, .float .f64 0, .string ⟨#[]⟩, .slice A j c'] rfl rfl 110 _ hzz (by kernel_rfl) rfl (by simp [Value.oneCell']) (fun w6 hw6 => ?_); rw [← hw6] at hz7 hb8 hown; clear hw6)
      refine bodyPost_ret (v := .tuple #[.agg #[.int .i64 4, .int .i64 0, .float .f64 0, .string ⟨#[]⟩, .slice A j c'], .int .i64 (at' : Int), .bool true]) ?hr rfl ?_
      case hr => exact results_ctt rfl _ _ z 110 _ (0, 0) _ _ _ rfl rfl rfl hz7 Try.underlying110 rfl (by kernel_rfl)
      rw [ho']
      refine ⟨_, rfl, ?_, ?_⟩
      · rw [hz.out]
        exact hown.mono (fun g _ hg => by omega)
      · rw [hz.out]
        exact hb8
theorem pvE_cons (e : Nat) (k : UInt8) (t : List UInt8) : pvE (e + 1) (k :: t) =
    if k.toNat = 0 then some (.mk 0 0 0 [] [], 1)
    else if k.toNat = 1 then (if t.length < 8 then none else some (.mk 1 (wrap64 (readU (t.take 8))) 0 [] [], 9))
    else if k.toNat = 2 then (if t.length < 8 then none else if cb (readU (t.take 8)) = readU (t.take 8) then some (.mk 2 0 (readU (t.take 8)) [] [], 9) else none)
    else if k.toNat = 3 then (if (readT t 256).2.2 = 0 then some (.mk 3 0 0 (readT t 256).1 [], 1 + (readT t 256).2.1) else none)
    else if k.toNat = 4 then
      match t with
      | [] => none
      | n :: u => if 64 < n.toNat then none else match pl (pvE e) n.toNat u with
        | none => none
        | some (l, m) => some (.mk 4 0 0 [] l, 2 + m)
    else none := rfl
/-- choirref3.read at any bytes, at any depth. -/
theorem ref_read_all : ∀ e, e ≤ 9 → ReadAt e (9 - (e : Int)) := by
  intro e
  induction e with
  | zero =>
    intro _ w A c b hr hc hl
    cases b with
    | nil => exact refread_end
    | cons k t => exact refread_deep (by simp) (by simp)
  | succ e ih =>
    intro he w A c b hr hc hl
    have hd : (9 : Int) - ((e + 1 : Nat) : Int) ≤ 8 := by omega
    have hd1 : (9 : Int) - (e : Int) = 9 - ((e + 1 : Nat) : Int) + 1 := by omega
    have IH := ih (by omega)
    rw [hd1] at IH
    have hdl : -10 ≤ (9 : Int) - ((e + 1 : Nat) : Int) := by omega
    generalize (9 : Int) - ((e + 1 : Nat) : Int) = d at *
    cases b with
    | nil => exact refread_end
    | cons k t =>
      obtain ⟨ad, rfl, -, -⟩ := hr.2 (by simp)
      have hk0 := (cut1 hr hc).2
      rw [pvE_cons]
      by_cases h0 : k.toNat = 0
      · rw [if_pos h0]
        rw [h0] at hk0
        exact refread_nil (by simp) hd hk0
      rw [if_neg h0]
      by_cases h1 : k.toNat = 1
      · rw [if_pos h1]
        exact refread_int hr hc hl hd h1
      rw [if_neg h1]
      by_cases h2 : k.toNat = 2
      · rw [if_pos h2]
        exact refread_float hr hc hl hd h2
      rw [if_neg h2]
      by_cases h3 : k.toNat = 3
      · rw [if_pos h3]
        exact refread_text hr hc hl hd h3
      rw [if_neg h3]
      by_cases h4 : k.toNat = 4
      · rw [if_pos h4]
        rw [h4] at hk0
        cases t with
        | nil => exact refread_list1 hd hk0
        | cons n u =>
          have hx : w.cell? ⟨ad.block, ad.off + 1, none⟩ = some (.int .u8 (n.toNat : Int)) := by
            obtain ⟨a, ea, -, hcell⟩ := hr.2 (by simp)
            cases ea
            have := hcell 1 (byv n) (by simp [bys])
            simpa [byv, Addr.add] using this
          have hn := n.toNat_lt
          by_cases h64 : 64 < n.toNat
          · simp only [if_pos h64]
            exact refread_many (by simp) hd hk0 hx (by omega) (by omega)
          · simp only [if_neg h64]
            refine refread_list IH hr hc hl hd hdl (by simp) hk0 hx (by omega) _ ?_
            simp only [List.drop_succ_cons, List.drop_zero]
            cases pl (pvE e) n.toNat u with
            | none => rfl
            | some x => rfl
      · rw [if_neg h4]
        have hn := k.toNat_lt
        exact refread_other (by simp) hd hk0 (by omega) (by omega)
end Go.Proofs.Ytjljlgkghlphnaa
namespace Go.Proofs.Ytjljlgkghlphnaa
set_option maxRecDepth 100000
open Go.RowKit
theorem pl_facts {p : List UInt8 → Option (Val × Nat)} {d : Int} (hp : ∀ b v m, p b = some (v, m) → sizeV v = m ∧ strangeV v = false ∧ greatV v d = false) : ∀ n b l m, pl p n b = some (l, m) → sizeL l = m ∧ strangeL l = false ∧ greatL l d = false ∧ l.length = n := by
  intro n
  induction n with
  | zero =>
    intro b l m h
    simp only [pl, Option.some.injEq, Prod.mk.injEq] at h
    obtain ⟨rfl, rfl⟩ := h
    exact ⟨rfl, rfl, rfl, rfl⟩
  | succ n ih =>
    intro b l m h
    rw [pl] at h
    split at h
    · cases h
    · rename_i v m1 hv
      split at h
      · cases h
      · rename_i l1 m2 hl
        simp only [Option.some.injEq, Prod.mk.injEq] at h
        obtain ⟨rfl, rfl⟩ := h
        obtain ⟨a1, a2, a3⟩ := hp _ _ _ hv
        obtain ⟨b1, b2, b3, b4⟩ := ih _ _ _ hl
        exact ⟨by show sizeV v + sizeL l1 = m1 + m2; rw [a1, b1], by show (strangeV v || strangeL l1) = false; rw [a2, b2]; rfl, by show (greatV v d || greatL l1 d) = false; rw [a3, b3]; rfl, by rw [List.length_cons, b4]⟩
theorem readT_facts (b : List UInt8) (h : (readT b 256).2.2 = 0) : (readT b 256).1.length ≤ 256 ∧ (readT b 256).2.1 = 2 + (readT b 256).1.length := by
  unfold readT at *
  split at h
  · rename_i hc
    rw [if_pos hc]
    dsimp only
    rw [List.length_take, List.length_drop]
    omega
  · cases h
theorem pv_facts : ∀ (d : Nat) (b : List UInt8) (v : Val) (m : Nat), pv d b = some (v, m) → sizeV v = m ∧ strangeV v = false ∧ greatV v (d : Int) = false := by
  intro d
  induction d with
  | zero =>
    intro b v m h
    cases b with
    | nil => simp [pv] at h
    | cons k t =>
      rw [pv_cons] at h
      split at h
      · simp only [Option.some.injEq, Prod.mk.injEq] at h; obtain ⟨rfl, rfl⟩ := h; exact ⟨rfl, rfl, rfl⟩
      split at h
      · split at h
        · cases h
        · simp only [Option.some.injEq, Prod.mk.injEq] at h; obtain ⟨rfl, rfl⟩ := h; exact ⟨rfl, rfl, rfl⟩
      split at h
      · split at h
        · cases h
        · split at h
          · simp only [Option.some.injEq, Prod.mk.injEq] at h; obtain ⟨rfl, rfl⟩ := h; exact ⟨rfl, rfl, rfl⟩
          · cases h
      split at h
      · split at h
        · rename_i h0
          simp only [Option.some.injEq, Prod.mk.injEq] at h
          obtain ⟨rfl, rfl⟩ := h
          obtain ⟨a1, a2⟩ := readT_facts t h0
          refine ⟨?_, rfl, ?_⟩
          · show 3 + (readT t 256).1.length = 1 + (readT t 256).2.1
            omega
          · show decide (256 < (readT t 256).1.length) = false
            rw [decide_eq_false (by omega)]
        · cases h
      split at h
      · cases h
      · cases h
  | succ d ih =>
    intro b v m h
    cases b with
    | nil => simp [pv] at h
    | cons k t =>
      rw [pv_cons] at h
      split at h
      · simp only [Option.some.injEq, Prod.mk.injEq] at h; obtain ⟨rfl, rfl⟩ := h; exact ⟨rfl, rfl, rfl⟩
      split at h
      · split at h
        · cases h
        · simp only [Option.some.injEq, Prod.mk.injEq] at h; obtain ⟨rfl, rfl⟩ := h; exact ⟨rfl, rfl, rfl⟩
      split at h
      · split at h
        · cases h
        · split at h
          · simp only [Option.some.injEq, Prod.mk.injEq] at h; obtain ⟨rfl, rfl⟩ := h; exact ⟨rfl, rfl, rfl⟩
          · cases h
      split at h
      · split at h
        · rename_i h0
          simp only [Option.some.injEq, Prod.mk.injEq] at h
          obtain ⟨rfl, rfl⟩ := h
          obtain ⟨a1, a2⟩ := readT_facts t h0
          refine ⟨?_, rfl, ?_⟩
          · show 3 + (readT t 256).1.length = 1 + (readT t 256).2.1
            omega
          · show decide (256 < (readT t 256).1.length) = false
            rw [decide_eq_false (by omega)]
        · cases h
      split at h
      · cases t with
        | nil => cases h
        | cons n u =>
          dsimp only at h
          split at h
          · cases h
          · rename_i h64
            cases hp : pl (pv d) n.toNat u with
            | none => rw [hp] at h; cases h
            | some x =>
              obtain ⟨l, m1⟩ := x
              rw [hp] at h
              simp only [Option.some.injEq, Prod.mk.injEq] at h
              obtain ⟨rfl, rfl⟩ := h
              obtain ⟨b1, b2, b3, b4⟩ := pl_facts ih _ _ _ _ hp
              refine ⟨?_, ?_, ?_⟩
              · show 2 + sizeL l = 2 + m1
                rw [b1]
              · show (decide ((4 : Int) < 0 ∨ (4 : Int) < 4) || ((4 : Int) == 4 && strangeL l)) = false
                rw [b2]; rfl
              · show (decide (64 < l.length) || decide (((d + 1 : Nat) : Int) < 1) || greatL l (((d + 1 : Nat) : Int) - 1)) = false
                rw [show (((d + 1 : Nat) : Int) - 1) = (d : Int) by omega, b3, decide_eq_false (by omega), decide_eq_false (by omega)]
                rfl
      · cases h
theorem pv_check {b : List UInt8} {v : Val} {m : Nat} (h : pv 8 b = some (v, m)) (hm : m ≤ 4096) : checkV v = 0 ∧ sizeV v ≤ 1000000000 := by
  obtain ⟨h1, h2, h3⟩ := pv_facts 8 b v m h
  have h3' : greatV v 8 = false := h3
  unfold checkV
  rw [h2, h3', h1]
  refine ⟨?_, by omega⟩
  rw [decide_eq_false (by omega)]
  rfl
/-- A list's items, read in the two ways. -/
theorem pl_two {p q : List UInt8 → Option (Val × Nat)} {d : Int} (hpq : ∀ b, (∀ v m, p b = some (v, m) → q b = some (v, m)) ∧ (p b = none → q b = none ∨ ∃ v m, q b = some (v, m) ∧ greatV v d = true)) : ∀ n b, (∀ l m, pl p n b = some (l, m) → pl q n b = some (l, m)) ∧ (pl p n b = none → pl q n b = none ∨ ∃ l m, pl q n b = some (l, m) ∧ greatL l d = true) := by
  intro n
  induction n with
  | zero => intro b; exact ⟨fun l m h => h, fun h => by simp [pl] at h⟩
  | succ n ih =>
    intro b
    obtain ⟨h1, h2⟩ := hpq b
    cases hp : p b with
    | none =>
      refine ⟨fun l m h => ?_, fun _ => ?_⟩
      · rw [pl, hp] at h; cases h
      · rcases h2 hp with hq | ⟨v, m, hq, hg⟩
        · left; rw [pl, hq]
        · cases hr : pl q n (b.drop m) with
          | none => left; rw [pl, hq]; simp only [hr]
          | some x =>
            right
            refine ⟨v :: x.1, m + x.2, ?_, ?_⟩
            · rw [pl, hq]; simp only [hr]
            · show (greatV v d || greatL x.1 d) = true
              rw [hg]; rfl
    | some x =>
      obtain ⟨v, m⟩ := x
      have hq := h1 v m hp
      obtain ⟨i1, i2⟩ := ih (b.drop m)
      refine ⟨fun l m2 h => ?_, fun h => ?_⟩
      · rw [pl, hp] at h
        rw [pl, hq]
        cases hr : pl p n (b.drop m) with
        | none => simp only [hr] at h; cases h
        | some y =>
          simp only [hr] at h
          have := i1 y.1 y.2 hr
          simp only [this]
          exact h
      · rw [pl, hp] at h
        cases hr : pl p n (b.drop m) with
        | some y => simp only [hr] at h; cases h
        | none =>
          rcases i2 hr with hn | ⟨l, m2, hs, hg⟩
          · left; rw [pl, hq]; simp only [hn]
          · right
            refine ⟨v :: l, m + m2, ?_, ?_⟩
            · rw [pl, hq]; simp only [hs]
            · show (greatV v d || greatL l d) = true
              rw [hg, Bool.or_true]
theorem pv_two : ∀ (d : Nat) (b : List UInt8), (∀ v m, pv d b = some (v, m) → pvE (d + 1) b = some (v, m)) ∧ (pv d b = none → pvE (d + 1) b = none ∨ ∃ v m, pvE (d + 1) b = some (v, m) ∧ greatV v (d : Int) = true) := by
  intro d
  induction d with
  | zero =>
    intro b
    cases b with
    | nil => exact ⟨fun v m h => by simp [pv] at h, fun _ => .inl rfl⟩
    | cons k t =>
      rw [pv_cons, pvE_cons]
      by_cases h0 : k.toNat = 0
      · simp only [if_pos h0]; exact ⟨fun v m h => h, fun h => by cases h⟩
      by_cases h1 : k.toNat = 1
      · simp only [if_neg h0, if_pos h1]; exact ⟨fun v m h => h, fun h => .inl h⟩
      by_cases h2 : k.toNat = 2
      · simp only [if_neg h0, if_neg h1, if_pos h2]; exact ⟨fun v m h => h, fun h => .inl h⟩
      by_cases h3 : k.toNat = 3
      · simp only [if_neg h0, if_neg h1, if_neg h2, if_pos h3]; exact ⟨fun v m h => h, fun h => .inl h⟩
      by_cases h4 : k.toNat = 4
      · simp only [if_neg h0, if_neg h1, if_neg h2, if_neg h3, if_pos h4]
        refine ⟨fun v m h => (nomatch h), fun _ => ?_⟩
        cases t with
        | nil => exact .inl rfl
        | cons n u =>
          dsimp only
          by_cases h64 : 64 < n.toNat
          · rw [if_pos h64]; exact .inl rfl
          · rw [if_neg h64]
            cases pl (pvE 0) n.toNat u with
            | none => exact .inl rfl
            | some x => exact .inr ⟨_, _, rfl, by show (decide (64 < x.1.length) || decide (((0 : Nat) : Int) < 1) || greatL x.1 (((0 : Nat) : Int) - 1)) = true; simp⟩
      · simp only [if_neg h0, if_neg h1, if_neg h2, if_neg h3, if_neg h4]; exact ⟨fun v m h => h, fun h => .inl h⟩
  | succ d ih =>
    intro b
    cases b with
    | nil => exact ⟨fun v m h => by simp [pv] at h, fun _ => .inl rfl⟩
    | cons k t =>
      rw [pv_cons, pvE_cons]
      by_cases h0 : k.toNat = 0
      · simp only [if_pos h0]; exact ⟨fun v m h => h, fun h => by cases h⟩
      by_cases h1 : k.toNat = 1
      · simp only [if_neg h0, if_pos h1]; exact ⟨fun v m h => h, fun h => .inl h⟩
      by_cases h2 : k.toNat = 2
      · simp only [if_neg h0, if_neg h1, if_pos h2]; exact ⟨fun v m h => h, fun h => .inl h⟩
      by_cases h3 : k.toNat = 3
      · simp only [if_neg h0, if_neg h1, if_neg h2, if_pos h3]; exact ⟨fun v m h => h, fun h => .inl h⟩
      by_cases h4 : k.toNat = 4
      · simp only [if_neg h0, if_neg h1, if_neg h2, if_neg h3, if_pos h4]
        cases t with
        | nil => exact ⟨fun v m h => h, fun _ => .inl rfl⟩
        | cons n u =>
          dsimp only
          by_cases h64 : 64 < n.toNat
          · simp only [if_pos h64]; exact ⟨fun v m h => h, fun _ => .inl trivial⟩
          · simp only [if_neg h64]
            obtain ⟨i1, i2⟩ := pl_two ih n.toNat u
            cases hp : pl (pv d) n.toNat u with
            | some x =>
              obtain ⟨l, m⟩ := x
              rw [i1 l m hp]
              exact ⟨fun v m h => h, fun h => nomatch h⟩
            | none =>
              refine ⟨fun v m h => (nomatch h), fun _ => ?_⟩
              rcases i2 hp with hn | ⟨l, m, hs, hg⟩
              · rw [hn]; exact .inl rfl
              · rw [hs]
                refine .inr ⟨_, _, rfl, ?_⟩
                show (decide (64 < l.length) || decide (((d + 1 : Nat) : Int) < 1) || greatL l (((d + 1 : Nat) : Int) - 1)) = true
                rw [show (((d + 1 : Nat) : Int) - 1) = (d : Int) by omega, hg, Bool.or_true]
      · simp only [if_neg h0, if_neg h1, if_neg h2, if_neg h3, if_neg h4]; exact ⟨fun v m h => h, fun h => .inl h⟩
end Go.Proofs.Ytjljlgkghlphnaa
namespace Go.Proofs.Ytjljlgkghlphnaa
set_option maxRecDepth 100000
open Go.RowKit
def RdRes (w : World) (o : Option (Val × Nat)) (e : Ending) (w' : World) : Prop :=
  match o with
  | some (v, m) => ∃ cs, e = .returned (.tuple #[.agg cs, .int .i64 (m : Int), .int .i64 0]) ∧ VOwn w' (fun g => w.heap.size ≤ g) v cs ∧ Below w.heap.size w w'
  | none => e = .returned (.tuple #[.agg #[.int .i64 0, .int .i64 0, .float .f64 0, .string ⟨#[]⟩, .slice none 0 0], .int .i64 0, .int .i64 20]) ∧ Below w.heap.size w w'
theorem value_end0 {r : Nat} {deep : Int} {w : World} (h : RdAt w r none 0 0 0 deep) :
    Calls Try.prog 111 #[.pointer (some ⟨r, 0, none⟩)] w (fun e w' => e = .panicked shortP ∧ Upd (fun x => x = r) w w') := by
  go_enter Try.func111, Try.ntmps111
  go_wp2_with fail
  refine (number_no (k := 1) (Blk.alloc h _) (fun _ => rfl) (Nat.le_refl _) (by omega) (by omega) (Nat.le_refl _) (by omega)).mono ?_
  rintro e w1 ⟨rfl, hb1⟩
  dsimp only
  go_wp2_with fail
  exact ⟨rfl, rfl, ((Upd.refl _ w).alloc _).trans ((Upd.refl _ _).thenBelow hb1 (Nat.le_refl _)) (fun _ _ h => h)⟩
theorem wire_read_all {A : Option Addr} {c : Nat} {b : List UInt8} {w : World} (h : Reads w w.heap.size 1 A b.length (bys b)) (hA : A = none → c = 0) (hc : b.length ≤ c) (hl : b.length ≤ 1000000000) (o : Option (Val × Nat)) (ho : pv 8 b = o) (hsz : ∀ v m, o = some (v, m) → m ≤ 4096) :
    Calls Try.prog 102 #[.slice A b.length c] w (RdRes w o) := by
  cases A with
  | none =>
    have hc0 := hA rfl
    subst hc0
    have hb : b = [] := List.eq_nil_of_length_eq_zero (by omega)
    subst hb
    have ho' : o = none := by rw [← ho]; rfl
    rw [ho']
    exact read_short (fun w1 hb hr => value_end0 hr)
  | some ad =>
    have hva := fun (w1 : World) (hb : Below w.heap.size w w1) (hr : RdAt w1 (w.heap.size + 1 + 1 + 1) (some ad) b.length c 0 8) =>
      value_all (r := w.heap.size + 1 + 1 + 1) (B := w.heap.size) (by omega) hc hl 8 (by omega) w1 0 hr (h.below hb) (Nat.zero_le _)
    cases o with
    | some x =>
      obtain ⟨v, m⟩ := x
      obtain ⟨hk, hs⟩ := pv_check ho (hsz v m rfl)
      refine read_tree (at_ := m) (v := v) (deep := 8) hk hs (fun w1 hb hr => ?_)
      have hv := hva w1 hb hr
      rw [List.drop_zero, ho] at hv
      refine hv.mono ?_
      rintro e w' ⟨cs, rfl, h1, h2, h3⟩
      rw [Nat.zero_add] at h2
      exact ⟨cs, rfl, h1, h2, h3⟩
    | none =>
      refine read_short (fun w1 hb hr => ?_)
      have hv := hva w1 hb hr
      rw [List.drop_zero, ho] at hv
      exact hv
set_option maxHeartbeats 1600000 in
theorem ref_read_both {A : Option Addr} {c : Nat} {b : List UInt8} {w : World} (h : Reads w w.heap.size 1 A b.length (bys b)) (hc : b.length ≤ c) (hl : b.length ≤ 1000000000) (o : Option (Val × Nat)) (ho : pv 8 b = o) (hsz : ∀ v m, o = some (v, m) → m ≤ 4096) :
    Calls Try.prog 62 #[.slice A b.length c] w (RdRes w o) := by
  have hsf := fun a k x m w => run_store_float (P := Try.prog) a k x m w
  have hrd := fun (w1 : World) (hb : Below w.heap.size w w1) => ref_read_all 9 (by omega) w1 A c b ((h.below hb).more hb.size) hc hl
  rw [show (9 : Int) - ((9 : Nat) : Int) = 0 from rfl] at hrd
  obtain ⟨t1, t2⟩ := pv_two 8 b
  rw [ho] at t1 t2
  have hcase : (∃ v m, o = some (v, m) ∧ pvE 9 b = some (v, m) ∧ checkV v = 0) ∨ (o = none ∧ pvE 9 b = none) ∨ (o = none ∧ ∃ v m, pvE 9 b = some (v, m) ∧ checkV v ≠ 0) := by
    cases o with
    | some x => exact .inl ⟨x.1, x.2, rfl, t1 x.1 x.2 rfl, (pv_check ho (hsz x.1 x.2 rfl)).1⟩
    | none =>
      rcases t2 rfl with h1 | ⟨v, m, h1, h2⟩
      · exact .inr (.inl ⟨rfl, h1⟩)
      · refine .inr (.inr ⟨rfl, v, m, h1, ?_⟩)
        have h2' : greatV v 8 = true := h2
        rcases checkV_cases v with ⟨_, e⟩ | ⟨_, _, e⟩ | ⟨_, e1, _, e⟩ | ⟨_, e1, _, e⟩
        · omega
        · omega
        · omega
        · rw [h2'] at e1; cases e1
  clear t1 t2 hsz ho h
  replace hrd := Lib.hid hrd
  have hz := Blk.new w 110 #[.int .i64 0, .int .i64 0, .float .f64 0, .string ⟨#[]⟩, .slice none 0 0]
  have hb4 := (Below.refl w.heap.size w).alloc (Nat.le_refl _) (.cells #[.int .i64 0, .int .i64 0, .float .f64 0, .string ⟨#[]⟩, .slice none 0 0] 110)
  have hr1 := hrd.out _ hb4
  replace hb4 := Lib.hid hb4
  replace hz := Lib.hid hz
  go_enter Try.func62, Try.ntmps62
  go_wp2_with fail
  refine hr1.mono ?_
  clear hr1 hrd
  replace hb4 := hb4.out
  replace hz := hz.out
  generalize hw2 : w.alloc (.cells #[.int .i64 0, .int .i64 0, .float .f64 0, .string ⟨#[]⟩, .slice none 0 0] 110) = w2 at *
  replace hw2 := Lib.hid hw2
  rcases hcase with ⟨v, m, rfl, h1, hk⟩ | ⟨rfl, h1⟩ | ⟨rfl, v, m, h1, hk⟩
  · rw [h1]
    rintro e w6 ⟨cs, rfl, hv, hb6⟩
    dsimp only
    obtain ⟨k', i', f', s', A', n', c9, hform⟩ := hv.reads.form
    have hvr := hv.reads
    subst hform
    have hz6 := (hz.below hb6 hz.lt).alloc (.cells #[.int .i64 k', .int .i64 i', .float .f64 f', .string s', .slice A' n' c9] 110)
    have hb7 := (hb4.trans (hb6.mono hb4.size)).alloc (Nat.le_trans hb4.size hb6.size) (.cells #[.int .i64 k', .int .i64 i', .float .f64 f', .string s', .slice A' n' c9] 110)
    have hbv := Blk.new w6 110 #[.int .i64 k', .int .i64 i', .float .f64 f', .string s', .slice A' n' c9]
    have hv7 := hv.upd ((Upd.refl (fun _ => False) w6).alloc (.cells #[.int .i64 k', .int .i64 i', .float .f64 f', .string s', .slice A' n' c9] 110)) (fun _ _ h => h)
    have hck := ref_check hvr (w6.alloc (.cells #[.int .i64 k', .int .i64 i', .float .f64 f', .string s', .slice A' n' c9] 110)) ((Below.refl _ w6).alloc (Nat.le_refl _) _) (by simp)
    rw [hk] at hck
    have v0 := hbv.cell 0
    have v1 := hbv.cell 1
    have v2 := hbv.cell 2
    have v3 := hbv.cell 3
    have v4 := hbv.cell 4
    have hw6 : w.heap.size < w6.heap.size := Nat.lt_of_lt_of_le hz.lt hb6.size
    go_wp2_with fail
    refine hck.mono ?_
    clear hck
    rintro e w8 ⟨rfl, hb8⟩
    dsimp only
    have v0' := cell_keep hb8 v0
    have v1' := cell_keep hb8 v1
    have v2' := cell_keep hb8 v2
    have v3' := cell_keep hb8 v3
    have v4' := cell_keep hb8 v4
    have hz8 := hz6.below hb8 hz6.lt
    have hb9 := hb7.trans (hb8.mono hb7.size)
    have hv8 := hv7.upd (Upd.of_below_size (S := fun _ => False) hb8) (fun _ _ h => h)
    have hz9 := hz8.row #[.int .i64 k', .int .i64 i', .float .f64 f', .string s', .slice A' n' c9]
    have hb10 := below_row hb9 (g := w.heap.size) (Nat.le_refl _) #[.int .i64 k', .int .i64 i', .float .f64 f', .string s', .slice A' n' c9]
    have hv9 := hv8.upd ((Upd.refl (fun x => x = w.heap.size) w8).setRow (g := w.heap.size) (fun _ => rfl) #[.int .i64 k', .int .i64 i', .float .f64 f', .string s', .slice A' n' c9]) (fun g hg e => by have := hz.lt; omega)
    clear v0 v1 v2 v3 v4 hz6 hb7 hv7 hbv hvr hb8 hv8 hb9
    go_wp2_with (refine store_row_gen rfl 110 (Operand.tmp 2) _ rfl w.heap.size #[.int .i64 k', .int .i64 i', .float .f64 f', .string s', .slice A' n' c9] rfl rfl 110 _ hz8 (by kernel_rfl) rfl (by simp [Value.oneCell']) (fun w6 hw6 => ?_); rw [← hw6] at hz9 hb10 hv9; clear hw6)
    refine bodyPost_ret (v := .tuple #[.agg #[.int .i64 k', .int .i64 i', .float .f64 f', .string s', .slice A' n' c9], .int .i64 (m : Int), .int .i64 0]) ?hr rfl ?_
    case hr => exact results_ctt rfl _ _ w.heap.size 110 _ (0, 0) _ _ _ rfl rfl rfl hz9 Try.underlying110 rfl (by kernel_rfl)
    exact ⟨_, rfl, hv9.mono (fun g _ hg => by have := hz.lt; omega), hb10⟩
  · rw [h1]
    rintro e w6 ⟨k', i', f', s', A', n', c9, z, rfl, hb6⟩
    dsimp only
    have hz6 := (hz.below hb6 hz.lt).alloc (.cells #[.int .i64 k', .int .i64 i', .float .f64 f', .string s', .slice A' n' c9] 110)
    have hb7 := (hb4.trans (hb6.mono hb4.size)).alloc (Nat.le_trans hb4.size hb6.size) (.cells #[.int .i64 k', .int .i64 i', .float .f64 f', .string s', .slice A' n' c9] 110)
    have hz9 := hz6.row #[.int .i64 0, .int .i64 0, .float .f64 0, .string ⟨#[]⟩, .slice none 0 0]
    have hb10 := below_row hb7 (g := w.heap.size) (Nat.le_refl _) #[.int .i64 0, .int .i64 0, .float .f64 0, .string ⟨#[]⟩, .slice none 0 0]
    go_wp2_with (refine store_row_gen rfl 110 (Operand.tmp 2) _ rfl w.heap.size #[.int .i64 0, .int .i64 0, .float .f64 0, .string ⟨#[]⟩, .slice none 0 0] (by simp [go_sem]) (by simp [go_sem]) 110 _ hz6 (by kernel_rfl) rfl (by simp [Value.oneCell']) (fun w6 hw6 => ?_); rw [← hw6] at hz9 hb10; clear hw6)
    refine bodyPost_ret (v := .tuple #[.agg #[.int .i64 0, .int .i64 0, .float .f64 0, .string ⟨#[]⟩, .slice none 0 0], .int .i64 0, .int .i64 20]) ?hr rfl ?_
    case hr => exact results_ctt rfl _ _ w.heap.size 110 _ (0, 0) _ _ _ rfl rfl rfl hz9 Try.underlying110 rfl (by kernel_rfl)
    exact ⟨rfl, hb10⟩
  · rw [h1]
    rintro e w6 ⟨cs, rfl, hv, hb6⟩
    dsimp only
    obtain ⟨k', i', f', s', A', n', c9, hform⟩ := hv.reads.form
    have hvr := hv.reads
    subst hform
    have hz6 := (hz.below hb6 hz.lt).alloc (.cells #[.int .i64 k', .int .i64 i', .float .f64 f', .string s', .slice A' n' c9] 110)
    have hb7 := (hb4.trans (hb6.mono hb4.size)).alloc (Nat.le_trans hb4.size hb6.size) (.cells #[.int .i64 k', .int .i64 i', .float .f64 f', .string s', .slice A' n' c9] 110)
    have hbv := Blk.new w6 110 #[.int .i64 k', .int .i64 i', .float .f64 f', .string s', .slice A' n' c9]
    have hck := ref_check hvr (w6.alloc (.cells #[.int .i64 k', .int .i64 i', .float .f64 f', .string s', .slice A' n' c9] 110)) ((Below.refl _ w6).alloc (Nat.le_refl _) _) (by simp)
    have hne : ((checkV v : Int) != 0) = true := by rw [bne_iff_ne]; omega
    generalize checkV v = x at hck hne
    have v0 := hbv.cell 0
    have v1 := hbv.cell 1
    have v2 := hbv.cell 2
    have v3 := hbv.cell 3
    have v4 := hbv.cell 4
    have hw6 : w.heap.size < w6.heap.size := Nat.lt_of_lt_of_le hz.lt hb6.size
    clear hk
    go_wp2_with fail
    refine hck.mono ?_
    clear hck
    rintro e w8 ⟨rfl, hb8⟩
    dsimp only
    have hz8 := hz6.below hb8 hz6.lt
    have hb9 := hb7.trans (hb8.mono hb7.size)
    have hz9 := hz8.row #[.int .i64 0, .int .i64 0, .float .f64 0, .string ⟨#[]⟩, .slice none 0 0]
    have hb10 := below_row hb9 (g := w.heap.size) (Nat.le_refl _) #[.int .i64 0, .int .i64 0, .float .f64 0, .string ⟨#[]⟩, .slice none 0 0]
    clear v0 v1 v2 v3 v4 hz6 hb7 hbv hvr hb8 hb9
    go_wp2_with (refine store_row_gen rfl 110 (Operand.tmp 2) _ rfl w.heap.size #[.int .i64 0, .int .i64 0, .float .f64 0, .string ⟨#[]⟩, .slice none 0 0] (by simp [go_sem]) (by simp [go_sem]) 110 _ hz8 (by kernel_rfl) rfl (by simp [Value.oneCell']) (fun w6 hw6 => ?_); rw [← hw6] at hz9 hb10; clear hw6)
    refine bodyPost_ret (v := .tuple #[.agg #[.int .i64 0, .int .i64 0, .float .f64 0, .string ⟨#[]⟩, .slice none 0 0], .int .i64 0, .int .i64 20]) ?hr rfl ?_
    case hr => exact results_ctt rfl _ _ w.heap.size 110 _ (0, 0) _ _ _ rfl rfl rfl hz9 Try.underlying110 rfl (by kernel_rfl)
    exact ⟨rfl, hb10⟩
end Go.Proofs.Ytjljlgkghlphnaa
namespace Go.Proofs.Ytjljlgkghlphnaa
set_option maxRecDepth 100000
open Go.RowKit
theorem readT_enc (s more : List UInt8) (h : s.length ≤ 256) : readT (putU s.length 2 ++ s ++ more) 256 = (s, 2 + s.length, 0) := by
  have hr : readU (putU s.length 2) = s.length := by rw [readU_put]; exact Nat.mod_eq_of_lt (by omega)
  unfold readT
  rw [List.append_assoc, take_putU, drop_putU, hr, if_pos ⟨by simp [putU_len], by omega, by simp [putU_len]; omega⟩, List.take_left]
theorem cb_cb (f : Nat) : cb (cb f) = cb f := by
  by_cases h : nanB f = true
  · have hc : cb f = 9221120237041090561 := by unfold cb; rw [if_pos h]
    rw [hc]
    decide +kernel
  · have hc : cb f = f := by unfold cb; rw [if_neg h]
    rw [hc, hc]
theorem wrap_u64_back (i : Int) (h0 : -9223372036854775808 ≤ i) (h1 : i ≤ 9223372036854775807) : wrap64 (u64 i : Nat) = i := by
  unfold wrap64 u64
  omega
mutual
theorem pv_enc : ∀ (v : Val) (d : Nat) (more : List UInt8), OkV v → strangeV v = false → greatV v (d : Int) = false → pv d (encV v ++ more) = some (cleanV v, sizeV v)
  | .mk k i f s l, d, more, hok, hst, hg => by
    obtain ⟨hf, hi, hkids⟩ : f < 18446744073709551616 ∧ (-9223372036854775808 ≤ i ∧ i ≤ 9223372036854775807) ∧ (∀ v, v ∈ l → OkV v) := by
      cases hok with
      | mk h1 h2 h3 => exact ⟨h1, h2, h3⟩
    have hst2 : (decide (k < 0 ∨ 4 < k) || (k == 4 && strangeL l)) = false := hst
    simp only [Bool.or_eq_false_iff, decide_eq_false_iff_not] at hst2
    obtain ⟨hk, hsl⟩ := hst2
    unfold greatV at hg
    unfold encV cleanV sizeV
    by_cases h1 : k = 1
    · rw [if_pos h1, if_pos h1, if_pos (.inl h1), List.cons_append, pv_cons]
      have hr : readU (putU (u64 i) 8) = u64 i := by rw [readU_put]; exact Nat.mod_eq_of_lt (by unfold u64; omega)
      rw [if_neg (by decide), if_pos (by decide), if_neg (by simp [putU_len]), take_putU, hr, wrap_u64_back i hi.1 hi.2]
    by_cases h2 : k = 2
    · rw [if_neg h1, if_pos h2, if_neg h1, if_pos h2, if_pos (.inr h2), List.cons_append, pv_cons]
      have hr : readU (putU (cb f) 8) = cb f := by rw [readU_put]; exact Nat.mod_eq_of_lt (cb_lt hf)
      rw [if_neg (by decide), if_neg (by decide), if_pos (by decide), if_neg (by simp [putU_len]), take_putU, hr, if_pos (cb_cb f)]
    by_cases h3 : k = 3
    · rw [if_pos h3] at hg
      have hs : ¬ 256 < s.length := by simpa using hg
      rw [if_neg h1, if_neg h2, if_pos h3, if_neg h1, if_neg h2, if_pos h3, if_neg (by omega), if_pos h3, List.cons_append, pv_cons]
      rw [if_neg (by decide), if_neg (by decide), if_neg (by decide), if_pos (by decide), readT_enc s more (by omega), if_pos rfl]
      show some (Val.mk 3 0 0 s [], 1 + (2 + s.length)) = some (Val.mk 3 0 0 s [], 3 + s.length)
      rw [show 1 + (2 + s.length) = 3 + s.length from by omega]
    by_cases h4 : k = 4
    · rw [if_neg h3, if_pos h4] at hg
      simp only [Bool.or_eq_false_iff, decide_eq_false_iff_not] at hg
      obtain ⟨⟨h64, hd⟩, hgl⟩ := hg
      obtain ⟨e, rfl⟩ : ∃ e, d = e + 1 := ⟨d - 1, by omega⟩
      have hgl' : greatL l (e : Int) = false := by rw [← hgl]; congr 1; omega
      have hsl2 : strangeL l = false := by
        rw [h4] at hsl
        simpa using hsl
      have hn : (UInt8.ofNat l.length).toNat = l.length := by rw [UInt8.toNat_ofNat']; omega
      rw [if_neg h1, if_neg h2, if_neg h3, if_pos h4, if_neg h1, if_neg h2, if_neg h3, if_pos h4, if_neg (by omega), if_neg h3, if_pos h4, List.cons_append, List.cons_append, pv_cons]
      rw [if_neg (by decide), if_neg (by decide), if_neg (by decide), if_neg (by decide), if_pos (by decide)]
      dsimp only
      rw [hn, if_neg (by omega), pl_enc l e more hkids hsl2 hgl']
    · rw [if_neg h1, if_neg h2, if_neg h3, if_neg h4, if_neg h1, if_neg h2, if_neg h3, if_neg h4, if_neg (by omega), if_neg h3, if_neg h4]
      show pv d (0 :: more) = _
      rw [pv_cons, if_pos (by decide)]
theorem pl_enc : ∀ (l : List Val) (d : Nat) (more : List UInt8), (∀ v, v ∈ l → OkV v) → strangeL l = false → greatL l (d : Int) = false → pl (pv d) l.length (encL l ++ more) = some (cleanL l, sizeL l)
  | [], d, more, _, _, _ => rfl
  | v :: l, d, more, hok, hst, hg => by
    have hst := Bool.or_eq_false_iff.1 (show (strangeV v || strangeL l) = false from hst)
    have hg := Bool.or_eq_false_iff.1 (show (greatV v (d : Int) || greatL l (d : Int)) = false from hg)
    have e1 := pv_enc v d (encL l ++ more) (hok v (by simp)) hst.1 hg.1
    have e2 := pl_enc l d more (fun x hx => hok x (by simp [hx])) hst.2 hg.2
    show pl (pv d) (l.length + 1) ((encV v ++ encL l) ++ more) = some (cleanV v :: cleanL l, sizeV v + sizeL l)
    rw [List.append_assoc, pl, e1]
    dsimp only
    rw [show (encV v ++ (encL l ++ more)).drop (sizeV v) = encL l ++ more from by rw [← encV_len v, List.drop_left], e2]
end
theorem checkV_zero {v : Val} (h : checkV v = 0) : strangeV v = false ∧ greatV v 8 = false ∧ sizeV v ≤ 4096 := by
  rcases checkV_cases v with ⟨_, e⟩ | ⟨_, _, e⟩ | ⟨_, _, _, e⟩ | ⟨h1, h2, h3, _⟩
  · omega
  · omega
  · omega
  · exact ⟨h1, h2, h3⟩
end Go.Proofs.Ytjljlgkghlphnaa
