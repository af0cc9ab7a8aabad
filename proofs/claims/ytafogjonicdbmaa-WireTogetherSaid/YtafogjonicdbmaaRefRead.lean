/- choirref3.read at any bytes. -/
import Derived.Test.YtafogjonicdbmaaPuts
namespace Go.Proofs.Ytafogjonicdbmaa
open Go.RowKit

theorem results_ctt {P : Program} {fn : Func} {p u x : Tmp} {ty : TypeId} (h : fn.results = #[.cell p ty, .tmp u, .tmp x]) (tmps : Array Value) (w : World) (g : Nat) (t : TypeId) (cs : Array Value) (fr : Nat × Nat) (d : TypeDesc) (v y : Value)
    (hp : tmps.getD p undef = .pointer (some ⟨g, 0, none⟩)) (hv : tmps.getD u undef = v) (hy : tmps.getD x undef = y) (hg : w.heap[g]? = some (.cells cs t fr))
    (hu : P.underlying ty = some d) (hd : (match d with | .struct _ | .array _ _ => true | _ => false) = true) (hi : (P.info? ty).map (·.size) = some cs.size) :
    (results fn tmps).run P w = .ok (.tuple #[.agg cs, v, y]) w := by
  have hp' : tmps[p]?.getD undef = .pointer (some ⟨g, 0, none⟩) := by simpa using hp
  have hv' : tmps[u]?.getD undef = v := by simpa using hv
  have hy' : tmps[x]?.getD undef = y := by simpa using hy
  simp [results, h, hp', hv', hy', asAddr, run_loadVar_row w g t ty cs fr d hg hu hd hi]

def pvE : Nat → List UInt8 → Option (Val × Nat)
  | 0, _ => none
  | _ + 1, [] => none
  | e + 1, k :: t =>
    if k.toNat = 0 then some (.mk 0 0 0 [] [], 1)
    else if k.toNat = 1 then (if t.length < 8 then none else some (.mk 1 (wrap64 (readU (t.take 8))) 0 [] [], 9))
    else if k.toNat = 2 then (if t.length < 8 then none else if cb (readU (t.take 8)) = readU (t.take 8) then some (.mk 2 0 (readU (t.take 8)) [] [], 9) else none)
    else if k.toNat = 3 then (if (readT t 256).2.2 = 0 then some (.mk 3 0 0 (readT t 256).1 [], 1 + (readT t 256).2.1) else none)
    else if k.toNat = 4 then
      match t with
      | [] => none
      | n :: u => if 64 < n.toNat then none else match pl (pvE e) n.toNat u with
        | none => none
        | some (l, m) => some (.mk 4 0 0 [] l, 2 + m)
    else none

/-- What read tells. -/
def RRes (w : World) (o : Option (Val × Nat)) (e : Ending) (w' : World) : Prop :=
  match o with
  | some (v, m) => ∃ cs, e = .returned (.tuple #[.agg cs, .int .i64 (m : Int), .bool true]) ∧ VOwn w' (fun g => w.heap.size ≤ g) v cs ∧ Below w.heap.size w w'
  | none => ∃ k i f s A n c z, e = .returned (.tuple #[.agg #[.int .i64 k, .int .i64 i, .float .f64 f, .string s, .slice A n c], .int .i64 z, .bool false]) ∧ Below w.heap.size w w'

set_option maxRecDepth 100000 in
set_option maxHeartbeats 1600000 in
theorem refread_end {A : Option Addr} {c : Nat} {d : Int} {w : World} : Calls Try.prog 41 #[.slice A 0 c, .int .i64 d] w (RRes w none) := by
  have hz3 := Blk.new w 26 #[.int .i64 0, .int .i64 0, .float .f64 0, .string ⟨#[]⟩, .slice none 0 0]
  have hb4 := (Below.refl w.heap.size w).alloc (Nat.le_refl _) (.cells #[.int .i64 0, .int .i64 0, .float .f64 0, .string ⟨#[]⟩, .slice none 0 0] 26)
  have hz4 := hz3.row #[.int .i64 0, .int .i64 0, .float .f64 0, .string ⟨#[]⟩, .slice none 0 0]
  have hb5 := below_row hb4 (g := w.heap.size) (by omega) #[.int .i64 0, .int .i64 0, .float .f64 0, .string ⟨#[]⟩, .slice none 0 0]
  go_enter Try.func41, Try.ntmps41
  go_wp2_with (refine store_row_gen rfl 26 (Operand.tmp 4) _ rfl w.heap.size #[.int .i64 0, .int .i64 0, .float .f64 0, .string ⟨#[]⟩, .slice none 0 0] (by simp [go_sem]) (by simp [go_sem]) 26 _ hz3 (by kernel_rfl) rfl (by simp [Value.oneCell']) (fun w6 hw6 => ?_); rw [← hw6] at hz4 hb5; clear hw6)
  refine bodyPost_ret (v := .tuple #[.agg #[.int .i64 0, .int .i64 0, .float .f64 0, .string ⟨#[]⟩, .slice none 0 0], .int .i64 0, .bool false]) ?hr rfl ?_
  case hr => exact results_ctt rfl _ _ w.heap.size 26 _ (0, 0) _ _ _ rfl rfl rfl hz4 Try.underlying26 rfl (by kernel_rfl)
  exact ⟨_, _, _, _, _, _, _, _, rfl, hb5⟩

set_option maxRecDepth 100000 in
set_option maxHeartbeats 1600000 in
theorem refread_deep {A : Option Addr} {n c : Nat} {d : Int} {w : World} (hn : 0 < n) (hd : 8 < d) : Calls Try.prog 41 #[.slice A n c, .int .i64 d] w (RRes w none) := by
  have hn0 : ((n : Int) == 0) = false := by rw [beq_eq_false_iff_ne]; omega
  have hz3 := Blk.new w 26 #[.int .i64 0, .int .i64 0, .float .f64 0, .string ⟨#[]⟩, .slice none 0 0]
  have hb4 := (Below.refl w.heap.size w).alloc (Nat.le_refl _) (.cells #[.int .i64 0, .int .i64 0, .float .f64 0, .string ⟨#[]⟩, .slice none 0 0] 26)
  have hz4 := hz3.row #[.int .i64 0, .int .i64 0, .float .f64 0, .string ⟨#[]⟩, .slice none 0 0]
  have hb5 := below_row hb4 (g := w.heap.size) (by omega) #[.int .i64 0, .int .i64 0, .float .f64 0, .string ⟨#[]⟩, .slice none 0 0]
  go_enter Try.func41, Try.ntmps41
  go_wp2_with (refine store_row_gen rfl 26 (Operand.tmp 4) _ rfl w.heap.size #[.int .i64 0, .int .i64 0, .float .f64 0, .string ⟨#[]⟩, .slice none 0 0] (by simp [go_sem]) (by simp [go_sem]) 26 _ hz3 (by kernel_rfl) rfl (by simp [Value.oneCell']) (fun w6 hw6 => ?_); rw [← hw6] at hz4 hb5; clear hw6)
  refine bodyPost_ret (v := .tuple #[.agg #[.int .i64 0, .int .i64 0, .float .f64 0, .string ⟨#[]⟩, .slice none 0 0], .int .i64 0, .bool false]) ?hr rfl ?_
  case hr => exact results_ctt rfl _ _ w.heap.size 26 _ (0, 0) _ _ _ rfl rfl rfl hz4 Try.underlying26 rfl (by kernel_rfl)
  exact ⟨_, _, _, _, _, _, _, _, rfl, hb5⟩

set_option maxRecDepth 100000 in
set_option maxHeartbeats 1600000 in
theorem refread_nil {ad : Addr} {n c : Nat} {d : Int} {w : World} (hn : 0 < n) (hd : d ≤ 8) (hk : w.cell? ad = some (.int .u8 0)) : Calls Try.prog 41 #[.slice (some ad) n c, .int .i64 d] w (RRes w (some (.mk 0 0 0 [] [], 1))) := by
  have hn0 : ((n : Int) == 0) = false := by rw [beq_eq_false_iff_ne]; omega
  have hz3 := Blk.new w 26 #[.int .i64 0, .int .i64 0, .float .f64 0, .string ⟨#[]⟩, .slice none 0 0]
  have hb4 := (Below.refl w.heap.size w).alloc (Nat.le_refl _) (.cells #[.int .i64 0, .int .i64 0, .float .f64 0, .string ⟨#[]⟩, .slice none 0 0] 26)
  have hk1 := (hb4.cell (World.block_lt_of_cell? w _ hk)).trans hk
  have hz4 := hz3.row #[.int .i64 0, .int .i64 0, .float .f64 0, .string ⟨#[]⟩, .slice none 0 0]
  have hb5 := below_row hb4 (g := w.heap.size) (by omega) #[.int .i64 0, .int .i64 0, .float .f64 0, .string ⟨#[]⟩, .slice none 0 0]
  have h0 : (0 : Nat) < n := hn
  go_enter Try.func41, Try.ntmps41
  go_wp2_with (refine store_row_gen rfl 26 (Operand.tmp 4) _ rfl w.heap.size #[.int .i64 0, .int .i64 0, .float .f64 0, .string ⟨#[]⟩, .slice none 0 0] (by simp [go_sem]) (by simp [go_sem]) 26 _ hz3 (by kernel_rfl) rfl (by simp [Value.oneCell']) (fun w6 hw6 => ?_); rw [← hw6] at hz4 hb5; clear hw6)
  refine bodyPost_ret (v := .tuple #[.agg #[.int .i64 0, .int .i64 0, .float .f64 0, .string ⟨#[]⟩, .slice none 0 0], .int .i64 1, .bool true]) ?hr rfl ?_
  case hr => exact results_ctt rfl _ _ w.heap.size 26 _ (0, 0) _ _ _ rfl rfl rfl hz4 Try.underlying26 rfl (by kernel_rfl)
  exact ⟨_, rfl, VOwn.flat _ _ 0 0 0 [], hb5⟩

/-- b[1:] -/
theorem cut1 {w : World} {B : Nat} {ad : Addr} {c : Nat} {k : UInt8} {t : List UInt8} (hr : Reads w B 1 (some ad) (k :: t).length (bys (k :: t))) (hc : (k :: t).length ≤ c) : Reads w B 1 (if c = 1 then some ad else some (ad.add 1)) t.length (bys t) ∧ w.cell? ad = some (.int .u8 (k.toNat : Int)) := by
  have h1 := hr.cut (k := 1) (cap := c) (by simp) hc
  refine ⟨by simpa [bys] using h1, ?_⟩
  obtain ⟨a, e, -, hcell⟩ := hr.2 (by simp)
  cases e
  have := hcell 0 (byv k) (by simp [bys])
  simpa [byv, Addr.add] using this

set_option maxRecDepth 100000 in
set_option maxHeartbeats 1600000 in
theorem refread_int {ad : Addr} {c : Nat} {k : UInt8} {t : List UInt8} {d : Int} {w : World} (hr : Reads w w.heap.size 1 (some ad) (k :: t).length (bys (k :: t))) (hc : (k :: t).length ≤ c) (hl : (k :: t).length ≤ 1000000000) (hd : d ≤ 8) (hk : k.toNat = 1) :
    Calls Try.prog 41 #[.slice (some ad) (k :: t).length c, .int .i64 d] w (RRes w (if t.length < 8 then none else some (Val.mk 1 (wrap64 (readU (t.take 8))) 0 [] [], 9))) := by
  obtain ⟨ht, hk0⟩ := cut1 hr hc
  rw [hk] at hk0
  obtain ⟨n, hn⟩ : ∃ n, (k :: t).length = n := ⟨_, rfl⟩
  have hnt : n - 1 = t.length := by rw [← hn]; simp
  rw [hn] at hc hl ⊢
  have hn1 : 1 ≤ n := by rw [← hn]; simp
  clear hr hn hk
  have hn0 : ((n : Int) == 0) = false := by rw [beq_eq_false_iff_ne]; omega
  have hz3 := Blk.new w 26 #[.int .i64 0, .int .i64 0, .float .f64 0, .string ⟨#[]⟩, .slice none 0 0]
  have hb4 := (Below.refl w.heap.size w).alloc (Nat.le_refl _) (.cells #[.int .i64 0, .int .i64 0, .float .f64 0, .string ⟨#[]⟩, .slice none 0 0] 26)
  have hk1 : (w.alloc (.cells #[.int .i64 0, .int .i64 0, .float .f64 0, .string ⟨#[]⟩, .slice none 0 0] 26)).cell? ad = some (.int .u8 1) := (hb4.cell (World.block_lt_of_cell? w _ hk0)).trans hk0
  have h0 : (0 : Nat) < n := by omega
  obtain ⟨u, hu⟩ : ∃ u, readN t 8 = u := ⟨_, rfl⟩
  have hcall : ∀ A2 c2, Reads w w.heap.size 1 A2 t.length (bys t) → n - 1 ≤ c2 → Calls Try.prog 20 #[.slice A2 (n - 1) c2, .int .i64 8] (w.alloc (.cells #[.int .i64 0, .int .i64 0, .float .f64 0, .string ⟨#[]⟩, .slice none 0 0] 26)) (ReadRes (w.alloc (.cells #[.int .i64 0, .int .i64 0, .float .f64 0, .string ⟨#[]⟩, .slice none 0 0] 26)) u) := by
    intro A2 c2 h2 h3
    rw [hnt] at h3 ⊢
    exact ref_read_any ((h2.below hb4).more hb4.size) (by omega) hu
  have hcall2 : Calls Try.prog 20 #[.slice (if c = 1 then some ad else some (ad.add 1)) (n - 1) (c - 1), .int .i64 8] _ _ := hcall _ (c - 1) ht (by omega)
  obtain ⟨q, v⟩ := u
  replace hnt := Lib.hid hnt
  replace hu := Lib.hid hu
  clear hcall ht hk0
  obtain ⟨o, ho⟩ : ∃ o, (if t.length < 8 then none else some (Val.mk 1 (wrap64 (readU (t.take 8))) 0 [] [], 9)) = o := ⟨_, rfl⟩
  rw [ho]
  have hfin : ∀ w6, Below w.heap.size w w6 → RRes w o (.returned (.tuple #[.agg #[.int .i64 1, .int .i64 (wrap64 q), .float .f64 0, .string ⟨#[]⟩, .slice none 0 0], .int .i64 9, .bool v])) w6 := by
    rw [← ho]
    intro w6 h6
    have e := hu.out
    unfold readN at e
    by_cases h8 : t.length < 8
    · rw [if_neg (by omega)] at e
      rw [if_pos h8]
      cases e
      exact ⟨_, _, _, _, _, _, _, _, rfl, h6⟩
    · rw [if_pos (by omega)] at e
      rw [if_neg h8]
      cases e
      exact ⟨_, rfl, VOwn.flat _ _ 1 _ 0 [], h6⟩
  replace hfin := Lib.hid hfin
  clear ho
  by_cases hc1 : c = 1
  · rw [if_pos hc1] at hcall2
    have hn1' : n = 1 := by omega
    subst hc1 hn1'
    replace hcall2 : Calls Try.prog 20 #[.slice (some ad) 0 0, .int .i64 8] _ _ := hcall2
    go_enter Try.func41, Try.ntmps41
    go_wp2_with fail
    refine hcall2.mono ?_
    clear hcall2
    rintro e w3 ⟨rfl, hb3⟩
    dsimp only
    go_wp2_with fail
    refine (int_ref _ _).mono ?_
    rintro e w4 ⟨rfl, hb5⟩
    dsimp only
    have hz4 := hz3.below hb3 hz3.lt
    have hz5 := hz4.below hb5 hz4.lt
    have hb6 := below_then hb5 (below_then hb3 hb4)
    have hz6 := hz5.row #[.int .i64 1, .int .i64 (wrap64 q), .float .f64 0, .string ⟨#[]⟩, .slice none 0 0]
    have hb7 := below_row hb6 (g := w.heap.size) (by omega) #[.int .i64 1, .int .i64 (wrap64 q), .float .f64 0, .string ⟨#[]⟩, .slice none 0 0]
    clear hk1 hb3 hb4 hb5 hz3 hz4
    go_wp2_with (refine store_row_gen rfl 26 (Operand.tmp 4) _ rfl w.heap.size #[.int .i64 1, .int .i64 (wrap64 q), .float .f64 0, .string ⟨#[]⟩, .slice none 0 0] rfl rfl 26 _ hz5 (by kernel_rfl) rfl (by simp [Value.oneCell']) (fun w6 hw6 => ?_); rw [← hw6] at hz6 hb7; clear hw6)
    refine bodyPost_ret (v := .tuple #[.agg #[.int .i64 1, .int .i64 (wrap64 q), .float .f64 0, .string ⟨#[]⟩, .slice none 0 0], .int .i64 9, .bool v]) ?hr rfl ?_
    case hr => exact results_ctt rfl _ _ w.heap.size 26 _ (0, 0) _ _ _ rfl rfl rfl hz6 Try.underlying26 rfl (by kernel_rfl)
    exact hfin.out _ hb7
  · rw [if_neg hc1] at hcall2
    go_enter Try.func41, Try.ntmps41
    go_wp2_with fail
    refine hcall2.mono ?_
    clear hcall2
    rintro e w3 ⟨rfl, hb3⟩
    dsimp only
    go_wp2_with fail
    refine (int_ref _ _).mono ?_
    rintro e w4 ⟨rfl, hb5⟩
    dsimp only
    have hz4 := hz3.below hb3 hz3.lt
    have hz5 := hz4.below hb5 hz4.lt
    have hb6 := below_then hb5 (below_then hb3 hb4)
    have hz6 := hz5.row #[.int .i64 1, .int .i64 (wrap64 q), .float .f64 0, .string ⟨#[]⟩, .slice none 0 0]
    have hb7 := below_row hb6 (g := w.heap.size) (by omega) #[.int .i64 1, .int .i64 (wrap64 q), .float .f64 0, .string ⟨#[]⟩, .slice none 0 0]
    clear hk1 hb3 hb4 hb5 hz3 hz4
    go_wp2_with (refine store_row_gen rfl 26 (Operand.tmp 4) _ rfl w.heap.size #[.int .i64 1, .int .i64 (wrap64 q), .float .f64 0, .string ⟨#[]⟩, .slice none 0 0] rfl rfl 26 _ hz5 (by kernel_rfl) rfl (by simp [Value.oneCell']) (fun w6 hw6 => ?_); rw [← hw6] at hz6 hb7; clear hw6)
    refine bodyPost_ret (v := .tuple #[.agg #[.int .i64 1, .int .i64 (wrap64 q), .float .f64 0, .string ⟨#[]⟩, .slice none 0 0], .int .i64 9, .bool v]) ?hr rfl ?_
    case hr => exact results_ctt rfl _ _ w.heap.size 26 _ (0, 0) _ _ _ rfl rfl rfl hz6 Try.underlying26 rfl (by kernel_rfl)
    exact hfin.out _ hb7

set_option maxRecDepth 100000 in
set_option maxHeartbeats 1600000 in
theorem refread_float {ad : Addr} {c : Nat} {k : UInt8} {t : List UInt8} {d : Int} {w : World} (hr : Reads w w.heap.size 1 (some ad) (k :: t).length (bys (k :: t))) (hc : (k :: t).length ≤ c) (hl : (k :: t).length ≤ 1000000000) (hd : d ≤ 8) (hk : k.toNat = 2) :
    Calls Try.prog 41 #[.slice (some ad) (k :: t).length c, .int .i64 d] w (RRes w (if t.length < 8 then none else if cb (readU (t.take 8)) = readU (t.take 8) then some (Val.mk 2 0 (readU (t.take 8)) [] [], 9) else none)) := by
  obtain ⟨ht, hk0⟩ := cut1 hr hc
  rw [hk] at hk0
  obtain ⟨n, hn⟩ : ∃ n, (k :: t).length = n := ⟨_, rfl⟩
  have hnt : n - 1 = t.length := by rw [← hn]; simp
  rw [hn] at hc hl ⊢
  have hn1 : 1 ≤ n := by rw [← hn]; simp
  clear hr hn hk
  have hn0 : ((n : Int) == 0) = false := by rw [beq_eq_false_iff_ne]; omega
  have hz3 := Blk.new w 26 #[.int .i64 0, .int .i64 0, .float .f64 0, .string ⟨#[]⟩, .slice none 0 0]
  have hb4 := (Below.refl w.heap.size w).alloc (Nat.le_refl _) (.cells #[.int .i64 0, .int .i64 0, .float .f64 0, .string ⟨#[]⟩, .slice none 0 0] 26)
  have hk1 : (w.alloc (.cells #[.int .i64 0, .int .i64 0, .float .f64 0, .string ⟨#[]⟩, .slice none 0 0] 26)).cell? ad = some (.int .u8 2) := (hb4.cell (World.block_lt_of_cell? w _ hk0)).trans hk0
  have h0 : (0 : Nat) < n := by omega
  obtain ⟨u, hu⟩ : ∃ u, readN t 8 = u := ⟨_, rfl⟩
  have hcall : ∀ A2 c2, Reads w w.heap.size 1 A2 t.length (bys t) → n - 1 ≤ c2 → Calls Try.prog 20 #[.slice A2 (n - 1) c2, .int .i64 8] (w.alloc (.cells #[.int .i64 0, .int .i64 0, .float .f64 0, .string ⟨#[]⟩, .slice none 0 0] 26)) (ReadRes (w.alloc (.cells #[.int .i64 0, .int .i64 0, .float .f64 0, .string ⟨#[]⟩, .slice none 0 0] 26)) u) := by
    intro A2 c2 h2 h3
    rw [hnt] at h3 ⊢
    exact ref_read_any ((h2.below hb4).more hb4.size) (by omega) hu
  have hcall2 : Calls Try.prog 20 #[.slice (if c = 1 then some ad else some (ad.add 1)) (n - 1) (c - 1), .int .i64 8] _ _ := hcall _ (c - 1) ht (by omega)
  obtain ⟨q, v⟩ := u
  obtain ⟨y, hy⟩ : ∃ y, cb q = y := ⟨_, rfl⟩
  have hbit := fun w => ref_bits q w
  have hflt := fun w => float_ref q w
  rw [hy] at hbit hflt
  have hfb := fun w => run_frombits q w
  replace hnt := Lib.hid hnt
  replace hu := Lib.hid hu
  clear hcall ht hk0
  obtain ⟨o, ho⟩ : ∃ o, (if t.length < 8 then none else if cb (readU (t.take 8)) = readU (t.take 8) then some (Val.mk 2 0 (readU (t.take 8)) [] [], 9) else none) = o := ⟨_, rfl⟩
  rw [ho]
  have hfin : ∀ w6 b, b = (v && decide (y = q)) → Below w.heap.size w w6 → RRes w o (.returned (.tuple #[.agg #[.int .i64 2, .int .i64 0, .float .f64 y, .string ⟨#[]⟩, .slice none 0 0], .int .i64 9, .bool b])) w6 := by
    rw [← ho, ← hy]
    intro w6 b hb h6
    have e := hu.out
    unfold readN at e
    by_cases h8 : t.length < 8
    · rw [if_neg (by omega)] at e
      rw [if_pos h8]
      cases e
      rw [hb]
      exact ⟨_, _, _, _, _, _, _, _, rfl, h6⟩
    · rw [if_pos (by omega)] at e
      rw [if_neg h8]
      cases e
      by_cases h9 : cb (readU (t.take 8)) = readU (t.take 8)
      · rw [if_pos h9, hb]
        have e9 : (8 : Int).toNat = 8 := rfl
        simp only [e9, h9]
        exact ⟨_, rfl, VOwn.flat _ _ 2 0 _ [], h6⟩
      · rw [if_neg h9, hb]
        have e9 : (8 : Int).toNat = 8 := rfl
        simp only [e9, decide_eq_false h9]
        exact ⟨_, _, _, _, _, _, _, _, rfl, h6⟩
  replace hfin := Lib.hid hfin
  have hyq : ((y : Int) == (q : Int)) = decide (y = q) := by
    by_cases h : y = q
    · subst h; simp
    · rw [decide_eq_false h, beq_eq_false_iff_ne]; omega
  generalize decide (y = q) = b0 at *
  clear ho hy
  by_cases hc1 : c = 1
  · rw [if_pos hc1] at hcall2
    have hn1' : n = 1 := by omega
    subst hc1 hn1'
    replace hcall2 : Calls Try.prog 20 #[.slice (some ad) 0 0, .int .i64 8] _ _ := hcall2
    go_enter Try.func41, Try.ntmps41
    go_wp2_with fail
    refine hcall2.mono ?_
    clear hcall2
    rintro e w3 ⟨rfl, hb3⟩
    dsimp only
    go_wp2_with fail
    refine (hflt _).mono ?_
    rintro e w4 ⟨rfl, hb5⟩
    dsimp only
    have hz4 := hz3.below hb3 hz3.lt
    have hz5 := hz4.below hb5 hz4.lt
    have hb6 := below_then hb5 (below_then hb3 hb4)
    have hz6 := hz5.row #[.int .i64 2, .int .i64 0, .float .f64 y, .string ⟨#[]⟩, .slice none 0 0]
    have hb7 := below_row hb6 (g := w.heap.size) (by omega) #[.int .i64 2, .int .i64 0, .float .f64 y, .string ⟨#[]⟩, .slice none 0 0]
    clear hk1 hb3 hb4 hb5 hz3 hz4
    cases v
    · go_wp2_with (refine store_row_gen rfl 26 (Operand.tmp 4) _ rfl w.heap.size #[.int .i64 2, .int .i64 0, .float .f64 y, .string ⟨#[]⟩, .slice none 0 0] rfl rfl 26 _ hz5 (by kernel_rfl) rfl (by simp [Value.oneCell']) (fun w6 hw6 => ?_); rw [← hw6] at hz6 hb7; clear hw6)
      refine bodyPost_ret (v := .tuple #[.agg #[.int .i64 2, .int .i64 0, .float .f64 y, .string ⟨#[]⟩, .slice none 0 0], .int .i64 9, .bool false]) ?hr rfl ?_
      case hr => exact results_ctt rfl _ _ w.heap.size 26 _ (0, 0) _ _ _ rfl rfl rfl hz6 Try.underlying26 rfl (by kernel_rfl)
      exact hfin.out _ _ rfl hb7
    · go_wp2_with fail
      refine (hbit _).mono ?_
      rintro e w5 ⟨rfl, rfl⟩
      dsimp only
      go_wp2_with (refine store_row_gen rfl 26 (Operand.tmp 4) _ rfl w.heap.size #[.int .i64 2, .int .i64 0, .float .f64 y, .string ⟨#[]⟩, .slice none 0 0] rfl rfl 26 _ hz5 (by kernel_rfl) rfl (by simp [Value.oneCell']) (fun w6 hw6 => ?_); rw [← hw6] at hz6 hb7; clear hw6)
      refine bodyPost_ret (v := .tuple #[.agg #[.int .i64 2, .int .i64 0, .float .f64 y, .string ⟨#[]⟩, .slice none 0 0], .int .i64 9, .bool b0]) ?hr rfl ?_
      case hr => exact results_ctt rfl _ _ w.heap.size 26 _ (0, 0) _ _ _ rfl rfl rfl hz6 Try.underlying26 rfl (by kernel_rfl)
      exact hfin.out _ _ rfl hb7
  · rw [if_neg hc1] at hcall2
    go_enter Try.func41, Try.ntmps41
    go_wp2_with fail
    refine hcall2.mono ?_
    clear hcall2
    rintro e w3 ⟨rfl, hb3⟩
    dsimp only
    go_wp2_with fail
    refine (hflt _).mono ?_
    rintro e w4 ⟨rfl, hb5⟩
    dsimp only
    have hz4 := hz3.below hb3 hz3.lt
    have hz5 := hz4.below hb5 hz4.lt
    have hb6 := below_then hb5 (below_then hb3 hb4)
    have hz6 := hz5.row #[.int .i64 2, .int .i64 0, .float .f64 y, .string ⟨#[]⟩, .slice none 0 0]
    have hb7 := below_row hb6 (g := w.heap.size) (by omega) #[.int .i64 2, .int .i64 0, .float .f64 y, .string ⟨#[]⟩, .slice none 0 0]
    clear hk1 hb3 hb4 hb5 hz3 hz4
    cases v
    · go_wp2_with (refine store_row_gen rfl 26 (Operand.tmp 4) _ rfl w.heap.size #[.int .i64 2, .int .i64 0, .float .f64 y, .string ⟨#[]⟩, .slice none 0 0] rfl rfl 26 _ hz5 (by kernel_rfl) rfl (by simp [Value.oneCell']) (fun w6 hw6 => ?_); rw [← hw6] at hz6 hb7; clear hw6)
      refine bodyPost_ret (v := .tuple #[.agg #[.int .i64 2, .int .i64 0, .float .f64 y, .string ⟨#[]⟩, .slice none 0 0], .int .i64 9, .bool false]) ?hr rfl ?_
      case hr => exact results_ctt rfl _ _ w.heap.size 26 _ (0, 0) _ _ _ rfl rfl rfl hz6 Try.underlying26 rfl (by kernel_rfl)
      exact hfin.out _ _ rfl hb7
    · go_wp2_with fail
      refine (hbit _).mono ?_
      rintro e w5 ⟨rfl, rfl⟩
      dsimp only
      go_wp2_with (refine store_row_gen rfl 26 (Operand.tmp 4) _ rfl w.heap.size #[.int .i64 2, .int .i64 0, .float .f64 y, .string ⟨#[]⟩, .slice none 0 0] rfl rfl 26 _ hz5 (by kernel_rfl) rfl (by simp [Value.oneCell']) (fun w6 hw6 => ?_); rw [← hw6] at hz6 hb7; clear hw6)
      refine bodyPost_ret (v := .tuple #[.agg #[.int .i64 2, .int .i64 0, .float .f64 y, .string ⟨#[]⟩, .slice none 0 0], .int .i64 9, .bool b0]) ?hr rfl ?_
      case hr => exact results_ctt rfl _ _ w.heap.size 26 _ (0, 0) _ _ _ rfl rfl rfl hz6 Try.underlying26 rfl (by kernel_rfl)
      exact hfin.out _ _ rfl hb7

set_option maxRecDepth 100000 in
set_option maxHeartbeats 1600000 in
theorem refread_text {ad : Addr} {c : Nat} {k : UInt8} {t : List UInt8} {d : Int} {w : World} (hr : Reads w w.heap.size 1 (some ad) (k :: t).length (bys (k :: t))) (hc : (k :: t).length ≤ c) (hl : (k :: t).length ≤ 1000000000) (hd : d ≤ 8) (hk : k.toNat = 3) :
    Calls Try.prog 41 #[.slice (some ad) (k :: t).length c, .int .i64 d] w (RRes w (if (readT t 256).2.2 = 0 then some (Val.mk 3 0 0 (readT t 256).1 [], 1 + (readT t 256).2.1) else none)) := by
  obtain ⟨ht, hk0⟩ := cut1 hr hc
  rw [hk] at hk0
  obtain ⟨n, hn⟩ : ∃ n, (k :: t).length = n := ⟨_, rfl⟩
  have hnt : n - 1 = t.length := by rw [← hn]; simp
  rw [hn] at hc hl ⊢
  have hn1 : 1 ≤ n := by rw [← hn]; simp
  clear hr hn hk
  have hn0 : ((n : Int) == 0) = false := by rw [beq_eq_false_iff_ne]; omega
  have hz3 := Blk.new w 26 #[.int .i64 0, .int .i64 0, .float .f64 0, .string ⟨#[]⟩, .slice none 0 0]
  have hb4 := (Below.refl w.heap.size w).alloc (Nat.le_refl _) (.cells #[.int .i64 0, .int .i64 0, .float .f64 0, .string ⟨#[]⟩, .slice none 0 0] 26)
  have hk1 : (w.alloc (.cells #[.int .i64 0, .int .i64 0, .float .f64 0, .string ⟨#[]⟩, .slice none 0 0] 26)).cell? ad = some (.int .u8 3) := (hb4.cell (World.block_lt_of_cell? w _ hk0)).trans hk0
  have h0 : (0 : Nat) < n := by omega
  have htn := readT_n t
  have hte := readT_e t 256
  obtain ⟨u, hu⟩ : ∃ u, readT t 256 = u := ⟨_, rfl⟩
  rw [hu] at htn hte ⊢
  have hcall : ∀ A2 c2, Reads w w.heap.size 1 A2 t.length (bys t) → n - 1 ≤ c2 → Calls Try.prog 25 #[.slice A2 (n - 1) c2, .int .i64 256] (w.alloc (.cells #[.int .i64 0, .int .i64 0, .float .f64 0, .string ⟨#[]⟩, .slice none 0 0] 26)) (TextRes (w.alloc (.cells #[.int .i64 0, .int .i64 0, .float .f64 0, .string ⟨#[]⟩, .slice none 0 0] 26)) u) := by
    intro A2 c2 h2 h3
    rw [hnt] at h3 ⊢
    exact ref_read_text ((h2.below hb4).more hb4.size) h3 (by omega) hu
  have hcall2 : Calls Try.prog 25 #[.slice (if c = 1 then some ad else some (ad.add 1)) (n - 1) (c - 1), .int .i64 256] _ _ := hcall _ (c - 1) ht (by omega)
  replace hnt := Lib.hid hnt
  clear hcall ht hk0 hu
  obtain ⟨o, ho⟩ : ∃ o, (if (u).2.2 = 0 then some (Val.mk 3 0 0 (u).1 [], 1 + (u).2.1) else none) = o := ⟨_, rfl⟩
  rw [ho]
  obtain ⟨s, m, x⟩ := u
  have hfin : ∀ w6 b, b = decide (x = 0) → Below w.heap.size w w6 → RRes w o (.returned (.tuple #[.agg #[.int .i64 3, .int .i64 0, .float .f64 0, .string (bstr s), .slice none 0 0], .int .i64 (1 + (m : Int)), .bool b])) w6 := by
    rw [← ho]
    intro w6 b hb h6
    by_cases h9 : x = 0
    · subst h9
      rw [if_pos rfl, hb]
      refine ⟨_, ?_, VOwn.flat _ _ 3 0 0 s, h6⟩
      have e : ((1 + m : Nat) : Int) = 1 + (m : Int) := by omega
      show Ending.returned _ = Ending.returned (.tuple #[_, .int .i64 ((1 + m : Nat) : Int), _])
      rw [e]
      rfl
    · rw [if_neg h9, hb, decide_eq_false h9]
      exact ⟨_, _, _, _, _, _, _, _, rfl, h6⟩
  replace hfin := Lib.hid hfin
  have hyq : ((x : Int) == 0) = decide (x = 0) := by
    by_cases h : x = 0
    · subst h; simp
    · rw [decide_eq_false h, beq_eq_false_iff_ne]; omega
  dsimp only at htn
  generalize decide (x = 0) = b0 at *
  clear ho hte
  by_cases hc1 : c = 1
  · rw [if_pos hc1] at hcall2
    have hn1' : n = 1 := by omega
    subst hc1 hn1'
    replace hcall2 : Calls Try.prog 25 #[.slice (some ad) 0 0, .int .i64 256] _ _ := hcall2
    go_enter Try.func41, Try.ntmps41
    go_wp2_with fail
    refine hcall2.mono ?_
    clear hcall2
    rintro e w3 ⟨rfl, hb3⟩
    dsimp only
    go_wp2_with fail
    refine (text_ref _ _).mono ?_
    rintro e w4 ⟨rfl, hb5⟩
    dsimp only
    have hz4 := hz3.below hb3 hz3.lt
    have hz5 := hz4.below hb5 hz4.lt
    have hb6 := below_then hb5 (below_then hb3 hb4)
    have hz6 := hz5.row #[.int .i64 3, .int .i64 0, .float .f64 0, .string (bstr s), .slice none 0 0]
    have hb7 := below_row hb6 (g := w.heap.size) (by omega) #[.int .i64 3, .int .i64 0, .float .f64 0, .string (bstr s), .slice none 0 0]
    clear hk1 hb3 hb4 hb5 hz3 hz4
    go_wp2_with (refine store_row_gen rfl 26 (Operand.tmp 4) _ rfl w.heap.size #[.int .i64 3, .int .i64 0, .float .f64 0, .string (bstr s), .slice none 0 0] rfl rfl 26 _ hz5 (by kernel_rfl) rfl (by simp [Value.oneCell']) (fun w6 hw6 => ?_); rw [← hw6] at hz6 hb7; clear hw6)
    refine bodyPost_ret (v := .tuple #[.agg #[.int .i64 3, .int .i64 0, .float .f64 0, .string (bstr s), .slice none 0 0], .int .i64 (1 + (m : Int)), .bool b0]) ?hr rfl ?_
    case hr => exact results_ctt rfl _ _ w.heap.size 26 _ (0, 0) _ _ _ rfl rfl rfl hz6 Try.underlying26 rfl (by kernel_rfl)
    exact hfin.out _ _ rfl hb7
  · rw [if_neg hc1] at hcall2
    go_enter Try.func41, Try.ntmps41
    go_wp2_with fail
    refine hcall2.mono ?_
    clear hcall2
    rintro e w3 ⟨rfl, hb3⟩
    dsimp only
    go_wp2_with fail
    refine (text_ref _ _).mono ?_
    rintro e w4 ⟨rfl, hb5⟩
    dsimp only
    have hz4 := hz3.below hb3 hz3.lt
    have hz5 := hz4.below hb5 hz4.lt
    have hb6 := below_then hb5 (below_then hb3 hb4)
    have hz6 := hz5.row #[.int .i64 3, .int .i64 0, .float .f64 0, .string (bstr s), .slice none 0 0]
    have hb7 := below_row hb6 (g := w.heap.size) (by omega) #[.int .i64 3, .int .i64 0, .float .f64 0, .string (bstr s), .slice none 0 0]
    clear hk1 hb3 hb4 hb5 hz3 hz4
    go_wp2_with (refine store_row_gen rfl 26 (Operand.tmp 4) _ rfl w.heap.size #[.int .i64 3, .int .i64 0, .float .f64 0, .string (bstr s), .slice none 0 0] rfl rfl 26 _ hz5 (by kernel_rfl) rfl (by simp [Value.oneCell']) (fun w6 hw6 => ?_); rw [← hw6] at hz6 hb7; clear hw6)
    refine bodyPost_ret (v := .tuple #[.agg #[.int .i64 3, .int .i64 0, .float .f64 0, .string (bstr s), .slice none 0 0], .int .i64 (1 + (m : Int)), .bool b0]) ?hr rfl ?_
    case hr => exact results_ctt rfl _ _ w.heap.size 26 _ (0, 0) _ _ _ rfl rfl rfl hz6 Try.underlying26 rfl (by kernel_rfl)
    exact hfin.out _ _ rfl hb7
end Go.Proofs.Ytafogjonicdbmaa
