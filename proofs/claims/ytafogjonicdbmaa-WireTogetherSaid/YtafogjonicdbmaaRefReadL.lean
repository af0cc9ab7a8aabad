/- choirref3.read at a list, and at any bytes. -/
import Derived.Test.YtafogjonicdbmaaRefRead
namespace Go.Proofs.Ytafogjonicdbmaa
open Go.RowKit

set_option maxRecDepth 100000 in
set_option maxHeartbeats 1600000 in
theorem refread_other {ad : Addr} {n c : Nat} {x : Int} {d : Int} {w : World} (hn : 0 < n) (hd : d ≤ 8) (hk : w.cell? ad = some (.int .u8 x)) (hx : 4 < x) (hx2 : x ≤ 255) : Calls Try.prog 41 #[.slice (some ad) n c, .int .i64 d] w (RRes w none) := by
  have hn0 : ((n : Int) == 0) = false := by rw [beq_eq_false_iff_ne]; omega
  have hz3 := Blk.new w 26 #[.int .i64 0, .int .i64 0, .float .f64 0, .string ⟨#[]⟩, .slice none 0 0]
  have hb4 := (Below.refl w.heap.size w).alloc (Nat.le_refl _) (.cells #[.int .i64 0, .int .i64 0, .float .f64 0, .string ⟨#[]⟩, .slice none 0 0] 26)
  have hz4 := hz3.row #[.int .i64 0, .int .i64 0, .float .f64 0, .string ⟨#[]⟩, .slice none 0 0]
  have hb5 := below_row hb4 (g := w.heap.size) (by omega) #[.int .i64 0, .int .i64 0, .float .f64 0, .string ⟨#[]⟩, .slice none 0 0]
  have hk1 := (hb4.cell (World.block_lt_of_cell? w _ hk)).trans hk
  have x0 : (x == 0) = false := by rw [beq_eq_false_iff_ne]; omega
  have x1 : (x == 1) = false := by rw [beq_eq_false_iff_ne]; omega
  have x2 : (x == 2) = false := by rw [beq_eq_false_iff_ne]; omega
  have x3 : (x == 3) = false := by rw [beq_eq_false_iff_ne]; omega
  have x4 : (x == 4) = false := by rw [beq_eq_false_iff_ne]; omega
  go_enter Try.func41, Try.ntmps41
  go_wp2_with (refine store_row_gen rfl 26 (Operand.tmp 4) _ rfl w.heap.size #[.int .i64 0, .int .i64 0, .float .f64 0, .string ⟨#[]⟩, .slice none 0 0] (by simp [go_sem]) (by simp [go_sem]) 26 _ hz3 (by kernel_rfl) rfl (by simp [Value.oneCell']) (fun w6 hw6 => ?_); rw [← hw6] at hz4 hb5; clear hw6)
  refine bodyPost_ret (v := .tuple #[.agg #[.int .i64 0, .int .i64 0, .float .f64 0, .string ⟨#[]⟩, .slice none 0 0], .int .i64 0, .bool false]) ?hr rfl ?_
  case hr => exact results_ctt rfl _ _ w.heap.size 26 _ (0, 0) _ _ _ rfl rfl rfl hz4 Try.underlying26 rfl (by kernel_rfl)
  exact ⟨_, _, _, _, _, _, _, _, rfl, hb5⟩

set_option maxRecDepth 100000 in
set_option maxHeartbeats 1600000 in
theorem refread_list1 {ad : Addr} {c : Nat} {d : Int} {w : World} (hd : d ≤ 8) (hk : w.cell? ad = some (.int .u8 4)) : Calls Try.prog 41 #[.slice (some ad) 1 c, .int .i64 d] w (RRes w none) := by
  have hz3 := Blk.new w 26 #[.int .i64 0, .int .i64 0, .float .f64 0, .string ⟨#[]⟩, .slice none 0 0]
  have hb4 := (Below.refl w.heap.size w).alloc (Nat.le_refl _) (.cells #[.int .i64 0, .int .i64 0, .float .f64 0, .string ⟨#[]⟩, .slice none 0 0] 26)
  have hz4 := hz3.row #[.int .i64 0, .int .i64 0, .float .f64 0, .string ⟨#[]⟩, .slice none 0 0]
  have hb5 := below_row hb4 (g := w.heap.size) (by omega) #[.int .i64 0, .int .i64 0, .float .f64 0, .string ⟨#[]⟩, .slice none 0 0]
  have hk1 := (hb4.cell (World.block_lt_of_cell? w _ hk)).trans hk
  go_enter Try.func41, Try.ntmps41
  go_wp2_with (refine store_row_gen rfl 26 (Operand.tmp 4) _ rfl w.heap.size #[.int .i64 0, .int .i64 0, .float .f64 0, .string ⟨#[]⟩, .slice none 0 0] (by simp [go_sem]) (by simp [go_sem]) 26 _ hz3 (by kernel_rfl) rfl (by simp [Value.oneCell']) (fun w6 hw6 => ?_); rw [← hw6] at hz4 hb5; clear hw6)
  refine bodyPost_ret (v := .tuple #[.agg #[.int .i64 0, .int .i64 0, .float .f64 0, .string ⟨#[]⟩, .slice none 0 0], .int .i64 0, .bool false]) ?hr rfl ?_
  case hr => exact results_ctt rfl _ _ w.heap.size 26 _ (0, 0) _ _ _ rfl rfl rfl hz4 Try.underlying26 rfl (by kernel_rfl)
  exact ⟨_, _, _, _, _, _, _, _, rfl, hb5⟩

set_option maxRecDepth 100000 in
set_option maxHeartbeats 1600000 in
theorem refread_many {ad : Addr} {n c : Nat} {x d : Int} {w : World} (hn : 2 ≤ n) (hd : d ≤ 8) (hk : w.cell? ad = some (.int .u8 4)) (hx : w.cell? ⟨ad.block, ad.off + 1, none⟩ = some (.int .u8 x)) (h64 : 64 < x) (hx2 : x ≤ 255) : Calls Try.prog 41 #[.slice (some ad) n c, .int .i64 d] w (RRes w none) := by
  have hn0 : ((n : Int) == 0) = false := by rw [beq_eq_false_iff_ne]; omega
  have hn2 : (2 : Int) ≤ (n : Int) := by omega
  have h0 : (0 : Nat) < n := by omega
  have h1 : (1 : Nat) < n := by omega
  have hz3 := Blk.new w 26 #[.int .i64 0, .int .i64 0, .float .f64 0, .string ⟨#[]⟩, .slice none 0 0]
  have hb4 := (Below.refl w.heap.size w).alloc (Nat.le_refl _) (.cells #[.int .i64 0, .int .i64 0, .float .f64 0, .string ⟨#[]⟩, .slice none 0 0] 26)
  have hz4 := hz3.row #[.int .i64 0, .int .i64 0, .float .f64 0, .string ⟨#[]⟩, .slice none 0 0]
  have hb5 := below_row hb4 (g := w.heap.size) (by omega) #[.int .i64 0, .int .i64 0, .float .f64 0, .string ⟨#[]⟩, .slice none 0 0]
  have hk1 := (hb4.cell (World.block_lt_of_cell? w _ hk)).trans hk
  have hx1 := (hb4.cell (World.block_lt_of_cell? w _ hx)).trans hx
  go_enter Try.func41, Try.ntmps41
  go_wp2_with (refine store_row_gen rfl 26 (Operand.tmp 4) _ rfl w.heap.size #[.int .i64 0, .int .i64 0, .float .f64 0, .string ⟨#[]⟩, .slice none 0 0] (by simp [go_sem]) (by simp [go_sem]) 26 _ hz3 (by kernel_rfl) rfl (by simp [Value.oneCell']) (fun w6 hw6 => ?_); rw [← hw6] at hz4 hb5; clear hw6)
  refine bodyPost_ret (v := .tuple #[.agg #[.int .i64 0, .int .i64 0, .float .f64 0, .string ⟨#[]⟩, .slice none 0 0], .int .i64 0, .bool false]) ?hr rfl ?_
  case hr => exact results_ctt rfl _ _ w.heap.size 26 _ (0, 0) _ _ _ rfl rfl rfl hz4 Try.underlying26 rfl (by kernel_rfl)
  exact ⟨_, _, _, _, _, _, _, _, rfl, hb5⟩

/-- The state of a list half read. -/
structure ERel (e : Nat) (b : List UInt8) (n z : Nat) (w wr : World) (j : Nat) (l1 : List Val) (A : Option Addr) (c' : Nat) (xs : List Value) (css : Nat → Array Value) (at' : Nat) : Prop where
  jn : j ≤ n
  jl : l1.length = j
  hat : at' ≤ b.length
  hl : 2 ≤ at'
  hz : Blk wr z 26 #[.int .i64 0, .int .i64 0, .float .f64 0, .string ⟨#[]⟩, .slice none 0 0]
  hy : Blk wr (z + 1) 26 #[.int .i64 4, .int .i64 0, .float .f64 0, .string ⟨#[]⟩, .slice A j c']
  R : VRow wr (z + 2) l1 A c' xs css
  hb : Below z w wr
  pp : pl (pvE e) n (b.drop 2) = (pl (pvE e) (n - j) (b.drop at')).map (fun x => (l1 ++ x.1, (at' - 2) + x.2))

theorem pvE_le : ∀ (e : Nat) (b : List UInt8) (v : Val) (m : Nat), pvE e b = some (v, m) → m ≤ b.length := by
  intro e
  induction e with
  | zero => intro b v m h; simp [pvE] at h
  | succ e ih =>
    intro b v m h
    cases b with
    | nil => simp [pvE] at h
    | cons k t =>
      unfold pvE at h
      repeat' split at h
      all_goals first | (cases h; done) | skip
      all_goals first | (simp only [Option.some.injEq, Prod.mk.injEq] at h; obtain ⟨-, rfl⟩ := h; simp only [List.length_cons]) | skip
      all_goals first | omega | (have := readT_le t 256 (by assumption); omega) | skip
      all_goals
        rename_i l2 m2 heq2
        have := (pl_le ih _ _ _ _ heq2).1
        omega
/-- The contract of read at a depth. -/
def ReadAt (e : Nat) (d : Int) : Prop := ∀ (w : World) (A : Option Addr) (c : Nat) (b : List UInt8), Reads w w.heap.size 1 A b.length (bys b) → b.length ≤ c → b.length ≤ 1000000000 → Calls Try.prog 41 #[.slice A b.length c, .int .i64 d] w (RRes w (pvE e b))

set_option maxRecDepth 100000 in
set_option maxHeartbeats 6400000 in
theorem refread_list {e : Nat} {d : Int} (IH : ReadAt e (d + 1)) {ad : Addr} {c : Nat} {b : List UInt8} {n : Nat} {w : World} (hr : Reads w w.heap.size 1 (some ad) b.length (bys b)) (hc : b.length ≤ c) (hl : b.length ≤ 1000000000) (hd : d ≤ 8) (hd0 : -10 ≤ d) (h2 : 2 ≤ b.length)
    (hk : w.cell? ad = some (.int .u8 4)) (hx : w.cell? ⟨ad.block, ad.off + 1, none⟩ = some (.int .u8 (n : Int))) (h64 : n ≤ 64) (o : Option (Val × Nat)) (ho : o = (pl (pvE e) n (b.drop 2)).map (fun x => (.mk 4 0 0 [] x.1, 2 + x.2))) :
    Calls Try.prog 41 #[.slice (some ad) b.length c, .int .i64 d] w (RRes w o) := by
  obtain ⟨i1, gi, gz0, gz1, gz2⟩ := info_parts info_val
  have hsf := fun a k x m w => run_store_float (P := Try.prog) a k x m w
  have hn0 : ((b.length : Int) == 0) = false := by rw [beq_eq_false_iff_ne]; omega
  have hn2 : (2 : Int) ≤ (b.length : Int) := by omega
  have h0 : (0 : Nat) < b.length := by omega
  have h1 : (1 : Nat) < b.length := by omega
  have h64i : (n : Int) ≤ 64 := by omega
  have hz3 := Blk.new w 26 #[.int .i64 0, .int .i64 0, .float .f64 0, .string ⟨#[]⟩, .slice none 0 0]
  have hb4 := (Below.refl w.heap.size w).alloc (Nat.le_refl _) (.cells #[.int .i64 0, .int .i64 0, .float .f64 0, .string ⟨#[]⟩, .slice none 0 0] 26)
  have hk1 := (hb4.cell (World.block_lt_of_cell? w _ hk)).trans hk
  have hx1 := (hb4.cell (World.block_lt_of_cell? w _ hx)).trans hx
  have hy3 := Blk.new (w.alloc (.cells #[.int .i64 0, .int .i64 0, .float .f64 0, .string ⟨#[]⟩, .slice none 0 0] 26)) 26 #[.int .i64 4, .int .i64 0, .float .f64 0, .string ⟨#[]⟩, .slice none 0 0]
  have hsz : (w.alloc (.cells #[.int .i64 0, .int .i64 0, .float .f64 0, .string ⟨#[]⟩, .slice none 0 0] 26)).heap.size = w.heap.size + 1 := by simp
  rw [hsz] at hy3
  have hz4 := hz3.alloc (.cells #[.int .i64 4, .int .i64 0, .float .f64 0, .string ⟨#[]⟩, .slice none 0 0] 26)
  have hb5 := hb4.alloc hb4.size (.cells #[.int .i64 4, .int .i64 0, .float .f64 0, .string ⟨#[]⟩, .slice none 0 0] 26)
  replace IH := Lib.hid IH
  replace ho := Lib.hid ho
  go_enter Try.func41, Try.ntmps41
  go_wp2_with fail
  clear hk1 hx1 hz3 hb4 hsz
  generalize (w.alloc (.cells #[.int .i64 0, .int .i64 0, .float .f64 0, .string ⟨#[]⟩, .slice none 0 0] 26)).alloc (.cells #[.int .i64 4, .int .i64 0, .float .f64 0, .string ⟨#[]⟩, .slice none 0 0] 26) = w2 at *
  obtain ⟨z, hz⟩ : ∃ z, w.heap.size = z := ⟨_, rfl⟩
  rw [hz] at hz4 hy3 hb5 hr ⊢
  replace hz := Lib.hid hz
  obtain ⟨N, hN⟩ : ∃ N, b.length = N := ⟨_, rfl⟩
  have hrB := hr
  rw [hN] at hc hl h2 hn0 hn2 h0 h1 ⊢
  replace hN := Lib.hid hN
  go_loopw [16, 17] (fun at_ i wr => ∃ (j : Nat) (l1 : List Val) (A : Option Addr) (c' : Nat) (xs : List Value) (css : Nat → Array Value) (at' : Nat), at_ = .int .i64 (at' : Int) ∧ i = .int .i64 (j : Int) ∧ ERel e b n z w wr j l1 A c' xs css at') (fun _ i _ => n - (intOf i).toNat)
  case atStart => exact ⟨0, [], none, 0, [], _, 2, rfl, rfl, ⟨Nat.zero_le _, rfl, by rw [hN.out]; exact h2, Nat.le_refl _, hz4, hy3, VRow.nil _ _, hb5, by simp⟩⟩
  case round =>
    rename_i hrel
    obtain ⟨j, l1, A, c', xs, css, at', rfl, rfl, R⟩ := hrel
    have hjn := R.jn
    have hat := R.hat
    rw [hN.out] at hat
    have hxr := (R.hb.cell (p := ⟨ad.block, ad.off + 1, none⟩) (by rw [← hz.out]; exact World.block_lt_of_cell? w _ hx)).trans hx
    have hwz : z + 1 < wr.heap.size := R.hy.lt
    by_cases hlt : j < n
    · have hat1 : (at' : Int) ≤ (N : Int) := by omega
      have hcut := ((hrB.below R.hb).cut (k := at') (cap := c) (by rw [hN.out]; exact hat) (by rw [hN.out]; exact hc)).more (show z ≤ wr.heap.size by omega)
      rw [Nat.mul_one, bys_drop] at hcut
      obtain ⟨bd, hbd⟩ : ∃ bd, b.drop at' = bd := ⟨_, rfl⟩
      have hbl : bd.length = N - at' := by rw [← hbd, List.length_drop, hN.out]
      rw [hbd, hN.out, ← hbl] at hcut
      have hcall := IH.out wr _ (c - at') bd hcut (by omega) (by omega)
      rw [hbl] at hcall
      have hpp := R.pp
      rw [hbd] at hpp
      have hmle : ∀ v m, pvE e bd = some (v, m) → m ≤ N - at' := fun v m h => by rw [← hbl]; exact pvE_le _ _ _ _ h
      have hnil : bd.length = 0 → pvE e bd = none := by
        intro h
        have : bd = [] := List.eq_nil_of_length_eq_zero h
        subst this
        cases e <;> rfl
      rw [hbl] at hnil
      clear hcut hbl
      replace hbd := Lib.hid hbd
      obtain ⟨rr, hrr⟩ : ∃ rr, pvE e bd = rr := ⟨_, rfl⟩
      rw [hrr] at hcall hmle hnil
      replace hrr := Lib.hid hrr
      replace hpp := Lib.hid hpp
      by_cases hcc : c = at'
      · rw [if_pos hcc, show c - at' = 0 from by omega, hnil (by omega)] at hcall
        rw [hnil (by omega)] at hrr
        go_wp2_with fail
        refine hcall.mono ?_
        clear hcall
        rintro e2 w6 ⟨k', i', f', s', A', n', c', z', rfl, hb6⟩
        dsimp only
        have ho' : o = none := by rw [ho.out, hpp.out, pl_none (by omega) hrr.out]; rfl
        have hz6 := (R.hz.below hb6 R.hz.lt).alloc (.cells #[.int .i64 k', .int .i64 i', .float .f64 f', .string s', .slice A' n' c'] 26)
        have hb7 := (R.hb.trans (hb6.mono (Nat.le_of_lt R.hz.lt))).alloc (by rw [← hz.out]; exact Nat.le_trans (R.hb.size) hb6.size) (.cells #[.int .i64 k', .int .i64 i', .float .f64 f', .string s', .slice A' n' c'] 26)
        have hz7 := hz6.row #[.int .i64 0, .int .i64 0, .float .f64 0, .string ⟨#[]⟩, .slice none 0 0]
        have hb8 := below_row hb7 (g := z) (Nat.le_refl _) #[.int .i64 0, .int .i64 0, .float .f64 0, .string ⟨#[]⟩, .slice none 0 0]
        clear R hb6
        go_wp2_with (refine store_row_gen rfl 26 (Operand.tmp 4) _ rfl z #[.int .i64 0, .int .i64 0, .float .f64 0, .string ⟨#[]⟩, .slice none 0 0] (by simp [go_sem]) (by simp [go_sem]) 26 _ hz6 (by kernel_rfl) rfl (by simp [Value.oneCell']) (fun w6 hw6 => ?_); rw [← hw6] at hz7 hb8; clear hw6)
        refine bodyPost_ret (v := .tuple #[.agg #[.int .i64 0, .int .i64 0, .float .f64 0, .string ⟨#[]⟩, .slice none 0 0], .int .i64 0, .bool false]) ?hr rfl ?_
        case hr => exact results_ctt rfl _ _ z 26 _ (0, 0) _ _ _ rfl rfl rfl hz7 Try.underlying26 rfl (by kernel_rfl)
        try rw [ho']
        refine ⟨_, _, _, _, _, _, _, _, rfl, ?_⟩
        rw [hz.out]
        exact hb8
      · rw [if_neg hcc, Option.map_some] at hcall
        go_wp2_with fail
        refine hcall.mono ?_
        clear hcall
        cases rr with
        | none =>
          rintro e2 w6 ⟨k', i', f', s', A', n', c', z', rfl, hb6⟩
          dsimp only
          have ho' : o = none := by rw [ho.out, hpp.out, pl_none (by omega) hrr.out]; rfl
          have hz6 := (R.hz.below hb6 R.hz.lt).alloc (.cells #[.int .i64 k', .int .i64 i', .float .f64 f', .string s', .slice A' n' c'] 26)
          have hb7 := (R.hb.trans (hb6.mono (Nat.le_of_lt R.hz.lt))).alloc (by rw [← hz.out]; exact Nat.le_trans (R.hb.size) hb6.size) (.cells #[.int .i64 k', .int .i64 i', .float .f64 f', .string s', .slice A' n' c'] 26)
          have hz7 := hz6.row #[.int .i64 0, .int .i64 0, .float .f64 0, .string ⟨#[]⟩, .slice none 0 0]
          have hb8 := below_row hb7 (g := z) (Nat.le_refl _) #[.int .i64 0, .int .i64 0, .float .f64 0, .string ⟨#[]⟩, .slice none 0 0]
          clear R hb6
          go_wp2_with (refine store_row_gen rfl 26 (Operand.tmp 4) _ rfl z #[.int .i64 0, .int .i64 0, .float .f64 0, .string ⟨#[]⟩, .slice none 0 0] (by simp [go_sem]) (by simp [go_sem]) 26 _ hz6 (by kernel_rfl) rfl (by simp [Value.oneCell']) (fun w6 hw6 => ?_); rw [← hw6] at hz7 hb8; clear hw6)
          refine bodyPost_ret (v := .tuple #[.agg #[.int .i64 0, .int .i64 0, .float .f64 0, .string ⟨#[]⟩, .slice none 0 0], .int .i64 0, .bool false]) ?hr rfl ?_
          case hr => exact results_ctt rfl _ _ z 26 _ (0, 0) _ _ _ rfl rfl rfl hz7 Try.underlying26 rfl (by kernel_rfl)
          try rw [ho']
          refine ⟨_, _, _, _, _, _, _, _, rfl, ?_⟩
          rw [hz.out]
          exact hb8
        | some vm =>
          obtain ⟨v, m⟩ := vm
          rintro e2 w6 ⟨cs, rfl, hv, hb6⟩
          dsimp only
          obtain ⟨k', i', f', s', A', n', c9, hform⟩ := hv.reads.form
          subst hform
          have hm := hmle v m rfl
          have hone := hv.one
          have hb6u := Upd.of_below_size (S := fun _ => False) hb6
          have hy6 := (R.hy.below hb6 R.hy.lt).alloc (.cells #[.int .i64 k', .int .i64 i', .float .f64 f', .string s', .slice A' n' c9] 26)
          have hz6 := (R.hz.below hb6 R.hz.lt).alloc (.cells #[.int .i64 k', .int .i64 i', .float .f64 f', .string s', .slice A' n' c9] 26)
          have hv6 := hv.upd ((Upd.refl (fun _ => False) w6).alloc (.cells #[.int .i64 k', .int .i64 i', .float .f64 f', .string s', .slice A' n' c9] 26)) (fun _ _ h => h)
          have hu6 := hb6u.alloc (.cells #[.int .i64 k', .int .i64 i', .float .f64 f', .string s', .slice A' n' c9] 26)
          have hbv := Blk.new w6 26 #[.int .i64 k', .int .i64 i', .float .f64 f', .string s', .slice A' n' c9]
          have ho6 := R.R.ho.upd hu6 (fun g _ h => h)
          rw [R.jl] at ho6
          have hb7 := (R.hb.trans (hb6.mono (Nat.le_of_lt R.hz.lt))).alloc (by have := hb6.size; omega) (.cells #[.int .i64 k', .int .i64 i', .float .f64 f', .string s', .slice A' n' c9] 26)
          have hw7 : z + 1 < (w6.alloc (.cells #[.int .i64 k', .int .i64 i', .float .f64 f', .string s', .slice A' n' c9] 26)).heap.size := hy6.lt
          have hw67 : (w6.alloc (.cells #[.int .i64 k', .int .i64 i', .float .f64 f', .string s', .slice A' n' c9] 26)).heap.size = w6.heap.size + 1 := by simp
          have y4 := hy6.cell 4
          have v0 := hbv.cell 0
          have v1 := hbv.cell 1
          have v2 := hbv.cell 2
          have v3 := hbv.cell 3
          have v4 := hbv.cell 4
          have hsrc := Reads.lit (size := 5) (w6.alloc (.cells #[.int .i64 k', .int .i64 i', .float .f64 f', .string s', .slice A' n' c9] 26)) #[.int .i64 k', .int .i64 i', .float .f64 f', .string s', .slice A' n' c9] 26 (0, 0) 1 [.int .i64 k', .int .i64 i', .float .f64 f', .string s', .slice A' n' c9] rfl rfl
          rw [hw67] at hsrc
          have hwz6 : z + 1 < w6.heap.size := by have := hb6.size; omega
          clear hb6 hv hb6u hbv
          replace hw67 := Lib.hid hw67
          go_wp2_with (at_builtin; go_must (refine wpList_append_mine rfl _ _ 24 24 rfl 26 i1 _ 5 64 Try.underlying24 gi gz0 gz1 gz2 rfl rfl (ho6.alloc (.cells #[.int .i64 k', .int .i64 i', .float .f64 f', .string s', .slice A' n' c9] 26)) rfl (Src.ofReads Try.underlying24 _ hsrc (by intro u hu; exact hone u (by simpa using hu))) ?b1 ?b2 ?grow))
          case b1 => unfold maxLen; omega
          case b2 => omega
          case grow =>
            intro A8 c8 w8 ho8 hg8 hat8
            have hAz : ∀ g, bOf A = some g → z + 2 ≤ g := R.R.hA
            have R8 := R.R.push (w6 := w6.alloc (.cells #[.int .i64 k', .int .i64 i', .float .f64 f', .string s', .slice A' n' c9] 26)) (by omega) hu6 (fun _ h => h.elim) hv6 ⟨_, rfl⟩ (by rw [R.jl]; exact ho8) hg8 (by rw [World.size_alloc]; rw [hw67.out]; exact hat8)
            have hy8 := (hy6.alloc (.cells #[.int .i64 k', .int .i64 i', .float .f64 f', .string s', .slice A' n' c9] 26)).grown hg8 (fun e => by have := hAz _ e.symm; omega)
            have hz8 := (hz6.alloc (.cells #[.int .i64 k', .int .i64 i', .float .f64 f', .string s', .slice A' n' c9] 26)).grown hg8 (fun e => by have := hAz _ e.symm; omega)
            have hb8 := (hb7.alloc (by omega) (.cells #[.int .i64 k', .int .i64 i', .float .f64 f', .string s', .slice A' n' c9] 26)).grown hg8 (by rw [World.size_alloc]; omega) (fun k e => by have := hAz k e; omega)
            have hy9 := hy8.set_ 4 (.slice A8 (j + 1) c8)
            have hz9 := hz8.far (p := ⟨z + 1, 4, none⟩) (by show z ≠ z + 1; omega) (.slice A8 (j + 1) c8)
            have hb9 := hb8.setCell (p := ⟨z + 1, 4, none⟩) (by show z ≤ z + 1; omega) (.slice A8 (j + 1) c8)
            have R9 := R8.upd ((Upd.refl (fun x => x = z + 1) w8).setCell (p := ⟨z + 1, 4, none⟩) (fun _ => rfl) (.slice A8 (j + 1) c8)) (fun g hg e => by omega)
            have y84 := hy8.cell 4
            have yf8 := hy8.frozen 4
            have hnew : ERel e b n z w (w8.setCell ⟨z + 1, 4, none⟩ (.slice A8 (j + 1) c8)) (j + 1) (l1 ++ [v]) A8 c8 (xs ++ (#[.int .i64 k', .int .i64 i', .float .f64 f', .string s', .slice A' n' c9] : Array Value).toList) (fun k => if k = l1.length then #[.int .i64 k', .int .i64 i', .float .f64 f', .string s', .slice A' n' c9] else css k) (at' + m) := by
              refine ⟨by omega, by simp [R.jl], by rw [hN.out]; omega, by have := R.hl; omega, hz9, hy9, R9, hb9, ?_⟩
              have hl2 := R.hl
              rw [hpp.out, pl_some (by omega) hrr.out, ← hbd.out, List.drop_drop]
              rw [show n - j - 1 = n - (j + 1) from by omega]
              cases pl (pvE e) (n - (j + 1)) (b.drop (at' + m)) with
              | none => rfl
              | some x =>
                simp only [Option.map_some, List.append_assoc, List.singleton_append]
                rw [show at' - 2 + (m + x.2) = at' + m - 2 + x.2 from by omega]
            clear hy9 hz9 hb9 R9 hy8 hz8 hb8 R8 hsrc ho8 hg8 hat8 hv6 hu6 hz6 hy6 y4 v0 v1 v2 v3 v4 ho6 hone R hmle
            replace hnew := Lib.hid hnew
            have hwm : IntKind.i64.wrap ((at' : Int) + (m : Int)) = (at' : Int) + (m : Int) := w64_id _ (by omega) (by omega)
            go_wp2_with fail
            go_roundw
            case rel => exact ⟨j + 1, l1 ++ [v], A8, c8, _, _, at' + m, by simp, by simp, hnew.out⟩
            case measure => simp [intOf]; omega
    · have hjn' : j = n := by omega
      subst hjn'
      have y0 := R.hy.cell 0
      have y1 := R.hy.cell 1
      have y2 := R.hy.cell 2
      have y3 := R.hy.cell 3
      have y4 := R.hy.cell 4
      have hjl := R.jl
      have hz7 := R.hz.row #[.int .i64 4, .int .i64 0, .float .f64 0, .string ⟨#[]⟩, .slice A j c']
      have hb8 := below_row R.hb (g := z) (Nat.le_refl _) #[.int .i64 4, .int .i64 0, .float .f64 0, .string ⟨#[]⟩, .slice A j c']
      have hzz := R.hz
      have hown := (R.R.upd ((Upd.refl (fun x => x = z) wr).setRow (g := z) (fun _ => rfl) #[.int .i64 4, .int .i64 0, .float .f64 0, .string ⟨#[]⟩, .slice A j c']) (fun g hg e => by omega)).own (by omega) 4 0 0 []
      rw [hjl] at hown
      have ho' : o = some (.mk 4 0 0 [] l1, at') := by
        have hl2 := R.hl
        rw [ho.out, R.pp, Nat.sub_self]
        simp only [pl, Option.map_some, List.append_nil, Nat.add_zero]
        rw [show 2 + (at' - 2) = at' from by omega]
      clear R
      go_wp2_with (refine store_row_gen rfl 26 (Operand.tmp 4) _ rfl z #[.int .i64 4, .int .i64 0, .float .f64 0, .string ⟨#[]⟩, .slice A j c'] rfl rfl 26 _ hzz (by kernel_rfl) rfl (by simp [Value.oneCell']) (fun w6 hw6 => ?_); rw [← hw6] at hz7 hb8 hown; clear hw6)
      refine bodyPost_ret (v := .tuple #[.agg #[.int .i64 4, .int .i64 0, .float .f64 0, .string ⟨#[]⟩, .slice A j c'], .int .i64 (at' : Int), .bool true]) ?hr rfl ?_
      case hr => exact results_ctt rfl _ _ z 26 _ (0, 0) _ _ _ rfl rfl rfl hz7 Try.underlying26 rfl (by kernel_rfl)
      rw [ho']
      refine ⟨_, rfl, ?_, ?_⟩
      · rw [hz.out]
        exact hown.mono (fun g _ hg => by omega)
      · rw [hz.out]
        exact hb8

theorem pvE_cons (e : Nat) (k : UInt8) (t : List UInt8) : pvE (e + 1) (k :: t) =
    if k.toNat = 0 then some (.mk 0 0 0 [] [], 1)
    else if k.toNat = 1 then (if t.length < 8 then none else some (.mk 1 (wrap64 (readU (t.take 8))) 0 [] [], 9))
    else if k.toNat = 2 then (if t.length < 8 then none else if cb (readU (t.take 8)) = readU (t.take 8) then some (.mk 2 0 (readU (t.take 8)) [] [], 9) else none)
    else if k.toNat = 3 then (if (readT t 256).2.2 = 0 then some (.mk 3 0 0 (readT t 256).1 [], 1 + (readT t 256).2.1) else none)
    else if k.toNat = 4 then
      match t with
      | [] => none
      | n :: u => if 64 < n.toNat then none else match pl (pvE e) n.toNat u with
        | none => none
        | some (l, m) => some (.mk 4 0 0 [] l, 2 + m)
    else none := rfl

/-- choirref3.read at any bytes, at any depth. -/
theorem ref_read_all : ∀ e, e ≤ 9 → ReadAt e (9 - (e : Int)) := by
  intro e
  induction e with
  | zero =>
    intro _ w A c b hr hc hl
    cases b with
    | nil => exact refread_end
    | cons k t => exact refread_deep (by simp) (by simp)
  | succ e ih =>
    intro he w A c b hr hc hl
    have hd : (9 : Int) - ((e + 1 : Nat) : Int) ≤ 8 := by omega
    have hd1 : (9 : Int) - (e : Int) = 9 - ((e + 1 : Nat) : Int) + 1 := by omega
    have IH := ih (by omega)
    rw [hd1] at IH
    have hdl : -10 ≤ (9 : Int) - ((e + 1 : Nat) : Int) := by omega
    generalize (9 : Int) - ((e + 1 : Nat) : Int) = d at *
    cases b with
    | nil => exact refread_end
    | cons k t =>
      obtain ⟨ad, rfl, -, -⟩ := hr.2 (by simp)
      have hk0 := (cut1 hr hc).2
      rw [pvE_cons]
      by_cases h0 : k.toNat = 0
      · rw [if_pos h0]
        rw [h0] at hk0
        exact refread_nil (by simp) hd hk0
      rw [if_neg h0]
      by_cases h1 : k.toNat = 1
      · rw [if_pos h1]
        exact refread_int hr hc hl hd h1
      rw [if_neg h1]
      by_cases h2 : k.toNat = 2
      · rw [if_pos h2]
        exact refread_float hr hc hl hd h2
      rw [if_neg h2]
      by_cases h3 : k.toNat = 3
      · rw [if_pos h3]
        exact refread_text hr hc hl hd h3
      rw [if_neg h3]
      by_cases h4 : k.toNat = 4
      · rw [if_pos h4]
        rw [h4] at hk0
        cases t with
        | nil => exact refread_list1 hd hk0
        | cons n u =>
          have hx : w.cell? ⟨ad.block, ad.off + 1, none⟩ = some (.int .u8 (n.toNat : Int)) := by
            obtain ⟨a, ea, -, hcell⟩ := hr.2 (by simp)
            cases ea
            have := hcell 1 (byv n) (by simp [bys])
            simpa [byv, Addr.add] using this
          have hn := n.toNat_lt
          by_cases h64 : 64 < n.toNat
          · simp only [if_pos h64]
            exact refread_many (by simp) hd hk0 hx (by omega) (by omega)
          · simp only [if_neg h64]
            refine refread_list IH hr hc hl hd hdl (by simp) hk0 hx (by omega) _ ?_
            simp only [List.drop_succ_cons, List.drop_zero]
            cases pl (pvE e) n.toNat u with
            | none => rfl
            | some x => rfl
      · rw [if_neg h4]
        have hn := k.toNat_lt
        exact refread_other (by simp) hd hk0 (by omega) (by omega)
end Go.Proofs.Ytafogjonicdbmaa
