/- Vote: the state; Contains; Count; Result. -/
import Derived.Test.YtiajbcfelhlapaaVote2
namespace Go.Proofs.Ytiajbcfelhlapaa
open Go.RowKit

/-- A search of numbers. -/
theorem index_ints {A : Option Addr} {m : Nat} {l : List Int} {x : Int} {w : World} (hr : Reads w w.heap.size 1 A l.length (l.map (Value.int .i64))) (hl : l.length ≤ 1000) :
    Calls Try.prog 44 #[.slice A l.length m, .int .i64 x] w (fun e w' => ∃ z : Int, e = .returned (.int .i64 z) ∧ (decide (0 ≤ z)) = decide (x ∈ l) ∧ Below w.heap.size w w') := by
  go_enter Try.func44, Try.ntmps44
  go_wp2_with fail
  go_loopw [8] (fun ii wr => ∃ j : Nat, j ≤ l.length ∧ ii = .int .i64 (j : Int) ∧ x ∉ l.take j ∧ Below w.heap.size w wr) (fun ii _ => l.length - (intOf ii).toNat)
  case atStart => exact ⟨0, Nat.zero_le _, rfl, by simp, Below.refl _ _⟩
  case round =>
    obtain ⟨j, hj, rfl, hno, hb⟩ := hrel
    by_cases hlt : j < l.length
    · obtain ⟨ad, hA, hblk, hc⟩ := (hr.below hb).2 (by omega)
      subst hA
      have hcell := hc j (.int .i64 l[j]) (by rw [List.getElem?_map, List.getElem?_eq_getElem hlt]; rfl)
      have htk : l.take (j + 1) = l.take j ++ [l[j]] := List.take_succ_eq_append_getElem hlt
      have hmem : l[j] ∈ l := List.getElem_mem hlt
      generalize l[j] = y at *
      replace hno := Lib.hid hno
      replace htk := Lib.hid htk
      by_cases hxy : x = y
      · subst hxy
        clear hc
        go_wp2_with fail
        go_ret
        exact ⟨_, rfl, by rw [decide_eq_true hmem, decide_eq_true (by omega)], hb⟩
      · have hne : (x == y) = false := beq_eq_false_iff_ne.2 hxy
        clear hc hmem
        go_wp2_with fail
        go_roundw
        case rel => exact ⟨j + 1, by omega, by simp, by rw [htk.out]; intro h; rcases List.mem_append.1 h with h | h; exact hno.out h; exact hxy (by simpa using h), by assumption⟩
        case measure => simp [intOf]; omega
    · have hj' : j = l.length := by omega
      subst hj'
      rw [List.take_length] at hno
      replace hno := Lib.hid hno
      go_wp2_with fail
      go_ret
      exact ⟨_, rfl, by rw [decide_eq_false hno.out]; rfl, hb⟩

theorem contains_ints {A : Option Addr} {m : Nat} {l : List Int} {x : Int} {w : World} (hr : Reads w w.heap.size 1 A l.length (l.map (Value.int .i64))) (hl : l.length ≤ 1000) :
    Calls Try.prog 29 #[.slice A l.length m, .int .i64 x] w (Says w (.bool (decide (x ∈ l)))) := by
  have hidx := Lib.hid (index_ints (m := m) (x := x) hr hl)
  obtain ⟨q, hq⟩ : ∃ q, decide (x ∈ l) = q := ⟨_, rfl⟩
  rw [hq] at hidx ⊢
  clear hr hq
  go_enter Try.func29, Try.ntmps29
  go_wp2_with fail
  refine hidx.out.mono ?_
  rintro e w1 ⟨z, rfl, hz, hb⟩
  dsimp only
  replace hz := Lib.hid hz
  go_wp2_with fail
  go_ret
  refine ⟨?_, hb⟩
  rw [← hz.out]
  rfl

/-- The cells of what a vote came to. -/
def resD (c s n : Int) (D : Option FR) (j : Nat) : Value :=
  match D with
  | some x => (#[.int .u32 c, .int .u32 s, .int .u16 n, .int .i64 x.e, .int .i64 x.k, .int .i64 x.i, .float .f64 x.f, .string ⟨#[]⟩, .slice none 0 0] : Array Value).getD j undef
  | none => (#[.int .u32 0, .int .u32 0, .int .u16 0, .int .i64 0, .int .i64 0, .int .i64 0, .float .f64 0, .string ⟨#[]⟩, .slice none 0 0] : Array Value).getD j undef

/-- A vote, as the machine holds it: all its memory of its own, from block b on. -/
structure VAt (w : World) (b p : Nat) (c s n nn pol : Int) (who : List Int) (L : List FR) (D : Option FR) (Aw Al : Option Addr) (cw cl : Nat) (xs : List Value) : Prop where
  blk : Blk w p 63 #[.int .u32 c, .int .u32 s, .int .u16 n, .int .i64 nn, .int .i64 pol, .slice Aw who.length cw, .slice Al L.length cl, .bool D.isSome, resD c s n D 0, resD c s n D 1, resD c s n D 2, resD c s n D 3, resD c s n D 4, resD c s n D 5, resD c s n D 6, resD c s n D 7, resD c s n D 8]
  hw : Own w 3 1 Aw who.length cw (who.map (Value.int .i64))
  hl : Own w 32 9 Al L.length cl xs
  hx : ∀ (j : Nat) (x : FR), L[j]? = some x → (xs.drop (j * 9)).take 9 = [.int .u32 c, .int .u32 s, .int .u16 n, .int .i64 x.e, .int .i64 x.k, .int .i64 x.i, .float .f64 x.f, .string ⟨#[]⟩, .slice none 0 0] ∧ FlatC x.k x.i x.f
  hD : ∀ x, D = some x → FlatC x.k x.i x.f
  hp : True
  hAw : ∀ g, bOf Aw = some g → b ≤ g
  hAl : ∀ g, bOf Al = some g → b ≤ g

theorem VAt.below {w w' : World} {b p : Nat} {c s n nn pol : Int} {who : List Int} {L : List FR} {D : Option FR} {Aw Al : Option Addr} {cw cl : Nat} {xs : List Value} (h : VAt w b p c s n nn pol who L D Aw Al cw cl xs) (hb : Below w.heap.size w w') : VAt w' b p c s n nn pol who L D Aw Al cw cl xs :=
  ⟨h.blk.below hb h.blk.lt, h.hw.below hb (Nat.le_refl _), h.hl.below hb (Nat.le_refl _), h.hx, h.hD, h.hp, h.hAw, h.hAl⟩
theorem VAt.row {w : World} {b p : Nat} {c s n nn pol : Int} {who : List Int} {L : List FR} {D : Option FR} {Aw Al : Option Addr} {cw cl : Nat} {xs : List Value} (h : VAt w b p c s n nn pol who L D Aw Al cw cl xs) : LRow w w.heap.size c s n L Al xs := ⟨h.hl.reads_, h.hx⟩

/-- Result. -/
def ResultRes (w : World) (c s n : Int) (D : Option FR) (e : Ending) (w' : World) : Prop :=
  e = .returned (.tuple #[.agg #[resD c s n D 0, resD c s n D 1, resD c s n D 2, resD c s n D 3, resD c s n D 4, resD c s n D 5, resD c s n D 6, resD c s n D 7, resD c s n D 8], .bool D.isSome]) ∧ Below w.heap.size w w'

theorem result_no {w : World} {b p : Nat} {c s n nn pol : Int} {who : List Int} {L : List FR} {Aw Al : Option Addr} {cw cl : Nat} {xs : List Value} (h : VAt w b p c s n nn pol who L none Aw Al cw cl xs) :
    Calls Try.prog 16 #[.pointer (some ⟨p, 0, none⟩)] w (ResultRes w c s n none) := by
  have hz := Blk.new w 32 #[.int .u32 0, .int .u32 0, .int .u16 0, .int .i64 0, .int .i64 0, .int .i64 0, .float .f64 0, .string ⟨#[]⟩, .slice none 0 0]
  have hb0 := (Below.refl w.heap.size w).alloc (Nat.le_refl _) (.cells #[.int .u32 0, .int .u32 0, .int .u16 0, .int .i64 0, .int .i64 0, .int .i64 0, .float .f64 0, .string ⟨#[]⟩, .slice none 0 0] 32)
  have hpl := h.blk.lt
  have p7 := (hb0.cell (p := ⟨p, 7, none⟩) hpl).trans (h.blk.cell 7)
  have p7' : (w.alloc (.cells #[.int .u32 0, .int .u32 0, .int .u16 0, .int .i64 0, .int .i64 0, .int .i64 0, .float .f64 0, .string ⟨#[]⟩, .slice none 0 0] 32)).cell? ⟨p, 7, none⟩ = some (.bool false) := p7
  have hz5 := hz.row #[.int .u32 0, .int .u32 0, .int .u16 0, .int .i64 0, .int .i64 0, .int .i64 0, .float .f64 0, .string ⟨#[]⟩, .slice none 0 0]
  have hb6 := below_row hb0 (g := w.heap.size) (Nat.le_refl _) #[.int .u32 0, .int .u32 0, .int .u16 0, .int .i64 0, .int .i64 0, .int .i64 0, .float .f64 0, .string ⟨#[]⟩, .slice none 0 0]
  clear p7 h
  go_enter Try.func16, Try.ntmps16
  go_wp2_with (refine store_row_gen rfl 32 (Operand.tmp 2) _ rfl w.heap.size #[.int .u32 0, .int .u32 0, .int .u16 0, .int .i64 0, .int .i64 0, .int .i64 0, .float .f64 0, .string ⟨#[]⟩, .slice none 0 0] (by simp [go_sem]) (by simp [go_sem]) 32 _ hz (by kernel_rfl) rfl (by simp [Value.oneCell']) (fun w6 hw6 => ?_); rw [← hw6] at hz5 hb6; clear hw6)
  refine bodyPost_ret (v := .tuple #[.agg #[.int .u32 0, .int .u32 0, .int .u16 0, .int .i64 0, .int .i64 0, .int .i64 0, .float .f64 0, .string ⟨#[]⟩, .slice none 0 0], .bool false]) ?hr rfl ?_
  case hr => exact results_ct rfl _ _ w.heap.size 32 _ (0, 0) _ _ rfl rfl hz5 Try.underlying32 rfl (by kernel_rfl)
  exact ⟨rfl, hb6⟩

set_option maxHeartbeats 1600000 in
theorem result_yes {w : World} {b p : Nat} {c s n nn pol : Int} {who : List Int} {L : List FR} {x : FR} {Aw Al : Option Addr} {cw cl : Nat} {xs : List Value} (h : VAt w b p c s n nn pol who L (some x) Aw Al cw cl xs) :
    Calls Try.prog 16 #[.pointer (some ⟨p, 0, none⟩)] w (ResultRes w c s n (some x)) := by
  have hfl := h.hD x rfl
  have hz := Blk.new w 32 #[.int .u32 0, .int .u32 0, .int .u16 0, .int .i64 0, .int .i64 0, .int .i64 0, .float .f64 0, .string ⟨#[]⟩, .slice none 0 0]
  have hb0 := (Below.refl w.heap.size w).alloc (Nat.le_refl _) (.cells #[.int .u32 0, .int .u32 0, .int .u16 0, .int .i64 0, .int .i64 0, .int .i64 0, .float .f64 0, .string ⟨#[]⟩, .slice none 0 0] 32)
  have hpl := h.blk.lt
  have vb := h.blk.alloc (.cells #[.int .u32 0, .int .u32 0, .int .u16 0, .int .i64 0, .int .i64 0, .int .i64 0, .float .f64 0, .string ⟨#[]⟩, .slice none 0 0] 32)
  have hcl := fun w2 => clone_flat x.k x.i x.f w2 hfl
  unfold ResultRes resD
  have q7 : (w.alloc (.cells #[.int .u32 0, .int .u32 0, .int .u16 0, .int .i64 0, .int .i64 0, .int .i64 0, .float .f64 0, .string ⟨#[]⟩, .slice none 0 0] 32)).cell? ⟨p, 7, none⟩ = some (.bool true) := vb.cell 7
  have hS : ((w.alloc (.cells #[.int .u32 0, .int .u32 0, .int .u16 0, .int .i64 0, .int .i64 0, .int .i64 0, .float .f64 0, .string ⟨#[]⟩, .slice none 0 0] 32)).drew.cell? ⟨p, 8, none⟩ = some (.int .u32 c) ∧ (w.alloc (.cells #[.int .u32 0, .int .u32 0, .int .u16 0, .int .i64 0, .int .i64 0, .int .i64 0, .float .f64 0, .string ⟨#[]⟩, .slice none 0 0] 32)).drew.cell? ⟨p, 9, none⟩ = some (.int .u32 s) ∧ (w.alloc (.cells #[.int .u32 0, .int .u32 0, .int .u16 0, .int .i64 0, .int .i64 0, .int .i64 0, .float .f64 0, .string ⟨#[]⟩, .slice none 0 0] 32)).drew.cell? ⟨p, 10, none⟩ = some (.int .u16 n) ∧ (w.alloc (.cells #[.int .u32 0, .int .u32 0, .int .u16 0, .int .i64 0, .int .i64 0, .int .i64 0, .float .f64 0, .string ⟨#[]⟩, .slice none 0 0] 32)).drew.cell? ⟨p, 11, none⟩ = some (.int .i64 x.e) ∧ (w.alloc (.cells #[.int .u32 0, .int .u32 0, .int .u16 0, .int .i64 0, .int .i64 0, .int .i64 0, .float .f64 0, .string ⟨#[]⟩, .slice none 0 0] 32)).drew.cell? ⟨p, 12, none⟩ = some (.int .i64 x.k) ∧ (w.alloc (.cells #[.int .u32 0, .int .u32 0, .int .u16 0, .int .i64 0, .int .i64 0, .int .i64 0, .float .f64 0, .string ⟨#[]⟩, .slice none 0 0] 32)).drew.cell? ⟨p, 13, none⟩ = some (.int .i64 x.i) ∧ (w.alloc (.cells #[.int .u32 0, .int .u32 0, .int .u16 0, .int .i64 0, .int .i64 0, .int .i64 0, .float .f64 0, .string ⟨#[]⟩, .slice none 0 0] 32)).drew.cell? ⟨p, 14, none⟩ = some (.float .f64 x.f) ∧ (w.alloc (.cells #[.int .u32 0, .int .u32 0, .int .u16 0, .int .i64 0, .int .i64 0, .int .i64 0, .float .f64 0, .string ⟨#[]⟩, .slice none 0 0] 32)).drew.cell? ⟨p, 15, none⟩ = some (.string ⟨#[]⟩) ∧ (w.alloc (.cells #[.int .u32 0, .int .u32 0, .int .u16 0, .int .i64 0, .int .i64 0, .int .i64 0, .float .f64 0, .string ⟨#[]⟩, .slice none 0 0] 32)).drew.cell? ⟨p, 16, none⟩ = some (.slice none 0 0)) ∧ Below w.heap.size w (w.alloc (.cells #[.int .u32 0, .int .u32 0, .int .u16 0, .int .i64 0, .int .i64 0, .int .i64 0, .float .f64 0, .string ⟨#[]⟩, .slice none 0 0] 32)).drew := ⟨⟨vb.cell 8, vb.cell 9, vb.cell 10, vb.cell 11, vb.cell 12, vb.cell 13, vb.cell 14, vb.cell 15, vb.cell 16⟩, hb0.drew⟩
  have hzd := hz.drew
  clear h hfl vb
  go_enter Try.func16, Try.ntmps16
  go_wp2_with fail
  refine wp_region_lex (fun W => (W.cell? ⟨p, 8, none⟩ = some (.int .u32 c) ∧ W.cell? ⟨p, 9, none⟩ = some (.int .u32 s) ∧ W.cell? ⟨p, 10, none⟩ = some (.int .u16 n) ∧ W.cell? ⟨p, 11, none⟩ = some (.int .i64 x.e) ∧ W.cell? ⟨p, 12, none⟩ = some (.int .i64 x.k) ∧ W.cell? ⟨p, 13, none⟩ = some (.int .i64 x.i) ∧ W.cell? ⟨p, 14, none⟩ = some (.float .f64 x.f) ∧ W.cell? ⟨p, 15, none⟩ = some (.string ⟨#[]⟩) ∧ W.cell? ⟨p, 16, none⟩ = some (.slice none 0 0)) ∧ Below w.heap.size w W) [4, 9, 14] [15, 17] [0, 1, 2, 3, 4, 5, 6, 7, 8, 9, 10, 11, 12, 13, 14, 15, 16, 17, 18] (by kernel_rfl) rfl (by kernel_rfl) (by kernel_rfl) (fun _ _ d _ _ h => by cases d <;> exact h) ?_
  repeat (first | (refine lexG_take _ ?_ rfl rfl rfl rfl (fun _ => ?_) ?_; rotate_left; (focus (go_simp; with_reducible rfl)); try simp only [Act.put, List.setIfInBounds_toArray, List.set_cons_zero, List.set_cons_succ]) | (refine lexG_held _ ?_ rfl rfl rfl rfl (by assumption) (fun _ hSw => ?_) ?_; rotate_left; (focus ((try dsimp only at hSw); go_simp; with_reducible rfl)); try simp only [Act.put, List.setIfInBounds_toArray, List.set_cons_zero, List.set_cons_succ]) | (refine lexG_skip _ rfl rfl (by assumption) ?_; try simp only [Act.put, List.setIfInBounds_toArray, List.set_cons_zero, List.set_cons_succ]))
  refine lexG_now _ rfl rfl rfl (fun K hK => ?_)
  go_wp2_with fail
  refine (hcl _).mono ?_
  rintro e w3 ⟨rfl, hb3⟩
  dsimp only
  obtain ⟨⟨E0, E1, E2, E3, E4, E5, E6, E7, E8⟩, hbb⟩ := hS
  have hz4 := hzd.below hb3 hzd.lt
  have hb4 := below_then hb3 hbb
  refine hK _ _ _ (fun _ h => h) ⟨⟨cell_keep hb3 E0, cell_keep hb3 E1, cell_keep hb3 E2, cell_keep hb3 E3, cell_keep hb3 E4, cell_keep hb3 E5, cell_keep hb3 E6, cell_keep hb3 E7, cell_keep hb3 E8⟩, hb4⟩ ?_
  clear hK K
  try simp only [Act.put, List.setIfInBounds_toArray, List.set_cons_zero, List.set_cons_succ]
  repeat (first | (refine lexG_take _ ?_ rfl rfl rfl rfl (fun _ => ?_) ?_; rotate_left; (focus (go_simp; with_reducible rfl)); try simp only [Act.put, List.setIfInBounds_toArray, List.set_cons_zero, List.set_cons_succ]) | (refine lexG_held _ ?_ rfl rfl rfl rfl (by assumption) (fun _ hSw => ?_) ?_; rotate_left; (focus ((try dsimp only at hSw); go_simp; with_reducible rfl)); try simp only [Act.put, List.setIfInBounds_toArray, List.set_cons_zero, List.set_cons_succ]) | (refine lexG_skip _ rfl rfl (by assumption) ?_; try simp only [Act.put, List.setIfInBounds_toArray, List.set_cons_zero, List.set_cons_succ]))
  refine lexG_now _ rfl rfl rfl (fun K hK => ?_)
  refine wp_store_row 32 _ _ rfl w.heap.size #[.int .u32 c, .int .u32 s, .int .u16 n, .int .i64 x.e, .int .i64 x.k, .int .i64 x.i, .float .f64 x.f, .string ⟨#[]⟩, .slice none 0 0] rfl rfl 32 _ hz4 (by kernel_rfl) rfl (by simp [Value.oneCell']) ?_
  have hne : p ≠ w.heap.size := by omega
  have hz5 := hz4.row #[.int .u32 c, .int .u32 s, .int .u16 n, .int .i64 x.e, .int .i64 x.k, .int .i64 x.i, .float .f64 x.f, .string ⟨#[]⟩, .slice none 0 0]
  have hb5 := below_row hb4 (g := w.heap.size) (Nat.le_refl _) #[.int .u32 c, .int .u32 s, .int .u16 n, .int .i64 x.e, .int .i64 x.k, .int .i64 x.i, .float .f64 x.f, .string ⟨#[]⟩, .slice none 0 0]
  refine hK _ _ _ (fun _ h => h) ⟨⟨(cell_setRow_other w3 w.heap.size _ ⟨p, 8, none⟩ (by show p ≠ w.heap.size; exact hne)).trans (cell_keep hb3 E0), (cell_setRow_other w3 w.heap.size _ ⟨p, 9, none⟩ (by show p ≠ w.heap.size; exact hne)).trans (cell_keep hb3 E1), (cell_setRow_other w3 w.heap.size _ ⟨p, 10, none⟩ (by show p ≠ w.heap.size; exact hne)).trans (cell_keep hb3 E2), (cell_setRow_other w3 w.heap.size _ ⟨p, 11, none⟩ (by show p ≠ w.heap.size; exact hne)).trans (cell_keep hb3 E3), (cell_setRow_other w3 w.heap.size _ ⟨p, 12, none⟩ (by show p ≠ w.heap.size; exact hne)).trans (cell_keep hb3 E4), (cell_setRow_other w3 w.heap.size _ ⟨p, 13, none⟩ (by show p ≠ w.heap.size; exact hne)).trans (cell_keep hb3 E5), (cell_setRow_other w3 w.heap.size _ ⟨p, 14, none⟩ (by show p ≠ w.heap.size; exact hne)).trans (cell_keep hb3 E6), (cell_setRow_other w3 w.heap.size _ ⟨p, 15, none⟩ (by show p ≠ w.heap.size; exact hne)).trans (cell_keep hb3 E7), (cell_setRow_other w3 w.heap.size _ ⟨p, 16, none⟩ (by show p ≠ w.heap.size; exact hne)).trans (cell_keep hb3 E8)⟩, hb5⟩ ?_
  clear hK K
  try simp only [Act.put, List.setIfInBounds_toArray, List.set_cons_zero, List.set_cons_succ]
  repeat (first | (refine lexG_take _ ?_ rfl rfl rfl rfl (fun _ => ?_) ?_; rotate_left; (focus (go_simp; with_reducible rfl)); try simp only [Act.put, List.setIfInBounds_toArray, List.set_cons_zero, List.set_cons_succ]) | (refine lexG_held _ ?_ rfl rfl rfl rfl (by assumption) (fun _ hSw => ?_) ?_; rotate_left; (focus ((try dsimp only at hSw); go_simp; with_reducible rfl)); try simp only [Act.put, List.setIfInBounds_toArray, List.set_cons_zero, List.set_cons_succ]) | (refine lexG_skip _ rfl rfl (by assumption) ?_; try simp only [Act.put, List.setIfInBounds_toArray, List.set_cons_zero, List.set_cons_succ]))
  refine lexG_nil ?_
  generalize w3.setRow w.heap.size #[.int .u32 c, .int .u32 s, .int .u16 n, .int .i64 x.e, .int .i64 x.k, .int .i64 x.i, .float .f64 x.f, .string ⟨#[]⟩, .slice none 0 0] = w5 at *
  go_wp2_with fail
  refine bodyPost_ret (v := .tuple #[.agg #[.int .u32 c, .int .u32 s, .int .u16 n, .int .i64 x.e, .int .i64 x.k, .int .i64 x.i, .float .f64 x.f, .string ⟨#[]⟩, .slice none 0 0], .bool true]) ?hr rfl ?_
  case hr => exact results_ct rfl _ _ w.heap.size 32 _ (0, 0) _ _ rfl rfl hz5 Try.underlying32 rfl (by kernel_rfl)
  exact ⟨rfl, hb5⟩
end Go.Proofs.Ytiajbcfelhlapaa
