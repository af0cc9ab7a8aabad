/- References held against one another: choirhelp.Ints, choirlaw28.same, like, of; ref.Newer. -/
import Derived.Test.YtdnoafjaheofcaaDoorRf1
set_option linter.unusedSimpArgs false
set_option linter.unusedVariables false
namespace Go.Proofs.YtdnoafjaheofcaaDoor
set_option maxRecDepth 100000
open Go.RowKit

set_option maxHeartbeats 1600000 in
theorem ints_same {A A' : Option Addr} {c c' : Nat} {ns : List Int} {w : World} (h : Reads w w.heap.size 1 A ns.length (ints ns)) (h' : Reads w w.heap.size 1 A' ns.length (ints ns)) (hn : ns.length ≤ 140737488351232) :
    Calls Tryd.prog 37 #[.slice A ns.length c, .slice A' ns.length c'] w (BoolRes w true) := by
  have d0 : ((ns.length : Int) != (ns.length : Int)) = false := by simp
  go_enter Tryd.func37, Tryd.ntmps37
  go_wp2_with fail
  go_loopw [5] (fun i wr => ∃ k : Nat, k ≤ ns.length ∧ i = .int .i64 (k : Int) ∧ Below w.heap.size w wr) (fun i _ => ns.length - (intOf i).toNat)
  case atStart => exact ⟨0, Nat.zero_le _, rfl, Below.refl _ _⟩
  case round =>
    rename_i hrel
    obtain ⟨k, hk, rfl, hb⟩ := hrel
    by_cases hlt : k < ns.length
    · obtain ⟨ad, rfl, hbk, hc⟩ := node_at (h.below hb) hlt
      obtain ⟨ad', rfl, hbk', hc'⟩ := node_at (h'.below hb) hlt
      obtain ⟨x, hx⟩ : ∃ x, ns.getD k 0 = x := ⟨_, rfl⟩
      rw [hx] at hc hc'
      clear hx
      have d1 : (x != x) = false := by simp
      go_wp2_with fail
      go_quiet (fail)
      go_wp2_with fail
      go_roundw
      case rel => exact ⟨k + 1, by omega, by go_num, below_drewN hb _⟩
      case measure => simp [intOf]; omega
    · obtain rfl : k = ns.length := by omega
      go_wp2_with fail
      go_ret
      exact ⟨rfl, hb⟩

theorem Blk.row {w : World} {g : Nat} {t : TypeId} {old : Array Value} (h : Blk w g t old) (cs : Array Value) : Blk (w.setRow g cs) g t cs := setRow_heap w g old cs t (0, 0) h
theorem Blk.farRow {w : World} {g k : Nat} {t : TypeId} {cur : Array Value} (h : Blk w k t cur) (hne : k ≠ g) (cs : Array Value) : Blk (w.setRow g cs) k t cur := (setRow_other w g k cs hne).trans h
theorem Upd.setRow {S : Nat → Prop} {w w' : World} (h : Upd S w w') {g : Nat} (hg : g < w.heap.size → S g) (cs : Array Value) : Upd S w (w'.setRow g cs) :=
  ⟨h.os, h.tape, h.output, by rw [size_setRow]; exact h.size, fun k hk hs => by
    by_cases hkg : k = g
    · subst hkg; exact absurd (hg hk) hs
    · rw [setRow_other _ _ _ _ hkg]; exact h.block k hk hs⟩

theorem below_row {B g : Nat} {w0 w : World} (hb : Below B w0 w) (h : B ≤ g) (cs : Array Value) : Below B w0 (w.setRow g cs) :=
  ⟨hb.os, hb.tape, hb.output, by rw [size_setRow]; exact hb.size, fun k hk => by rw [setRow_other _ _ _ _ (by omega)]; exact hb.block k hk⟩
theorem store_row_gen {P : Program} {ops : Array Oper} {rest : List Oper} {o : Oper} {a : Act} {w : World} {Q : Exit → Act → World → Prop} (hgd : o.guard = none) (ty : TypeId) (x y : Operand) (ho : o.op = .store ty x y)
    (g : Nat) (cells : Array Value) (hx : a.eval x = .pointer (some ⟨g, 0, none⟩)) (hy : a.eval y = .agg cells)
    (t : TypeId) (old : Array Value) (hg : Blk w g t old) (hi : (P.info? ty).map (·.size) = some cells.size)
    (hold : old.size = cells.size) (h1 : cells.all (·.oneCell') = true)
    (h : ∀ w2, w2 = w.setRow g cells → wpList P ops Q rest (a.put o.dst undef) w2) : wpList P ops Q (o :: rest) a w :=
  wpList_store_row hgd ty x y ho g cells hx hy t old hg hi hold h1 (h _ rfl)

theorem two_boxes (w : World) (T T' : TypeId) (a b : Array Value) : Blk ((w.alloc (.cells a T)).alloc (.cells b T')) w.heap.size T a ∧ Blk ((w.alloc (.cells a T)).alloc (.cells b T')) (w.heap.size + 1) T' b ∧ Below w.heap.size w ((w.alloc (.cells a T)).alloc (.cells b T')) := by
  have h := Blk.new (w.alloc (.cells a T)) T' b
  have hsz : (w.alloc (.cells a T)).heap.size = w.heap.size + 1 := by simp
  rw [hsz] at h
  exact ⟨(Blk.new w T a).alloc _, h, ((Below.refl w.heap.size w).alloc (Nat.le_refl _) _).alloc (by simp) _⟩

theorem same_true {g : List UInt8} {v : Int} {A A' : Option Addr} {c c' : Nat} {ns : List Int} {w : World} (h : Reads w w.heap.size 1 A ns.length (ints ns)) (h' : Reads w w.heap.size 1 A' ns.length (ints ns)) (hn : ns.length ≤ 140737488351232) :
    Calls Tryd.prog 14 #[.agg #[.string (bstr g), .int .u32 v, .slice A ns.length c], .agg #[.string (bstr g), .int .u32 v, .slice A' ns.length c']] w (BoolRes w true) := by
  obtain ⟨k1, k2, hb⟩ := two_boxes w 26 26 #[.string (bstr g), .int .u32 v, .slice A ns.length c] #[.string (bstr g), .int .u32 v, .slice A' ns.length c']
  have hin := fun W hW => ints_same (w := W) (c := c) (c' := c') ((h.below hW).more hW.size) ((h'.below hW).more hW.size) hn
  replace hin := Lib.hid (hin _ hb)
  have e1 : (g == g) = true := by simp
  have e2 : (v == v) = true := by simp
  go_enter Tryd.func14, Tryd.ntmps14
  go_wp2_with fail
  refine hin.out.mono ?_
  rintro e w2 ⟨rfl, hb2⟩
  dsimp only
  go_wp2_with fail
  go_ret
  exact ⟨rfl, below_then hb2 hb⟩

theorem like_true {g : List UInt8} {v : Int} {A A' : Option Addr} {c c' : Nat} {ns : List Int} {w : World} (h : Reads w w.heap.size 1 A ns.length (ints ns)) (h' : Reads w w.heap.size 1 A' ns.length (ints ns)) (hn : ns.length ≤ 140737488351232) :
    Calls Tryd.prog 17 #[.agg #[.string (bstr g), .int .u32 v, .slice A ns.length c], .agg #[.string (bstr g), .int .u32 v, .slice A' ns.length c']] w (BoolRes w true) := by
  obtain ⟨k1, k2, hb⟩ := two_boxes w 26 36 #[.string (bstr g), .int .u32 v, .slice A ns.length c] #[.string (bstr g), .int .u32 v, .slice A' ns.length c']
  have hin := fun W hW => ints_same (w := W) (c := c) (c' := c') ((h.below hW).more hW.size) ((h'.below hW).more hW.size) hn
  replace hin := Lib.hid (hin _ hb)
  have e1 : (g == g) = true := by simp
  have e2 : (v == v) = true := by simp
  go_enter Tryd.func17, Tryd.ntmps17
  go_wp2_with fail
  refine hin.out.mono ?_
  rintro e w2 ⟨rfl, hb2⟩
  dsimp only
  go_wp2_with fail
  go_ret
  exact ⟨rfl, below_then hb2 hb⟩

theorem newer_walk {g g' : List UInt8} {v v' : Int} {A A' : Option Addr} {n n' c c' : Nat} {w : World} :
    Calls Tryd.prog 15 #[.agg #[.string (bstr g), .int .u32 v, .slice A n c], .agg #[.string (bstr g'), .int .u32 v', .slice A' n' c']] w (BoolRes w ((g == g') && decide (v' < v))) := by
  obtain ⟨k1, k2, hb⟩ := two_boxes w 26 26 #[.string (bstr g), .int .u32 v, .slice A n c] #[.string (bstr g'), .int .u32 v', .slice A' n' c']
  by_cases hg : g = g'
  · have e1 : (g == g') = true := by simp [hg]
    rw [e1, Bool.true_and]
    clear hg
    go_enter Tryd.func15, Tryd.ntmps15
    go_wp2_with fail
    go_ret
    exact ⟨rfl, hb⟩
  · have e1 : (g == g') = false := by simp [hg]
    rw [e1, Bool.false_and]
    clear hg
    go_enter Tryd.func15, Tryd.ntmps15
    go_wp2_with fail
    go_ret
    exact ⟨rfl, hb⟩

theorem of_walk {g : List UInt8} {v : Int} {A : Option Addr} {n c : Nat} {w : World} :
    Calls Tryd.prog 9 #[.agg #[.string (bstr g), .int .u32 v, .slice A n c]] w (fun e w' => e = .returned (.agg #[.string (bstr g), .int .u32 v, .slice A n c]) ∧ Below w.heap.size w w') := by
  obtain ⟨k1, k2, hb⟩ := two_boxes w 26 36 #[.string (bstr g), .int .u32 v, .slice A n c] #[.string (bstr g), .int .u32 v, .slice A n c]
  go_enter Tryd.func9, Tryd.ntmps9
  go_wp2_with fail
  refine bodyPost_ret ?hr rfl ⟨rfl, ?_⟩
  case hr => exact results_cell_row rfl _ _ (w.heap.size + 1) 36 _ (0, 0) _ rfl k2 Tryd.underlying36 rfl (by kernel_rfl)
  exact hb
end Go.Proofs.YtdnoafjaheofcaaDoor
