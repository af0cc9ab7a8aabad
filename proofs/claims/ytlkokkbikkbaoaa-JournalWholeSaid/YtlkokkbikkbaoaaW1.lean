/- Bytes, numbers, texts of the wire. -/
import Derived.Test.YtlkokkbikkbaoaaRows
import Derived.Test.YtlkokkbikkbaoaaB1
import Derived.WalkLawsBesides
import Derived.Defers
import Derived.Recover
set_option linter.unusedSimpArgs false
set_option linter.unusedVariables false
set_option linter.unusedSimpArgs false
set_option linter.unusedVariables false
namespace Go.Proofs.Ytlkokkbikkbaoaa
set_option maxRecDepth 100000
open Go.RowKit
theorem info_u8 : (Try.prog.info? 5).map (fun i => (i.zero, i.size, i.bytes)) = some (some (.int .u8 0), 1, 1) := by kernel_rfl
def NewBytes (w : World) (bs : List UInt8) (e : Ending) (w' : World) : Prop :=
  ∃ A' c', e = .returned (.slice A' bs.length c') ∧ Own w' 5 1 A' bs.length c' (bys bs) ∧ Below w.heap.size w w' ∧ ∀ g, bOf A' = some g → w.heap.size ≤ g
theorem clone_bytes {A : Option Addr} {c B : Nat} {bs : List UInt8} {w : World} (hr : Reads w B 1 A bs.length (bys bs)) (hB : B ≤ w.heap.size) (hl : bs.length ≤ 1000000000000) :
    Calls Try.prog 35 #[.slice A bs.length c] w (NewBytes w bs) := by
  obtain ⟨i0, hi, hz0, hz1, hz2⟩ := info_parts info_u8
  have he := fun w A n => Lib.run_eql_slice_nil (P := Try.prog) w 26 5 A n c 0 0 Try.underlying26
  cases A with
  | none =>
    have hb : bs = [] := by
      rcases Nat.eq_zero_or_pos bs.length with h | h
      · exact List.eq_nil_of_length_eq_zero h
      · obtain ⟨_, h, _⟩ := hr.2 h; cases h
    subst hb
    clear hr
    go_enter Try.func35, Try.ntmps35
    go_wp2
    go_ret
    exact ⟨none, 0, rfl, Own.none_, Below.refl _ _, by simp [bOf]⟩
  | some a =>
    go_enter Try.func35, Try.ntmps35
    go_wp2_with (at_builtin; go_must (refine wpList_append_mine rfl _ _ 26 26 rfl 5 i0 (.int .u8 0) 1 1 Try.underlying26 hi hz0 hz1 hz2 rfl rfl (Own.new w 5 1 0 #[] rfl (by decide)) rfl (Src.ofReads Try.underlying26 _ (hr.alloc hB _) (bys_one _)) ?b1 ?b2 ?grow))
    case b1 => unfold maxLen; omega
    case b2 => omega
    case grow =>
      intro A' c' w' hown hg hat
      go_wp2
      go_ret
      simp only [Nat.zero_add, List.nil_append] at hown ⊢
      refine ⟨A', c', rfl, hown, ((Below.refl _ _).alloc (Nat.le_refl _) _).grown hg (by simp) (fun k hk => by simp [bOf] at hk; omega), ?_⟩
      intro g hg
      rcases hat with h | h <;> rw [h] at hg <;> simp [bOf] at hg <;> omega
theorem conv_bytes {n c B : Nat} {A : Option Addr} {bs : List UInt8} {w : World} (h : Reads w B 1 A n (bys bs)) : (convert 26 9 (.slice A n c)).run Try.prog w = .ok (.string (bstr bs)) w :=
  run_bytes_str (P := Try.prog) 26 5 Try.underlying26 Try.underlying5 9 Try.underlying9 c h
end Go.Proofs.Ytlkokkbikkbaoaa
namespace Go.Proofs.Ytlkokkbikkbaoaa
set_option maxRecDepth 100000
open Go.RowKit
theorem wire_put {A : Option Addr} {c B : Nat} {bs : List UInt8} {v : Nat} {m : Int} {w : World} (hr : Reads w B 1 A bs.length (bys bs)) (hB : B ≤ w.heap.size) (hl : bs.length ≤ 100000000000) (hv : v < 18446744073709551616) :
    Calls Try.prog 25 #[.slice A bs.length c, .int .u64 (v : Int), .int .i64 m] w (NewBytes w (bs ++ putU v (n8 m))) := by
  obtain ⟨i0, hi, hz0, hz1, hz2⟩ := info_parts info_u8
  go_enter Try.func25, Try.ntmps25
  go_wp2_with fail
  refine (clone_bytes hr hB (by omega)).mono ?_
  rintro e w1 ⟨A1, c1, rfl, ho1, hb1, hg1⟩
  dsimp only
  obtain ⟨x, hx1, hx2⟩ := n8_if m
  have hn8 := n8_le m
  generalize hk : n8 m = k at hx2 hn8
  replace hk := Lib.hid hk
  go_wp2
  go_loopw [7, 8] (fun s i w' => ∃ (j : Nat) (A' : Option Addr) (c' : Nat) (X : List UInt8), j ≤ k ∧ X.length + j = k ∧ X ++ putU v j = putU v k ∧ s = .slice A' (bs.length + X.length) c' ∧ i = .int .i64 ((j : Int) - 1) ∧ Own w' 5 1 A' (bs.length + X.length) c' (bys (bs ++ X)) ∧ Below w.heap.size w w' ∧ ∀ g, bOf A' = some g → w.heap.size ≤ g) (fun _ i _ => (intOf i + 1).toNat)
  case atStart => exact ⟨k, A1, c1, [], Nat.le_refl _, by simp, by simp, by simp, by simp, by simpa using ho1, hb1, hg1⟩
  case round =>
    obtain ⟨j, A', c', X, hj, hXj, hX, rfl, rfl, ho, hb, hg⟩ := hrel
    by_cases hlt : 1 ≤ j
    · have hbyte : (#[Value.int .u8 ((v : Int) / 2 ^ (8 * (j - 1)) % 256)] : Array Value).toList = bys [byteAt v (j - 1)] := by simp [bys, byv, byteAt_val]
      go_wp2_with (at_builtin; go_must (refine wpList_append_mine rfl _ _ 26 26 rfl 5 i0 (.int .u8 0) 1 1 Try.underlying26 hi hz0 hz1 hz2 rfl rfl (ho.alloc _) rfl (Src.ofReads Try.underlying26 _ (Reads.lit _ _ _ _ 1 _ hbyte rfl) (bys_one _)) ?b1 ?b2 ?grow))
      case b1 => unfold maxLen; omega
      case b2 => omega
      case grow =>
        intro A2 c2 w2 hown hgr hat
        go_wp2_with fail
        go_roundw
        case rel =>
          refine ⟨j - 1, A2, c2, X ++ [byteAt v (j - 1)], by omega, by simp; omega, ?_, by simp [Nat.add_assoc], by simp; omega, by simpa [bys_append, Nat.add_assoc] using hown, (hb.alloc hb.size _).grown hgr (Nat.le_trans hb.size (by simp)) (fun k hk => ?_), fun g hg' => ?_⟩
          · rw [← hX, show j = (j - 1) + 1 from by omega]; simp [putU]
          · exact hg k hk
          · rcases hat with h | h <;> rw [h] at hg'
            · exact hg g hg'
            · have := hb.size; simp at hg'; omega
        case measure => simp [intOf]; omega
    · have hj0 : j = 0 := by omega
      subst hj0
      go_wp2_with fail
      go_ret
      simp [putU] at hX
      subst hX
      have hk := hk.out
      subst hk
      exact ⟨A', c', by simp, by simpa using ho, hb, hg⟩
end Go.Proofs.Ytlkokkbikkbaoaa
namespace Go.Proofs.Ytlkokkbikkbaoaa
set_option maxRecDepth 100000
open Go.RowKit
theorem wire_read {A : Option Addr} {c : Nat} {bs : List UInt8} {k : Nat} {w : World} (h : Reads w w.heap.size 1 A bs.length (bys bs)) (hk : k ≤ 8) (hkl : k ≤ bs.length) (hc : bs.length ≤ c) (hl : bs.length ≤ 140737488351232) :
    Calls Try.prog 34 #[.slice A bs.length c, .int .i64 (k : Int)] w fun e w' => e = .returned (.tuple #[.int .u64 (readU (bs.take k) : Nat), .bool true]) ∧ Below w.heap.size w w' := by
  go_enter Try.func34, Try.ntmps34
  go_wp2
  all_goals
   go_loopw [6, 25] (fun s i w' => ∃ (j : Nat), j ≤ k ∧ i = .int .i64 (j : Int) ∧ s = .int .u64 (readU (bs.take j) : Nat) ∧ Below w.heap.size w w') (fun _ i _ => (8 - intOf i).toNat)
   case atStart => exact ⟨0, Nat.zero_le _, rfl, rfl, Below.refl _ _⟩
   case round =>
    obtain ⟨j, hj, rfl, rfl, hb⟩ := hrel
    generalize hx : readU (bs.take j) = x
    by_cases hlt : j < k
    · have hxl : x < 72057594037927936 := by rw [← hx]; exact readU_take_lt bs j (by omega)
      have hjl : j < bs.length := by omega
      replace hx := Lib.hid hx
      obtain ⟨ad, u, rfl, _, hu, hc⟩ := (h.below hb).at_ hjl
      simp only [bys, byv, List.getElem?_map, List.getElem?_eq_getElem hjl, Option.map_some, Option.some.injEq] at hu
      subst hu
      go_wp2_with fail
      have hor : bits .or .u64 ((x : Int) * 256) (IntKind.u64.wrap ((bs[j].toNat : Nat) : Int)) = ((readU (bs.take (j + 1)) : Nat) : Int) := by
        have h1 := u64_or_byte x bs[j].toNat hxl bs[j].toNat_lt
        rw [show IntKind.u64.wrap ((x : Int) * 256) = (x : Int) * 256 from by simp [IntKind.wrap, IntKind.bits, IntKind.signed]; omega] at h1
        rw [h1, List.take_succ_eq_append_getElem hjl, readU_snoc, hx.out]
      rw [hor]
      go_roundw
      case rel => exact ⟨j + 1, by omega, by simp, rfl, by assumption⟩
      case measure => simp [intOf]; omega
    · have he : j = k := by omega
      subst he
      replace hx := Lib.hid hx
      go_wp2_with fail
      go_ret2
      have hx := hx.out
      subst hx
      exact ⟨rfl, hb⟩
/-- Bytes put behind an owned row. -/
def PutBytes (w : World) (A : Option Addr) (bs : List UInt8) (e : Ending) (w' : World) : Prop :=
  ∃ A' c', e = .returned (.slice A' bs.length c') ∧ Own w' 5 1 A' bs.length c' (bys bs) ∧ Upd (fun k => some k = bOf A) w w' ∧ (bOf A' = bOf A ∨ ∀ g, bOf A' = some g → w.heap.size ≤ g)
end Go.Proofs.Ytlkokkbikkbaoaa
namespace Go.Proofs.Ytlkokkbikkbaoaa
set_option maxRecDepth 100000
open Go.RowKit
/-- A row onto which bytes may be put: an owned one, or a full one. -/
def Grows (w : World) (t : TypeId) (size : Nat) (A : Option Addr) (n c : Nat) (xs : List Value) (row : Option Nat) : Prop :=
  (Own w t size A n c xs ∧ row = bOf A) ∨ (c ≤ n ∧ row = none ∧ ∃ B, B ≤ w.heap.size ∧ Reads w B size A n xs)
theorem Grows.own {w : World} {t : TypeId} {size n c : Nat} {A : Option Addr} {xs : List Value} (h : Own w t size A n c xs) : Grows w t size A n c xs (bOf A) := .inl ⟨h, rfl⟩
theorem Grows.full {w : World} {t : TypeId} {size n c B : Nat} {A : Option Addr} {xs : List Value} (h : Reads w B size A n xs) (hB : B ≤ w.heap.size) (hc : c ≤ n) : Grows w t size A n c xs none := .inr ⟨hc, rfl, B, hB, h⟩
theorem Grows.lt {w : World} {t : TypeId} {size n c : Nat} {A : Option Addr} {xs : List Value} {row : Option Nat} {g : Nat} (h : Grows w t size A n c xs row) (hg : row = some g) : g < w.heap.size := by
  rcases h with ⟨ho, rfl⟩ | ⟨_, rfl, _⟩
  · exact ho.lt hg
  · cases hg
theorem Grows.below {w w' : World} {t : TypeId} {size n c : Nat} {A : Option Addr} {xs : List Value} {row : Option Nat} (h : Grows w t size A n c xs row) (hb : Below w.heap.size w w') : Grows w' t size A n c xs row := by
  rcases h with ⟨ho, rfl⟩ | ⟨hc, rfl, B, hB, hr⟩
  · exact .inl ⟨ho.below hb (Nat.le_refl _), rfl⟩
  · exact .inr ⟨hc, rfl, B, Nat.le_trans hB hb.size, hr.below (hb.mono hB)⟩
section
variable {P : Program} {w : World}
theorem run_append_grows (t tx ty e : TypeId) (i : TypeInfo) (z : Value) (size bytes : Nat) (ht : P.underlying t = some (.slice e)) (hi : P.info? e = some i) (hz : i.zero = some z)
    (hsize : i.size = size) (hby : i.bytes = bytes) (hzs : z.cells.size = size) {A : Option Addr} {n c : Nat} {xs : List Value} {row : Option Nat} (hgr : Grows w e size A n c xs row)
    {x : Value} {m : Nat} {news : List Value} (hs : Src P size tx x m news w) (hm : 0 < m) (h63 : n + m ≤ maxLen) (hbytes : (n + m) * bytes ≤ 140737488355328) :
    ∃ A' c' w', (Builtin.append_ #[t, tx] ty #[.slice A n c, x]).run P w = .ok (.slice A' (n + m) c') w' ∧ Own w' e size A' (n + m) c' (xs ++ news) ∧ w.grownBy w' row ∧
      (bOf A' = row ∨ bOf A' = some w.heap.size) := by
  rcases hgr with ⟨ho, rfl⟩ | ⟨hcn, rfl, B, _, hr⟩
  · exact run_append_mine t tx ty e i z size bytes ht hi hz hsize hby hzs ho hs h63 hbytes
  subst hsize
  subst hby
  have hsmall : n + m ≤ 9223372036854775807 := by simp only [maxLen] at h63; omega
  have hlen : (xs ++ news).length = (n + m) * i.size := by rw [List.length_append, hr.1, hs.newsLen, Nat.add_mul]
  have hroom : ¬ n + m ≤ c := by omega
  have hfc : (Builtin.firstCells i.size n (.slice A n c)).run P w.drew = .ok xs.toArray w.drew := by
    rcases Nat.eq_zero_or_pos n with h0 | h0
    · subst h0
      have hx : xs = [] := List.eq_nil_of_length_eq_zero (by simpa using hr.1)
      subst hx
      cases A with
      | none => simp [Builtin.firstCells]
      | some a => exact run_firstCells_some (P := P) w.drew i.size 0 a 0 c [] (by simp) (by simp)
    · obtain ⟨ad, rfl, _, hc⟩ := hr.2 h0
      exact run_firstCells_some (P := P) w.drew i.size n ad n c xs hr.1 hc
  have hge := grownCap_ge w (n + m) c e
  have hcm := grownCap_le_maxLen w (n + m) c e h63
  have hrun := run_append_grow_src (P := P) w t tx ty e i z ht hi hz A n c xs hfc x m news hs (by omega) (by omega) (growslice_fits (by omega) hbytes)
  refine ⟨_, _, _, hrun, ⟨hlen, .inr ⟨w.heap.size, _, rfl, heap_alloc_new w.drew _, hge, hcm, ?_, ?_⟩⟩, ⟨rfl, rfl, rfl, by simp, fun k hk _ => Below.heap_alloc w.drew _ k hk⟩, .inr rfl⟩
  · simp only [Array.size_append, List.size_toArray, size_zeroCells, hzs, hlen, ← Nat.add_mul]
    exact Nat.mul_le_mul_right _ (by omega)
  · simp only [Array.toList_append]
    rw [← hlen]
    exact List.take_left

end
end Go.Proofs.Ytlkokkbikkbaoaa
namespace Go.Proofs.Ytlkokkbikkbaoaa
set_option maxRecDepth 100000
open Go.RowKit
def Says (w : World) (v : Value) (e : Ending) (w' : World) : Prop := e = .returned v ∧ Below w.heap.size w w'
def kindOf (k : Int) : Int := if k < 0 ∨ 4 < k then 0 else k
theorem val_kind (k i : Int) (f : Nat) (s : ByteArray) (A : Option Addr) (n c : Nat) (w : World) :
    Calls Try.prog 72 #[.agg #[.int .i64 k, .int .i64 i, .float .f64 f, .string s, .slice A n c]] w (Says w (.int .i64 (kindOf k))) := by
  by_cases h0 : k < 0
  · have hk : kindOf k = 0 := by simp [kindOf, h0]
    rw [hk]
    go_enter Try.func72, Try.ntmps72
    go_wp2
    go_ret
    exact ⟨rfl, (Below.refl _ w).alloc (Nat.le_refl _) _⟩
  by_cases h4 : 4 < k
  · have hk : kindOf k = 0 := by simp [kindOf, h4]
    rw [hk]
    go_enter Try.func72, Try.ntmps72
    go_wp2
    go_ret
    exact ⟨rfl, (Below.refl _ w).alloc (Nat.le_refl _) _⟩
  · have hk : kindOf k = k := by simp [kindOf, h0, h4]
    rw [hk]
    go_enter Try.func72, Try.ntmps72
    go_wp2
    go_ret
    exact ⟨rfl, (Below.refl _ w).alloc (Nat.le_refl _) _⟩
/-- The cells of a value in a block of a world's own. -/
def SV (b : Nat) (k i : Int) (f : Nat) (s : ByteArray) (A : Option Addr) (n c : Nat) (w W : World) : Prop :=
  W.cell? ⟨b, 0, none⟩ = some (.int .i64 k) ∧ W.cell? ⟨b, 1, none⟩ = some (.int .i64 i) ∧ W.cell? ⟨b, 2, none⟩ = some (.float .f64 f) ∧ W.cell? ⟨b, 3, none⟩ = some (.string s) ∧ W.cell? ⟨b, 4, none⟩ = some (.slice A n c) ∧ Below w.heap.size w W ∧ b < W.heap.size
theorem SV.alloc {w0 : World} (w : World) (h : Below w0.heap.size w0 w) (k i : Int) (f : Nat) (s : ByteArray) (A : Option Addr) (n c : Nat) : SV w.heap.size k i f s A n c w0 (w.alloc (.cells #[.int .i64 k, .int .i64 i, .float .f64 f, .string s, .slice A n c] 64)) := by
  have hb := Blk.new w 64 #[.int .i64 k, .int .i64 i, .float .f64 f, .string s, .slice A n c]
  exact ⟨hb.cell 0, hb.cell 1, hb.cell 2, hb.cell 3, hb.cell 4, h.alloc h.size _, by simp⟩
theorem SV.drew {b : Nat} {k i : Int} {f : Nat} {s : ByteArray} {A : Option Addr} {n c : Nat} {w0 w : World} (h : SV b k i f s A n c w0 w) : SV b k i f s A n c w0 w.drew :=
  ⟨h.1, h.2.1, h.2.2.1, h.2.2.2.1, h.2.2.2.2.1, h.2.2.2.2.2.1.drew, h.2.2.2.2.2.2⟩
theorem SV.below {b : Nat} {k i : Int} {f : Nat} {s : ByteArray} {A : Option Addr} {n c : Nat} {w0 w w' : World} (h : SV b k i f s A n c w0 w) (hb : Below w.heap.size w w') : SV b k i f s A n c w0 w' := by
  obtain ⟨h0, h1, h2, h3, h4, h5, h6⟩ := h
  exact ⟨(hb.cell h6).trans h0, (hb.cell h6).trans h1, (hb.cell h6).trans h2, (hb.cell h6).trans h3, (hb.cell h6).trans h4, below_then hb h5, Nat.lt_of_lt_of_le h6 hb.size⟩
theorem val_strange_flat (k i : Int) (f : Nat) (s : ByteArray) (A : Option Addr) (n c : Nat) (w : World) (h0 : 0 ≤ k) (h4 : k < 4) :
    Calls Try.prog 64 #[.agg #[.int .i64 k, .int .i64 i, .float .f64 f, .string s, .slice A n c]] w (Says w (.bool false)) := by
  have hk : kindOf k = k := by simp [kindOf]; omega
  have k4 : (k == 4) = false := by rw [beq_eq_false_iff_ne]; omega
  have hS : SV w.heap.size k i f s A n c w (w.alloc (.cells #[.int .i64 k, .int .i64 i, .float .f64 f, .string s, .slice A n c] 64)) := SV.alloc w (Below.refl _ _) k i f s A n c
  go_enter Try.func64, Try.ntmps64
  go_wp2_with fail
  generalize w.alloc (.cells #[.int .i64 k, .int .i64 i, .float .f64 f, .string s, .slice A n c] 64) = w1 at hS ⊢
  generalize w.heap.size = b at hS ⊢
  have hS2 : w1.drew.cell? ⟨b, 0, none⟩ = some (.int .i64 k) ∧ w1.drew.cell? ⟨b, 1, none⟩ = some (.int .i64 i) ∧ w1.drew.cell? ⟨b, 2, none⟩ = some (.float .f64 f) ∧ w1.drew.cell? ⟨b, 3, none⟩ = some (.string s) ∧ w1.drew.cell? ⟨b, 4, none⟩ = some (.slice A n c) ∧ Below w.heap.size w w1.drew ∧ b < w1.drew.heap.size := hS.drew
  refine wp_region_lex (fun W => W.cell? ⟨b, 0, none⟩ = some (.int .i64 k) ∧ W.cell? ⟨b, 1, none⟩ = some (.int .i64 i) ∧ W.cell? ⟨b, 2, none⟩ = some (.float .f64 f) ∧ W.cell? ⟨b, 3, none⟩ = some (.string s) ∧ W.cell? ⟨b, 4, none⟩ = some (.slice A n c) ∧ Below w.heap.size w W ∧ b < W.heap.size) [1, 2, 7, 11] [3, 12] [0, 1, 2, 3, 4, 5, 6, 7, 8, 9, 10, 11, 12, 13, 14, 15] (by kernel_rfl) rfl (by kernel_rfl) (by kernel_rfl) (fun _ _ d _ _ h => by cases d <;> exact h) ?_
  repeat (first | (refine lexG_take _ ?_ rfl rfl rfl rfl (fun _ => ?_) ?_; rotate_left; (focus (go_simp; with_reducible rfl)); try simp only [Act.put, List.setIfInBounds_toArray, List.set_cons_zero, List.set_cons_succ]) | (refine lexG_held _ ?_ rfl rfl rfl rfl (by assumption) (fun _ hSw => ?_) ?_; rotate_left; (focus ((try dsimp only at hSw); go_simp; with_reducible rfl)); try simp only [Act.put, List.setIfInBounds_toArray, List.set_cons_zero, List.set_cons_succ]) | (refine lexG_skip _ rfl rfl (by assumption) ?_; try simp only [Act.put, List.setIfInBounds_toArray, List.set_cons_zero, List.set_cons_succ]))
  refine lexG_now _ rfl rfl rfl (fun K hK => ?_)
  go_wp2_with fail
  refine (val_kind _ _ _ _ _ _ _ _).mono ?_
  rintro e w2 ⟨rfl, hb2⟩
  rw [hk]
  dsimp only
  have hS3 : w2.cell? ⟨b, 0, none⟩ = some (.int .i64 k) ∧ w2.cell? ⟨b, 1, none⟩ = some (.int .i64 i) ∧ w2.cell? ⟨b, 2, none⟩ = some (.float .f64 f) ∧ w2.cell? ⟨b, 3, none⟩ = some (.string s) ∧ w2.cell? ⟨b, 4, none⟩ = some (.slice A n c) ∧ Below w.heap.size w w2 ∧ b < w2.heap.size := hS.drew.below hb2
  refine hK _ _ _ (fun _ h => h) hS3 ?_
  clear hK K hS hS2 hb2
  try simp only [Act.put, List.setIfInBounds_toArray, List.set_cons_zero, List.set_cons_succ]
  repeat (first | (refine lexG_take _ ?_ rfl rfl rfl rfl (fun _ => ?_) ?_; rotate_left; (focus (go_simp; with_reducible rfl)); try simp only [Act.put, List.setIfInBounds_toArray, List.set_cons_zero, List.set_cons_succ]) | (refine lexG_held _ ?_ rfl rfl rfl rfl (by assumption) (fun _ hSw => ?_) ?_; rotate_left; (focus ((try dsimp only at hSw); go_simp; with_reducible rfl)); try simp only [Act.put, List.setIfInBounds_toArray, List.set_cons_zero, List.set_cons_succ]) | (refine lexG_skip _ rfl rfl (by assumption) ?_; try simp only [Act.put, List.setIfInBounds_toArray, List.set_cons_zero, List.set_cons_succ]))
  refine lexG_nil ?_
  go_wp2_with fail
  go_ret
  exact ⟨rfl, hS3.2.2.2.2.2.1⟩
theorem val_size_num (k i : Int) (f : Nat) (s : ByteArray) (A : Option Addr) (n c : Nat) (w : World) (h : k = 1 ∨ k = 2) :
    Calls Try.prog 66 #[.agg #[.int .i64 k, .int .i64 i, .float .f64 f, .string s, .slice A n c]] w (Says w (.int .i64 9)) := by
  have hfin : Below w.heap.size w (w.alloc (.cells #[.int .i64 k, .int .i64 i, .float .f64 f, .string s, .slice A n c] 64)) := (Below.refl _ w).alloc (Nat.le_refl _) _
  rcases h with rfl | rfl
  · go_enter Try.func66, Try.ntmps66
    go_wp2
    go_ret
    exact ⟨rfl, hfin⟩
  · go_enter Try.func66, Try.ntmps66
    go_wp2
    go_ret
    exact ⟨rfl, hfin⟩
end Go.Proofs.Ytlkokkbikkbaoaa
namespace Go.Proofs.Ytlkokkbikkbaoaa
set_option maxRecDepth 100000
open Go.RowKit
/-- What ends a reading. -/
def shortP : List PanicEntry := [{ v := .iface 130 (.agg #[]), recovered := false }]
theorem must_ok (w : World) : Calls Try.prog 77 #[.bool true] w fun e w' => e = .returned (.tuple #[]) ∧ w = w' := by
  go_enter Try.func77, Try.ntmps77
  go_wp2
  go_end0
  exact ⟨rfl, rfl⟩
theorem must_no (w : World) : Calls Try.prog 77 #[.bool false] w fun e w' => e = .panicked shortP ∧ w = w' := by
  go_enter Try.func77, Try.ntmps77
  go_wp2
  exact ⟨rfl, rfl, rfl⟩
theorem wire_read_no {A : Option Addr} {m c k : Nat} {w : World} (hk : k ≤ 8) (hm : m < k) :
    Calls Try.prog 34 #[.slice A m c, .int .i64 (k : Int)] w fun e w' => e = .returned (.tuple #[.int .u64 0, .bool false]) ∧ w = w' := by
  go_enter Try.func34, Try.ntmps34
  go_wp2
  go_ret2
  exact ⟨rfl, rfl⟩
/-- The reader r: bytes at ad, how far, how deep still. -/
def RdAt (w : World) (r : Nat) (A : Option Addr) (n c at_ : Nat) (deep : Int) : Prop := Blk w r 134 #[.slice A n c, .int .i64 (at_ : Int), .int .i64 deep]
def NumRes (w : World) (r : Nat) (ad : Addr) (n c at_ : Nat) (deep : Int) (v : Nat) (e : Ending) (w' : World) : Prop :=
  e = .returned (.int .u64 (v : Int)) ∧ RdAt w' r (some ad) n c at_ deep ∧ Upd (fun x => x = r) w w'
set_option maxHeartbeats 800000 in
theorem number_ok {ad : Addr} {c B r k at_ : Nat} {deep : Int} {b : List UInt8} {w : World} (h : RdAt w r (some ad) b.length c at_ deep) (hr : Reads w B 1 (some ad) b.length (bys b)) (hB : B ≤ r) (hc : b.length ≤ c) (hl : b.length ≤ 1000000000)
    (hk : k ≤ 8) (hk1 : 1 ≤ k) (hat : at_ + k ≤ b.length) (v : Nat) (hv : readU ((b.drop at_).take k) = v) :
    Calls Try.prog 79 #[.pointer (some ⟨r, 0, none⟩), .int .i64 (k : Int)] w (NumRes w r ad b.length c (at_ + k) deep v) := by
  obtain ⟨d, hd⟩ : ∃ d, b.drop at_ = d := ⟨_, rfl⟩
  have hdl : d.length = b.length - at_ := by rw [← hd, List.length_drop]
  have hcut := hr.cut (k := at_) (cap := c) (by omega) hc
  rw [if_neg (by omega), Nat.mul_one, bys_drop, hd] at hcut
  have hcut : Reads w B 1 (some (ad.add at_)) d.length (bys d) := by rw [hdl]; exact hcut
  rw [hd] at hv
  obtain ⟨m, hm⟩ : ∃ m, b.length = m := ⟨_, rfl⟩
  have hRd : RdAt w r (some ad) m c at_ deep := by rw [← hm]; exact h
  have hS : w.drew.cell? ⟨r, 0, none⟩ = some (.slice (some ad) m c) ∧ w.drew.cell? ⟨r, 1, none⟩ = some (.int .i64 (at_ : Int)) ∧ Below w.heap.size w w.drew := ⟨hRd.cell 0, hRd.cell 1, (Below.refl _ _).drew⟩
  have hac : at_ < c := by omega
  have ham : at_ ≤ m := by omega
  have hmc : m ≤ c := by omega
  have hrl : r < w.heap.size := hRd.lt
  rw [hm] at hdl ⊢
  have hdk : k ≤ d.length := by omega
  have hdc : d.length ≤ c - at_ := by omega
  have hdb : d.length ≤ 140737488351232 := by omega
  have hak : ((at_ : Int) + (k : Int)) ≤ 1000000000 := by omega
  have hv64 : v < 18446744073709551616 := by
    rw [← hv]
    refine Nat.lt_of_lt_of_le (readU_lt _) ?_
    rw [List.length_take, Nat.min_eq_left hdk]
    exact Nat.pow_le_pow_right (show 0 < 256 by decide) hk
  clear h hr hd hat hl hm
  replace hdl := Lib.hid hdl
  replace hv := Lib.hid hv
  replace hRd := Lib.hid hRd
  go_enter Try.func79, Try.ntmps79
  go_wp2_with fail
  refine wp_region_lex (fun W => W.cell? ⟨r, 0, none⟩ = some (.slice (some ad) m c) ∧ W.cell? ⟨r, 1, none⟩ = some (.int .i64 (at_ : Int)) ∧ Below w.heap.size w W) [3, 7] [10] [0, 1, 2, 3, 4, 5, 6, 7, 8, 9, 10, 11, 12, 13, 14, 15] (by kernel_rfl) rfl (by kernel_rfl) (by kernel_rfl) (fun _ _ d _ _ h => by cases d <;> exact h) ?_
  repeat (first | (refine lexG_take _ ?_ rfl rfl rfl rfl (fun _ => ?_) ?_; rotate_left; (focus (go_simp; with_reducible rfl)); try simp only [Act.put, List.setIfInBounds_toArray, List.set_cons_zero, List.set_cons_succ]) | (refine lexG_held _ ?_ rfl rfl rfl rfl (by assumption) (fun _ hSw => ?_) ?_; rotate_left; (focus ((try dsimp only at hSw); go_simp; with_reducible rfl)); try simp only [Act.put, List.setIfInBounds_toArray, List.set_cons_zero, List.set_cons_succ]) | (refine lexG_skip _ rfl rfl (by assumption) ?_; try simp only [Act.put, List.setIfInBounds_toArray, List.set_cons_zero, List.set_cons_succ]))
  refine lexG_now _ rfl rfl rfl (fun K hK => ?_)
  go_wp2_with fail
  rw [← hdl.out]
  refine (wire_read (((hcut.more (Nat.le_of_lt (Nat.lt_of_le_of_lt hB hrl))).drew)) hk hdk hdc hdb).mono ?_
  rintro e w1 ⟨rfl, hb1⟩
  rw [hv.out]
  dsimp only
  have hS1 : w1.cell? ⟨r, 0, none⟩ = some (.slice (some ad) m c) ∧ w1.cell? ⟨r, 1, none⟩ = some (.int .i64 (at_ : Int)) ∧ Below w.heap.size w w1 := ⟨(hb1.cell (by show r < _; simpa using hrl)).trans hS.1, (hb1.cell (by show r < _; simpa using hrl)).trans hS.2.1, below_then hb1 hS.2.2⟩
  refine hK _ _ _ (fun _ h => h) hS1 ?_
  clear hK K hS hb1
  try simp only [Act.put, List.setIfInBounds_toArray, List.set_cons_zero, List.set_cons_succ]
  repeat (first | (refine lexG_take _ ?_ rfl rfl rfl rfl (fun _ => ?_) ?_; rotate_left; (focus (go_simp; with_reducible rfl)); try simp only [Act.put, List.setIfInBounds_toArray, List.set_cons_zero, List.set_cons_succ]) | (refine lexG_held _ ?_ rfl rfl rfl rfl (by assumption) (fun _ hSw => ?_) ?_; rotate_left; (focus ((try dsimp only at hSw); go_simp; with_reducible rfl)); try simp only [Act.put, List.setIfInBounds_toArray, List.set_cons_zero, List.set_cons_succ]) | (refine lexG_skip _ rfl rfl (by assumption) ?_; try simp only [Act.put, List.setIfInBounds_toArray, List.set_cons_zero, List.set_cons_succ]))
  refine lexG_nil ?_
  have hRd1 : RdAt w1 r (some ad) m c at_ deep := Blk.below hRd.out hS1.2.2 hrl
  have hf := Blk.frozen hRd1 1
  obtain ⟨e0, e1, e2⟩ := id hS1
  go_wp2_with fail
  refine (must_ok w1).mono ?_
  rintro e w2 ⟨rfl, rfl⟩
  dsimp only
  go_wp2_with fail
  go_ret
  have hset := Blk.set_ hRd1 1 (.int .i64 ((at_ : Int) + (k : Int)))
  refine ⟨rfl, ?_, ?_⟩
  · have e : ((at_ + k : Nat) : Int) = (at_ : Int) + (k : Int) := by omega
    unfold RdAt
    rw [e]
    exact hset
  · exact ((Upd.refl (fun x => x = r) w).thenBelow hS1.2.2 (Nat.le_refl _)).setCell (p := ⟨r, 1, none⟩) (fun _ => rfl) _
set_option maxHeartbeats 800000 in
theorem number_no {A : Option Addr} {n c r k at_ : Nat} {deep : Int} {w : World} (h : RdAt w r A n c at_ deep) (hA : A = none → c = 0) (hc : n ≤ c) (hl : n ≤ 1000000000)
    (hk : k ≤ 8) (han : at_ ≤ n) (hat : n < at_ + k) :
    Calls Try.prog 79 #[.pointer (some ⟨r, 0, none⟩), .int .i64 (k : Int)] w (fun e w' => e = .panicked shortP ∧ Below w.heap.size w w') := by
  have hS : w.drew.cell? ⟨r, 0, none⟩ = some (.slice A n c) ∧ w.drew.cell? ⟨r, 1, none⟩ = some (.int .i64 (at_ : Int)) ∧ Below w.heap.size w w.drew := ⟨h.cell 0, h.cell 1, (Below.refl _ _).drew⟩
  have hac : at_ ≤ c := by omega
  have hm : n - at_ < k := by omega
  replace h := Lib.hid h
  cases A with
  | none =>
    have hc0 := hA rfl
    subst hc0
    have hn0 : n = 0 := by omega
    subst hn0
    have ha0 : at_ = 0 := by omega
    subst ha0
    go_enter Try.func79, Try.ntmps79
    go_wp2_with fail
    refine wp_region_lex (fun W => W.cell? ⟨r, 0, none⟩ = some (.slice none 0 0) ∧ W.cell? ⟨r, 1, none⟩ = some (.int .i64 ((0 : Nat) : Int)) ∧ Below w.heap.size w W) [3, 7] [10] [0, 1, 2, 3, 4, 5, 6, 7, 8, 9, 10, 11, 12, 13, 14, 15] (by kernel_rfl) rfl (by kernel_rfl) (by kernel_rfl) (fun _ _ d _ _ h => by cases d <;> exact h) ?_
    repeat (first | (refine lexG_take _ ?_ rfl rfl rfl rfl (fun _ => ?_) ?_; rotate_left; (focus (go_simp; with_reducible rfl)); try simp only [Act.put, List.setIfInBounds_toArray, List.set_cons_zero, List.set_cons_succ]) | (refine lexG_held _ ?_ rfl rfl rfl rfl (by assumption) (fun _ hSw => ?_) ?_; rotate_left; (focus ((try dsimp only at hSw); go_simp; with_reducible rfl)); try simp only [Act.put, List.setIfInBounds_toArray, List.set_cons_zero, List.set_cons_succ]) | (refine lexG_skip _ rfl rfl (by assumption) ?_; try simp only [Act.put, List.setIfInBounds_toArray, List.set_cons_zero, List.set_cons_succ]))
    refine lexG_now _ rfl rfl rfl (fun K hK => ?_)
    go_wp2_with fail
    all_goals
      refine (wire_read_no (m := 0) hk hm).mono ?_
      rintro e w1 ⟨rfl, rfl⟩
      dsimp only
      refine hK _ _ _ (fun _ h => h) hS ?_
      clear hK K
      try simp only [Act.put, List.setIfInBounds_toArray, List.set_cons_zero, List.set_cons_succ]
      repeat (first | (refine lexG_take _ ?_ rfl rfl rfl rfl (fun _ => ?_) ?_; rotate_left; (focus (go_simp; with_reducible rfl)); try simp only [Act.put, List.setIfInBounds_toArray, List.set_cons_zero, List.set_cons_succ]) | (refine lexG_held _ ?_ rfl rfl rfl rfl (by assumption) (fun _ hSw => ?_) ?_; rotate_left; (focus ((try dsimp only at hSw); go_simp; with_reducible rfl)); try simp only [Act.put, List.setIfInBounds_toArray, List.set_cons_zero, List.set_cons_succ]) | (refine lexG_skip _ rfl rfl (by assumption) ?_; try simp only [Act.put, List.setIfInBounds_toArray, List.set_cons_zero, List.set_cons_succ]))
      refine lexG_nil ?_
      go_wp2_with fail
      refine (must_no _).mono ?_
      rintro e w2 ⟨rfl, rfl⟩
      dsimp only
      go_wp2_with fail
      exact ⟨rfl, rfl, hS.2.2⟩
  | some ad =>
    go_enter Try.func79, Try.ntmps79
    go_wp2_with fail
    refine wp_region_lex (fun W => W.cell? ⟨r, 0, none⟩ = some (.slice (some ad) n c) ∧ W.cell? ⟨r, 1, none⟩ = some (.int .i64 (at_ : Int)) ∧ Below w.heap.size w W) [3, 7] [10] [0, 1, 2, 3, 4, 5, 6, 7, 8, 9, 10, 11, 12, 13, 14, 15] (by kernel_rfl) rfl (by kernel_rfl) (by kernel_rfl) (fun _ _ d _ _ h => by cases d <;> exact h) ?_
    repeat (first | (refine lexG_take _ ?_ rfl rfl rfl rfl (fun _ => ?_) ?_; rotate_left; (focus (go_simp; with_reducible rfl)); try simp only [Act.put, List.setIfInBounds_toArray, List.set_cons_zero, List.set_cons_succ]) | (refine lexG_held _ ?_ rfl rfl rfl rfl (by assumption) (fun _ hSw => ?_) ?_; rotate_left; (focus ((try dsimp only at hSw); go_simp; with_reducible rfl)); try simp only [Act.put, List.setIfInBounds_toArray, List.set_cons_zero, List.set_cons_succ]) | (refine lexG_skip _ rfl rfl (by assumption) ?_; try simp only [Act.put, List.setIfInBounds_toArray, List.set_cons_zero, List.set_cons_succ]))
    refine lexG_now _ rfl rfl rfl (fun K hK => ?_)
    go_wp2_with fail
    all_goals
      refine (wire_read_no hk hm).mono ?_
      rintro e w1 ⟨rfl, rfl⟩
      dsimp only
      refine hK _ _ _ (fun _ h => h) hS ?_
      clear hK K
      try simp only [Act.put, List.setIfInBounds_toArray, List.set_cons_zero, List.set_cons_succ]
      repeat (first | (refine lexG_take _ ?_ rfl rfl rfl rfl (fun _ => ?_) ?_; rotate_left; (focus (go_simp; with_reducible rfl)); try simp only [Act.put, List.setIfInBounds_toArray, List.set_cons_zero, List.set_cons_succ]) | (refine lexG_held _ ?_ rfl rfl rfl rfl (by assumption) (fun _ hSw => ?_) ?_; rotate_left; (focus ((try dsimp only at hSw); go_simp; with_reducible rfl)); try simp only [Act.put, List.setIfInBounds_toArray, List.set_cons_zero, List.set_cons_succ]) | (refine lexG_skip _ rfl rfl (by assumption) ?_; try simp only [Act.put, List.setIfInBounds_toArray, List.set_cons_zero, List.set_cons_succ]))
      refine lexG_nil ?_
      go_wp2_with fail
      refine (must_no _).mono ?_
      rintro e w2 ⟨rfl, rfl⟩
      dsimp only
      go_wp2_with fail
      exact ⟨rfl, rfl, hS.2.2⟩
end Go.Proofs.Ytlkokkbikkbaoaa
namespace Go.Proofs.Ytlkokkbikkbaoaa
set_option maxRecDepth 100000
open Go.RowKit
def ValRes (w : World) (r : Nat) (ad : Addr) (n c at_ : Nat) (deep : Int) (v : Value) (e : Ending) (w' : World) : Prop :=
  e = .returned v ∧ RdAt w' r (some ad) n c at_ deep ∧ Upd (fun x => x = r) w w'
theorem run_store_float {P : Program} (a : Addr) (k : FloatKind) (x : Nat) (m : Mode) (w : World) : (store a (.float k x) m).run P w = stored P w a (.float k x) m := run_store P w a _ m rfl
set_option maxHeartbeats 1600000 in
theorem value_int {ad : Addr} {c B r at_ : Nat} {deep : Int} {b : List UInt8} {w : World} (h : RdAt w r (some ad) b.length c at_ deep) (hr : Reads w B 1 (some ad) b.length (bys b)) (hB : B ≤ r) (hc : b.length ≤ c) (hl : b.length ≤ 1000000000)
    (hat : at_ + 9 ≤ b.length) (hv1 : readU ((b.drop at_).take 1) = 1) (v : Nat) (hv : readU ((b.drop (at_ + 1)).take 8) = v) :
    Calls Try.prog 76 #[.pointer (some ⟨r, 0, none⟩)] w (ValRes w r ad b.length c (at_ + 9) deep (.agg #[.int .i64 1, .int .i64 (wrap64 v), .float .f64 0, .string ⟨#[]⟩, .slice none 0 0])) := by
  have hrl : r < w.heap.size := h.lt
  have hsf := fun a k x m w => run_store_float (P := Try.prog) a k x m w
  replace hv := Lib.hid hv
  replace hv1 := Lib.hid hv1
  go_enter Try.func76, Try.ntmps76
  go_wp2_with fail
  refine (number_ok (k := 1) (Blk.alloc h _) (hr.alloc (by omega) _) hB hc hl (by omega) (by omega) (by omega) 1 hv1.out).mono ?_
  rintro e w1 ⟨rfl, h1, hu1⟩
  dsimp only
  go_wp2_with fail
  have hz1 : Blk w1 w.heap.size 64 #[.int .i64 0, .int .i64 0, .float .f64 0, .string ⟨#[]⟩, .slice none 0 0] := (Blk.new w _ _).upd hu1 (by omega)
  have hzl := hz1.lt
  have hwl1 : w.heap.size < w1.heap.size := hzl
  refine (number_ok (k := 8) (at_ := at_ + 1) (Blk.alloc h1 _) ((hr.alloc (by omega) _ |>.upd hu1 (by omega) (by simp; omega)).alloc (by omega) _) hB hc hl (by omega) (by omega) (by omega) v hv.out).mono ?_
  rintro e w2 ⟨rfl, h2, hu2⟩
  dsimp only
  have hz2 : Blk w2 w.heap.size 64 #[.int .i64 0, .int .i64 0, .float .f64 0, .string ⟨#[]⟩, .slice none 0 0] := (hz1.alloc _).upd hu2 (by omega)
  have hv2 : Blk w2 w1.heap.size 64 #[.int .i64 1, .int .i64 0, .float .f64 0, .string ⟨#[]⟩, .slice none 0 0] := (Blk.new w1 _ _).upd hu2 (by omega)
  have hu : Upd (fun x => x = r) w w2 := (((Upd.refl _ w).alloc _).trans hu1 (fun _ _ h => h)).alloc _ |>.trans hu2 (fun _ _ h => h)
  have c0 := hz2.cell 0
  have c1 := hz2.cell 1
  have c2 := hz2.cell 2
  have c3 := hz2.cell 3
  have c4 := hz2.cell 4
  have d0 := hv2.cell 0
  have d1 := hv2.cell 1
  have d2 := hv2.cell 2
  have d3 := hv2.cell 3
  have d4 := hv2.cell 4
  have f0 := hz2.frozen
  have f1 := hv2.frozen
  have hne : w.heap.size ≠ w1.heap.size := by omega
  have hrz : r ≠ w.heap.size := by omega
  have hry : r ≠ w1.heap.size := by omega
  have hnz : ¬ w.heap.size < w.heap.size := by omega
  have hny : ¬ w1.heap.size < w.heap.size := by omega
  replace h2 := Lib.hid h2
  replace hu := Lib.hid hu
  generalize hzw : w.heap.size = z at *
  generalize w1.heap.size = y at *
  replace hzw := Lib.hid hzw
  go_wp2_with fail
  have hzf := (((((hz2.far (p := ⟨y, 1, none⟩) hne (.int .i64 (wrap64 v))).set_ 0 (.int .i64 1)).set_ 1 (.int .i64 (wrap64 v))).set_ 2 (.float .f64 0)).set_ 3 (.string ⟨#[]⟩)).set_ 4 (.slice none 0 0)
  have hRf := (((((Blk.far h2.out (p := ⟨y, 1, none⟩) hry (.int .i64 (wrap64 v))).far (p := ⟨z, 0, none⟩) hrz (.int .i64 1)).far (p := ⟨z, 1, none⟩) hrz (.int .i64 (wrap64 v))).far (p := ⟨z, 2, none⟩) hrz (.float .f64 0)).far (p := ⟨z, 3, none⟩) hrz (.string ⟨#[]⟩)).far (p := ⟨z, 4, none⟩) hrz (.slice none 0 0)
  have hUf := (((((hu.out.setCell (p := ⟨y, 1, none⟩) (fun h => absurd (hzw.out ▸ h) hny) (.int .i64 (wrap64 v))).setCell (p := ⟨z, 0, none⟩) (fun h => absurd (hzw.out ▸ h) hnz) (.int .i64 1)).setCell (p := ⟨z, 1, none⟩) (fun h => absurd (hzw.out ▸ h) hnz) (.int .i64 (wrap64 v))).setCell (p := ⟨z, 2, none⟩) (fun h => absurd (hzw.out ▸ h) hnz) (.float .f64 0)).setCell (p := ⟨z, 3, none⟩) (fun h => absurd (hzw.out ▸ h) hnz) (.string ⟨#[]⟩)).setCell (p := ⟨z, 4, none⟩) (fun h => absurd (hzw.out ▸ h) hnz) (.slice none 0 0)
  refine bodyPost_ret ?hr rfl ⟨rfl, hRf, hUf⟩
  case hr => exact results_cell_row rfl _ _ z 64 _ (0, 0) _ rfl hzf Try.underlying64 rfl (by kernel_rfl)
end Go.Proofs.Ytlkokkbikkbaoaa
namespace Go.Proofs.Ytlkokkbikkbaoaa
set_option maxRecDepth 100000
open Go.RowKit
theorem catch_idle (p q s : Addr) (w : World) :
    CallsD Try.prog 75 #[.pointer (some p), .pointer (some q), .pointer (some s)] .returning w fun e u' w' => e = .returned (.tuple #[]) ∧ u' = .returning ∧ w = w' := by
  refine callsD_of_wpS Try.func75 rfl fun c₀ cs hu => ?_
  apply wpS_seq
  apply wpS_region
  simp [wpOpsS, go_sem, recoverD, hu, Try.ntmps75, Exit.thenS]
  apply wpS_seq
  apply wpS_region
  simp [wpOpsS, go_sem, Exit.thenS]
  refine wpS_cond (t := false) (by simp [Act.eval, Array.replicate]) ?_
  simp only [Bool.false_eq_true, if_false]
  refine wpS_of_wp (wp_skip ?_)
  cases c₀
  simp_all [bodyPostS, results, Try.results75, Exit.thenS]
theorem Blk.row {w : World} {g : Nat} {t : TypeId} {old : Array Value} (h : Blk w g t old) (cs : Array Value) : Blk (w.setRow g cs) g t cs := setRow_heap w g old cs t (0, 0) h
theorem Blk.farRow {w : World} {g k : Nat} {t : TypeId} {cur : Array Value} (h : Blk w k t cur) (hne : k ≠ g) (cs : Array Value) : Blk (w.setRow g cs) k t cur := (setRow_other w g k cs hne).trans h
theorem Upd.setRow {S : Nat → Prop} {w w' : World} (h : Upd S w w') {g : Nat} (hg : g < w.heap.size → S g) (cs : Array Value) : Upd S w (w'.setRow g cs) :=
  ⟨h.os, h.tape, h.output, by rw [size_setRow]; exact h.size, fun k hk hs => by
    by_cases hkg : k = g
    · subst hkg; exact absurd (hg hk) hs
    · rw [setRow_other _ _ _ _ hkg]; exact h.block k hk hs⟩
theorem below_row {B g : Nat} {w0 w : World} (hb : Below B w0 w) (h : B ≤ g) (cs : Array Value) : Below B w0 (w.setRow g cs) :=
  ⟨hb.os, hb.tape, hb.output, by rw [size_setRow]; exact hb.size, fun k hk => by rw [setRow_other _ _ _ _ (by omega)]; exact hb.block k hk⟩
theorem store_row_gen {P : Program} {ops : Array Oper} {rest : List Oper} {o : Oper} {a : Act} {w : World} {Q : Exit → Act → World → Prop} (hgd : o.guard = none) (ty : TypeId) (x y : Operand) (ho : o.op = .store ty x y)
    (g : Nat) (cells : Array Value) (hx : a.eval x = .pointer (some ⟨g, 0, none⟩)) (hy : a.eval y = .agg cells)
    (t : TypeId) (old : Array Value) (hg : Blk w g t old) (hi : (P.info? ty).map (·.size) = some cells.size)
    (hold : old.size = cells.size) (h1 : cells.all (·.oneCell') = true)
    (h : ∀ w2, w2 = w.setRow g cells → wpList P ops Q rest (a.put o.dst undef) w2) : wpList P ops Q (o :: rest) a w :=
  wpList_store_row hgd ty x y ho g cells hx hy t old hg hi hold h1 (h _ rfl)
theorem run_assert_short (w : World) : (Instr.typeAssert (.iface 130 (.agg #[])) 20 130 true).run Try.prog w = .ok (.tuple #[.agg #[], .bool true]) w := by
  simp [Instr.typeAssert, go_sem]
set_option maxHeartbeats 1600000 in
theorem catch_short (p q s : Nat) (w : World) (vs : Array Value) (a b : Int) (hz : Blk w p 64 vs) (hvs : vs.size = 5) (hq : Blk w q 3 #[.int .i64 a]) (hs : Blk w s 28 #[.int .i64 b]) :
    CallsD Try.prog 75 #[.pointer (some ⟨p, 0, none⟩), .pointer (some ⟨q, 0, none⟩), .pointer (some ⟨s, 0, none⟩)] (.panicking shortP) w fun e u' w' => e = .returned (.tuple #[]) ∧ u' = .panicking [{ v := .iface 130 (.agg #[]), recovered := true }] ∧
      Blk w' p 64 #[.int .i64 0, .int .i64 0, .float .f64 0, .string ⟨#[]⟩, .slice none 0 0] ∧ Blk w' q 3 #[.int .i64 0] ∧ Blk w' s 28 #[.int .i64 20] ∧ Upd (fun x => x = p ∨ x = q ∨ x = s) w w' := by
  unfold shortP
  have hta := fun w => run_assert_short w
  obtain ⟨v0, v1, v2, v3, v4, rfl⟩ : ∃ v0 v1 v2 v3 v4, vs = #[v0, v1, v2, v3, v4] := by
    match vs, hvs with
    | ⟨[v0, v1, v2, v3, v4]⟩, _ => exact ⟨v0, v1, v2, v3, v4, rfl⟩
  have npq := hz.ne_ hq (by decide)
  have nps := hz.ne_ hs (by decide)
  have nqs := hq.ne_ hs (by decide)
  have hz1 := hz.alloc (.cells #[] 130)
  have hzr := hz1.row #[.int .i64 0, .int .i64 0, .float .f64 0, .string ⟨#[]⟩, .slice none 0 0]
  have hq1 := (hq.alloc (.cells #[] 130)).farRow (g := p) npq.symm #[.int .i64 0, .int .i64 0, .float .f64 0, .string ⟨#[]⟩, .slice none 0 0]
  have hs1 := (hs.alloc (.cells #[] 130)).farRow (g := p) nps.symm #[.int .i64 0, .int .i64 0, .float .f64 0, .string ⟨#[]⟩, .slice none 0 0]
  have hu1 := ((Upd.refl (fun x => x = p ∨ x = q ∨ x = s) w).alloc (.cells #[] 130)).setRow (g := p) (fun _ => .inl rfl) #[.int .i64 0, .int .i64 0, .float .f64 0, .string ⟨#[]⟩, .slice none 0 0]
  clear hz hq hs
  refine callsD_of_wpS Try.func75 rfl fun c₀ cs hu => ?_
  apply wpS_seq
  apply wpS_region
  simp [wpOpsS, go_sem, recoverD, hu, Try.ntmps75, Exit.thenS]
  refine wpS_of_wp (wp_mono (Q := fun e a' w' => (e = .normal ∨ e = .ret) ∧ a'.defers = [] ∧ Blk w' p 64 #[.int .i64 0, .int .i64 0, .float .f64 0, .string ⟨#[]⟩, .slice none 0 0] ∧ Blk w' q 3 #[.int .i64 0] ∧ Blk w' s 28 #[.int .i64 20] ∧ Upd (fun x => x = p ∨ x = q ∨ x = s) w w') ?_ ?_)
  · clear hu
    change Code.wp _ _ _ ⟨#[.pointer (some ⟨p, 0, none⟩), .pointer (some ⟨q, 0, none⟩), .pointer (some ⟨s, 0, none⟩), .iface 130 (.agg #[]), undef, undef, .iface 130 (.agg #[]), undef, undef, undef, undef, undef, undef, undef, undef, undef, undef, undef], []⟩ w
    go_wp2_with (refine store_row_gen rfl 64 _ _ rfl p #[.int .i64 0, .int .i64 0, .float .f64 0, .string ⟨#[]⟩, .slice none 0 0] rfl rfl 64 _ hz1 (by kernel_rfl) rfl (by simp [Value.oneCell']) (fun w2 hw2 => ?_); clear hz1; rw [← hw2] at hzr hq1 hs1 hu1; clear hw2; have zq := hq1.cell 0; have zs := hs1.cell 0; have fq := hq1.frozen; have fs := hs1.frozen; have hzf := (hzr.far (p := ⟨q, 0, none⟩) npq (.int .i64 0)).far (p := ⟨s, 0, none⟩) nps (.int .i64 20); have hqf := (hq1.set_ 0 (.int .i64 0)).far (p := ⟨s, 0, none⟩) nqs (.int .i64 20); have hsf := (hs1.far (p := ⟨q, 0, none⟩) nqs.symm (.int .i64 0)).set_ 0 (.int .i64 20); have huf := (hu1.setCell (p := ⟨q, 0, none⟩) (fun _ => .inr (.inl rfl)) (.int .i64 0)).setCell (p := ⟨s, 0, none⟩) (fun _ => .inr (.inr rfl)) (.int .i64 20); replace hzf := Lib.hid hzf; replace hqf := Lib.hid hqf; replace hsf := Lib.hid hsf; replace huf := Lib.hid huf; clear hzr hu1)
    exact ⟨hzf.out, hqf.out, hsf.out, huf.out⟩
  · rintro e a' w' ⟨he, hd, h⟩
    rcases he with rfl | rfl <;> simp [bodyPostS, results, Try.results75, hd, h]
end Go.Proofs.Ytlkokkbikkbaoaa
namespace Go.Proofs.Ytlkokkbikkbaoaa
set_option maxRecDepth 100000
open Go.RowKit
/-- A region that may be trusted not to panic. -/
theorem region_norm {P : Program} {c : Code} {a : Act} {w : World} {Q : Exit → Act → World → Prop} (h : c.wp P (fun e a w => e = Exit.normal ∧ Q e a w) a w) : c.wp P Q a w := wp_mono h fun _ _ _ h => h.2
def ReadStart (w : World) (A : Option Addr) (n c : Nat) : World :=
  (((w.alloc (.cells #[.int .i64 0, .int .i64 0, .float .f64 0, .string ⟨#[]⟩, .slice none 0 0] 64)).alloc (.cells #[.int .i64 0] 3)).alloc (.cells #[.int .i64 0] 28)).alloc (.cells #[.slice A n c, .int .i64 0, .int .i64 8] 134)
theorem readStart (w : World) (A : Option Addr) (n c : Nat) : Blk (ReadStart w A n c) w.heap.size 64 #[.int .i64 0, .int .i64 0, .float .f64 0, .string ⟨#[]⟩, .slice none 0 0] ∧ Blk (ReadStart w A n c) (w.heap.size + 1) 3 #[.int .i64 0] ∧
    Blk (ReadStart w A n c) (w.heap.size + 1 + 1) 28 #[.int .i64 0] ∧ RdAt (ReadStart w A n c) (w.heap.size + 1 + 1 + 1) A n c 0 8 ∧ Below w.heap.size w (ReadStart w A n c) ∧ (ReadStart w A n c).heap.size = w.heap.size + 1 + 1 + 1 + 1 := by
  unfold ReadStart RdAt
  have b0 := Blk.new w 64 #[.int .i64 0, .int .i64 0, .float .f64 0, .string ⟨#[]⟩, .slice none 0 0]
  have e0 : (w.alloc (.cells #[.int .i64 0, .int .i64 0, .float .f64 0, .string ⟨#[]⟩, .slice none 0 0] 64)).heap.size = w.heap.size + 1 := by simp
  have l0 := (Below.refl w.heap.size w).alloc (Nat.le_refl _) (.cells #[.int .i64 0, .int .i64 0, .float .f64 0, .string ⟨#[]⟩, .slice none 0 0] 64)
  generalize w.alloc (.cells #[.int .i64 0, .int .i64 0, .float .f64 0, .string ⟨#[]⟩, .slice none 0 0] 64) = w1 at *
  have b1 := Blk.new w1 3 #[.int .i64 0]
  have e1 : (w1.alloc (.cells #[.int .i64 0] 3)).heap.size = w.heap.size + 1 + 1 := by simp [e0]
  have c0 := b0.alloc (.cells #[.int .i64 0] 3)
  have l1 := l0.alloc l0.size (.cells #[.int .i64 0] 3)
  generalize w1.alloc (.cells #[.int .i64 0] 3) = w2 at *
  have b2 := Blk.new w2 28 #[.int .i64 0]
  have e2 : (w2.alloc (.cells #[.int .i64 0] 28)).heap.size = w.heap.size + 1 + 1 + 1 := by simp [e1]
  have d0 := c0.alloc (.cells #[.int .i64 0] 28)
  have d1 := b1.alloc (.cells #[.int .i64 0] 28)
  have l2 := l1.alloc l1.size (.cells #[.int .i64 0] 28)
  generalize w2.alloc (.cells #[.int .i64 0] 28) = w3 at *
  have b3 := Blk.new w3 134 #[.slice A n c, .int .i64 0, .int .i64 8]
  rw [e2] at b3
  rw [e1] at b2
  rw [e0] at d1
  exact ⟨d0.alloc _, d1.alloc _, b2.alloc _, b3, l2.alloc l2.size _, by simp [e2]⟩
set_option maxHeartbeats 1600000 in
theorem read_short {A : Option Addr} {n c : Nat} {w : World} (hval : ∀ w1, Below w.heap.size w w1 → RdAt w1 (w.heap.size + 1 + 1 + 1) A n c 0 8 →
      Calls Try.prog 76 #[.pointer (some ⟨w.heap.size + 1 + 1 + 1, 0, none⟩)] w1 (fun e w' => e = .panicked shortP ∧ Upd (fun x => x = w.heap.size + 1 + 1 + 1) w1 w')) :
    Calls Try.prog 70 #[.slice A n c] w (fun e w' => e = .returned (.tuple #[.agg #[.int .i64 0, .int .i64 0, .float .f64 0, .string ⟨#[]⟩, .slice none 0 0], .int .i64 0, .int .i64 20]) ∧ Below w.heap.size w w') := by
  have hmf : ∀ (fn : Fn) (first cap : Array Value) (w : World), (Instr.makeFunc fn first cap).run Try.prog w = .ok (.func fn first cap) w := fun _ _ _ _ => rfl
  replace hval := Lib.hid hval
  go_enter_defers Try.func70, Try.ntmps70
  go_wp2_with fail
  obtain ⟨b0, b1, b2, b3, hb, he⟩ := readStart w A n c
  have hv := hval.out _ hb b3
  clear hval
  unfold ReadStart at b0 b1 b2 b3 hb he hv
  refine hv.mono ?_
  clear hv
  generalize (((w.alloc (.cells #[.int .i64 0, .int .i64 0, .float .f64 0, .string ⟨#[]⟩, .slice none 0 0] 64)).alloc (.cells #[.int .i64 0] 3)).alloc (.cells #[.int .i64 0] 28)).alloc (.cells #[.slice A n c, .int .i64 0, .int .i64 8] 134) = w4 at *
  rintro e w5 ⟨rfl, hu⟩
  dsimp only
  have c0 := b0.upd hu (by omega)
  have c1 := b1.upd hu (by omega)
  have c2 := b2.upd hu (by omega)
  have hb5 : Below w.heap.size w w5 := hb.trans (hu.below (by omega) (fun k hk => by omega))
  go_wp2_with fail
  refine leaves_cons (f := 75) (args := #[.pointer (some ⟨w.heap.size, 0, none⟩), .pointer (some ⟨w.heap.size + 1, 0, none⟩), .pointer (some ⟨w.heap.size + 1 + 1, 0, none⟩)]) (by simp) (by simp [go_sem]) ?_
  refine (catch_short _ _ _ _ _ _ _ c0 rfl c1 c2).mono ?_
  rintro e u' w'' ⟨rfl, rfl, d0, d1, d2, hu2⟩
  have x0 := d0.cell 0
  have x1 := d0.cell 1
  have x2 := d0.cell 2
  have x3 := d0.cell 3
  have x4 := d0.cell 4
  have x5 := d1.cell 0
  have x6 := d2.cell 0
  have hb6 : Below w.heap.size w w'' := hb5.trans (hu2.below (by have := hb5.size; omega) (fun k hk => by omega))
  simp [Leaves, settle, results, Try.results70, go_sem, x0, x1, x2, x3, x4, x5, x6, hb6]
end Go.Proofs.Ytlkokkbikkbaoaa
namespace Go.Proofs.Ytlkokkbikkbaoaa
set_option maxRecDepth 100000
open Go.RowKit
set_option maxHeartbeats 800000 in
theorem value_bad {ad : Addr} {c B r at_ : Nat} {deep : Int} {b : List UInt8} {w : World} (h : RdAt w r (some ad) b.length c at_ deep) (hr : Reads w B 1 (some ad) b.length (bys b)) (hB : B ≤ r) (hc : b.length ≤ c) (hl : b.length ≤ 1000000000)
    (hat : at_ + 1 ≤ b.length) (v : Nat) (hv : readU ((b.drop at_).take 1) = v) (hv5 : 5 ≤ v) (hv9 : v < 256) :
    Calls Try.prog 76 #[.pointer (some ⟨r, 0, none⟩)] w (fun e w' => e = .panicked shortP ∧ Upd (fun x => x = r) w w') := by
  have hrl : r < w.heap.size := h.lt
  have hsf := fun a k x m w => run_store_float (P := Try.prog) a k x m w
  have v0 : ((v : Int) == 0) = false := by rw [beq_eq_false_iff_ne]; omega
  have v1 : ((v : Int) == 1) = false := by rw [beq_eq_false_iff_ne]; omega
  have v2 : ((v : Int) == 2) = false := by rw [beq_eq_false_iff_ne]; omega
  have v3 : ((v : Int) == 3) = false := by rw [beq_eq_false_iff_ne]; omega
  have v4 : ((v : Int) == 4) = false := by rw [beq_eq_false_iff_ne]; omega
  replace hv := Lib.hid hv
  go_enter Try.func76, Try.ntmps76
  go_wp2_with fail
  refine (number_ok (k := 1) (Blk.alloc h _) (hr.alloc (by omega) _) hB hc hl (by omega) (by omega) (by omega) v hv.out).mono ?_
  rintro e w1 ⟨rfl, h1, hu1⟩
  dsimp only
  have hu : Upd (fun x => x = r) w (w1.alloc (.cells #[.int .i64 (v : Int), .int .i64 0, .float .f64 0, .string ⟨#[]⟩, .slice none 0 0] 64)) := (((Upd.refl _ w).alloc _).trans hu1 (fun _ _ h => h)).alloc _
  have hwl : w.heap.size < w1.heap.size := by have := hu1.size; simp at this; omega
  go_wp2_with fail
  refine (must_no _).mono ?_
  rintro e w2 ⟨rfl, rfl⟩
  dsimp only
  go_wp2_with fail
  exact ⟨rfl, rfl, hu⟩
end Go.Proofs.Ytlkokkbikkbaoaa
namespace Go.Proofs.Ytlkokkbikkbaoaa
set_option maxRecDepth 100000
open Go.RowKit
def u64 (i : Int) : Nat := (i % 18446744073709551616).toNat
theorem wrap_u64 (i : Int) : IntKind.u64.wrap i = ((u64 i : Nat) : Int) := by
  simp [IntKind.wrap, IntKind.bits, IntKind.signed, u64]
  omega
set_option maxHeartbeats 800000 in
theorem put_int {A : Option Addr} {c : Nat} {bs r : List UInt8} {k i : Int} {f : Nat} {s : ByteArray} {A' : Option Addr} {n' c' : Nat} {w : World} (hk : k = 1) (h : Own w 5 1 A bs.length c (bys bs)) (hl : bs.length ≤ 1000000000) (hr : bs ++ (1 :: putU (u64 i) 8) = r) :
    Calls Try.prog 53 #[.slice A bs.length c, .agg #[.int .i64 k, .int .i64 i, .float .f64 f, .string s, .slice A' n' c']] w (PutBytes w A r) := by
  subst hk
  obtain ⟨i0, hi, hz0, hz1, hz2⟩ := info_parts info_u8
  obtain ⟨q, hq⟩ : ∃ q, bs ++ [1] = q := ⟨_, rfl⟩
  have hql : bs.length + 1 = q.length := by rw [← hq]; simp
  have hqr : q ++ putU (u64 i) 8 = r := by rw [← hr, ← hq]; simp
  have hqb : bys bs ++ [.int .u8 1] = bys q := by rw [← hq, bys_append]; rfl
  have hqbl : q.length ≤ 1000000100 := by omega
  have hu64 := Lib.hid (wrap_u64 i)
  have hul : u64 i < 18446744073709551616 := by unfold u64; omega
  clear hr
  replace hq := Lib.hid hq
  replace hql := Lib.hid hql
  replace hqr := Lib.hid hqr
  replace hqb := Lib.hid hqb
  go_enter Try.func53, Try.ntmps53
  have hb := Blk.new w 64 #[.int .i64 1, .int .i64 i, .float .f64 f, .string s, .slice A' n' c']
  have hsrc := Reads.lit (size := 1) (w.alloc (.cells #[.int .i64 1, .int .i64 i, .float .f64 f, .string s, .slice A' n' c'] 64)) #[.int .u8 1] 5 (0, 0) 1 [.int .u8 1] rfl rfl
  have hew : (w.alloc (.cells #[.int .i64 1, .int .i64 i, .float .f64 f, .string s, .slice A' n' c'] 64)).heap.size = w.heap.size + 1 := by simp
  rw [hew] at hsrc
  replace hew := Lib.hid hew
  replace hb := Lib.hid hb
  go_wp2_with (at_builtin; go_must (refine wpList_append_mine rfl _ _ 26 26 rfl 5 i0 (.int .u8 0) 1 1 Try.underlying26 hi hz0 hz1 hz2 rfl rfl ((h.alloc _).alloc _) rfl (Src.ofReads Try.underlying26 _ hsrc (by intro u hu; simp at hu; subst hu; rfl)) ?b1 ?b2 ?grow))
  case b1 => unfold maxLen; omega
  case b2 => omega
  case grow =>
    intro A3 c3 w3 ho3 hg3 hat3
    rw [hqb.out, hql.out] at ho3
    rw [hql.out]
    have hb1 := (hb.out.alloc (.cells #[.int .u8 1] 5)).grown hg3 (fun e => absurd (h.lt e.symm) (Nat.lt_irrefl _))
    have hu3 : Upd (fun x => some x = bOf A) w w3 := (((Upd.refl _ w).alloc _).alloc _).grown hg3 (fun k e _ => e.symm)
    have hf3 : bOf A3 = bOf A ∨ ∀ g, bOf A3 = some g → w.heap.size ≤ g := by
      rcases hat3 with e | e
      · exact .inl e
      · right; intro g hg; rw [e] at hg; simp at hg; omega
    clear hat3 hg3 hsrc
    have e0 := hb1.cell 0
    have e1 := hb1.cell 1
    go_wp2_with fail
    rw [hu64.out]
    refine (wire_put (m := 8) ho3.reads_ (Nat.le_refl _) (by omega) hul).mono ?_
    rw [show n8 8 = 8 from rfl, hqr.out]
    rintro e w4 ⟨A4, c4, rfl, ho4, hb4, hg4⟩
    dsimp only
    go_wp2_with fail
    go_ret
    exact ⟨A4, c4, rfl, ho4, hu3.thenBelow hb4 hu3.size, .inr fun g hg => Nat.le_trans hu3.size (hg4 g hg)⟩
end Go.Proofs.Ytlkokkbikkbaoaa
namespace Go.Proofs.Ytlkokkbikkbaoaa
set_option maxRecDepth 100000
open Go.RowKit
theorem Grows.reads_ {w : World} {t : TypeId} {size n c : Nat} {A : Option Addr} {xs : List Value} {row : Option Nat} (h : Grows w t size A n c xs row) : Reads w w.heap.size size A n xs := by
  rcases h with ⟨h, _⟩ | ⟨_, _, B, hB, h⟩
  · exact h.reads_
  · exact h.more hB
theorem Grows.alloc {w : World} {t : TypeId} {size n c : Nat} {A : Option Addr} {xs : List Value} {row : Option Nat} (h : Grows w t size A n c xs row) (o : Obj) : Grows (w.alloc o) t size A n c xs row :=
  h.below ((Below.refl _ w).alloc (Nat.le_refl _) o)
theorem wire_read_out {A : Option Addr} {m c : Nat} {k : Int} {w : World} (hk : k < 0 ∨ 8 < k ∨ (m : Int) < k) :
    Calls Try.prog 34 #[.slice A m c, .int .i64 k] w fun e w' => e = .returned (.tuple #[.int .u64 0, .bool false]) ∧ w = w' := by
  by_cases h0 : k < 0
  · go_enter Try.func34, Try.ntmps34
    go_wp2
    go_ret2
    exact ⟨rfl, rfl⟩
  by_cases h8 : 8 < k
  · go_enter Try.func34, Try.ntmps34
    go_wp2
    go_ret2
    exact ⟨rfl, rfl⟩
  · have hm : (m : Int) < k := by omega
    go_enter Try.func34, Try.ntmps34
    go_wp2
    go_ret2
    exact ⟨rfl, rfl⟩
/-- A number of k bytes ahead of bytes, if they are there. -/
def readN (b : List UInt8) (k : Int) : Nat × Bool := if 0 ≤ k ∧ k ≤ 8 ∧ k ≤ (b.length : Int) then (readU (b.take k.toNat), true) else (0, false)
def ReadRes (w : World) (r : Nat × Bool) (e : Ending) (w' : World) : Prop := e = .returned (.tuple #[.int .u64 (r.1 : Int), .bool r.2]) ∧ Below w.heap.size w w'
theorem read_any {A : Option Addr} {c : Nat} {b : List UInt8} {k : Int} {r : Nat × Bool} {w : World} (h : Reads w w.heap.size 1 A b.length (bys b)) (hc : b.length ≤ c) (hl : b.length ≤ 140737488351232) (hr : readN b k = r) :
    Calls Try.prog 34 #[.slice A b.length c, .int .i64 k] w (ReadRes w r) := by
  unfold readN at hr
  by_cases hk : 0 ≤ k ∧ k ≤ 8 ∧ k ≤ (b.length : Int)
  · rw [if_pos hk] at hr
    subst hr
    obtain ⟨j, rfl⟩ : ∃ j : Nat, k = (j : Int) := ⟨k.toNat, by omega⟩
    exact wire_read h (by omega) (by omega) hc hl
  · rw [if_neg hk] at hr
    subst hr
    refine (wire_read_out (by omega)).mono ?_
    rintro e w' ⟨rfl, rfl⟩
    exact ⟨rfl, Below.refl _ _⟩
/-- Bytes of a new row, and no error. -/
def TextPut (w : World) (r : List UInt8) (e : Ending) (w' : World) : Prop :=
  ∃ A' c', e = .returned (.tuple #[.slice A' r.length c', .int .i64 0]) ∧ Own w' 5 1 A' r.length c' (bys r) ∧ Below w.heap.size w w' ∧ ∀ g, bOf A' = some g → w.heap.size ≤ g
theorem text_src (w : World) (s : List UInt8) : Src Try.prog 1 9 (.string (bstr s)) s.length (bys s) w := by
  have h := Src.ofString (P := Try.prog) w Try.underlying9 (bstr s)
  rw [bstr_size] at h
  exact h
set_option maxHeartbeats 800000 in
theorem put_text {A : Option Addr} {c B : Nat} {bs s r : List UInt8} {m : Int} {w : World} (hR : Reads w B 1 A bs.length (bys bs)) (hB : B ≤ w.heap.size) (hl : bs.length ≤ 1000000000) (hs : (s.length : Int) ≤ m) (h65 : s.length ≤ 65535) (hr : bs ++ putU s.length 2 ++ s = r) :
    Calls Try.prog 43 #[.slice A bs.length c, .string (bstr s), .int .i64 m] w (TextPut w r) := by
  obtain ⟨i0, hi, hz0, hz1, hz2⟩ := info_parts info_u8
  obtain ⟨q, hq⟩ : ∃ q, bs ++ putU s.length 2 = q := ⟨_, rfl⟩
  have hqr : q.length + s.length = r.length := by rw [← hr, ← hq]; simp only [List.length_append]
  have hqs : bys q ++ bys s = bys r := by rw [← bys_append, ← hr, ← hq]
  have hql : q.length ≤ 1000000100 := by rw [← hq]; simp [putU_len]; omega
  have hsz : (bstr s).size = s.length := bstr_size s
  have hmin : (if m < 65535 then m else 65535) = min m 65535 := by omega
  have hmin2 : (s.length : Int) ≤ min m 65535 := by omega
  generalize min m 65535 = mm at hmin hmin2
  clear hr
  replace hq := Lib.hid hq
  replace hqr := Lib.hid hqr
  replace hqs := Lib.hid hqs
  go_enter Try.func43, Try.ntmps43
  go_wp2_with fail
  all_goals
    refine (wire_put (m := 2) hR hB (by omega) (by omega)).mono ?_
    rw [show n8 2 = 2 from rfl, hq.out]
    rintro e w1 ⟨A1, c1, rfl, ho1, hb1, hg1⟩
    dsimp only
    go_wp2_with (at_builtin; refine wpList_append_mine rfl _ _ 26 9 rfl 5 i0 (.int .u8 0) 1 1 Try.underlying26 hi hz0 hz1 hz2 rfl rfl ho1 rfl (text_src _ s) (by unfold maxLen; omega) (by omega) (fun A3 c3 w3 ho3 hg3 hat3 => ?_); rw [hqs.out, hqr.out] at ho3; rw [hqr.out])
    go_ret2
    have hb3 : Below w.heap.size w w3 := hb1.grown hg3 hb1.size hg1
    refine ⟨A3, c3, rfl, ho3, hb3, ?_⟩
    rcases hat3 with e | e
    · rw [e]; exact hg1
    · intro g hg; rw [e] at hg; cases hg; exact hb1.size
set_option maxHeartbeats 800000 in
theorem put_text_no {A : Option Addr} {c n : Nat} {s : List UInt8} {m : Int} {w : World} (hs : m < (s.length : Int) ∨ 65535 < s.length) (hsl : s.length ≤ 1000000000) :
    Calls Try.prog 43 #[.slice A n c, .string (bstr s), .int .i64 m] w (fun e w' => e = .returned (.tuple #[.slice none 0 0, .int .i64 22]) ∧ w = w') := by
  have hsz : (bstr s).size = s.length := bstr_size s
  by_cases hm : m < 65535
  · have h1 : m < (s.length : Int) := by omega
    go_enter Try.func43, Try.ntmps43
    go_wp2
    go_ret2
    exact ⟨rfl, rfl⟩
  · have h1 : (65535 : Int) < (s.length : Int) := by omega
    have h2 : ¬ m < 65535 := hm
    go_enter Try.func43, Try.ntmps43
    go_wp2
    all_goals
      go_ret2
      exact ⟨rfl, rfl⟩
end Go.Proofs.Ytlkokkbikkbaoaa
namespace Go.Proofs.Ytlkokkbikkbaoaa
set_option maxRecDepth 100000
open Go.RowKit
/-- A text ahead of bytes: the text, how long it is there, the error. -/
def readT (b : List UInt8) (m : Int) : List UInt8 × Nat × Nat :=
  if 2 ≤ b.length ∧ (readU (b.take 2) : Int) ≤ m ∧ readU (b.take 2) + 2 ≤ b.length then ((b.drop 2).take (readU (b.take 2)), 2 + readU (b.take 2), 0) else ([], 0, 20)
def TextRes (w : World) (t : List UInt8 × Nat × Nat) (e : Ending) (w' : World) : Prop := e = .returned (.tuple #[.string (bstr t.1), .int .i64 (t.2.1 : Nat), .int .i64 (t.2.2 : Nat)]) ∧ Below w.heap.size w w'
set_option maxHeartbeats 800000 in
theorem read_text {A : Option Addr} {c : Nat} {b : List UInt8} {m : Int} {t : List UInt8 × Nat × Nat} {w : World} (hR : Reads w w.heap.size 1 A b.length (bys b)) (hc : b.length ≤ c) (hl : b.length ≤ 1000000000) (ht : readT b m = t) :
    Calls Try.prog 69 #[.slice A b.length c, .int .i64 m] w (TextRes w t) := by
  unfold readT at ht
  replace ht := Lib.hid ht
  by_cases h2 : b.length < 2
  · go_enter Try.func69, Try.ntmps69
    go_wp2_with fail
    refine (wire_read_out (k := 2) (by omega)).mono ?_
    rintro e w1 ⟨rfl, rfl⟩
    dsimp only
    go_wp2_with fail
    go_ret3
    have ht := ht.out
    rw [if_neg (by omega)] at ht
    subst ht
    exact ⟨rfl, Below.refl _ _⟩
  obtain ⟨n, hn⟩ : ∃ n, readU (b.take 2) = n := ⟨_, rfl⟩
  have hnl : n < 65536 := by
    rw [← hn]
    have := readU_lt (b.take 2)
    rw [List.length_take, Nat.min_eq_left (by omega)] at this
    exact this
  obtain ⟨p, hp⟩ : ∃ p, (b.drop 2).take n = p := ⟨_, rfl⟩
  have ht' := ht.out
  rw [hn, hp] at ht'
  replace ht' := Lib.hid ht'
  clear ht
  obtain ⟨ad, rfl, had, hcell⟩ := hR.2 (by omega)
  have hR2 := hR.cut (k := 2) (cap := c) (by omega) hc
  rw [Nat.mul_one, bys_drop] at hR2
  go_enter Try.func69, Try.ntmps69
  go_wp2_with fail
  refine (wire_read (k := 2) hR (by omega) (by omega) hc (by omega)).mono ?_
  rintro e w1 ⟨rfl, hb1⟩
  dsimp only
  rw [hn]
  replace hn := Lib.hid hn
  by_cases hm : m < (n : Int)
  · go_wp2_with fail
    go_ret3
    have ht := ht'.out
    rw [if_neg (by omega)] at ht
    subst ht
    exact ⟨rfl, hb1⟩
  by_cases hln : (b.length : Int) - 2 < (n : Int)
  · go_wp2_with fail
    go_ret3
    have ht := ht'.out
    rw [if_neg (by omega)] at ht
    subst ht
    exact ⟨rfl, hb1⟩
  have hpl : p.length = n := by rw [← hp]; simp; omega
  have hp2 := hR2.first (k := n) (by omega)
  rw [Nat.mul_one, bys_take, hp] at hp2
  replace hp := Lib.hid hp
  by_cases hc2 : c = 2
  · have hn0 : n = 0 := by omega
    subst hn0
    have hp0 : p = [] := List.eq_nil_of_length_eq_zero hpl
    subst hp0
    clear hpl
    subst hc2
    have hk := conv_bytes (c := 0) (n := 0) (bs := []) (A := some ad) (w := w1) (B := 0) ⟨rfl, by simp⟩
    have hbl : b.length = 2 := by omega
    rw [hbl] at ht' ⊢
    clear hbl
    go_wp2_with fail
    go_ret3
    have ht := ht'.out
    rw [if_pos ⟨by omega, by omega, by omega⟩] at ht
    subst ht
    exact ⟨rfl, hb1⟩
  · rw [if_neg hc2] at hp2
    have hp3 : Reads w w.heap.size 1 (some ⟨ad.block, ad.off + 2, none⟩) n (bys p) := hp2
    have hk := conv_bytes (c := c - 2) (hp3.below hb1)
    replace hpl := Lib.hid hpl
    go_wp2_with fail
    go_ret3
    have ht := ht'.out
    rw [if_pos ⟨by omega, by omega, by omega⟩] at ht
    subst ht
    refine ⟨?_, hb1⟩
    have e2 : ((2 + n : Nat) : Int) = 2 + (n : Int) := by omega
    show Ending.returned (.tuple #[.string (bstr p), .int .i64 (2 + (n : Int)), .int .i64 0]) = _
    rw [← e2]
    rfl
end Go.Proofs.Ytlkokkbikkbaoaa
