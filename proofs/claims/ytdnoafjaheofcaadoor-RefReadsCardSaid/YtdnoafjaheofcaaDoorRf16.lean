/- References: choirlaw28.made. -/
import Derived.Test.YtdnoafjaheofcaaDoorRf15
set_option linter.unusedSimpArgs false
set_option linter.unusedVariables false
namespace Go.Proofs.YtdnoafjaheofcaaDoor
open Go.RowKit Go.Sort Go.Lib
set_option maxRecDepth 100000

def MadeRes (w : World) (v : Int) (e : Ending) (w' : World) : Prop :=
  ∃ (g : List UInt8) (ns : List Int) (A : Option Addr) (c : Nat), e = .returned (.agg #[.string (bstr g), .int .u32 v, .slice A ns.length c]) ∧ rightB g ns = true ∧ Own w' 3 1 A ns.length c (ints ns) ∧ RowKit.Below w.heap.size w w' ∧ ∀ q, bOf A = some q → w.heap.size ≤ q
theorem okAt_snoc {X : List Int} {n : Int} (h0 : 0 ≤ n) (h1 : n ≤ 255) (h : ∀ i, i < X.length → okAt X i ∧ X.getD i 0 < n) : ∀ i, i < (X ++ [n]).length → okAt (X ++ [n]) i := by
  intro i hi
  rw [List.length_append, List.length_singleton] at hi
  have hg : ∀ k, k < X.length → (X ++ [n]).getD k 0 = X.getD k 0 := fun k hk => by rw [List.getD, List.getElem?_append_left hk, ← List.getD]
  have hl : (X ++ [n]).getD X.length 0 = n := by rw [List.getD, List.getElem?_append_right (by omega), Nat.sub_self]; rfl
  by_cases hij : i < X.length
  · obtain ⟨⟨o0, o1, o2⟩, -⟩ := h i hij
    refine ⟨by rw [hg i hij]; exact o0, by rw [hg i hij]; exact o1, fun hp => ?_⟩
    rw [hg i hij, hg (i - 1) (by omega)]
    exact o2 hp
  · obtain rfl : i = X.length := by omega
    refine ⟨by rw [hl]; exact h0, by rw [hl]; exact h1, fun hp => ?_⟩
    rw [hl, hg _ (by omega)]
    exact (h (X.length - 1) (by omega)).2

set_option maxHeartbeats 3200000 in
theorem made_walk (l : List UInt8) (hl : l.length ≤ 1000) (v mask : Int) (hm0 : 0 ≤ mask) (hm1 : mask ≤ 65535) (w : World) : Calls Tryd.prog 6 #[.string (bstr l), .int .u32 v, .int .u16 mask] w (MadeRes w v) := by
  obtain ⟨y, ey⟩ : ∃ y, w.heap.size = y := ⟨_, rfl⟩
  obtain ⟨x, ex⟩ : ∃ x, y + 1 = x := ⟨_, rfl⟩
  have hyx : y < x := by omega
  have hgs : (bstr l).size = l.length := bstr_size l
  replace ey := Lib.hid ey
  replace ex := Lib.hid ex
  replace hgs := Lib.hid hgs
  go_enter Tryd.func6, Tryd.ntmps6
  have hcases : 32 < l.length ∨ l = [] ∨ (l.length ≤ 32 ∧ 1 ≤ l.length) := by
    by_cases h : 32 < l.length
    · exact .inl h
    · cases l with
      | nil => exact .inr (.inl rfl)
      | cons a r => exact .inr (.inr ⟨by omega, by simp⟩)
  rcases hcases with h32 | hl0 | ⟨h32, hpos⟩
  all_goals first
    | (
      have hgd : 32 < l.length := by assumption
      have d32 : decide ((32 : Int) < (l.length : Int)) = true := decide_eq_true (by omega)
      have hlb : 32 ≤ (bstr l).size := by rw [hgs.out]; omega
      have hne : (l.take 32 == []) = false := by
        cases l with
        | nil => simp at h32
        | cons a r => simp
      have hst : ∃ g : List UInt8, 1 ≤ g.length ∧ g.length ≤ 32 ∧ Blk ((w.alloc (.cells #[.string ⟨#[]⟩, .int .u32 0, .slice none 0 0] 26)).alloc (.cells #[.string (bstr (l.take 32)), .int .u32 v, .slice none 0 0] 26)) y 26 #[.string ⟨#[]⟩, .int .u32 0, .slice none 0 0] ∧ Blk ((w.alloc (.cells #[.string ⟨#[]⟩, .int .u32 0, .slice none 0 0] 26)).alloc (.cells #[.string (bstr (l.take 32)), .int .u32 v, .slice none 0 0] 26)) x 26 #[.string (bstr g), .int .u32 v, .slice none 0 0] ∧ RowKit.Below w.heap.size w ((w.alloc (.cells #[.string ⟨#[]⟩, .int .u32 0, .slice none 0 0] 26)).alloc (.cells #[.string (bstr (l.take 32)), .int .u32 v, .slice none 0 0] 26)) := by
        obtain ⟨k1, k2, hb2⟩ := two_boxes w 26 26 #[.string ⟨#[]⟩, .int .u32 0, .slice none 0 0] #[.string (bstr (l.take 32)), .int .u32 v, .slice none 0 0]
        rw [ey.out] at k1 k2
        rw [ex.out] at k2
        exact ⟨(l.take 32), by first | (rw [List.length_take]; omega) | (simp only [List.length_cons, List.length_nil]; omega) | omega, by first | (rw [List.length_take]; omega) | (simp only [List.length_cons, List.length_nil]; omega) | omega, k1, k2, hb2⟩
      go_upto_region 6 with (fail)
      try rw [ey.out]
      try rw [ex.out]
      generalize (w.alloc (.cells #[.string ⟨#[]⟩, .int .u32 0, .slice none 0 0] 26)).alloc (.cells #[.string (bstr (l.take 32)), .int .u32 v, .slice none 0 0] 26) = w3 at *
      clear hne hlb hgd)
    | (
      have hgd : l = [] := by assumption
      subst hl0
      have hst : ∃ g : List UInt8, 1 ≤ g.length ∧ g.length ≤ 32 ∧ Blk ((w.alloc (.cells #[.string ⟨#[]⟩, .int .u32 0, .slice none 0 0] 26)).alloc (.cells #[.string ⟨#[103]⟩, .int .u32 v, .slice none 0 0] 26)) y 26 #[.string ⟨#[]⟩, .int .u32 0, .slice none 0 0] ∧ Blk ((w.alloc (.cells #[.string ⟨#[]⟩, .int .u32 0, .slice none 0 0] 26)).alloc (.cells #[.string ⟨#[103]⟩, .int .u32 v, .slice none 0 0] 26)) x 26 #[.string (bstr g), .int .u32 v, .slice none 0 0] ∧ RowKit.Below w.heap.size w ((w.alloc (.cells #[.string ⟨#[]⟩, .int .u32 0, .slice none 0 0] 26)).alloc (.cells #[.string ⟨#[103]⟩, .int .u32 v, .slice none 0 0] 26)) := by
        obtain ⟨k1, k2, hb2⟩ := two_boxes w 26 26 #[.string ⟨#[]⟩, .int .u32 0, .slice none 0 0] #[.string (bstr [103]), .int .u32 v, .slice none 0 0]
        rw [ey.out] at k1 k2
        rw [ex.out] at k2
        exact ⟨[103], by first | (rw [List.length_take]; omega) | (simp only [List.length_cons, List.length_nil]; omega) | omega, by first | (rw [List.length_take]; omega) | (simp only [List.length_cons, List.length_nil]; omega) | omega, k1, k2, hb2⟩
      go_upto_region 6 with (fail)
      try rw [ey.out]
      try rw [ex.out]
      generalize (w.alloc (.cells #[.string ⟨#[]⟩, .int .u32 0, .slice none 0 0] 26)).alloc (.cells #[.string ⟨#[103]⟩, .int .u32 v, .slice none 0 0] 26) = w3 at *
      skip)
    | (
      have hgd : l.length ≤ 32 := by assumption
      have d32 : decide ((32 : Int) < (l.length : Int)) = false := decide_eq_false (by omega)
      have hne : (l == []) = false := by
        cases l with
        | nil => simp at hpos
        | cons a r => simp
      have hst : ∃ g : List UInt8, 1 ≤ g.length ∧ g.length ≤ 32 ∧ Blk ((w.alloc (.cells #[.string ⟨#[]⟩, .int .u32 0, .slice none 0 0] 26)).alloc (.cells #[.string (bstr l), .int .u32 v, .slice none 0 0] 26)) y 26 #[.string ⟨#[]⟩, .int .u32 0, .slice none 0 0] ∧ Blk ((w.alloc (.cells #[.string ⟨#[]⟩, .int .u32 0, .slice none 0 0] 26)).alloc (.cells #[.string (bstr l), .int .u32 v, .slice none 0 0] 26)) x 26 #[.string (bstr g), .int .u32 v, .slice none 0 0] ∧ RowKit.Below w.heap.size w ((w.alloc (.cells #[.string ⟨#[]⟩, .int .u32 0, .slice none 0 0] 26)).alloc (.cells #[.string (bstr l), .int .u32 v, .slice none 0 0] 26)) := by
        obtain ⟨k1, k2, hb2⟩ := two_boxes w 26 26 #[.string ⟨#[]⟩, .int .u32 0, .slice none 0 0] #[.string (bstr l), .int .u32 v, .slice none 0 0]
        rw [ey.out] at k1 k2
        rw [ex.out] at k2
        exact ⟨l, by first | (rw [List.length_take]; omega) | (simp only [List.length_cons, List.length_nil]; omega) | omega, by first | (rw [List.length_take]; omega) | (simp only [List.length_cons, List.length_nil]; omega) | omega, k1, k2, hb2⟩
      go_upto_region 6 with (fail)
      try rw [ey.out]
      try rw [ex.out]
      generalize (w.alloc (.cells #[.string ⟨#[]⟩, .int .u32 0, .slice none 0 0] 26)).alloc (.cells #[.string (bstr l), .int .u32 v, .slice none 0 0] 26) = w3 at *
      skip)
  all_goals
    obtain ⟨g, hg1, hg2, hy3, hx3, hb3⟩ := hst
    obtain ⟨i0, hi, hz0, hz1, hz2⟩ := info_parts' info_int
    replace hi := Lib.hid hi
    replace hz0 := Lib.hid hz0
    replace hz1 := Lib.hid hz1
    replace hz2 := Lib.hid hz2
    have hxl3 := hx3.lt
    go_wp2_with fail
    go_loopw [8] (fun i wr => ∃ (k : Nat) (X : List Int) (A6 : Option Addr) (c6 : Nat), k ≤ 16 ∧ i = .int .i64 (k : Int) ∧ X.length ≤ 7 ∧ Hid (∀ j, j < X.length → okAt X j ∧ X.getD j 0 < 17 * (k : Int)) ∧ Blk wr x 26 #[.string (bstr g), .int .u32 v, .slice A6 X.length c6] ∧ Own wr 3 1 A6 X.length c6 (ints X) ∧ RowKit.Below x w3 wr ∧ (∀ q, bOf A6 = some q → x < q) ∧ w3.heap.size ≤ wr.heap.size) (fun i _ => 16 - (RowKit.intOf i).toNat)
    case atStart => exact ⟨0, [], none, 0, by omega, rfl, by simp, Lib.hid (fun j hj => absurd hj (by simp)), hx3, Own.none_, RowKit.Below.refl _ _, (fun _ h => by cases h), Nat.le_refl _⟩
    case round =>
      rename_i hrel
      obtain ⟨k, X, A6, c6, hk, rfl, hX7, hXi, hxr, hor, hbr, hgr, hsz⟩ := hrel
      have k2 := hxr.cell 2
      by_cases hlt : k < 16 ∧ X.length < 7
      · obtain ⟨hk16, hX6⟩ := hlt
        have t1 : decide ((k : Int) < 16) = true := decide_eq_true (by omega)
        have t2 : decide ((X.length : Int) < 7) = true := decide_eq_true (by omega)
        obtain ⟨b, tb⟩ : ∃ b, (bits BinOp.and IntKind.u16 (mask / 2 ^ k) 1 == 1) = b := ⟨_, rfl⟩
        cases b
        · go_wp2_with fail
          go_roundw
          case rel => exact ⟨k + 1, X, A6, c6, by omega, by go_num, hX7, Lib.hid (fun j hj => ⟨(hXi.out j hj).1, by have := (hXi.out j hj).2; omega⟩), hxr, hor, hbr, hgr, hsz⟩
          case measure => simp [RowKit.intOf]; omega
        · have f2 := hxr.frozen 2
          have hxl := hxr.lt
          have hint : Hid ((#[Value.int .i64 (17 * (k : Int))] : Array Value).toList = ints [17 * (k : Int)]) := Lib.hid rfl
          have hXn : Hid (∀ j, j < (X ++ [17 * (k : Int)]).length → okAt (X ++ [17 * (k : Int)]) j ∧ (X ++ [17 * (k : Int)]).getD j 0 < 17 * ((k + 1 : Nat) : Int)) := Lib.hid fun j hj => by
            refine ⟨okAt_snoc (by omega) (by omega) hXi.out j hj, ?_⟩
            rw [List.length_append, List.length_singleton] at hj
            by_cases hjx : j < X.length
            · rw [List.getD, List.getElem?_append_left hjx, ← List.getD]
              have := (hXi.out j hjx).2
              omega
            · obtain rfl : j = X.length := by omega
              rw [List.getD, List.getElem?_append_right (by omega), Nat.sub_self]
              show 17 * (k : Int) < _
              omega
          go_wp2_with (at_builtin; go_must (refine wpList_append_mine rfl _ _ 24 24 rfl 3 i0 (.int .i64 0) 1 8 Tryd.underlying24 hi.out hz0.out hz1.out hz2.out rfl rfl (hor.alloc _) rfl (Src.ofReads Tryd.underlying24 _ (Reads.lit _ _ _ _ 1 _ hint.out rfl) (fun u hu => by simp [ints] at hu; subst hu; rfl)) ?b1 ?b2 ?grow))
          case b1 => unfold maxLen; omega
          case b2 => omega
          case grow =>
            intro A7 c7 w9 ho9 hg9 hat9
            have hx9 := (hxr.alloc (.cells #[.int .i64 (17 * (k : Int))] 3)).grown hg9 (fun e => by have := hgr x e.symm; omega)
            have f9 := hx9.frozen 2
            have k9 := hx9.cell 2
            have hgx : ∀ g, bOf A7 = some g → x < g := fun g hg => by
              rcases hat9 with h7 | h7 <;> rw [h7] at hg
              · exact hgr g hg
              · simp at hg; omega
            have hb9 : RowKit.Below x w3 w9 := (hbr.alloc (Nat.le_of_lt hxl) (.cells #[.int .i64 (17 * (k : Int))] 3)).grown hg9 (by simp; omega) (fun g hg => Nat.le_of_lt (hgr g hg))
            have hs9 : w3.heap.size ≤ w9.heap.size := by have := hg9.size; simp at this; omega
            have hln : Hid (X.length + 1 = (X ++ [17 * (k : Int)]).length) := Lib.hid (by simp)
            rw [show ints X ++ ints [17 * (k : Int)] = ints (X ++ [17 * (k : Int)]) from by simp [ints]] at ho9
            go_wp2_with fail
            go_roundw
            case rel => exact ⟨k + 1, X ++ [17 * (k : Int)], A7, c7, by omega, by go_num, by rw [← hln.out]; omega, hXn, by rw [← hln.out]; exact hx9.set_ 2 _, by rw [← hln.out]; exact ho9.setCell (p := ⟨x, 2, none⟩) (fun e => by have := hgx x e; omega) _, hb9.setCell (p := ⟨x, 2, none⟩) (Nat.le_refl _) _, hgx, by simpa [World.setCell] using hs9⟩
            case measure => simp [RowKit.intOf]; omega
      · have hyr := hy3.below hbr hyx
        have hbw : RowKit.Below w.heap.size w wr := hb3.trans (hbr.mono (by rw [ey.out]; omega))
        have td : (decide ((k : Int) < 16) = true ∧ decide ((X.length : Int) < 7) = false) ∨ decide ((k : Int) < 16) = false := by
          by_cases h : k < 16
          · exact .inl ⟨decide_eq_true (by omega), decide_eq_false (by omega)⟩
          · exact .inr (decide_eq_false (by omega))
        clear hlt
        have hgw : ∀ q, bOf A6 = some q → y < q := fun q hq => by have := hgr q hq; omega
        rcases td with ⟨t1, t2⟩ | t1
        all_goals
          have x0 := hxr.cell 0
          have x1 := hxr.cell 1
          have f0 := hyr.frozen 0
          have f1 := hyr.frozen 1
          have f2 := hyr.frozen 2
          have k0 := hyr.cell 0
          have k1 := hyr.cell 1
          have k3 := hyr.cell 2
          by_cases hX0 : X.length = 0
          · have t3 : ((X.length : Int) == 0) = true := beq_iff_eq.2 (by omega)
            have hr : rightB g [255] = true := right_mk hg1 hg2 (by simp) (by simp) (fun j hj => by
              obtain rfl : j = 0 := by simp at hj; omega
              exact ⟨by simp, by simp, fun h => absurd h (by omega)⟩)
            replace hr := Lib.hid hr
            have hxl := hxr.lt
            have hyl := hyr.lt
            have hss : (wr.setCell ⟨x, 2, none⟩ (.slice (some ⟨wr.heap.size, 0, none⟩) 1 1)).heap.size = wr.heap.size := by simp [World.setCell]
            have hbk := Blk.new (wr.setCell ⟨x, 2, none⟩ (.slice (some ⟨wr.heap.size, 0, none⟩) 1 1)) 3 #[.int .i64 255]
            rw [hss] at hbk
            have ho2 : Own ((wr.setCell ⟨x, 2, none⟩ (.slice (some ⟨wr.heap.size, 0, none⟩) 1 1)).alloc (.cells #[.int .i64 255] 3)) 3 1 (some ⟨wr.heap.size, 0, none⟩) 1 1 (ints [255]) := ⟨rfl, .inr ⟨wr.heap.size, _, rfl, hbk, Nat.le_refl _, by decide, by simp, rfl⟩⟩
            have hx1 := (hxr.set_ 2 (.slice (some ⟨wr.heap.size, 0, none⟩) 1 1)).alloc (.cells #[.int .i64 255] 3)
            have hy1 := (hyr.far (p := ⟨x, 2, none⟩) (by show y ≠ x; omega) (.slice (some ⟨wr.heap.size, 0, none⟩) 1 1)).alloc (.cells #[.int .i64 255] 3)
            have hb0 := hbw.setCell (p := ⟨x, 2, none⟩) (by rw [ey.out]; exact Nat.le_of_lt hyx) (.slice (some ⟨wr.heap.size, 0, none⟩) 1 1)
            have hb1 := hb0.alloc hb0.size (.cells #[.int .i64 255] 3)
            clear hss hbk
            have fx := hxr.frozen 2
            clear hX0
            go_upto_region 13 with (fail)
            obtain ⟨N, hN⟩ : ∃ N, wr.heap.size = N := ⟨_, rfl⟩
            have hyN : y < N := by omega
            rw [hN] at hx1 hy1 hb1 ho2 ⊢
            clear x0 x1 f0 f1 f2 k0 k1 k2 k3 fx hN
            clear hb0
            generalize (wr.setCell ⟨x, 2, none⟩ (.slice (some ⟨N, 0, none⟩) 1 1)).alloc (.cells #[.int .i64 255] 3) = w10 at *
            have x0 := hx1.cell 0
            have x1 := hx1.cell 1
            have x2 := hx1.cell 2
            have f0 := hy1.frozen 0
            have f1 := hy1.frozen 1
            have f2 := hy1.frozen 2
            have k0 := hy1.cell 0
            have k1 := hy1.cell 1
            have k3 := hy1.cell 2
            go_wp2_with fail
            exact bodyPost_ret (v := .agg #[.string (bstr g), .int .u32 v, .slice (some ⟨N, 0, none⟩) 1 1]) (results_cell_row rfl _ _ y 26 _ (0, 0) _ rfl (((hy1.set_ 0 (.string (bstr g))).set_ 1 (.int .u32 v)).set_ 2 (.slice (some ⟨N, 0, none⟩) 1 1)) Tryd.underlying26 rfl (by kernel_rfl)) rfl
              ⟨g, [255], some ⟨N, 0, none⟩, 1, rfl, hr.out, ((ho2.setCell (p := ⟨y, 0, none⟩) (by simp [bOf]; omega) _).setCell (p := ⟨y, 1, none⟩) (by simp [bOf]; omega) _).setCell (p := ⟨y, 2, none⟩) (by simp [bOf]; omega) _, below_three hb1 (by rw [ey.out]; exact Nat.le_refl _) _ _ _, fun q hq => by rw [ey.out]; simp [bOf] at hq; omega⟩
          · have t3 : ((X.length : Int) == 0) = false := beq_eq_false_iff_ne.2 (by omega)
            have hr : rightB g X = true := right_mk hg1 hg2 (by omega) hX7 (fun j hj => (hXi.out j hj).1)
            replace hr := Lib.hid hr
            clear hX0
            go_wp2_with fail
            exact bodyPost_ret (v := .agg #[.string (bstr g), .int .u32 v, .slice A6 X.length c6]) (results_cell_row rfl _ _ y 26 _ (0, 0) _ rfl (((hyr.set_ 0 (.string (bstr g))).set_ 1 (.int .u32 v)).set_ 2 (.slice A6 X.length c6)) Tryd.underlying26 rfl (by kernel_rfl)) rfl
              ⟨g, X, A6, c6, rfl, hr.out, ((hor.setCell (p := ⟨y, 0, none⟩) (fun e => by have := hgw y e; omega) _).setCell (p := ⟨y, 1, none⟩) (fun e => by have := hgw y e; omega) _).setCell (p := ⟨y, 2, none⟩) (fun e => by have := hgw y e; omega) _, below_three hbw (by rw [ey.out]; exact Nat.le_refl _) _ _ _, fun q hq => by rw [ey.out]; have := hgw q hq; omega⟩
end Go.Proofs.YtdnoafjaheofcaaDoor
