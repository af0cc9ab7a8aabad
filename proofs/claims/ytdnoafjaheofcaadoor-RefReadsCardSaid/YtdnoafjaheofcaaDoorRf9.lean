/- References: ref.Text. -/
import Derived.Test.YtdnoafjaheofcaaDoorRf8
set_option linter.unusedSimpArgs false
set_option linter.unusedVariables false
namespace Go.Proofs.YtdnoafjaheofcaaDoor
open Go.RowKit Go.Sort Go.Lib
set_option maxRecDepth 100000

def strs (ls : List (List UInt8)) : List Value := ls.map fun l => Value.string (bstr l)
theorem info_str : (Tryd.prog.info? 9).map (fun i => (i.zero, i.size, i.bytes)) = some (some (.string ByteArray.empty), 1, 16) := by kernel_rfl
theorem below_grow (w : World) (k : Nat) (os : Array Obj) : RowKit.Below w.heap.size w (grow (w.drewN k) os) :=
  ⟨rfl, rfl, rfl, by simp [grow, World.drewN], fun j hj => by simp [grow, World.drewN, Array.getElem?_append, hj]⟩
theorem dec_len {u : Nat} (h : u < 18446744073709551616) : (Lib.decDigits u).length ≤ 20 := by
  have h1 := dec_size (u := u) h rfl
  have e1 : (⟨(Lib.decDigits u).toArray⟩ : ByteArray).size = (Lib.decDigits u).length := List.size_toArray
  omega
theorem itoa_pos {n : Int} (h : 0 ≤ n) : Lib.itoa n = Lib.decDigits n.toNat := by unfold Lib.itoa; rw [if_neg (by omega)]
theorem join_snoc (xs : List (List UInt8)) (y sep : List UInt8) : Lib.join (xs ++ [y]) sep = if xs = [] then y else Lib.join xs sep ++ sep ++ y := by
  cases xs with
  | nil => simp [Lib.join_one]
  | cons x r => rw [List.cons_append, Lib.join_cons, Lib.join_cons, if_neg (by simp)]; simp [Lib.joinTail]
theorem join_len (xs : List (List UInt8)) (M : Nat) (h : ∀ x ∈ xs, x.length ≤ M) : (Lib.join xs [44]).length ≤ (M + 1) * xs.length := by
  cases xs with
  | nil => simp [Lib.join_nil]
  | cons x r =>
    rw [Lib.join_cons, List.length_append, Lib.joinTail_length]
    have hx := h x (by simp)
    have hl : Lib.lens r ≤ M * r.length := by
      have hr : ∀ y ∈ r, y.length ≤ M := fun y hy => h y (by simp [hy])
      clear h hx
      induction r with
      | nil => simp [Lib.lens]
      | cons y r ih =>
        have h1 := hr y (by simp)
        have h2 := ih (fun z hz => hr z (by simp [hz]))
        simp only [Lib.lens, List.map_cons, List.sum_cons, List.length_cons, Nat.mul_succ] at h2 ⊢
        omega
    simp only [List.length_cons, List.length_nil, Nat.add_mul, Nat.mul_add] at *
    omega
def nodeTs (ns : List Int) : List (List UInt8) := ns.map Lib.itoa
theorem nodeTs_len {g : List UInt8} {ns : List Int} (h : ∀ i, i < ns.length → okAt ns i) : ∀ x ∈ nodeTs ns, x.length ≤ 20 := by
  intro x hx
  obtain ⟨n, hn, rfl⟩ := List.mem_map.1 hx
  obtain ⟨i, hi, rfl⟩ := List.mem_iff_getElem.1 hn
  obtain ⟨h0, h1, -⟩ := h i hi
  rw [List.getD, List.getElem?_eq_getElem hi, Option.getD_some] at h0 h1
  rw [itoa_pos h0]
  exact dec_len (by omega)

theorem join_own {ls : List (List UInt8)} {A : Option Addr} {c : Nat} {w : World} {J : List UInt8} (ho : Own w 9 1 A ls.length c (strs ls)) (h1 : 1 ≤ ls.length) (hn : ls.length ≤ 100000) (hJ : Lib.join ls [44] = J) (hl : J.length ≤ 100000000) :
    Calls Tryd.prog 29 #[.slice A ls.length c, .string ⟨#[44]⟩] w (fun e w' => e = .returned (.string (bstr J)) ∧ RowKit.Below w.heap.size w w') := by
  obtain ⟨ad, hA, hadB, hcells⟩ := ho.reads_.2 (by omega)
  have hcap := ho.le_cap
  obtain ⟨q, cur, hA2, -⟩ : ∃ q cur, A = some ⟨q, 0, none⟩ ∧ Blk w q 9 cur := by
    rcases ho.2 with ⟨_, h0, _⟩ | ⟨q, cur, e, hb, _⟩
    · omega
    · exact ⟨q, cur, e, hb⟩
  subst hA2
  obtain rfl := Option.some.inj hA
  have hmm : (ls.map bstr).map (·.data.toList) = ls := by
    rw [List.map_map]
    conv => rhs; rw [← List.map_id ls]
    refine List.map_congr_left fun l _ => ?_
    simp [bstr]
  have h := Tryd.strings_Join q 0 c (ls.map bstr) ⟨#[44]⟩ w (fun j x hj => by
    have := hcells j (.string x) (by simp only [strs, List.getElem?_map] at hj ⊢; cases hl : ls[j]? with | none => rw [hl] at hj; cases hj | some l => rw [hl] at hj; simp only [Option.map_some, Option.some.injEq] at hj ⊢; rw [hj])
    rw [add_row] at this
    rw [Nat.zero_add]; exact this) hadB (by simp; omega) (by simpa using hcap) (by rw [hmm]; show (Lib.join ls [44]).length ≤ _; rw [hJ]; omega)
  rw [hmm, show (⟨#[44]⟩ : ByteArray).data.toList = [44] from rfl, hJ, List.length_map] at h
  exact h

theorem text_no {g : List UInt8} {v : Int} {A : Option Addr} {c : Nat} {ns : List Int} {w : World} (h : Reads w w.heap.size 1 A ns.length (ints ns)) (hg : g.length ≤ 140737488351232) (hn : ns.length ≤ 140737488351232) (hr : rightB g ns = false) :
    Calls Tryd.prog 10 #[.agg #[.string (bstr g), .int .u32 v, .slice A ns.length c]] w (fun e w' => e = .returned (.string (bstr [])) ∧ Below w.heap.size w w') := by
  have hb0 := (Below.refl w.heap.size w).alloc (Nat.le_refl _) (.cells #[.string (bstr g), .int .u32 v, .slice A ns.length c] 26)
  have hright := right_walk (g := g) (v := v) (c := c) ((h.below hb0).more hb0.size) hg hn
  rw [hr] at hright
  replace hright := Lib.hid hright
  replace hr := Lib.hid hr
  go_enter Tryd.func10, Tryd.ntmps10
  go_wp2_with fail
  refine hright.out.mono ?_
  rintro e w2 ⟨rfl, hb2⟩
  dsimp only
  have hb02 := below_then hb2 hb0
  go_wp2_with fail
  go_ret
  exact ⟨rfl, hb02⟩

set_option maxHeartbeats 3200000 in
theorem text_yes {g : List UInt8} {v : Nat} {A : Option Addr} {c : Nat} {ns : List Int} {w : World} (h : Reads w w.heap.size 1 A ns.length (ints ns)) (hv : v < 4294967296) (hr : rightB g ns = true) (hL : LaidW w) :
    Calls Tryd.prog 10 #[.agg #[.string (bstr g), .int .u32 (v : Int), .slice A ns.length c]] w (fun e w' => e = .returned (.string (bstr (textR g v ns))) ∧ Below w.heap.size w w') := by
  obtain ⟨l1, l2, l3, l4, hok⟩ := right_yes hr
  obtain ⟨X5, hX5⟩ : ∃ X, textR g v ns = X := ⟨_, rfl⟩
  rw [hX5]
  rw [textR, if_pos hr] at hX5
  obtain ⟨H, hH⟩ : ∃ H, hexL g = H := ⟨_, rfl⟩
  obtain ⟨D, hD⟩ : ∃ D, Lib.decDigits v = D := ⟨_, rfl⟩
  obtain ⟨J, hJ⟩ : ∃ J, Lib.join (nodeTs ns) [44] = J := ⟨_, rfl⟩
  rw [show ns.map Lib.itoa = nodeTs ns from rfl, hH, hD, hJ] at hX5
  have zH : H.length ≤ 64 := by rw [← hH, hexL_len]; omega
  have zD : D.length ≤ 20 := by rw [← hD]; exact dec_len (by omega)
  have zJ : J.length ≤ 147 := by
    rw [← hJ]
    have := join_len (nodeTs ns) 20 (nodeTs_len (g := g) hok)
    have e : (nodeTs ns).length = ns.length := by simp [nodeTs]
    rw [e] at this; omega
  obtain ⟨X1, h1⟩ : ∃ X, [99, 104, 111, 105, 114, 58] ++ H = X := ⟨_, rfl⟩
  obtain ⟨X2, h2⟩ : ∃ X, X1 ++ [47] = X := ⟨_, rfl⟩
  obtain ⟨X3, h3⟩ : ∃ X, X2 ++ D = X := ⟨_, rfl⟩
  obtain ⟨X4, h4⟩ : ∃ X, X3 ++ [47] = X := ⟨_, rfl⟩
  rw [h1, h2, h3, h4] at hX5
  have y1 : X1.length ≤ 70 := by rw [← h1]; simp; omega
  have y2 : X2.length ≤ 71 := by rw [← h2]; simp; omega
  have y3 : X3.length ≤ 91 := by rw [← h3]; simp; omega
  have y4 : X4.length ≤ 92 := by rw [← h4]; simp; omega
  have k1 : ∀ W, (Op.stringOp .add ⟨#[99, 104, 111, 105, 114, 58]⟩ (bstr H)).run Tryd.prog W = .ok (.string (bstr X1)) W := fun W => by rw [← h1]; exact run_bstr_add W [99, 104, 111, 105, 114, 58] H (by simp; omega)
  have k2 : ∀ W, (Op.stringOp .add (bstr X1) ⟨#[47]⟩).run Tryd.prog W = .ok (.string (bstr X2)) W := fun W => by rw [← h2]; exact run_bstr_add W X1 [47] (by simp; omega)
  have k3 : ∀ W, (Op.stringOp .add (bstr X2) (bstr D)).run Tryd.prog W = .ok (.string (bstr X3)) W := fun W => by rw [← h3]; exact run_bstr_add W X2 D (by omega)
  have k4 : ∀ W, (Op.stringOp .add (bstr X3) ⟨#[47]⟩).run Tryd.prog W = .ok (.string (bstr X4)) W := fun W => by rw [← h4]; exact run_bstr_add W X3 [47] (by simp; omega)
  have k5 : ∀ W, (Op.stringOp .add (bstr X4) (bstr J)).run Tryd.prog W = .ok (.string (bstr X5)) W := fun W => by rw [← hX5]; exact run_bstr_add W X4 J (by omega)
  have hhex : ∀ W, Calls Tryd.prog 27 #[.string (bstr g)] W (fun e w' => e = .returned (.string (bstr H)) ∧ RowKit.Below W.heap.size W w') := fun W => by rw [← hH]; exact hexed_walk g (by omega) W
  have hdig : ∀ W, LaidW W → Calls Tryd.prog 28 #[.int .u64 (v : Int), .int .i64 10] W (fun e w' => e = .returned (.string (bstr D)) ∧ RowKit.Below W.heap.size W w') := fun W hW => by rw [← hD]; exact digits_w v (by omega) W hW
  replace hok := Lib.hid hok
  replace hhex := Lib.hid hhex
  replace hdig := Lib.hid hdig
  replace hL := Lib.hid hL
  clear zH zD zJ h1 h2 h3 h4 hX5 y1 y2 y3 y4 hH hD
  replace hJ := Lib.hid hJ
  replace k1 := Lib.hid k1
  replace k2 := Lib.hid k2
  replace k3 := Lib.hid k3
  replace k4 := Lib.hid k4
  replace k5 := Lib.hid k5
  obtain ⟨i0, hi, hz0, hz1, hz2⟩ := info_parts' info_str
  replace hi := Lib.hid hi
  replace hz0 := Lib.hid hz0
  replace hz1 := Lib.hid hz1
  replace hz2 := Lib.hid hz2
  have hb0 := (RowKit.Below.refl w.heap.size w).alloc (Nat.le_refl _) (.cells #[.string (bstr g), .int .u32 (v : Int), .slice A ns.length c] 26)
  have hy := Blk.new w 26 #[.string (bstr g), .int .u32 (v : Int), .slice A ns.length c]
  have hright := right_walk (g := g) (v := v) (c := c) ((h.below hb0).more hb0.size) (by omega) (by omega)
  rw [hr] at hright
  replace hright := Lib.hid hright
  replace hr := Lib.hid hr
  obtain ⟨y, ey⟩ : ∃ y, w.heap.size = y := ⟨_, rfl⟩
  rw [ey] at hy h
  replace ey := Lib.hid ey
  go_enter Tryd.func10, Tryd.ntmps10
  go_upto_region 1 with (fail)
  try rw [ey.out]
  generalize w.alloc (.cells #[.string (bstr g), .int .u32 (v : Int), .slice A ns.length c] 26) = w1 at *
  have c0 := hy.cell 0
  have c1 := hy.cell 1
  have c2 := hy.cell 2
  go_wp2_with fail
  refine hright.out.mono ?_
  rintro e w2 ⟨rfl, hb2⟩
  dsimp only
  clear hright c0 c1 c2
  have hy2 := hy.below hb2 hy.lt
  have hb02 := below_then hb2 hb0
  have c2 := hy2.cell 2
  go_wp2_with fail
  clear c2
  go_loopw [3, 5, 12] (fun l n i wr => ∃ (k : Nat) (A' : Option Addr) (c' : Nat), k ≤ ns.length ∧ l = .slice A' k c' ∧ i = .int .i64 (k : Int) ∧ Own wr 9 1 A' k c' (strs (nodeTs (ns.take k))) ∧ Blk wr y 26 #[.string (bstr g), .int .u32 (v : Int), .slice A ns.length c] ∧ RowKit.Below w.heap.size w wr ∧ ∀ q, bOf A' = some q → y < q) (fun _ _ i _ => ns.length - (RowKit.intOf i).toNat)
  case atStart => exact ⟨0, none, 0, Nat.zero_le _, rfl, rfl, by simpa [strs, nodeTs] using (Own.none_ (w := w2) (t := 9) (size := 1)), hy2, hb02, fun _ h => by cases h⟩
  case round =>
    rename_i hrel
    obtain ⟨k, A', c', hk, rfl, rfl, ho, hyr, hbr, hgr⟩ := hrel
    by_cases hlt : k < ns.length
    · have hbY : RowKit.Below y w wr := by rw [← ey.out]; exact hbr
      obtain ⟨ad, rfl, hbk, hc⟩ := node_at (h.below hbY) hlt
      obtain ⟨o0, o1, -⟩ := hok.out k hlt
      obtain ⟨x, hx⟩ : ∃ x, ns.getD k 0 = x := ⟨_, rfl⟩
      rw [hx] at hc o0 o1
      obtain ⟨T, hT⟩ : ∃ T, Lib.itoa x = T := ⟨_, rfl⟩
      have htake : Hid (strs (nodeTs (ns.take (k + 1))) = strs (nodeTs (ns.take k)) ++ strs [T]) := Lib.hid (by
        rw [List.take_succ_eq_append_getElem hlt, ← hT, ← hx, List.getD, List.getElem?_eq_getElem hlt, Option.getD_some]; simp only [nodeTs, strs, List.map_append, List.map_cons, List.map_nil])
      have hit : Calls Tryd.prog 26 #[.int .i64 x] wr (fun e w' => e = .returned (.string (bstr T)) ∧ RowKit.Below wr.heap.size wr w') := by
        refine (Tryd.strconv_Itoa x (by omega) (by omega) wr (hL.out.next hbr).tab).mono ?_
        rintro e w' ⟨rfl, kk, os, rfl⟩
        exact ⟨by rw [← hT]; rfl, below_grow _ _ _⟩
      replace hit := Lib.hid hit
      have hsrcl : Hid ((#[Value.string (bstr T)] : Array Value).toList = strs [T]) := Lib.hid rfl
      clear hx hT
      go_wp2_with fail
      refine hit.out.mono ?_
      clear hit
      rintro e w3 ⟨rfl, hb3⟩
      dsimp only
      have ho3 := ho.below hb3 (Nat.le_refl _)
      have hy3 := hyr.below hb3 hyr.lt
      have hbr3 := below_then hb3 hbr
      have hyl := hy3.lt
      go_wp2_with (at_builtin; go_must (refine wpList_append_mine rfl _ _ 50 50 rfl 9 i0 _ 1 16 Tryd.underlying50 hi.out hz0.out hz1.out hz2.out rfl rfl (ho3.alloc _) rfl (Src.ofReads Tryd.underlying50 _ (Reads.lit _ _ _ _ 1 _ hsrcl.out rfl) (by intro u hu; simp only [strs, List.map_cons, List.map_nil, List.mem_cons, List.not_mem_nil, or_false] at hu; subst hu; rfl)) ?b1 ?b2 ?grow))
      case b1 => unfold maxLen; omega
      case b2 => omega
      case grow =>
        intro A2 c2 w4 hown hgr2 hat
        have hgx : ∀ q, bOf A2 = some q → y < q := fun q hq => by
          rcases hat with h7 | h7 <;> rw [h7] at hq
          · exact hgr q hq
          · simp at hq; omega
        rw [← htake.out] at hown
        go_wp2_with fail
        go_roundw
        case rel =>
          exact ⟨k + 1, A2, c2, by omega, rfl, by go_num, hown, (hy3.alloc _).grown hgr2 (fun e => by have := hgr y e.symm; omega), (hbr3.alloc hbr3.size _).grown hgr2 (Nat.le_trans hbr3.size (by simp)) (fun q hq => by have := hgr q hq; rw [← ey.out] at this; omega), hgx⟩
        case measure => simp [RowKit.intOf]; omega
    · obtain rfl : k = ns.length := by omega
      rw [List.take_length] at ho
      have wv : IntKind.u64.wrap (v : Int) = (v : Int) := by rw [IntKind.wrap_u64]; omega
      have hor := ho.drew
      have hS : Blk wr.drew y 26 #[.string (bstr g), .int .u32 (v : Int), .slice A ns.length c] := hyr.drew
      have hbd := hbr.drew
      have hlr : RowKit.Below wr.heap.size wr wr.drew := (RowKit.Below.refl _ _).drew
      go_wp2_with fail
      refine wp_region_lex (fun W => Blk W y 26 #[.string (bstr g), .int .u32 (v : Int), .slice A ns.length c]) [1, 6] [2, 8, 12] [0, 1, 5, 6, 7, 11, 2, 3, 4, 8, 9, 10, 12, 13, 14] (by kernel_rfl) rfl (by kernel_rfl) (by kernel_rfl) (fun _ _ d _ _ h => by cases d <;> exact h) ?_
      generalize wr.drew = wd at *
      repeat (first | (refine lexG_take _ ?_ rfl rfl rfl rfl (fun _ => ?_) ?_; rotate_left; (focus (go_simp; with_reducible rfl)); try simp only [Act.put, List.setIfInBounds_toArray, List.set_cons_zero, List.set_cons_succ]) | (refine lexG_held _ ?_ rfl rfl rfl rfl (by assumption) (fun _ hSw => ?_) ?_; rotate_left; (focus (have z0 := hSw.cell 0; have z1 := hSw.cell 1; clear hSw; go_simp; with_reducible rfl)); try simp only [Act.put, List.setIfInBounds_toArray, List.set_cons_zero, List.set_cons_succ]) | (refine lexG_skip _ rfl rfl (by assumption) ?_; try simp only [Act.put, List.setIfInBounds_toArray, List.set_cons_zero, List.set_cons_succ]))
      refine lexG_now _ rfl rfl rfl (fun K hK => ?_)
      go_wp2_with fail
      refine (hhex.out _).mono ?_
      rintro e w5 ⟨rfl, hb5⟩
      dsimp only
      have hS5 := hS.below hb5 hS.lt
      refine hK _ _ _ (fun _ h => h) hS5 ?_
      clear hK K
      try simp only [Act.put, List.setIfInBounds_toArray, List.set_cons_zero, List.set_cons_succ]
      have k1 := k1.out
      have k2 := k2.out
      repeat (refine lexG_take _ ?_ rfl rfl rfl rfl (fun _ => ?_) ?_; rotate_left; (focus (go_simp; with_reducible rfl)); try simp only [Act.put, List.setIfInBounds_toArray, List.set_cons_zero, List.set_cons_succ])
      clear k1 k2
      have ho5 := hor.below hb5 (Nat.le_refl _)
      have hb05 := below_then hb5 hbd
      refine lexG_now _ rfl rfl rfl (fun K hK => ?_)
      go_wp2_with fail
      refine (hdig.out _ (hL.out.next hb05)).mono ?_
      rintro e w6 ⟨rfl, hb6⟩
      dsimp only
      have hS6 := hS5.below hb6 hS5.lt
      refine hK _ _ _ (fun _ h => h) hS6 ?_
      clear hK K
      try simp only [Act.put, List.setIfInBounds_toArray, List.set_cons_zero, List.set_cons_succ]
      have k3 := k3.out
      have k4 := k4.out
      repeat (refine lexG_take _ ?_ rfl rfl rfl rfl (fun _ => ?_) ?_; rotate_left; (focus (go_simp; with_reducible rfl)); try simp only [Act.put, List.setIfInBounds_toArray, List.set_cons_zero, List.set_cons_succ])
      clear k3 k4
      have ho6 := ho5.below hb6 (Nat.le_refl _)
      have hb06 := below_then hb6 hb05
      have hjoin : Calls Tryd.prog 29 #[.slice A' ns.length c', .string ⟨#[44]⟩] w6 (fun e w' => e = .returned (.string (bstr J)) ∧ RowKit.Below w6.heap.size w6 w') := by
        have e : (nodeTs ns).length = ns.length := by simp [nodeTs]
        have hz := join_len (nodeTs ns) 20 (nodeTs_len (g := g) hok.out)
        have hh := join_own (ls := nodeTs ns) (A := A') (c := c') (w := w6) (by rw [e]; exact ho6) (by omega) (by omega) hJ.out (by rw [← hJ.out]; omega)
        rw [e] at hh
        exact hh
      replace hjoin := Lib.hid hjoin
      refine lexG_now _ rfl rfl rfl (fun K hK => ?_)
      go_wp2_with fail
      refine hjoin.out.mono ?_
      rintro e w7 ⟨rfl, hb7⟩
      dsimp only
      have hS7 := hS6.below hb7 hS6.lt
      refine hK _ _ _ (fun _ h => h) hS7 ?_
      clear hK K
      try simp only [Act.put, List.setIfInBounds_toArray, List.set_cons_zero, List.set_cons_succ]
      have k5 := k5.out
      repeat (refine lexG_take _ ?_ rfl rfl rfl rfl (fun _ => ?_) ?_; rotate_left; (focus (go_simp; with_reducible rfl)); try simp only [Act.put, List.setIfInBounds_toArray, List.set_cons_zero, List.set_cons_succ])
      clear k5
      refine lexG_nil ?_
      have hb07 := below_then hb7 hb06
      go_wp2_with fail
      go_ret
      exact ⟨rfl, hb07⟩
end Go.Proofs.YtdnoafjaheofcaaDoor
