/- References: one that comes as an argument, opened; the laid variables out of the statement's condition; a number that the statement doesn't list, out of the world's shape. -/
import Derived.Test.YtdnoafjaheofcaaDoorRf19
import Derived.Test.YtdnoafjaheofcaaDoorRows
import Derived.Test.YtdnoafjaheofcaaDoorFrame
import Derived.Test.YtdnoafjaheofcaaDoorShelf
import Derived.Deep.Strs
import Derived.WideShapes
import Derived.Lib.LaidTab
import Derived.LaidLaws
set_option linter.unusedSimpArgs false
set_option linter.unusedVariables false
namespace Go.Proofs.YtdnoafjaheofcaaDoor
open Go.RowKit Go.Lib Go.ChangeShapes Go.WideShapes Go.ChangeAt
set_option maxRecDepth 100000

theorem laid_tab_eq : (Rows.laid_internal_strconv_uint64pow10 : DataW Unit) = Lib.tabData .u64 Lib.pow10Tab := by rfl
theorem most_of {W : World} (h : W.ShapedOpen Tryd.prog) : ∃ (g : Nat) (m : Int), Tryd.prog.globalNamed "internal/bytealg.MaxLen" = some g ∧ g < W.heap.size ∧ W.cell? ⟨g, 0, none⟩ = some (.int .i64 m) := by
  obtain ⟨m, hm⟩ := Go.Proofs.cell_of_shapedOpen_int (P := Tryd.prog) (g := 3) (zero := #[.int .i64 0]) (t := 3) h (of_decide_eq_true (by kernel_rfl)) (by kernel_rfl) rfl (by kernel_rfl) (by kernel_rfl) Tryd.underlying3
  exact ⟨3, m, by kernel_rfl, World.block_lt_of_cell? W _ hm, hm⟩
theorem laidW_of {W : World} (hs : W.ShapedOpen Tryd.prog) (h : laidMet Tryd.prog Rows.refBackRow.laid W) : LaidW W := by
  obtain ⟨ps, hv, -⟩ := h
  obtain ⟨g1, t1, cs1, f1, p1, q1, hg1, ht1, hv1, hd1, r1, -⟩ := hv
  obtain ⟨g2, t2, cs2, f2, p2, q2, hg2, ht2, hv2, hd2, r2, -⟩ := r1
  obtain ⟨g3, t3, cs3, f3, p3, q3, hg3, ht3, hv3, hd3, r3, -⟩ := r2
  obtain ⟨g4, t4, cs4, f4, p4, q4, hg4, ht4, hv4, hd4, r4, -⟩ := r3
  obtain ⟨g5, t5, cs5, f5, p5, q5, hg5, ht5, hv5, hd5, r5, -⟩ := r4
  obtain ⟨g6, t6, cs6, f6, p6, q6, hg6, ht6, hv6, hd6, r6, -⟩ := r5
  refine ⟨?_, ?_, ?_, most_of hs⟩
  · unfold Lib.TabIs
    have eg : g3 = 0 := Option.some.inj (hg3.symm.trans g_tab)
    subst eg
    obtain rfl : t3 = 119 := Option.some.inj (ht3.symm.trans (by kernel_rfl))
    rw [laid_tab_eq] at hd3
    rw [hv3, ← cells_of_tab Tryd.underlying119 Tryd.underlying55 (by kernel_rfl) (by kernel_rfl) hd3]
  · obtain rfl : g6 = 1 := Option.some.inj (hg6.symm.trans g_syn)
    obtain rfl : t6 = 70 := Option.some.inj (ht6.symm.trans (by kernel_rfl))
    obtain ⟨-, u, v, hcs, -⟩ := iface_of_trod Tryd.underlying70 hd6
    refine ⟨u, v, ?_⟩
    rw [hv6]
    have : cs6 = #[.iface u v] := Array.toList_inj.1 hcs
    rw [this]
  · obtain rfl : g5 = 2 := Option.some.inj (hg5.symm.trans g_rng)
    obtain rfl : t5 = 70 := Option.some.inj (ht5.symm.trans (by kernel_rfl))
    obtain ⟨-, u, v, hcs, -⟩ := iface_of_trod Tryd.underlying70 hd5
    refine ⟨u, v, ?_⟩
    rw [hv5]
    have : cs5 = #[.iface u v] := Array.toList_inj.1 hcs
    rw [this]
theorem laidW_ofH {W : World} (hs : W.ShapedOpen Tryd.prog) (h : laidMetH Tryd.prog Rows.refBackRow.laid W) : LaidW W := laidW_of hs (by unfold laidMetH at h; exact h)

theorem nat_of_u32 {n : Int} (h : (Lit.int .u32 n).wf = true) : ∃ m : Nat, n = (m : Int) ∧ m < 4294967296 := by
  simp [Lit.wf, IntKind.min, IntKind.max, IntKind.signed, IntKind.bits] at h
  exact ⟨n.toNat, by omega, by omega⟩
theorem of_u16 {n : Int} (h : (Lit.int .u16 n).wf = true) : 0 ≤ n ∧ n ≤ 65535 := by
  simp [Lit.wf, IntKind.min, IntKind.max, IntKind.signed, IntKind.bits] at h
  omega

theorem open_refarg {H : Type} {enc : TypeId × Value → H} {W : World} {r : Reach} {base : Nat} {v : Value} {d : DataW H} {p : List MemPlace} (hval : Value.okWide Tryd.prog W r base 26 v) (h : DataW.Trod enc Tryd.prog W 0 (fun _ => true) true 26 v d p) {ts : List TypeId} {ds : List (DataW H)} {j : Nat}
    (hsz : (DataW.weightsEach Tryd.prog ts ds).all (· ≤ reachBytes) = true) (hj : ts[j]? = some 26) (hd : ds[j]? = some d) :
    ∃ (g : List UInt8) (n : Nat) (A : Option Addr) (ns : List Int) (c : Nat), v = .agg #[.string (bstr g), .int .u32 (n : Int), .slice A ns.length c] ∧ Reads W W.heap.size 1 A ns.length (ints ns) ∧ n < 4294967296 ∧ g.length ≤ 140737488351232 ∧ ns.length ≤ 140737488351232 := by
  obtain ⟨ca, rfl, -⟩ := okWide_struct Tryd.underlying26 hval
  obtain ⟨fuel, hf⟩ := h
  have hw := List.all_eq_true.1 hsz
  have c3 : Tryd.prog.cellsOf 26 = 3 := by kernel_rfl
  have k0 : Tryd.prog.cellsOf 9 = 1 := by kernel_rfl
  have k1 : Tryd.prog.cellsOf 23 = 1 := by kernel_rfl
  have k2 : Tryd.prog.cellsOf 24 = 1 := by kernel_rfl
  have k3 : Tryd.prog.cellsOf 3 = 1 := by kernel_rfl
  have b8 : Tryd.prog.bytesOf 3 = 8 := by kernel_rfl
  obtain ⟨ys, n0, rfl, hd0, hl, hyl, hff⟩ := DataW.trod_struct Tryd.underlying26 hf
  have hdy : d = .agg (ys.map (·.1)) := by injection hd0
  rw [c3] at hl
  obtain ⟨cs, hcs⟩ : ∃ cs, ca.toList = cs := ⟨_, rfl⟩
  have hcc : (Value.agg ca).cells.toList = cs := hcs
  rw [hcc] at hl hff
  obtain ⟨a0, a1, a2, rfl⟩ : ∃ a0 a1 a2, cs = [a0, a1, a2] := by
    match cs, hl with
    | [a0, a1, a2], _ => exact ⟨a0, a1, a2, rfl⟩
  obtain ⟨y0, y1, y2, rfl⟩ : ∃ y0 y1 y2, ys = [y0, y1, y2] := by
    match ys, hyl with
    | [y0, y1, y2], _ => exact ⟨y0, y1, y2, rfl⟩
  have t0 : DataW.trod enc Tryd.prog W 0 (fun _ => true) true n0 9 (([a0, a1, a2].drop 0).take (Tryd.prog.cellsOf 9)) = some y0 := hff 0 _ rfl
  have t1 : DataW.trod enc Tryd.prog W 0 (fun _ => true) true n0 23 (([a0, a1, a2].drop 1).take (Tryd.prog.cellsOf 23)) = some y1 := hff 1 _ rfl
  have t2 : DataW.trod enc Tryd.prog W 0 (fun _ => true) true n0 24 (([a0, a1, a2].drop 2).take (Tryd.prog.cellsOf 24)) = some y2 := hff 2 _ rfl
  rw [k0] at t0
  rw [k1] at t1
  rw [k2] at t2
  simp only [List.drop_zero, List.take_succ_cons, List.take_zero, List.drop_succ_cons] at t0 t1 t2
  have hsz2 : (DataW.weightsEach Tryd.prog [9, 23, 24] [y0.1, y1.1, y2.1]).all (· ≤ reachBytes) = true := by
    rw [List.all_eq_true]
    intro u hu
    have h1 : u ∈ DataW.weights Tryd.prog 26 d := by
      unfold DataW.weights
      rw [Tryd.underlying26, hdy]
      exact hu
    exact hw _ (DataW.weights_mem_each hj hd u h1)
  obtain ⟨gg, e0, hy0, -⟩ := DataW.trod_string Tryd.underlying9 t0
  obtain ⟨n, e1, -, wn⟩ := DataW.trod_int Tryd.underlying23 t1
  obtain ⟨n, rfl, bn⟩ := nat_of_u32 wn
  have hgl : gg.data.toList.length ≤ reachBytes := sized_string hsz2 (j := 0) rfl (by rw [hy0]; rfl)
  have hrow : ∃ (A : Option Addr) (ns : List Int) (c : Nat), a2 = .slice A ns.length c ∧ Reads W W.heap.size 1 A ns.length (ints ns) ∧ ns.length ≤ c := by
    rcases open_ints Tryd.underlying24 Tryd.underlying3 k3 t2 with ⟨hx, -⟩ | ⟨x, l, c, zs, hx, -, hlx, hm, hz, -, hcell, hwz⟩
    · simp at hx
      subst hx
      exact ⟨none, [], 0, rfl, Reads.none_, Nat.le_refl _⟩
    · simp at hx
      subst hx
      have hzl : zs.length = c := by simpa using hz
      have hlen : (zs.take l).length = l := by simp; omega
      refine ⟨some x, zs.take l, c, by rw [hlen], ⟨by simp [ints], fun hn => ⟨x, rfl, ?_, fun j u hu => ?_⟩⟩, by rw [hlen]; exact hlx⟩
      · have := World.block_lt_of_cell? W _ (hcell 0 (by omega))
        rwa [block_of_add] at this
      · have hj : j < l := by
          have := (List.getElem?_eq_some_iff.1 hu).1
          simp [ints] at this; omega
        rw [hcell j (by omega), ← hu]
        have hg : zs[j]? = some (zs.getD j 0) := by simp [List.getD, List.getElem?_eq_getElem (show j < zs.length by omega)]
        simp only [ints, List.getElem?_map, List.getElem?_take, if_pos hj, hg, Option.map_some]
  obtain ⟨A, ns, c, rfl, hr, hlc⟩ := hrow
  have hdl := data_len (P := Tryd.prog) (W := W) (d := y2.1) (p := y2.2) Tryd.underlying24 ⟨n0, t2⟩ (fun _ => rfl) hsz2 (j := 2) rfl rfl
  rw [b8] at hdl
  have hcl : c * 8 ≤ 140737488351232 := hdl
  have hgl' : gg.data.toList.length ≤ 140737488351232 := hgl
  have hb : ∀ x : ByteArray, bstr x.data.toList = x := fun x => by cases x; simp [bstr]
  simp at e0 e1
  subst e0 e1
  refine ⟨gg.data.toList, n, A, ns, c, ?_, hr, bn, hgl', by omega⟩
  rw [hb]
  congr 1
  apply Array.toList_inj.1
  exact hcs
theorem refBack_int (a : Option Addr) (cap : Nat) (bs : List UInt8) (g : List UInt8) (n : Nat) (A : Option Addr) (ns : List Int) (c : Nat) (l : List UInt8) (x3 x4 : Int) (W : World) (hSh : W.ShapedOpen Tryd.prog) (hL : laidMetH Tryd.prog Rows.refBackRow.laid W) (r0 : Reads W W.heap.size 1 a bs.length (bys bs)) (l0 : bs.length ≤ cap) (b0 : cap ≤ 140737488351232) (r1 : Reads W W.heap.size 1 A ns.length (ints ns)) (bn : n < 4294967296) (bg : g.length ≤ 140737488351232) (bns : ns.length ≤ 140737488351232) (b2 : l.length ≤ 140737488351232) (w3 : (Lit.int .u32 x3).wf = true) (w4 : (Lit.int .u16 x4).wf = true) :
    Calls Tryd.prog 3 #[.slice a bs.length cap, .agg #[.string (bstr g), .int .u32 (n : Int), .slice A ns.length c], .string (bstr l), .int .u32 x3, .int .u16 x4] W (fun e w' => e = .returned (.bool true) ∧ Below W.heap.size W w') := by
  obtain ⟨vm, rfl, hvm⟩ := nat_of_u32 w3
  obtain ⟨hm0, hm1⟩ := of_u16 w4
  exact refBack_walk bs a cap g n ns A c l vm x4 W (laidW_ofH hSh hL) r0 l0 r1 (by omega) bg bns b2 bn hvm hm0 hm1
end Go.Proofs.YtdnoafjaheofcaaDoor
