/- choirref3.readId, both ways. -/
import Derived.Test.YtblakaddanoilaaRepRd
namespace Go.Proofs.Ytblakaddanoilaa
open Go.RowKit
set_option maxRecDepth 100000

theorem results_ct {P : Program} {fn : Func} {p u : Tmp} {ty : TypeId} (h : fn.results = #[.cell p ty, .tmp u]) (tmps : Array Value) (w : World) (g : Nat) (t : TypeId) (cs : Array Value) (fr : Nat × Nat) (d : TypeDesc) (v : Value)
    (hp : tmps.getD p undef = .pointer (some ⟨g, 0, none⟩)) (hv : tmps.getD u undef = v) (hg : w.heap[g]? = some (.cells cs t fr))
    (hu : P.underlying ty = some d) (hd : (match d with | .struct _ | .array _ _ => true | _ => false) = true) (hi : (P.info? ty).map (·.size) = some cs.size) :
    (results fn tmps).run P w = .ok (.tuple #[.agg cs, v]) w := by
  have hp' : tmps[p]?.getD undef = .pointer (some ⟨g, 0, none⟩) := by simpa using hp
  have hv' : tmps[u]?.getD undef = v := by simpa using hv
  simp [results, h, hp', hv', asAddr, run_loadVar_row w g t ty cs fr d hg hu hd hi]

theorem ref_id_no {A : Option Addr} {c n : Nat} {w : World} (h : n < 10) :
    Calls Try.prog 39 #[.slice A n c] w (fun e w' => e = .returned (.tuple #[.agg #[.int .u32 0, .int .u32 0, .int .u16 0], .bool false]) ∧ Below w.heap.size w w') := by
  have hz := Blk.new w 26 #[.int .u32 0, .int .u32 0, .int .u16 0]
  have hb2 := (Below.refl w.heap.size w).alloc (Nat.le_refl _) (.cells #[.int .u32 0, .int .u32 0, .int .u16 0] 26)
  go_enter Try.func39, Try.ntmps39
  have hzr := hz.row #[.int .u32 0, .int .u32 0, .int .u16 0]
  have hbr := below_row hb2 (g := w.heap.size) (Nat.le_refl _) #[.int .u32 0, .int .u32 0, .int .u16 0]
  go_wp2_with (refine store_row_gen rfl 26 (Operand.tmp 2) _ rfl w.heap.size #[.int .u32 0, .int .u32 0, .int .u16 0] (by simp [go_sem]) (by simp [go_sem]) 26 _ hz (by kernel_rfl) rfl (by simp [Value.oneCell']) (fun w9 hw9 => ?_); rw [← hw9] at hzr hbr; clear hw9)
  refine bodyPost_ret (v := .tuple #[.agg #[.int .u32 0, .int .u32 0, .int .u16 0], .bool false]) ?hr rfl ?_
  case hr => exact results_ct rfl _ _ w.heap.size 26 _ (0, 0) _ _ rfl rfl hzr Try.underlying26 rfl (by kernel_rfl)
  exact ⟨rfl, hbr⟩

set_option maxHeartbeats 1600000 in
theorem ref_id_ok {A : Option Addr} {c : Nat} {b : List UInt8} {w : World} (h : Reads w w.heap.size 1 A b.length (bys b)) (hc : b.length ≤ c) (hl : b.length ≤ 1000000000) (hat : 10 ≤ b.length)
    (c1 s1 n1 : Nat) (hc1 : readU (b.take 4) = c1) (hs1 : readU ((b.drop 4).take 4) = s1) (hn1 : readU ((b.drop 8).take 2) = n1) :
    Calls Try.prog 39 #[.slice A b.length c] w (fun e w' => e = .returned (.tuple #[.agg #[.int .u32 (c1 : Int), .int .u32 (s1 : Int), .int .u16 (n1 : Int)], .bool true]) ∧ Below w.heap.size w w') := by
  obtain ⟨ad, rfl, -, -⟩ := h.2 (by omega)
  have hw1 := wrap_r32 c1 (by rw [← hc1]; exact readU_4 _)
  have hw2 := wrap_r32 s1 (by rw [← hs1]; exact readU_4 _)
  have hw3 := wrap_r16 n1 (by rw [← hn1]; exact readU_2 _)
  have hz := Blk.new w 26 #[.int .u32 0, .int .u32 0, .int .u16 0]
  have hb2 := (Below.refl w.heap.size w).alloc (Nat.le_refl _) (.cells #[.int .u32 0, .int .u32 0, .int .u16 0] 26)
  have h1 := fun (W : World) (hb : Below w.heap.size w W) => ref_read (c := c) (k := 4) ((h.below hb).more hb.size) (by omega) (by omega) (by omega)
  have h2 := fun (W : World) (hb : Below w.heap.size w W) => ref_read (c := c - 4) (k := 4) (bs := b.drop 4) (by
    have hcut := ((h.below hb).more hb.size).cut (k := 4) (cap := c) (by omega) hc
    rw [if_neg (by omega), Nat.mul_one, bys_drop, ← List.length_drop] at hcut
    exact hcut) (by omega) (by rw [List.length_drop]; omega) (by rw [List.length_drop]; omega)
  have h3 := fun (W : World) (hb : Below w.heap.size w W) => ref_read (c := c - 8) (k := 2) (bs := b.drop 8) (by
    have hcut := ((h.below hb).more hb.size).cut (k := 8) (cap := c) (by omega) hc
    rw [if_neg (by omega), Nat.mul_one, bys_drop, ← List.length_drop] at hcut
    exact hcut) (by omega) (by rw [List.length_drop]; omega) (by rw [List.length_drop]; omega)
  rw [hc1] at h1
  rw [hs1] at h2
  rw [hn1] at h3
  rw [List.length_drop] at h2 h3
  obtain ⟨bl, hbl⟩ : ∃ bl, b.length = bl := ⟨_, rfl⟩
  rw [hbl] at h1 h2 h3 hc hl hat ⊢
  replace h1 := Lib.hid h1
  replace h2 := Lib.hid h2
  replace h3 := Lib.hid h3
  clear h hc1 hs1 hn1 hbl
  obtain ⟨z, hzz⟩ : ∃ z, w.heap.size = z := ⟨_, rfl⟩
  go_enter Try.func39, Try.ntmps39
  go_wp2_with fail
  generalize w.alloc (.cells #[.int .u32 0, .int .u32 0, .int .u16 0] 26) = w2 at *
  rw [hzz] at hz
  have hzw : z ≤ w.heap.size := by omega
  have hzw2 : w.heap.size ≤ z := by omega
  replace hzz := Lib.hid hzz
  refine (h1.out w2 hb2).mono ?_
  rintro e w3 ⟨rfl, hb3⟩
  dsimp only
  have hz3 := hz.below hb3 hz.lt
  have hb3' := below_then hb3 hb2
  clear hb2 hb3 hz h1
  have h4i : (4 : Int) ≤ (bl : Int) := by omega
  have h8i : (8 : Int) ≤ (bl : Int) := by omega
  go_wp2_with fail
  refine (h2.out w3 hb3').mono ?_
  rintro e w4 ⟨rfl, hb4⟩
  dsimp only
  have hz4 := hz3.below hb4 hz3.lt
  have hb4' := below_then hb4 hb3'
  clear hb3' hb4 hz3 h2
  go_wp2_with fail
  refine (h3.out w4 hb4').mono ?_
  rintro e w5 ⟨rfl, hb5⟩
  dsimp only
  have hz5 := hz4.below hb5 hz4.lt
  have hb5' := below_then hb5 hb4'
  clear hb4' hb5 hz4 h3
  have hzr := hz5.row #[.int .u32 (c1 : Int), .int .u32 (s1 : Int), .int .u16 (n1 : Int)]
  have hbr := below_row hb5' (g := z) hzw2 #[.int .u32 (c1 : Int), .int .u32 (s1 : Int), .int .u16 (n1 : Int)]
  go_wp2_with (refine store_row_gen rfl 26 (Operand.tmp 2) _ rfl z #[.int .u32 (c1 : Int), .int .u32 (s1 : Int), .int .u16 (n1 : Int)] (by simp [go_sem]) (by simp [go_sem]) 26 _ hz5 (by kernel_rfl) rfl (by simp [Value.oneCell']) (fun w9 hw9 => ?_); rw [← hw9] at hzr hbr; clear hw9)
  refine bodyPost_ret (v := .tuple #[.agg #[.int .u32 (c1 : Int), .int .u32 (s1 : Int), .int .u16 (n1 : Int)], .bool true]) ?hr rfl ?_
  case hr => exact results_ct rfl _ _ z 26 _ (0, 0) _ _ rfl rfl hzr Try.underlying26 rfl (by kernel_rfl)
  exact ⟨rfl, hbr⟩
end Go.Proofs.Ytblakaddanoilaa
