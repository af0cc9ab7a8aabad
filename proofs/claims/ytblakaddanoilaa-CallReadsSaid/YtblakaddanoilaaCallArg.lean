/- A reply, a call, a float that come as arguments, opened. -/
import Derived.Test.YtblakaddanoilaaCallReplies
namespace Go.Proofs.Ytblakaddanoilaa
open Go.ChangeShapes Go.WideShapes Go.ChangeAt Go.RowKit

section
variable {H : Type} {enc : TypeId × Value → H} {W : World}

theorem okWide_flt {P : Program} {w : World} {r : Reach} {base : Nat} {t : TypeId} {v : Value} {k : FloatKind} (ht : P.underlying t = some (.float k)) (h : Value.okWide P w r base t v) : ∃ n, v = .float k n := by
  simp only [Value.okWide, ht, Cell.okWide] at h
  cases v <;> simp_all [Cell.ok]
set_option maxRecDepth 100000 in
theorem open_flt {r : Reach} {b0 : Nat} {t : TypeId} {v : Value} {d : DataW H} {p : List MemPlace} (ht : Try.prog.underlying t = some (.float .f64)) (hval : Value.okWide Try.prog W r b0 t v) (h : DataW.Trod enc Try.prog W 0 (fun _ => true) true t v d p) : ∃ n, v = .float .f64 n ∧ n < 18446744073709551616 := by
  obtain ⟨n, rfl⟩ := okWide_flt ht hval
  obtain ⟨fuel, hf⟩ := h
  obtain ⟨m, hm, w2⟩ := trod_flt ht hf
  simp [Value.cells] at hm
  subst hm
  refine ⟨n, rfl, ?_⟩
  simp [Lit.wf] at w2
  omega

theorem u32_nat {n : Int} (h : (Lit.int .u32 n).wf = true) : ∃ m : Nat, n = (m : Int) ∧ m < 4294967296 := by
  simp [Lit.wf, IntKind.min, IntKind.max, IntKind.signed, IntKind.bits] at h
  exact ⟨n.toNat, by omega, by omega⟩
theorem u16_nat {n : Int} (h : (Lit.int .u16 n).wf = true) : ∃ m : Nat, n = (m : Int) ∧ m < 65536 := by
  simp [Lit.wf, IntKind.min, IntKind.max, IntKind.signed, IntKind.bits] at h
  exact ⟨n.toNat, by omega, by omega⟩

set_option maxRecDepth 100000 in
theorem open_reply {r : Reach} {base : Nat} {v : Value} {d : DataW H} {p : List MemPlace} (hval : Value.okWide Try.prog W r base 45 v) (h : DataW.Trod enc Try.prog W 0 (fun _ => true) true 45 v d p) {ts : List TypeId} {ds : List (DataW H)} {j : Nat}
    (hsz : (DataW.weightsEach Try.prog ts ds).all (· ≤ reachBytes) = true) (hj : ts[j]? = some 45) (hd : ds[j]? = some d) :
    ∃ (c s n : Nat) (e k i : Int) (f : Nat) (t : ByteArray) (A : Option Addr) (m cc : Nat) (x : Val), v = .agg #[.int .u32 (c : Int), .int .u32 (s : Int), .int .u16 (n : Int), .int .i64 e, .int .i64 k, .int .i64 i, .float .f64 f, .string t, .slice A m cc] ∧ VReads W W.heap.size x #[.int .i64 k, .int .i64 i, .float .f64 f, .string t, .slice A m cc] ∧ OkV x ∧ c < 4294967296 ∧ s < 4294967296 ∧ n < 65536 := by
  obtain ⟨ca, rfl, -⟩ := okWide_struct Try.underlying45 hval
  obtain ⟨fuel, hf⟩ := h
  have hw := List.all_eq_true.1 hsz
  have c9 : Try.prog.cellsOf 45 = 9 := by kernel_rfl
  have k0 : Try.prog.cellsOf 26 = 3 := by kernel_rfl
  have k1 : Try.prog.cellsOf 35 = 1 := by kernel_rfl
  have k2 : Try.prog.cellsOf 43 = 5 := by kernel_rfl
  have q0 : Try.prog.cellsOf 23 = 1 := by kernel_rfl
  have q1 : Try.prog.cellsOf 24 = 1 := by kernel_rfl
  obtain ⟨ys, n0, rfl, hd0, hl, hyl, hff⟩ := DataW.trod_struct Try.underlying45 hf
  have hdy : d = .agg (ys.map (·.1)) := by injection hd0
  rw [c9] at hl
  obtain ⟨cs, hcs⟩ : ∃ cs, ca.toList = cs := ⟨_, rfl⟩
  have hcc : (Value.agg ca).cells.toList = cs := hcs
  rw [hcc] at hl hff
  obtain ⟨a0, a1, a2, a3, a4, a5, a6, a7, a8, rfl⟩ : ∃ a0 a1 a2 a3 a4 a5 a6 a7 a8, cs = [a0, a1, a2, a3, a4, a5, a6, a7, a8] := by
    match cs, hl with
    | [a0, a1, a2, a3, a4, a5, a6, a7, a8], _ => exact ⟨a0, a1, a2, a3, a4, a5, a6, a7, a8, rfl⟩
  obtain ⟨y0, y1, y2, rfl⟩ : ∃ y0 y1 y2, ys = [y0, y1, y2] := by
    match ys, hyl with
    | [y0, y1, y2], _ => exact ⟨y0, y1, y2, rfl⟩
  have t0 : DataW.trod enc Try.prog W 0 (fun _ => true) true n0 26 (([a0, a1, a2, a3, a4, a5, a6, a7, a8].drop 0).take (Try.prog.cellsOf 26)) = some y0 := hff 0 _ rfl
  have t1 : DataW.trod enc Try.prog W 0 (fun _ => true) true n0 35 (([a0, a1, a2, a3, a4, a5, a6, a7, a8].drop 3).take (Try.prog.cellsOf 35)) = some y1 := hff 1 _ rfl
  have t2 : DataW.trod enc Try.prog W 0 (fun _ => true) true n0 43 (([a0, a1, a2, a3, a4, a5, a6, a7, a8].drop 4).take (Try.prog.cellsOf 43)) = some y2 := hff 2 _ rfl
  rw [k0] at t0
  rw [k1] at t1
  rw [k2] at t2
  simp only [List.drop_zero, List.take_succ_cons, List.take_zero, List.drop_succ_cons] at t0 t1 t2
  obtain ⟨e, e1, -, -⟩ := DataW.trod_int Try.underlying35 t1
  obtain ⟨zs, n1, rfl, -, -, hzl, hgg⟩ := DataW.trod_struct Try.underlying26 t0
  obtain ⟨z0, z1, z2, rfl⟩ : ∃ z0 z1 z2, zs = [z0, z1, z2] := by
    match zs, hzl with
    | [z0, z1, z2], _ => exact ⟨z0, z1, z2, rfl⟩
  have u0 : DataW.trod enc Try.prog W 0 (fun _ => true) true n1 23 (([a0, a1, a2].drop 0).take (Try.prog.cellsOf 23)) = some z0 := hgg 0 _ rfl
  have u1 : DataW.trod enc Try.prog W 0 (fun _ => true) true n1 23 (([a0, a1, a2].drop 1).take (Try.prog.cellsOf 23)) = some z1 := hgg 1 _ rfl
  have u2 : DataW.trod enc Try.prog W 0 (fun _ => true) true n1 24 (([a0, a1, a2].drop 2).take (Try.prog.cellsOf 24)) = some z2 := hgg 2 _ rfl
  rw [q0] at u0 u1
  rw [q1] at u2
  simp only [List.drop_zero, List.take_succ_cons, List.take_zero, List.drop_succ_cons] at u0 u1 u2
  obtain ⟨c, e2, -, wc⟩ := DataW.trod_int Try.underlying23 u0
  obtain ⟨s, e3, -, ws⟩ := DataW.trod_int Try.underlying23 u1
  obtain ⟨n, e4, -, wn⟩ := DataW.trod_int Try.underlying24 u2
  obtain ⟨c, rfl, bc⟩ := u32_nat wc
  obtain ⟨s, rfl, bs⟩ := u32_nat ws
  obtain ⟨n, rfl, bn⟩ := u16_nat wn
  simp at e1 e2 e3 e4
  subst e1 e2 e3 e4
  obtain ⟨x, ca', hc', hv, ho⟩ := open_tree _ _ _ t2 (fun u hu => by
    have h1 : u ∈ DataW.weights Try.prog 45 d := by
      unfold DataW.weights
      rw [Try.underlying45, hdy]
      exact DataW.weights_mem_each (j := 2) rfl rfl u hu
    have := hw _ (DataW.weights_mem_each hj hd u h1)
    simpa using this)
  obtain ⟨k, i, f, t, A, m, cc, hform⟩ := hv.form
  rw [hform] at hc' hv
  simp at hc'
  obtain ⟨rfl, rfl, rfl, rfl, rfl⟩ := hc'
  refine ⟨c, s, n, e, k, i, f, t, A, m, cc, x, ?_, hv, ho, bc, bs, bn⟩
  congr 1
  apply Array.toList_inj.1
  exact hcs
end
end Go.Proofs.Ytblakaddanoilaa
