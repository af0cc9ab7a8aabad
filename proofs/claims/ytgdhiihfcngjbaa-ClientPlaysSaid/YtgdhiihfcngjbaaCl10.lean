/- (*client.Stub).Recv. -/
import Derived.Test.YtgdhiihfcngjbaaCl8
set_option linter.unusedSimpArgs false
set_option linter.unusedVariables false
namespace Go.Proofs.Ytgdhiihfcngjbaa
open Go.RowKit
set_option maxRecDepth 100000

/-- What Recv makes of a stub: its state, and whether the reply counts. -/
def recvD (d : CliD) (r : RplD) : CliD × Bool := match d.op.findIdx? (isId r.c r.s r.n) with
  | none => (d, false)
  | some j => if r.e = 41 ∨ r.e = 42 then (d, false) else (⟨d.id, d.seq, d.op.eraseIdx j, d.rp ++ [r]⟩, true)
theorem FoundO.idx {l : List OpnD} {c s n : Nat} {z : Int} (h : FoundO l c s n z) : (z = -1 ∧ l.findIdx? (isId c s n) = none) ∨ ∃ j : Nat, z = (j : Int) ∧ j < l.length ∧ l.findIdx? (isId c s n) = some j := by
  rcases h with ⟨rfl, h⟩ | ⟨k, x, rfl, hx, h1, h2⟩
  · exact .inl ⟨rfl, List.findIdx?_eq_none_iff.2 h⟩
  · have hk : k < l.length := by
      rcases Nat.lt_or_ge k l.length with h' | h'
      · exact h'
      · rw [List.getElem?_eq_none h'] at hx; cases hx
    refine .inr ⟨k, rfl, hk, ?_⟩
    rw [List.findIdx?_eq_some_iff_getElem]
    rw [List.getElem?_eq_getElem hk] at hx
    cases hx
    refine ⟨hk, h1, fun j hj => ?_⟩
    have := h2 l[j] (by rw [List.mem_take_iff_getElem]; exact ⟨j, by omega, rfl⟩)
    simp [this]
set_option maxHeartbeats 3200000 in
theorem cl_recv {w : World} {F : Nat → Prop} {g : Nat} {d : CliD} {A : Option Addr} {c : Nat} {A2 : Option Addr} {c2 : Nat} {xs xs2 : List Value} {css css2 : Nat → Array Value} {rc rs rn B : Nat} {er k i : Int} {f : Nat} {s : ByteArray} {Av : Option Addr} {nv cv : Nat} {v : Val} (h : StubX w F g d A c A2 c2 xs xs2 css css2) (hv : VReads w B v #[.int .i64 k, .int .i64 i, .float .f64 f, .string s, .slice Av nv cv]) (hB : B ≤ w.heap.size) (hok : OkV v) (hr4 : d.rp.length < 1000000) :
    Calls Try.prog 9 #[.pointer (some ⟨g, 0, none⟩), .agg #[.int .u32 (rc : Int), .int .u32 (rs : Int), .int .u16 (rn : Int), .int .i64 er, .int .i64 k, .int .i64 i, .float .f64 f, .string s, .slice Av nv cv]] w (fun e w' => e = .returned (.bool (recvD d ⟨rc, rs, rn, er, cleanV v⟩).2) ∧ Upd F w w' ∧ ∃ F', StubS w' F' g (recvD d ⟨rc, rs, rn, er, cleanV v⟩).1 ∧ ∀ y, F' y → F y ∨ w.heap.size ≤ y) := by
  obtain ⟨R, hR⟩ : ∃ q, recvD d ⟨rc, rs, rn, er, cleanV v⟩ = q := ⟨_, rfl⟩
  rw [hR]
  have hb1 := (Below.refl w.heap.size w).alloc (Nat.le_refl _) (.cells #[.int .u32 (rc : Int), .int .u32 (rs : Int), .int .u16 (rn : Int), .int .i64 er, .int .i64 k, .int .i64 i, .float .f64 f, .string s, .slice Av nv cv] 39)
  have hx1 := Blk.new w 39 #[.int .u32 (rc : Int), .int .u32 (rs : Int), .int .u16 (rn : Int), .int .i64 er, .int .i64 k, .int .i64 i, .float .f64 f, .string s, .slice Av nv cv]
  obtain ⟨p, hp⟩ : ∃ y, w.heap.size = y := ⟨_, rfl⟩
  rw [hp] at hx1
  have hlen := h.blk
  have hn4 := h.hn
  have hgl := h.blk.lt
  have h1 := h.below hb1
  have hx' := hlen.below hb1 hgl
  replace h := Lib.hid h
  go_enter Try.func9, Try.ntmps9
  go_upto_region 1 with (fail)
  have hv1 := hv.under (hb1.mono hB)
  have hw1 := hb1.size
  generalize w.alloc (.cells #[.int .u32 (rc : Int), .int .u32 (rs : Int), .int .u16 (rn : Int), .int .i64 er, .int .i64 k, .int .i64 i, .float .f64 f, .string s, .slice Av nv cv] 39) = w1 at *
  try rw [hp]
  have hidx := idx_open h1 (rc := rc) (rs := rs) (rn := rn) hx1.lt (hx1.cell 0) (hx1.cell 1) (hx1.cell 2)
  obtain ⟨N, hN⟩ : ∃ q, d.op.length = q := ⟨_, rfl⟩
  rw [hN] at hidx hx'
  have g2 : w1.cell? ⟨g, 2, none⟩ = some (.slice A N c) := hx'.cell 2
  clear hx' hlen
  replace hN := Lib.hid hN
  replace hidx := Lib.hid hidx
  replace h1 := Lib.hid h1
  replace hv1 := Lib.hid hv1
  go_wp2_with fail
  refine hidx.out.mono ?_
  clear hidx
  rintro e w2 ⟨z, rfl, hz, hb2⟩
  try dsimp only
  have hb02 := below_then hb2 hb1
  have h2 := h1.out.below hb2
  have hx2 := hx1.below hb2 hx1.lt
  have p0 := hx2.cell 0
  have p1 := hx2.cell 1
  have p2 := hx2.cell 2
  have p3 := hx2.cell 3
  have p4 := hx2.cell 4
  have p5 := hx2.cell 5
  have p6 := hx2.cell 6
  have p7 := hx2.cell 7
  have p8 := hx2.cell 8
  have hv2 := hv1.out.under (hb2.mono (Nat.le_trans hB hw1))
  have hw2 := hb2.size
  rcases hz.idx with ⟨rfl, hi⟩ | ⟨j, rfl, hj, hi⟩
  · have hRd : R = (d, false) := by rw [← hR]; unfold recvD; rw [show d.op.findIdx? (isId rc rs rn) = none from hi]
    clear hR hz
    subst hRd
    replace h2 := Lib.hid h2
    replace hv2 := Lib.hid hv2
    go_wp2_with fail
    go_ret
    exact ⟨rfl, Upd.of_below_size hb02, F, ⟨_, _, _, _, _, _, _, _, h2.out⟩, fun _ hf => .inl hf⟩
  · have hd : decide ((j : Int) < 0) = false := decide_eq_false (by omega)
    by_cases h41 : er = 41
    · have hRd : R = (d, false) := by rw [← hR]; unfold recvD; rw [show d.op.findIdx? (isId rc rs rn) = some j from hi]; simp [h41]
      have e41 : (er == 41) = true := by simp [h41]
      clear hR hz h41
      subst hRd
      replace h2 := Lib.hid h2
      replace hv2 := Lib.hid hv2
      go_wp2_with fail
      go_ret
      exact ⟨rfl, Upd.of_below_size hb02, F, ⟨_, _, _, _, _, _, _, _, h2.out⟩, fun _ hf => .inl hf⟩
    · have e41 : (er == 41) = false := by simp [h41]
      by_cases h42 : er = 42
      · have hRd : R = (d, false) := by rw [← hR]; unfold recvD; rw [show d.op.findIdx? (isId rc rs rn) = some j from hi]; simp [h42]
        have e42 : (er == 42) = true := by simp [h42]
        clear hR hz h41 h42
        subst hRd
        replace h2 := Lib.hid h2
        replace hv2 := Lib.hid hv2
        go_wp2_with fail
        go_ret
        exact ⟨rfl, Upd.of_below_size hb02, F, ⟨_, _, _, _, _, _, _, _, h2.out⟩, fun _ hf => .inl hf⟩
      · have e42 : (er == 42) = false := by simp [h42]
        have hRd : R = (⟨d.id, d.seq, d.op.eraseIdx j, d.rp ++ [⟨rc, rs, rn, er, cleanV v⟩]⟩, true) := by rw [← hR]; unfold recvD; rw [show d.op.findIdx? (isId rc rs rn) = some j from hi]; simp [h41, h42]
        have hans := cl_answer h2 (rc := rc) (rs := rs) (rn := rn) (er := er) hv2 (Nat.le_trans hB (Nat.le_trans hw1 hw2)) hok hj hr4
        clear hR hz h41 h42 hi
        subst hRd
        replace hans := Lib.hid hans
        replace h2 := Lib.hid h2
        replace hv2 := Lib.hid hv2
        go_wp2_with fail
        refine hans.out.mono ?_
        clear hans
        rintro e w3 ⟨rfl, hu3, F', hS3, hF3⟩
        try dsimp only
        go_wp2_with fail
        go_ret
        exact ⟨rfl, (Upd.of_below_size hb02).trans hu3 (fun _ _ e => e), F', hS3, fun y hy => (hF3 y hy).elim .inl (fun e => .inr (by omega))⟩
end Go.Proofs.Ytgdhiihfcngjbaa
