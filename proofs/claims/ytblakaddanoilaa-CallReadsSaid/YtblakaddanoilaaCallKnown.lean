/- Calls: the chapter's example. -/
import Derived.Test.YtblakaddanoilaaOpEnc
import Derived.Test.YtblakaddanoilaaSameO
namespace Go.Proofs.Ytblakaddanoilaa
open Go.RowKit
set_option maxRecDepth 100000

def op0 : OpD := ⟨1, 2, 0, [103], [109], [.mk 1 3 0 [] []]⟩
theorem val1_reads (w : World) (B : Nat) (k i : Int) (f : Nat) : VReads w B (.mk k i f [] []) #[.int .i64 k, .int .i64 i, .float .f64 f, .string ⟨#[]⟩, .slice none 0 0] :=
  .mk (l := []) (s := []) (A := none) (c := 0) (xs := []) (fun _ => #[]) (by simp) ⟨rfl, by simp⟩ (by simp) (by simp)
theorem val1_ok (k i : Int) (f : Nat) (hf : f < 18446744073709551616) (hi : -9223372036854775808 ≤ i ∧ i ≤ 9223372036854775807) : OkV (.mk k i f [] []) := .mk hf hi (by simp) (by simp)
theorem op0_err : errO op0 = 0 := by decide +kernel
theorem op0_bytes : ([] ++ bytesO op0).length = 26 := by decide +kernel
theorem op0_ok : ∀ v ∈ op0.l, OkV v := by
  intro v hv
  simp [op0] at hv
  subst hv
  exact val1_ok 1 3 0 (by decide) (by decide)
theorem op0_read : rdOp ([] ++ bytesO op0) = some (op0, 26) := by
  have := rdOp_enc op0 [] op0_ok (by decide) (by decide) (by decide) op0_err
  rw [List.append_nil] at this
  rw [List.nil_append, this, ← List.nil_append (bytesO op0), op0_bytes]
  rfl
theorem op0_same : sameO op0 op0 = true := by decide +kernel
theorem op0_reads {w : World} {g : Nat} {t : TypeId} (h : Blk w g t #[.int .i64 1, .int .i64 3, .float .f64 0, .string ⟨#[]⟩, .slice none 0 0]) (c : Nat) :
    OpReads w w.heap.size op0 #[.int .u32 1, .int .u32 2, .int .u16 0, .string ⟨#[103]⟩, .string ⟨#[109]⟩, .slice (some ⟨g, 0, none⟩) 1 c] := by
  refine ⟨some ⟨g, 0, none⟩, c, [.int .i64 1, .int .i64 3, .float .f64 0, .string ⟨#[]⟩, .slice none 0 0], fun _ => #[.int .i64 1, .int .i64 3, .float .f64 0, .string ⟨#[]⟩, .slice none 0 0], rfl, ⟨rfl, fun _ => ⟨⟨g, 0, none⟩, rfl, h.lt, fun j u hj => by rw [add_row]; exact (h.cell j).trans (by simpa using hj)⟩⟩, ?_, ?_, by decide, op0_ok, by decide, by decide, by decide⟩
  · intro j v hv
    cases j with
    | zero =>
      simp [op0] at hv
      subst hv
      exact val1_reads w _ 1 3 0
    | succ j => simp [op0] at hv
  · intro j hj
    have : j = 0 := by simp [op0] at hj; exact hj
    subst this
    rfl
theorem rep0_err : errR 30 (.mk 0 0 0 [] []) = 0 := by decide +kernel
theorem rep0_len : ([] ++ bytesR 1 2 0 30 (.mk 0 0 0 [] [])).length = 13 := by decide +kernel
theorem rep0_read : rdRep ([] ++ bytesR 1 2 0 30 (.mk 0 0 0 [] [])) = some ((1, 2, 0, 30), .mk 0 0 0 [] [], 13) := by
  have := rdRep_enc 1 2 0 30 (.mk 0 0 0 [] []) [] (val1_ok 0 0 0 (by decide) (by decide)) (by decide) (by decide) (by decide) rep0_err
  rw [List.append_nil] at this
  rw [List.nil_append, this, ← List.nil_append (bytesR _ _ _ _ _), rep0_len]
  rfl

theorem Blk.op6 {w : World} {g : Nat} {t : TypeId} {a b c d e f : Value} (h : Blk w g t #[a, b, c, d, e, f]) : w.cell? ⟨g, 0, none⟩ = some a ∧ w.cell? ⟨g, 1, none⟩ = some b ∧ w.cell? ⟨g, 2, none⟩ = some c ∧ w.cell? ⟨g, 3, none⟩ = some d ∧ w.cell? ⟨g, 4, none⟩ = some e ∧ w.cell? ⟨g, 5, none⟩ = some f := ⟨h.cell 0, h.cell 1, h.cell 2, h.cell 3, h.cell 4, h.cell 5⟩

theorem VReads.up {w : World} {B B' : Nat} {v : Val} {cs : Array Value} (h : VReads w B v cs) (hB : B ≤ B') : VReads w B' v cs := by
  induction h with
  | mk css hn hr hx hxs ih => exact .mk css hn (hr.more hB) (fun j v hv => ih j v hv) hxs
theorem OpReads.up {w : World} {B B' : Nat} {o : OpD} {cs : Array Value} (h : OpReads w B o cs) (hB : B ≤ B') : OpReads w B' o cs := by
  obtain ⟨A, cc, xs, css, h1, h2, h3, h4, h5, h6⟩ := h
  exact ⟨A, cc, xs, css, h1, h2.more hB, fun j v hv => (h3 j v hv).up hB, h4, h5, h6⟩
theorem op_of_row {w : World} {b : Nat} {o : OpD} {A : Option Addr} {c : Nat} {xs : List Value} {css : Nat → Array Value} (R : VRow w b o.l A c xs css) (hn : o.l.length ≤ 2199023255488) (hok : ∀ v ∈ o.l, OkV v) (h1 : o.c < 4294967296) (h2 : o.s < 4294967296) (h3 : o.n < 65536) :
    OpReads w w.heap.size o #[.int .u32 o.c, .int .u32 o.s, .int .u16 o.n, .string (bstr o.g), .string (bstr o.m), .slice A o.l.length c] :=
  ⟨A, c, xs, css, rfl, R.ho.reads_, fun j v hv => (R.hx j v hv).reads, R.hxs, hn, hok, h1, h2, h3⟩

set_option maxHeartbeats 6400000 in
theorem known_true (w : World) : Calls Try.prog 8 #[] w (Says w (.bool true)) := by
  have hsf := fun a k x m w => run_store_float (P := Try.prog) a k x m w
  go_enter Try.func8, Try.ntmps8
  go_wp2_with fail
  refine (int_ref 3 _).mono ?_
  rintro e w1 ⟨rfl, hb1⟩
  dsimp only
  have hrow := (Blk.new w1 43 #[.int .i64 1, .int .i64 3, .float .f64 0, .string ⟨#[]⟩, .slice none 0 0]).alloc (.cells #[.int .u32 1, .int .u32 2, .int .u16 0, .string ⟨#[103]⟩, .string ⟨#[109]⟩, .slice (some ⟨w1.heap.size, 0, none⟩) 1 1] 29)
  have hop := Blk.new (w1.alloc (.cells #[.int .i64 1, .int .i64 3, .float .f64 0, .string ⟨#[]⟩, .slice none 0 0] 43)) 29 #[.int .u32 1, .int .u32 2, .int .u16 0, .string ⟨#[103]⟩, .string ⟨#[109]⟩, .slice (some ⟨w1.heap.size, 0, none⟩) 1 1]
  have hb2 := (hb1.alloc hb1.size (.cells #[.int .i64 1, .int .i64 3, .float .f64 0, .string ⟨#[]⟩, .slice none 0 0] 43)).alloc (by have := hb1.size; simp; omega) (.cells #[.int .u32 1, .int .u32 2, .int .u16 0, .string ⟨#[103]⟩, .string ⟨#[109]⟩, .slice (some ⟨w1.heap.size, 0, none⟩) 1 1] 29)
  have s1 : (w1.alloc (.cells #[.int .i64 1, .int .i64 3, .float .f64 0, .string ⟨#[]⟩, .slice none 0 0] 43)).heap.size = w1.heap.size + 1 := by simp
  rw [s1] at hop
  clear s1
  have hput := call_put (A0 := none) (ca := 0) (bs := []) (op0_reads hrow 1) (Nat.le_refl _) ⟨rfl, by simp⟩ (by simp) (by decide) (by decide)
  go_wp2_with fail
  refine hput.mono ?_
  clear hput
  rintro e w3 ⟨hok, -⟩
  obtain ⟨A3, c3, rfl, ho3, hb3', hA3⟩ := hok op0_err
  dsimp only
  have hb3 := below_then hb3' hb2
  have hrow3 := hrow.below hb3' hrow.lt
  have hop3 := hop.below hb3' hop.lt
  have hs1 := hb1.size
  clear hrow hop hb2 hb3' hb1 hok
  have hA3c := fun h => ho3.none_cap h
  have hc3 := ho3.le_cap
  have hrd := call_read ho3.reads_ hA3c hc3 (by rw [op0_bytes]; decide) _ op0_read
  rw [op0_bytes] at hrd ⊢
  clear ho3 hA3c hc3 hA3
  go_wp2_with fail
  refine hrd.mono ?_
  clear hrd
  rintro e w4 ⟨A4, c4, xs4, css4, rfl, R4, hb4'⟩
  have hO4 : OpReads w4 w4.heap.size op0 #[.int .u32 1, .int .u32 2, .int .u16 0, .string ⟨#[103]⟩, .string ⟨#[109]⟩, .slice A4 1 c4] := op_of_row R4 (by decide) op0_ok (by decide) (by decide) (by decide)
  have e24 : (.agg #[.int .u32 op0.c, .int .u32 op0.s, .int .u16 op0.n, .string (bstr op0.g), .string (bstr op0.m), .slice A4 op0.l.length c4] : Value) = .agg #[.int .u32 1, .int .u32 2, .int .u16 0, .string ⟨#[103]⟩, .string ⟨#[109]⟩, .slice A4 1 c4] := rfl
  rw [e24]
  dsimp only
  have hrow4 := hrow3.below hb4' hrow3.lt
  have hop4 := hop3.below hb4' hop3.lt
  have hb4 := below_then hb4' hb3
  clear hrow3 hop3 hb4' hb3 e24 R4
  have hq5 := (Blk.new w4 29 #[.int .u32 1, .int .u32 2, .int .u16 0, .string ⟨#[103]⟩, .string ⟨#[109]⟩, .slice A4 1 c4])
  have hbq : Below w4.heap.size w4 (w4.alloc (.cells #[.int .u32 1, .int .u32 2, .int .u16 0, .string ⟨#[103]⟩, .string ⟨#[109]⟩, .slice A4 1 c4] 29)) := (Below.refl _ w4).alloc (Nat.le_refl _) _
  have hO5 := (hO4.below hbq).up hbq.size
  have hrow5 := hrow4.below hbq hrow4.lt
  have hop5 := hop4.below hbq hop4.lt
  have hb5 := below_then hbq hb4
  clear hO4 hrow4 hop4 hbq hb4
  obtain ⟨p0, p1, p2, p3, p4, p5⟩ := hop5.op6
  have hpr := call_put_reply (A0 := none) (ca := 0) (bs := []) (er := 30) (c := 1) (s := 2) (n := 0) (val1_reads (w4.alloc (.cells #[.int .u32 1, .int .u32 2, .int .u16 0, .string ⟨#[103]⟩, .string ⟨#[109]⟩, .slice A4 1 c4] 29)) _ 0 0 0) (val1_ok 0 0 0 (by decide) (by decide)) (Nat.le_refl _) ⟨rfl, by simp⟩ (by simp) (by decide) (by decide) (by decide)
  go_wp2_with fail
  refine hpr.mono ?_
  clear hpr
  rintro e w6 ⟨hok, -⟩
  obtain ⟨A6, c6, rfl, ho6, hb6', hA6⟩ := hok rep0_err
  dsimp only
  have hO6 := (hO5.below hb6').up hb6'.size
  have hrow6 := hrow5.below hb6' hrow5.lt
  have hop6 := hop5.below hb6' hop5.lt
  have hq6 := hq5.below hb6' hq5.lt
  have hb6 := below_then hb6' hb5
  clear hO5 hrow5 hop5 hq5 hb6' hb5 p0 p1 p2 p3 p4 p5 hok hA6
  have hA6c := fun h => ho6.none_cap h
  have hc6 := ho6.le_cap
  have hrd := call_read_reply ho6.reads_ hA6c hc6 (by rw [rep0_len]; decide) _ rep0_read
  rw [rep0_len] at hrd ⊢
  clear ho6 hA6c hc6
  go_wp2_with fail
  refine hrd.mono ?_
  clear hrd
  rintro e w7 ⟨k, i, f, t, A', n', c', rfl, -, hb7'⟩
  dsimp only
  have hO7 := (hO6.below hb7').up hb7'.size
  have hrow7 := hrow6.below hb7' hrow6.lt
  have hop7 := hop6.below hb7' hop6.lt
  have hq7 := hq6.below hb7' hq6.lt
  have hb7 := below_then hb7' hb6
  clear hO6 hrow6 hop6 hq6 hb7' hb6
  have hn8 := Blk.new w7 45 #[.int .u32 1, .int .u32 2, .int .u16 0, .int .i64 30, .int .i64 k, .int .i64 i, .float .f64 f, .string t, .slice A' n' c']
  have hbq : Below w7.heap.size w7 (w7.alloc (.cells #[.int .u32 1, .int .u32 2, .int .u16 0, .int .i64 30, .int .i64 k, .int .i64 i, .float .f64 f, .string t, .slice A' n' c'] 45)) := (Below.refl _ w7).alloc (Nat.le_refl _) _
  have hO8 := (hO7.below hbq).up hbq.size
  have hrow8 := hrow7.below hbq hrow7.lt
  have hop8 := hop7.below hbq hop7.lt
  have hq8 := hq7.below hbq hq7.lt
  have hb8 := below_then hbq hb7
  clear hO7 hrow7 hop7 hq7 hbq hb7
  obtain ⟨p0, p1, p2, p3, p4, p5⟩ := hop8.op6
  obtain ⟨q0, q1, q2, q3, q4, q5⟩ := hq8.op6
  have hsm := op_same (op0_reads hrow8 1) hO8 _ (Below.refl _ _) (Nat.le_refl _)
  have hcs := fun (w2 : World) (hb : Below (w7.alloc (.cells #[.int .u32 1, .int .u32 2, .int .u16 0, .int .i64 30, .int .i64 k, .int .i64 i, .float .f64 f, .string t, .slice A' n' c'] 45)).heap.size (w7.alloc (.cells #[.int .u32 1, .int .u32 2, .int .u16 0, .int .i64 30, .int .i64 k, .int .i64 i, .float .f64 f, .string t, .slice A' n' c'] 45)) w2) => call_same (op0_reads hrow8 1) hO8 w2 hb hb.size
  rw [op0_same] at hcs
  replace hcs := Lib.hid hcs
  clear hO8 hrow8
  go_wp2_with fail
  refine hsm.mono ?_
  clear hsm
  rintro e w9 ⟨rfl, hb9'⟩
  dsimp only
  have hop9 := hop8.below hb9' hop8.lt
  have hq9 := hq8.below hb9' hq8.lt
  have hn9 := (hn8.below hb9' hn8.lt).cell 3
  have hb9 := below_then hb9' hb8
  clear hop8 hq8 hn8 hb8 p0 p1 p2 p3 p4 p5 q0 q1 q2 q3 q4 q5
  obtain ⟨p0, p1, p2, p3, p4, p5⟩ := hop9.op6
  obtain ⟨q0, q1, q2, q3, q4, q5⟩ := hq9.op6
  go_wp2_with fail
  refine (hcs.out _ hb9').mono ?_
  rintro e w10 ⟨rfl, hb10'⟩
  dsimp only
  have hb10 := below_then hb10' hb9
  go_wp2_with fail
  go_ret
  exact ⟨rfl, hb10⟩
end Go.Proofs.Ytblakaddanoilaa
