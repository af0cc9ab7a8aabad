/- journal.Read at any bytes. -/
import Derived.Test.YtlkokkbikkbaoaaJRead
set_option linter.unusedSimpArgs false
set_option linter.unusedVariables false
set_option linter.unusedSimpArgs false
set_option linter.unusedVariables false
namespace Go.Proofs.Ytlkokkbikkbaoaa
open Go.RowKit
set_option maxRecDepth 100000

/-- A record, or none and the error. -/
def RecRd (w : World) (o : Option RecD) (e : Ending) (w' : World) : Prop :=
  match o with
  | some r => ∃ A' c' xs css, e = .returned (.tuple #[.agg #[.int .i64 r.k, .int .u64 (r.v : Int), .int .i64 r.n, .int .u32 (r.o.c : Int), .int .u32 (r.o.s : Int), .int .u16 (r.o.n : Int), .string (bstr r.o.g), .string (bstr r.o.m), .slice A' r.o.l.length c'], .int .i64 0]) ∧ VRow w' w.heap.size r.o.l A' c' xs css ∧ RecOk r ∧ Below w.heap.size w w'
  | none => e = .returned (.tuple #[.agg #[.int .i64 0, .int .u64 0, .int .i64 0, .int .u32 0, .int .u32 0, .int .u16 0, .string ⟨#[]⟩, .string ⟨#[]⟩, .slice none 0 0], .int .i64 20]) ∧ Below w.heap.size w w'

set_option maxHeartbeats 1600000 in
theorem jread_walk {A : Option Addr} {c : Nat} {b : List UInt8} {w : World} (h : Reads w w.heap.size 1 A b.length (bys b)) (hc : b.length ≤ c) (hl : b.length ≤ 1000000000) (Q : Option RecD) (hQ : rdRec b = Q) :
    Calls Try.prog 20 #[.slice A b.length c] w (RecRd w Q) := by
  have hz := Blk.new w 40 #[.int .i64 0, .int .u64 0, .int .i64 0, .int .u32 0, .int .u32 0, .int .u16 0, .string ⟨#[]⟩, .string ⟨#[]⟩, .slice none 0 0]
  have hb2 := (Below.refl w.heap.size w).alloc (Nat.le_refl _) (.cells #[.int .i64 0, .int .u64 0, .int .i64 0, .int .u32 0, .int .u32 0, .int .u16 0, .string ⟨#[]⟩, .string ⟨#[]⟩, .slice none 0 0] 40)
  have hrd := jread_in (c := c) ((h.below hb2).more hb2.size) hc hl Q hQ
  obtain ⟨N, hN⟩ : ∃ N, b.length = N := ⟨_, rfl⟩
  rw [hN] at hrd ⊢
  replace hrd := Lib.hid hrd
  clear h hc hl hQ hN
  go_enter Try.func20, Try.ntmps20
  go_wp2_with fail
  generalize w.alloc (.cells #[.int .i64 0, .int .u64 0, .int .i64 0, .int .u32 0, .int .u32 0, .int .u16 0, .string ⟨#[]⟩, .string ⟨#[]⟩, .slice none 0 0] 40) = w2 at *
  obtain ⟨z, hzz⟩ : ∃ z, w.heap.size = z := ⟨_, rfl⟩
  have hzw : w.heap.size ≤ z := by omega
  rw [hzz] at hz ⊢
  replace hzz := Lib.hid hzz
  refine hrd.out.mono ?_
  clear hrd
  cases Q with
  | none =>
    rintro e w3 ⟨k, v, n, c1, s1, m1, gg, mm, A', K, c', rfl, hb3⟩
    dsimp only
    have hz3 := (hz.below hb3 hz.lt).alloc (.cells #[.int .i64 k, .int .u64 v, .int .i64 n, .int .u32 c1, .int .u32 s1, .int .u16 m1, .string gg, .string mm, .slice A' K c'] 40)
    have hb4 := (below_then hb3 hb2).alloc (Nat.le_trans hb2.size hb3.size) (.cells #[.int .i64 k, .int .u64 v, .int .i64 n, .int .u32 c1, .int .u32 s1, .int .u16 m1, .string gg, .string mm, .slice A' K c'] 40)
    have hzr := hz3.row #[.int .i64 0, .int .u64 0, .int .i64 0, .int .u32 0, .int .u32 0, .int .u16 0, .string ⟨#[]⟩, .string ⟨#[]⟩, .slice none 0 0]
    have hbr := below_row hb4 (g := z) hzw #[.int .i64 0, .int .u64 0, .int .i64 0, .int .u32 0, .int .u32 0, .int .u16 0, .string ⟨#[]⟩, .string ⟨#[]⟩, .slice none 0 0]
    clear hz hb2 hb3
    go_wp2_with (refine store_row_gen rfl 40 (Operand.tmp 2) _ rfl z #[.int .i64 0, .int .u64 0, .int .i64 0, .int .u32 0, .int .u32 0, .int .u16 0, .string ⟨#[]⟩, .string ⟨#[]⟩, .slice none 0 0] (by simp [go_sem]) (by simp [go_sem]) 40 _ hz3 (by kernel_rfl) rfl (by simp [Value.oneCell']) (fun w9 hw9 => ?_); rw [← hw9] at hzr hbr; clear hw9)
    refine bodyPost_ret (v := .tuple #[.agg #[.int .i64 0, .int .u64 0, .int .i64 0, .int .u32 0, .int .u32 0, .int .u16 0, .string ⟨#[]⟩, .string ⟨#[]⟩, .slice none 0 0], .int .i64 20]) (by exact results_ct rfl _ _ z 40 _ (0, 0) _ _ rfl rfl hzr Try.underlying40 rfl (by kernel_rfl)) rfl ?_
    exact ⟨rfl, hbr⟩
  | some r =>
    obtain ⟨k, v, n, ⟨oc, os_, on, og', om', ol⟩⟩ := r
    rintro e w3 ⟨A', c', xs, css, rfl, hop, hok, hb3⟩
    dsimp only at hop ⊢
    obtain ⟨og, hog⟩ : ∃ og, bstr og' = og := ⟨_, rfl⟩
    obtain ⟨om, hom⟩ : ∃ om, bstr om' = om := ⟨_, rfl⟩
    obtain ⟨oL, hoL⟩ : ∃ oL, ol.length = oL := ⟨_, rfl⟩
    rw [hog, hom, hoL]
    have hw2 := hb2.size
    have hzl := hz.lt
    have hR3 := hop.upd ((Upd.refl (fun x => x = z) w3).alloc (.cells #[.int .i64 k, .int .u64 (v : Int), .int .i64 n, .int .u32 (oc : Int), .int .u32 (os_ : Int), .int .u16 (on : Int), .string og, .string om, .slice A' oL c'] 40)) (fun g hg e => by omega)
    have hR4 := hR3.upd ((Upd.refl (fun x => x = z) _).setRow (g := z) (fun _ => rfl) #[.int .i64 k, .int .u64 (v : Int), .int .i64 n, .int .u32 (oc : Int), .int .u32 (os_ : Int), .int .u16 (on : Int), .string og, .string om, .slice A' oL c']) (fun g hg e => by omega)
    replace hog := Lib.hid hog
    replace hom := Lib.hid hom
    replace hoL := Lib.hid hoL
    have hz3 := (hz.below hb3 hz.lt).alloc (.cells #[.int .i64 k, .int .u64 (v : Int), .int .i64 n, .int .u32 (oc : Int), .int .u32 (os_ : Int), .int .u16 (on : Int), .string og, .string om, .slice A' oL c'] 40)
    have hy3 := (Blk.new w3 40 #[.int .i64 k, .int .u64 (v : Int), .int .i64 n, .int .u32 (oc : Int), .int .u32 (os_ : Int), .int .u16 (on : Int), .string og, .string om, .slice A' oL c']).rec9
    have hb4 := (below_then hb3 hb2).alloc (Nat.le_trans hb2.size hb3.size) (.cells #[.int .i64 k, .int .u64 (v : Int), .int .i64 n, .int .u32 (oc : Int), .int .u32 (os_ : Int), .int .u16 (on : Int), .string og, .string om, .slice A' oL c'] 40)
    have hzr := hz3.row #[.int .i64 k, .int .u64 (v : Int), .int .i64 n, .int .u32 (oc : Int), .int .u32 (os_ : Int), .int .u16 (on : Int), .string og, .string om, .slice A' oL c']
    have hbr := below_row hb4 (g := z) hzw #[.int .i64 k, .int .u64 (v : Int), .int .i64 n, .int .u32 (oc : Int), .int .u32 (os_ : Int), .int .u16 (on : Int), .string og, .string om, .slice A' oL c']
    clear hz hb2 hb3 hop hR3
    go_wp2_with (refine store_row_gen rfl 40 (Operand.tmp 2) _ rfl z #[.int .i64 k, .int .u64 (v : Int), .int .i64 n, .int .u32 (oc : Int), .int .u32 (os_ : Int), .int .u16 (on : Int), .string og, .string om, .slice A' oL c'] (by simp [go_sem]) (by simp [go_sem]) 40 _ hz3 (by kernel_rfl) rfl (by simp [Value.oneCell']) (fun w9 hw9 => ?_); rw [← hw9] at hzr hbr hR4; clear hw9)
    refine bodyPost_ret (v := .tuple #[.agg #[.int .i64 k, .int .u64 (v : Int), .int .i64 n, .int .u32 (oc : Int), .int .u32 (os_ : Int), .int .u16 (on : Int), .string og, .string om, .slice A' oL c'], .int .i64 0]) (by exact results_ct rfl _ _ z 40 _ (0, 0) _ _ rfl rfl hzr Try.underlying40 rfl (by kernel_rfl)) rfl ?_
    refine ⟨A', c', _, _, ?_, hR4.down hw2, hok, hbr⟩
    dsimp only
    rw [hog.out, hom.out, hoL.out]
end Go.Proofs.Ytlkokkbikkbaoaa
