/- The chapter's example. -/
import Derived.Test.YtfhdnehheoligaaNp8
import Derived.Lib.SlBytesConst
set_option linter.unusedSimpArgs false
set_option linter.unusedVariables false
namespace Go.Proofs.Ytfhdnehheoligaa
open Go.RowKit
set_option maxRecDepth 100000

theorem s10 : sideB 1 0 = true := by decide +kernel
theorem s11 : sideB 1 1 = false := by decide +kernel
theorem s12 : sideB 1 2 = false := by decide +kernel
theorem tk1 : takeD 1 [(⟨0, 1, [120]⟩ : PkD), (⟨1, 2, []⟩ : PkD)] 0 = (zeroP, false) := by
  unfold takeD
  rw [if_pos (by decide)]
  show (if (sideB 1 0 == sideB 1 1) = true then _ else _) = _
  rw [s10, s11]
  rfl
theorem tk2 : takeD 1 [(⟨1, 2, []⟩ : PkD)] 0 = ((⟨1, 2, []⟩ : PkD), true) := by
  unfold takeD
  rw [if_pos (by decide)]
  show (if (sideB 1 1 == sideB 1 2) = true then _ else _) = _
  rw [s11, s12]
  rfl
theorem dr1 : dropL [(⟨0, 1, [120]⟩ : PkD), (⟨1, 2, []⟩ : PkD)] 0 = [(⟨1, 2, []⟩ : PkD)] := rfl
theorem dr2 : dropL [(⟨1, 2, []⟩ : PkD)] 0 = [] := rfl
theorem Reads.keep_ {w W : World} {S : Nat → Prop} {B size q n : Nat} {xs : List Value} (h : Reads w B size (some ⟨q, 0, none⟩) n xs) (hu : Upd S w W) (hq : ¬ S q) (hl : q < w.heap.size) : Reads W W.heap.size size (some ⟨q, 0, none⟩) n xs := by
  refine ⟨h.1, fun hn => ?_⟩
  obtain ⟨ad, e, -, hc⟩ := h.2 hn
  cases e
  refine ⟨_, rfl, Nat.lt_of_lt_of_le hl hu.size, fun j u hj => ?_⟩
  have h1 := hc j u hj
  rw [add_row] at h1 ⊢
  rw [← h1]
  unfold World.cell?
  rw [hu.block q hl hq]
theorem Chg.go {b : Nat} {w0 w w' : World} {F : Nat → Prop} {ty : TypeId} {g m m' : Nat} {l l' : List PkD} (h : Chg b w w' F ty g m' l') (hS : NetS b w F ty g m l) (hb : Below b w0 w) : ∃ F', NetS b w' F' ty g m' l' ∧ Below b w0 w' := by
  obtain ⟨hu, F', hN, -⟩ := h
  exact ⟨F', hN, hb.trans (hu.below hS.hbb (fun k hk e => by have := (hS.ft k e).2; omega))⟩
set_option maxHeartbeats 6400000 in
theorem known_true (w : World) : Calls Try.prog 4 #[] w (Says w (.bool true)) := by
  go_enter Try.func4, Try.ntmps4
  go_wp2_with fail
  refine (np_new w.heap.size w (Nat.le_refl _)).mono ?_
  rintro e w1 ⟨rfl, hS1, hb1⟩
  try dsimp only
  obtain ⟨G, hG⟩ : ∃ y, w.heap.size = y := ⟨_, rfl⟩
  have hs1 := hb1.size
  rw [hG] at hS1 ⊢
  have hGl := (hS1.ft G rfl).1
  obtain ⟨w2, hw2⟩ : ∃ q, q = w1.alloc (.cells #[.int .u8 120] 5 (1, 2)) := ⟨_, rfl⟩
  have hb12 : Below w1.heap.size w1 w2 := by rw [hw2]; exact (Below.refl _ _).alloc (Nat.le_refl _) _
  have hB2 : Reads w2 (w1.heap.size + 1) 1 (some ⟨w1.heap.size, 0, none⟩) 1 [.int .u8 120] := by rw [hw2]; exact Reads.lit w1 #[.int .u8 120] 5 (1, 2) 1 [.int .u8 120] rfl rfl
  have hql : w1.heap.size < w2.heap.size := by rw [hw2]; simp
  obtain ⟨q1, hq1⟩ : ∃ y, w1.heap.size = y := ⟨_, rfl⟩
  rw [hq1] at hB2 hql
  obtain ⟨w3, hw3⟩ : ∃ q, q = w2.alloc (.cells #[.int .i64 0, .int .i64 1, .slice (some ⟨q1, 0, none⟩) 1 1, .int .i64 1, .int .i64 2, .slice none 0 0] 33) := ⟨_, rfl⟩
  have hb23 : Below w2.heap.size w2 w3 := by rw [hw3]; exact (Below.refl _ _).alloc (Nat.le_refl _) _
  have hR3 : Own w3 33 3 (some ⟨w2.heap.size, 0, none⟩) 2 2 [.int .i64 0, .int .i64 1, .slice (some ⟨q1, 0, none⟩) 1 1, .int .i64 1, .int .i64 2, .slice none 0 0] := by rw [hw3]; exact Own.new w2 33 3 2 #[.int .i64 0, .int .i64 1, .slice (some ⟨q1, 0, none⟩) 1 1, .int .i64 1, .int .i64 2, .slice none 0 0] rfl (by decide)
  have hs12 := hb12.size
  have hs23 := hb23.size
  have hb13 := below_then hb23 hb12
  have hS3 := hS1.below hb13
  have hnF : ¬ (fun y => y = G) q1 := fun e => by have h1 : q1 = G := e; omega
  obtain ⟨A, c, xs, css, C, X3⟩ := hS3
  have hpk : ∀ k p, ([(⟨0, 1, [120]⟩ : PkD), (⟨1, 2, []⟩ : PkD)] : List PkD)[k]? = some p → PkHeld w3 (fun y => (y = G ∨ bOf A = some y) ∨ w3.heap.size ≤ y) p (if k = 0 then #[.int .i64 0, .int .i64 1, .slice (some ⟨q1, 0, none⟩) 1 1] else #[.int .i64 1, .int .i64 2, .slice none 0 0]) := fun k p hk => by
    match k with
    | 0 =>
      simp at hk
      subst hk
      intro S W hu hS
      have hq3 : Reads w3 w3.heap.size 1 (some ⟨q1, 0, none⟩) 1 [.int .u8 120] := hB2.keep_ (S := fun _ => False) (Upd.of_below_size hb23) (fun h => h) hql
      refine ⟨some ⟨q1, 0, none⟩, 1, rfl, hq3.keep_ hu (fun hs => ?_) (by omega)⟩
      rcases hS _ hs with e | e
      · have h1 := (X3.ft _ (X3.fo _ e).1).1
        have h2 := (X3.fo _ e).1
        have h3 := (hS1.ft q1)
        exact hnF h2
      · omega
    | 1 =>
      simp at hk
      subst hk
      exact fun S W _ _ => ⟨none, 0, rfl, rfl, fun h => absurd h (by simp)⟩
    | k + 2 => simp at hk
  have kc : Sem.run Try.prog (convert 31 31 (.slice (some ⟨q1, 0, none⟩) 1 1)) (w1.alloc (.cells #[.int .u8 120] 5)) = Result.ok (.slice (some ⟨q1, 0, none⟩) 1 1) (w1.alloc (.cells #[.int .u8 120] 5 (1, 2))) := by
    rw [← hq1]
    exact Lib.run_convert_bytes_const (P := Try.prog) w1 31 5 #[.int .u8 120] 1 1 Try.underlying31 Try.underlying5
  have hsz2 : w2.heap.size = q1 + 1 := by rw [hw2, ← hq1]; simp
  rw [hsz2] at hR3
  have hsend := np_send X3 hR3 rfl (fun y hy e => by
    have h1 : q1 + 1 = y := by injection hy
    have h2 := (X3.fo y e).1
    have h3 : y = G := h2
    omega) hpk (fun k p hk => by
    match k with
    | 0 => rfl
    | 1 => rfl
    | k + 2 => simp at hk) (by decide) (by intro p hp; simp at hp; rcases hp with rfl | rfl <;> decide)
  rw [List.nil_append] at hsend
  have hS3 : NetS G w3 (fun y => y = G) 47 G 0 [] := ⟨A, c, xs, css, C, X3⟩
  have hb03 : Below G w w3 := by rw [← hG]; exact below_then hb13 hb1
  replace hsend := Lib.hid hsend
  replace hS3 := Lib.hid hS3
  replace hb03 := Lib.hid hb03
  clear X3 hpk hR3 hB2
  go_wp2_with fail
  try rw [← hw2]
  try rw [← hw3]
  refine hsend.out.mono ?_
  clear hsend kc hw2 hw3
  rintro e w4 ⟨rfl, hC4⟩
  try dsimp only
  obtain ⟨F4, hS4, hb4⟩ := hC4.go hS3.out hb03.out
  have hpt := np_part (mask' := 1) hS4 (by decide)
  replace hpt := Lib.hid hpt
  replace hS4 := Lib.hid hS4
  replace hb4 := Lib.hid hb4
  clear hC4
  go_wp2_with fail
  refine hpt.out.mono ?_
  clear hpt
  rintro e w5 ⟨rfl, hC5⟩
  try dsimp only
  obtain ⟨F5, hS5, hb5⟩ := hC5.go hS4.out hb4.out
  have hta := np_take hS5 0
  rw [tk1, dr1] at hta
  replace hta := Lib.hid hta
  replace hS5 := Lib.hid hS5
  replace hb5 := Lib.hid hb5
  clear hC5
  go_wp2_with fail
  refine hta.out.mono ?_
  clear hta
  rintro e w6 ⟨cs6, rfl, hp6, hC6⟩
  obtain ⟨B6, c6, rfl, -⟩ := hp6.reads
  try dsimp only
  obtain ⟨F6, hS6, hb6⟩ := hC6.go hS5.out hb5.out
  clear hp6 hC6
  obtain ⟨w7, hw7⟩ : ∃ q, q = w6.alloc (.cells #[.int .i64 zeroP.f, .int .i64 zeroP.t, .slice B6 zeroP.b.length c6] 33) := ⟨_, rfl⟩
  have hb67 : Below w6.heap.size w6 w7 := by rw [hw7]; exact (Below.refl _ _).alloc (Nat.le_refl _) _
  have hS7 := hS6.below hb67
  have hb7 := hb6.trans (hb67.mono hS6.hbb)
  have htb := np_take hS7 0
  rw [tk2, dr2] at htb
  replace htb := Lib.hid htb
  replace hS7 := Lib.hid hS7
  replace hb7 := Lib.hid hb7
  go_upto_region 7 with (fail)
  try rw [← hw7]
  clear hw7
  go_wp2_with fail
  refine htb.out.mono ?_
  clear htb
  rintro e w8 ⟨cs8, rfl, hp8, hC8⟩
  obtain ⟨B8, c8, rfl, -⟩ := hp8.reads
  try dsimp only
  obtain ⟨F8, hS8, hb8⟩ := hC8.go hS7.out hb7.out
  clear hp8 hC8
  obtain ⟨w9, hw9⟩ : ∃ q, q = w8.alloc (.cells #[.int .i64 1, .int .i64 2, .slice B8 0 c8] 33) := ⟨_, rfl⟩
  have hb89 : Below w8.heap.size w8 w9 := by rw [hw9]; exact (Below.refl _ _).alloc (Nat.le_refl _) _
  have hx9 : Blk w9 w8.heap.size 33 #[.int .i64 1, .int .i64 2, .slice B8 0 c8] := by rw [hw9]; exact Blk.new w8 _ _
  have hS9 := hS8.below hb89
  have hb9 := hb8.trans (hb89.mono hS8.hbb)
  obtain ⟨y9, hy9⟩ : ∃ y, w8.heap.size = y := ⟨_, rfl⟩
  rw [hy9] at hx9
  have hj1 := np_joined hS9 0 1
  rw [s10, s11] at hj1
  replace hj1 := Lib.hid hj1
  replace hS9 := Lib.hid hS9
  replace hb9 := Lib.hid hb9
  go_upto_region 8 with (fail)
  try rw [← hw9]
  try rw [hy9]
  clear hw9
  go_wp2_with fail
  refine hj1.out.mono ?_
  clear hj1
  rintro e wa ⟨rfl, hba⟩
  try dsimp only
  have hSa := hS9.out.below hba
  have hj2 := np_joined hSa 1 2
  rw [s11, s12] at hj2
  replace hj2 := Lib.hid hj2
  replace hSa := Lib.hid hSa
  go_wp2_with fail
  refine hj2.out.mono ?_
  clear hj2
  rintro e wb ⟨rfl, hbb⟩
  try dsimp only
  have hxb := (hx9.below hba hx9.lt).below hbb (by have := hx9.lt; have := hba.size; omega)
  have k0 := hxb.cell 0
  have hSb := hSa.out.below hbb
  have hle := np_len hSb
  rw [List.length_nil] at hle
  have hbB := (hb9.out.trans (hba.mono hS9.out.hbb)).trans (hbb.mono hSa.out.hbb)
  replace hle := Lib.hid hle
  replace hbB := Lib.hid hbB
  replace hSb := Lib.hid hSb
  go_wp2_with fail
  refine hle.out.mono ?_
  clear hle
  rintro e wc ⟨rfl, hbc⟩
  try dsimp only
  go_wp2_with fail
  go_ret
  refine ⟨rfl, ?_⟩
  rw [hG]
  exact hbB.out.trans (hbc.mono hSb.out.hbb)
end Go.Proofs.Ytfhdnehheoligaa
