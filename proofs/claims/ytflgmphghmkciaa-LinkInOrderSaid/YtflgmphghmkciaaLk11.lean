/- The chapter's example. -/
import Derived.Test.YtflgmphghmkciaaLk10
import Derived.Lib.SlBytesConst
set_option linter.unusedSimpArgs false
set_option linter.unusedVariables false
namespace Go.Proofs.Ytflgmphghmkciaa
open Go.RowKit
set_option maxRecDepth 100000

theorem opened_zz : opened [122, 122] = ([], 0, 23) := by decide +kernel
def kA0 : LkD := ⟨1, 0, [], 1, 0, false, 0⟩
def kA1 : LkD := ⟨1, 0, [([120], true)], 1, 0, false, 0⟩
def kA2 : LkD := ⟨1, 0, [([120], false)], 1, 0, false, 0⟩
def kB1 : LkD := ⟨1, 1, [], 1, 1, true, 0⟩
def kP : Pk := ⟨1, 0, 0, 1, [120]⟩
theorem k_ok (d : LkD) (h : d = kA0 ∨ d = kA1 ∨ d = kA2 ∨ d = kB1) : LkOk d := by
  rcases h with rfl | rfl | rfl | rfl <;> refine ⟨by decide, by decide, by decide, fun m hm => ?_, by decide, by decide, by decide⟩
  · cases hm
  · cases List.mem_singleton.1 hm; decide
  · cases List.mem_singleton.1 hm; decide
  · cases hm
theorem Stp.no7 {col col' : Nat → Nat} {k : Nat} {w w' : World} (h : Stp col k w col' w') (hk : k ≠ 7) (h7 : ∀ y, col y ≠ 7) : ∀ y, col' y ≠ 7 := fun y e => by
  rcases h.nw y with h1 | h1 | h1
  · omega
  · rw [h1] at e; exact h7 y e
  · omega
theorem k1 : outsD kA1 = [kP.enc] := rfl
theorem k2 : outS kA1 = kA2 := rfl
theorem k3 : recvD kA0 kP = kB1 := rfl
theorem k4 : recvM kA0 kP = [[120]] := rfl
theorem k5 : recvD kB1 kP = kB1 := rfl
theorem k6 : recvM kB1 kP = [] := rfl
theorem recv_kA {col : Nat → Nat} {w : World} {g : Nat} {B : Option Addr} {cb NP : Nat} (hc : Cx w col) (h : LinkC col 2 w g kA0) (hr : FrB col w B kP.enc) (hN : kP.enc.length = NP) (hbc : NP ≤ cb) : Calls Try.prog 8 #[lnk g, .slice B NP cb] w (RecvRes col 2 w g kB1 [[120]]) := by
  have := lk_recv (p := kP) (cb := cb) hc h (k_ok _ (.inl rfl)) hr.1 (by omega) (by decide) (by decide) (by decide) (by decide) (by decide) (fun e => by cases e) (by decide) (fun e => by cases e)
  rw [k3, k4, hN] at this
  exact this
theorem recv_kB {col : Nat → Nat} {w : World} {g : Nat} {B : Option Addr} {cb NP : Nat} (hc : Cx w col) (h : LinkC col 2 w g kB1) (hr : FrB col w B kP.enc) (hN : kP.enc.length = NP) (hbc : NP ≤ cb) : Calls Try.prog 8 #[lnk g, .slice B NP cb] w (RecvRes col 2 w g kB1 []) := by
  have := lk_recv (p := kP) (cb := cb) hc h (k_ok _ (.inr (.inr (.inr rfl)))) hr.1 (by omega) (by decide) (by decide) (by decide) (by decide) (by decide) (fun e => by cases e) (by decide) (fun e => by cases e)
  rw [k5, k6, hN] at this
  exact this
set_option maxHeartbeats 6400000 in
theorem known_true (w : World) : Calls Try.prog 4 #[] w (Says w (.bool true)) := by
  have hc0 : Cx w (fun _ => 0) := fun _ _ => rfl
  have hB0 : Bas w.heap.size w w (fun _ => 0) := ⟨Below.refl _ _, Nat.le_refl _, fun _ _ => rfl⟩
  go_enter Try.func4, Try.ntmps4
  go_wp2_with fail
  refine (lk_new (k := 1) (life := 1) hc0 (by decide) (by decide)).mono ?_
  rintro e w1 ⟨ga, col1, rfl, hs1, hA1⟩
  unfold lnk
  try dsimp only
  have hB1 := hB0.go hs1 (by decide)
  have hs1' := hs1
  go_wp2_with fail
  refine (lk_new (k := 2) (life := 1) hs1.cx (by decide) (by decide)).mono ?_
  rintro e w2 ⟨gb, col2, rfl, hs2, hL2⟩
  unfold lnk
  try dsimp only
  have hB2 := hB1.go hs2 (by decide)
  have hA2 := hA1.keep hs2 (by decide) (by decide)
  obtain ⟨w3, hw3⟩ : ∃ q, q = w2.alloc (.cells #[.int .u8 120] 5 (1, 2)) := ⟨_, rfl⟩
  have hb23 : Below w2.heap.size w2 w3 := by rw [hw3]; exact (Below.refl _ _).alloc (Nat.le_refl _) _
  have hr3 : Reads w3 (w2.heap.size + 1) 1 (some ⟨w2.heap.size, 0, none⟩) 1 [.int .u8 120] := by rw [hw3]; exact Reads.lit w2 #[.int .u8 120] 5 (1, 2) 1 [.int .u8 120] rfl rfl
  obtain ⟨q1, hq1⟩ : ∃ y, w2.heap.size = y := ⟨_, rfl⟩
  have hsz3 : w3.heap.size = q1 + 1 := by rw [hw3, ← hq1]; simp
  rw [hq1] at hr3
  have kc : Sem.run Try.prog (convert 29 29 (.slice (some ⟨q1, 0, none⟩) 1 1)) (w2.alloc (.cells #[.int .u8 120] 5)) = Result.ok (.slice (some ⟨q1, 0, none⟩) 1 1) (w2.alloc (.cells #[.int .u8 120] 5 (1, 2))) := by
    rw [← hq1]
    exact Lib.run_convert_bytes_const (P := Try.prog) w2 29 5 #[.int .u8 120] 1 1 Try.underlying29 Try.underlying5
  have hA3 := hA2.below hs2.cx hb23
  have hL3 := hL2.below hs2.cx hb23
  have hB3 := hB2.below hb23
  have hc3 := hs2.cx.below hb23
  have hsend := lk_send_ok (d := ⟨1, 0, [], 1, 0, false, 0⟩) (b := [120]) (cB := 1) hc3 hA3 (by decide) (hr3.more (by omega)) (by decide)
  replace hsend := Lib.hid hsend
  replace hA3 := Lib.hid hA3
  replace hL3 := Lib.hid hL3
  replace hB3 := Lib.hid hB3
  clear hA2 hL2 hB2 hA1 hB1
  unfold lnk at hsend
  go_wp2_with fail
  try rw [← hw3]
  try rw [hq1]
  refine hsend.out.mono ?_
  clear hsend kc hw3 hr3
  rintro e w4 ⟨rfl, col4, hs4, hA4⟩
  try dsimp only
  have hL4 := hL3.out.keep hs4 (by decide) (by decide)
  have hB4 := hB3.out.go hs4 (by decide)
  have h74 : ∀ y, col4 y ≠ 7 := hs4.no7 (by decide) (hs2.no7 (by decide) (fun y e => by
    rcases (show Stp (fun _ => 0) 1 w col1 w1 from hs1').nw y with h1 | h1 | h1 <;> omega))
  have hout := lk_out (k := 1) (g := ga) (d := kA1) hs4.cx hA4 (k_ok _ (.inr (.inl rfl))) (by decide) h74
  rw [k1, k2] at hout
  have hc4 := hs4.cx
  replace hout := Lib.hid hout
  replace hL4 := Lib.hid hL4
  replace hB4 := Lib.hid hB4
  unfold lnk at hout
  clear hA4 hL3 hB3 hA3 hs4
  go_wp2_with fail
  refine hout.out.mono ?_
  clear hout
  rintro e w5 ⟨Ao, co, col5, rfl, hs5, hA5, ⟨xo, hO5⟩⟩
  try simp only [List.length_cons, List.length_nil, Nat.zero_add]
  have hL5 := hL4.out.keep hs5 (by decide) (by decide)
  have hB5 := hB4.out.go hs5 (by decide)
  obtain ⟨go, B, cB, rfl, ho5, hcB, hF5⟩ := hO5.cell (i := 0) (b := kP.enc) rfl
  obtain ⟨NP, hNP⟩ : ∃ q, kP.enc.length = q := ⟨_, rfl⟩
  rw [hNP] at ho5 hcB
  have hr5 := recv_kA hs5.cx hL5 hF5 hNP hcB
  replace hA5 := Lib.hid hA5
  replace hB5 := Lib.hid hB5
  replace hO5 := Lib.hid hO5
  replace hF5 := Lib.hid hF5
  replace hr5 := Lib.hid hr5
  replace hNP := Lib.hid hNP
  unfold lnk at hr5
  clear hL4 hB4 hL5
  go_wp2_with fail
  refine hr5.out.mono ?_
  clear hr5
  rintro e w6 ⟨Am, cm, col6, rfl, hs6, hL6, ⟨xm, hM6⟩⟩
  try simp only [List.length_cons, List.length_nil, Nat.zero_add]
  have hA6 := hA5.out.keep hs6 (by decide) (by decide)
  have hB6 := hB5.out.go hs6 (by decide)
  have hO6 := hO5.out.keep hs6 (by decide) (by decide)
  have hF6 := hF5.out.keep hs6 (by decide)
  obtain ⟨go', B', cB', e1, ho6, hcB', hF6'⟩ := hO6.cell (i := 0) (b := kP.enc) rfl
  cases e1
  rw [hNP.out] at ho6 hcB'
  have hr6 := recv_kB hs6.cx hL6 hF6' hNP.out hcB'
  replace hA6 := Lib.hid hA6
  replace hB6 := Lib.hid hB6
  replace hM6 := Lib.hid hM6
  replace hr6 := Lib.hid hr6
  unfold lnk at hr6
  clear hA5 hB5 hO5 hF5 hF6 hO6 hL6 ho5 hc4 hs5 hF6'
  go_wp2_with fail
  refine hr6.out.mono ?_
  clear hr6
  rintro e w7 ⟨An, cn, col7, rfl, hs7, hL7, -⟩
  try simp only [List.length_cons, List.length_nil, Nat.zero_add]
  have hA7 := hA6.out.keep hs7 (by decide) (by decide)
  have hB7 := hB6.out.go hs7 (by decide)
  have hM7 := hM6.out.keep hs7 (by decide) (by decide)
  obtain ⟨w8, hw8⟩ : ∃ q, q = w7.alloc (.cells #[.int .u8 122, .int .u8 122] 5 (2, 3)) := ⟨_, rfl⟩
  have hb78 : Below w7.heap.size w7 w8 := by rw [hw8]; exact (Below.refl _ _).alloc (Nat.le_refl _) _
  have hr8 : Reads w8 (w7.heap.size + 1) 1 (some ⟨w7.heap.size, 0, none⟩) 2 [.int .u8 122, .int .u8 122] := by rw [hw8]; exact Reads.lit w7 #[.int .u8 122, .int .u8 122] 5 (2, 3) 2 [.int .u8 122, .int .u8 122] rfl rfl
  obtain ⟨q2, hq2⟩ : ∃ y, w7.heap.size = y := ⟨_, rfl⟩
  have hsz8 : w8.heap.size = q2 + 1 := by rw [hw8, ← hq2]; simp
  rw [hq2] at hr8
  have kc : Sem.run Try.prog (convert 29 29 (.slice (some ⟨q2, 0, none⟩) 2 2)) (w7.alloc (.cells #[.int .u8 122, .int .u8 122] 5)) = Result.ok (.slice (some ⟨q2, 0, none⟩) 2 2) (w7.alloc (.cells #[.int .u8 122, .int .u8 122] 5 (2, 3))) := by
    rw [← hq2]
    exact Lib.run_convert_bytes_const (P := Try.prog) w7 29 5 #[.int .u8 122, .int .u8 122] 2 2 Try.underlying29 Try.underlying5
  have hA8 := hA7.below hs7.cx hb78
  have hL8 := hL7.below hs7.cx hb78
  have hB8 := hB7.below hb78
  have hM8 := hM7.keep (Stp.below (k := 9) hs7.cx hb78) (by decide) (by decide)
  have hc8 := hs7.cx.below hb78
  have hr9 := lk_recv_bad (g := gb) (b := [122, 122]) (c := 2) (hr8.more (by omega)) (by decide) (by decide) opened_zz (by decide)
  replace hr9 := Lib.hid hr9
  replace hA8 := Lib.hid hA8
  replace hL8 := Lib.hid hL8
  replace hB8 := Lib.hid hB8
  replace hM8 := Lib.hid hM8
  unfold lnk at hr9
  clear hA7 hL7 hB7 hM7 hA6 hB6 hM6 hs6 ho6
  go_wp2_with fail
  try rw [← hw8]
  try rw [hq2]
  refine hr9.out.mono ?_
  clear hr9 kc hw8 hr8 hs7
  rintro e w9 ⟨rfl, hb9⟩
  try dsimp only
  have hA9 := hA8.out.below hc8 hb9
  have hL9 := hL8.out.below hc8 hb9
  have hB9 := hB8.out.below hb9
  have hM9 := hM8.out.keep (Stp.below (k := 9) hc8 hb9) (by decide) (by decide)
  have hc9 := hc8.below hb9
  have hlv : Calls Try.prog 12 #[lnk gb] w9 (Says w9 (.tuple #[.int .u64 1, .int .u64 1])) := lk_lives hL9
  replace hlv := Lib.hid hlv
  replace hA9 := Lib.hid hA9
  replace hB9 := Lib.hid hB9
  replace hM9 := Lib.hid hM9
  unfold lnk at hlv
  clear hA8 hL8 hB8 hM8 hL9
  go_wp2_with fail
  refine hlv.out.mono ?_
  clear hlv
  rintro e wa ⟨rfl, hba⟩
  try dsimp only
  have hAa := hA9.out.below hc9 hba
  have hBa := hB9.out.below hba
  have hMa := hM9.out.keep (Stp.below (k := 9) hc9 hba) (by decide) (by decide)
  obtain ⟨gm, Bm, cBm, rfl, hma, -, hFa⟩ := hMa.cell (i := 0) (b := [120]) rfl
  have kv : Sem.run Try.prog (convert 29 9 (.slice Bm 1 cBm)) wa = .ok (.string ⟨#[120]⟩) wa := conv_bytes (c := cBm) hFa.1
  have hop : Calls Try.prog 11 #[lnk ga] wa (Says wa (.int .i64 1)) := lk_open hAa
  replace hop := Lib.hid hop
  replace hBa := Lib.hid hBa
  unfold lnk at hop
  clear hA9 hB9 hM9 hAa hMa hFa
  go_wp2_with fail
  refine hop.out.mono ?_
  clear hop
  rintro e wb ⟨rfl, hbb⟩
  try dsimp only
  go_wp2_with fail
  go_ret
  exact ⟨rfl, (hBa.out.below hbb).hb⟩
end Go.Proofs.Ytflgmphghmkciaa
