/- LinkInOrder: messages come in order, once, and all of them in the end. -/
import Derived.Test.YtflgmphghmkciaaLk13
import Derived.Deep.CutBlock
import Derived.BigQuiet
set_option linter.unusedSimpArgs false
set_option linter.unusedVariables false
namespace Go.Proofs.Ytflgmphghmkciaa
open Go.RowKit
set_option maxRecDepth 100000

set_option maxHeartbeats 51200000 in
theorem linkInOrder_walk {A : Option Addr} {c : Nat} {l : List ActD} {xs : List Value} {css : Nat → Array Value} (w : World) (ho : RowAct w A l xs css) (hcap : l.length ≤ c) : Calls Try.prog 3 #[.slice A l.length c] w (fun e w' => e = .returned (.bool true) ∧ Below w.heap.size w w') := by
  obtain ⟨iR0, iR1, iR2, iR3, iR4⟩ := info_parts info_row
  obtain ⟨iS0, iS1, iS2, iS3, iS4⟩ := info_parts info_str
  have hkn := fun W => known_true W
  obtain ⟨hr, hx, hxs⟩ := ho
  obtain ⟨n, hn⟩ : ∃ q, l.length = q := ⟨_, rfl⟩
  rw [hn] at hr hxs hcap ⊢
  replace hkn := Lib.hid hkn
  replace hr := Lib.hid hr
  replace hx := Lib.hid hx
  replace hxs := Lib.hid hxs
  replace hn := Lib.hid hn
  go_enter Try.func3, Try.ntmps3
  go_wp2_with fail
  refine (hkn.out w).mono ?_
  clear hkn
  rintro e w0 ⟨rfl, hb0⟩
  try dsimp only
  by_cases h60 : 60 < n
  · have d60 : decide ((60 : Int) < (n : Int)) = true := decide_eq_true (by omega)
    go_wp2_with fail
    go_ret
    exact ⟨rfl, hb0⟩
  · have d60 : decide ((60 : Int) < (n : Int)) = false := decide_eq_false (by omega)
    have hc0 : Cx w0 (fun _ => 0) := fun _ _ => rfl
    have hB0 : Bas w.heap.size w w0 (fun _ => 0) := ⟨hb0, hb0.size, fun _ _ => rfl⟩
    go_wp2_with fail
    refine (lk_new (k := 1) (life := 3) hc0 (by decide) (by decide)).mono ?_
    rintro e w1 ⟨ga, col1, rfl, hs1, hA1⟩
    unfold lnk
    try dsimp only
    go_wp2_with fail
    refine (lk_new (k := 2) (life := 4) hs1.cx (by decide) (by decide)).mono ?_
    rintro e w2 ⟨gb, col2, rfl, hs2, hL2⟩
    unfold lnk
    try dsimp only
    have hn7 : ∀ y, col2 y ≠ 7 := hs2.no7 (by decide) (hs1.no7 (by decide) (fun y e => by omega))
    have M2 : Mem w w2 col2 ga gb ⟨3, 0, [], 1, 0, false, 0⟩ ⟨4, 0, [], 1, 0, false, 0⟩ [] [] none 0 none 0 [] [] none 0 none 0 :=
      ⟨hs2.cx, (hB0.go hs1 (by decide)).go hs2 (by decide), hn7, hA1.keep hs2 (by decide) (by decide), hL2, PksC.none_, PksC.none_, StrC.none_, StrC.none_⟩
    have R2 : RelA w ga gb 0 (.slice none 0 0) (.slice none 0 0) (.slice none 0 0) (.slice none 0 0) w2 :=
      ⟨col2, _, _, [], [], [], none, 0, 0, none, 0, 0, none, 0, 0, none, 0, 0, rfl, rfl, rfl, rfl, M2, inv_start, ⟨rfl, rfl, rfl, rfl, Nat.le_refl _, Nat.le_refl _, Nat.le_refl _⟩⟩
    replace R2 := Lib.hid R2
    clear M2 hn7 hA1 hL2 hs1 hs2 hB0 hb0 hc0
    go_wp2_with fail
    go_loopw [5, 6, 7, 8, 9] (fun t5 t6 t7 t8 z wr => ∃ i : Nat, i ≤ n ∧ z = .int .i64 (i : Int) ∧ RelA w ga gb i t5 t6 t7 t8 wr) (fun _ _ _ _ z _ => n - (intOf z).toNat)
    case atStart => exact ⟨0, Nat.zero_le _, rfl, R2.out⟩
    case round =>
      clear R2
      obtain ⟨i, hi, rfl, col, a, b, tos, back, sent, At, nt, ct, Ak, nk, ck, As, ns, cs, Ag, ng, cg, rfl, rfl, rfl, rfl, M, I, Ln⟩ := hrel
      by_cases hlt : i < n
      · have hgk : l[i]? = some (l[i]'(by rw [hn.out]; exact hlt)) := List.getElem?_eq_getElem _
        obtain ⟨B, cB, hcs, hrB, bw, bs, bn, hBc⟩ := hx.out i _ hgk
        generalize l[i]'(by rw [hn.out]; exact hlt) = x at hgk hcs hrB bw bs bn hBc
        obtain ⟨xw, xs', xn, xb⟩ := x
        dsimp only at hcs hrB bw bs bn hBc
        have hel := hxs.out i hlt
        rw [hcs] at hel
        have hrr := hr.out.below M.bas.hb
        obtain ⟨ad, rfl, -, -⟩ := hrr.2 (by omega)
        obtain ⟨g0, g1, g2, g3⟩ := act_cells hrr hlt hel
        obtain ⟨LB, hLB⟩ : ∃ q, xb.length = q := ⟨_, rfl⟩
        rw [hLB] at g3 hrB hBc
        have hd : decide ((i : Int) < (n : Int)) = true := decide_eq_true (by omega)
        have hjw : IntKind.i64.wrap ((i : Int) + 1) = (i : Int) + 1 := by rw [IntKind.wrap_i64]; omega
        obtain ⟨w3, hw3⟩ : ∃ q, q = wr.alloc (.cells #[.int .u8 (xw : Int), .int .u8 (xs' : Int), .int .u8 (xn : Int), .slice B LB cB] 31) := ⟨_, rfl⟩
        have hb3 : Below wr.heap.size wr w3 := by rw [hw3]; exact (Below.refl _ _).alloc (Nat.le_refl _) _
        have hx3 : Blk w3 wr.heap.size 31 #[.int .u8 (xw : Int), .int .u8 (xs' : Int), .int .u8 (xn : Int), .slice B LB cB] := by rw [hw3]; exact Blk.new wr _ _
        have M3 := M.below hb3
        have hyc : col wr.heap.size = 0 := M.cx _ (Nat.le_refl _)
        obtain ⟨y10, hy10⟩ : ∃ y, wr.heap.size = y := ⟨_, rfl⟩
        rw [hy10] at hx3 hyc
        have hb03 := M3.bas.hb
        replace M3 := Lib.hid M3
        replace hrB := Lib.hid hrB
        replace hLB := Lib.hid hLB
        replace I := Lib.hid I
        replace Ln := Lib.hid Ln
        clear hel hrr hgk hcs M
        go_upto_region 12 with (fail)
        rw [← hw3]
        try rw [hy10]
        clear hw3 g0 g1 g2 g3 hy10
        have p0 := hx3.cell 0
        have p1 := hx3.cell 1
        have p2 := hx3.cell 2
        have p3 := hx3.cell 3
        by_cases h50 : 50 < LB
        · have d50 : decide ((50 : Int) < (LB : Int)) = true := decide_eq_true (by omega)
          go_wp2_with fail
          go_ret
          exact ⟨rfl, hb03⟩
        have d50 : decide ((50 : Int) < (LB : Int)) = false := decide_eq_false (by omega)
        obtain ⟨m6, hm6⟩ : ∃ q, xw % 6 = q := ⟨_, rfl⟩
        have t6 : Int.tmod (xw : Int) 6 = (m6 : Int) := by rw [Int.tmod_eq_emod_of_nonneg (by omega)]; omega
        have t6' : (xw : Int) % 6 = (m6 : Int) := by omega
        have v6 : IntKind.u8.wrap (m6 : Int) = (m6 : Int) := by unfold IntKind.wrap; simp [IntKind.bits, IntKind.signed]; omega
        have hm66 : m6 < 6 := by omega
        replace hx3 := Lib.hid hx3
        go_upto_block 2 with (fail)
        go_cut [5, 6, 7, 8] from 46 to 146 (fun x5 x6 x7 x8 wx => RelA w ga gb (i + 1) x5 x6 x7 x8 wx)
        case first =>
          rcases (show m6 < 2 ∨ m6 = 2 ∨ m6 = 3 ∨ m6 = 4 ∨ m6 = 5 by omega) with hm2 | rfl | rfl | rfl | rfl
          · as_aux_lemma =>
              have n2 : ((m6 : Int) == 2) = false := beq_eq_false_iff_ne.2 (by omega)
              have n3 : ((m6 : Int) == 3) = false := beq_eq_false_iff_ne.2 (by omega)
              have n4 : ((m6 : Int) == 4) = false := beq_eq_false_iff_ne.2 (by omega)
              have n01 : m6 = 0 ∨ m6 = 1 := by omega
              rcases n01 with rfl | rfl
              · as_aux_lemma =>
                  by_cases h8 : a.l.length = 8
                  · have hsn := lk_send_no (n := LB) (B := B) (cB := cB) M3.out.cx M3.out.la h8
                    replace hsn := Lib.hid hsn
                    unfold lnk at hsn
                    go_upto_region 18 with (fail)
                    go_wp2_with fail
                    refine hsn.out.mono ?_
                    clear hsn
                    rintro e w4 ⟨rfl, col4, hs4, hl4⟩
                    try dsimp only
                    have M4 := M3.out.goA hs4 hl4
                    have hend : RelA w ga gb (i + 1) (.slice At nt ct) (.slice Ak nk ck) (.slice As ns cs) (.slice Ag ng cg) w4 :=
                      ⟨col4, a, b, tos, back, sent, At, nt, ct, Ak, nk, ck, As, ns, cs, Ag, ng, cg, rfl, rfl, rfl, rfl, M4, I.out, ⟨Ln.out.t, Ln.out.k, Ln.out.s, Ln.out.g, by have := Ln.out.tb; omega, by have := Ln.out.kb; omega, by have := Ln.out.sb; omega⟩⟩
                    replace hend := Lib.hid hend
                    clear M4 hl4 hs4
                    go_wp2_with fail
                    go_meet
                    exact hend.out
                  · have hl8 : a.l.length < 8 := by have := I.out.a8; omega
                    have hr3 := (hrB.out.below M3.out.bas.hb).more M3.out.bas.hb.size
                    have hsn := lk_send_ok (b := xb) (cB := cB) M3.out.cx M3.out.la hl8 (by rw [hLB.out]; exact hr3) (by rw [hLB.out]; omega)
                    rw [hLB.out] at hsn
                    replace hsn := Lib.hid hsn
                    unfold lnk at hsn
                    go_upto_region 18 with (fail)
                    go_wp2_with fail
                    refine hsn.out.mono ?_
                    clear hsn
                    rintro e w4 ⟨rfl, col4, hs4, hl4⟩
                    try dsimp only
                    have M4 := M3.out.goA hs4 hl4
                    have hx4 := hx3.out.upd hs4.upd (fun e => by omega)
                    have p3' := hx4.cell 3
                    have hr4 := (hrB.out.below M4.bas.hb).more M4.bas.hb.size
                    have kv := conv_bytes (c := cB) hr4
                    obtain ⟨w5, hw5⟩ : ∃ q, q = w4.alloc (.cells #[bsv xb] 9) := ⟨_, rfl⟩
                    have hsrc : Reads w5 (w4.heap.size + 1) 1 (some ⟨w4.heap.size, 0, none⟩) 1 [bsv xb] := by rw [hw5]; exact Reads.lit (size := 1) w4 #[bsv xb] 9 (0, 0) 1 [bsv xb] rfl rfl
                    have hb45 : Below w4.heap.size w4 w5 := by rw [hw5]; exact (Below.refl _ _).alloc (Nat.le_refl _) _
                    have M5 := M4.below hb45
                    have hoS := M5.ss.ho
                    rw [Ln.out.s] at hoS
                    rw [hw5] at hsrc hoS
                    unfold bsv at hsrc
                    have hns60 : ns ≤ 60 := by have := Ln.out.sb; omega
                    replace M5 := Lib.hid M5
                    replace hoS := Lib.hid hoS
                    replace hsrc := Lib.hid hsrc
                    clear M4 hl4 hs4 hr4 hr3
                    --CUT0
                    unfold bsv at hw5
                    go_upto_region 19 with (fail)
                    go_wp2_with (at_builtin; go_must (refine wpList_append_mine rfl _ _ 28 28 rfl 9 iS0 _ 1 16 Try.underlying28 iS1 iS2 iS3 iS4 rfl rfl hoS.out rfl (Src.ofReads Try.underlying28 _ hsrc.out (by intro u hu; simp only [List.mem_cons, List.not_mem_nil, or_false] at hu; subst hu; rfl)) ?b1 ?b2 ?grow))
                    case b1 => unfold maxLen; omega
                    case b2 => omega
                    case grow =>
                      intro A8 c8 w8 ho8 hg8 hat8
                      rw [← hw5] at hg8
                      have hsz : w5.heap.size = w4.heap.size + 1 := by rw [hw5]; simp
                      have hat8' : bOf A8 = bOf As ∨ bOf A8 = some w5.heap.size := by rw [hsz]; simpa using hat8
                      obtain ⟨col8, hs8, hp8⟩ := M5.out.ss.push (b := xb) M5.out.cx (by rw [Ln.out.s]; exact ho8) hg8 hat8'
                      have M8 := M5.out.goS hs8 hp8
                      have I8 := I.out.send hl8 (by rw [hLB.out]; omega) (by rw [Ln.out.s]; have := Ln.out.sb; omega)
                      have hend : RelA w ga gb (i + 1) (.slice At nt ct) (.slice Ak nk ck) (.slice A8 (ns + 1) c8) (.slice Ag ng cg) w8 :=
                        ⟨col8, sendD a xb, b, tos, back, sent ++ [xb], At, nt, ct, Ak, nk, ck, A8, ns + 1, c8, Ag, ng, cg, rfl, rfl, rfl, rfl, by rw [I.out.take_send]; exact M8, I8, ⟨Ln.out.t, Ln.out.k, by rw [List.length_append, Ln.out.s]; rfl, Ln.out.g, by have := Ln.out.tb; omega, by have := Ln.out.kb; omega, by have := Ln.out.sb; omega⟩⟩
                      replace hend := Lib.hid hend
                      clear M8 hp8 hs8 ho8 hg8 hat8 hat8' hsrc hoS hw5
                      go_wp2_with fail
                      go_meet
                      exact hend.out
              · as_aux_lemma =>
                  by_cases h8 : a.l.length = 8
                  · have hsn := lk_send_no (n := LB) (B := B) (cB := cB) M3.out.cx M3.out.la h8
                    replace hsn := Lib.hid hsn
                    unfold lnk at hsn
                    go_upto_region 18 with (fail)
                    go_wp2_with fail
                    refine hsn.out.mono ?_
                    clear hsn
                    rintro e w4 ⟨rfl, col4, hs4, hl4⟩
                    try dsimp only
                    have M4 := M3.out.goA hs4 hl4
                    have hend : RelA w ga gb (i + 1) (.slice At nt ct) (.slice Ak nk ck) (.slice As ns cs) (.slice Ag ng cg) w4 :=
                      ⟨col4, a, b, tos, back, sent, At, nt, ct, Ak, nk, ck, As, ns, cs, Ag, ng, cg, rfl, rfl, rfl, rfl, M4, I.out, ⟨Ln.out.t, Ln.out.k, Ln.out.s, Ln.out.g, by have := Ln.out.tb; omega, by have := Ln.out.kb; omega, by have := Ln.out.sb; omega⟩⟩
                    replace hend := Lib.hid hend
                    clear M4 hl4 hs4
                    go_wp2_with fail
                    go_meet
                    exact hend.out
                  · have hl8 : a.l.length < 8 := by have := I.out.a8; omega
                    have hr3 := (hrB.out.below M3.out.bas.hb).more M3.out.bas.hb.size
                    have hsn := lk_send_ok (b := xb) (cB := cB) M3.out.cx M3.out.la hl8 (by rw [hLB.out]; exact hr3) (by rw [hLB.out]; omega)
                    rw [hLB.out] at hsn
                    replace hsn := Lib.hid hsn
                    unfold lnk at hsn
                    go_upto_region 18 with (fail)
                    go_wp2_with fail
                    refine hsn.out.mono ?_
                    clear hsn
                    rintro e w4 ⟨rfl, col4, hs4, hl4⟩
                    try dsimp only
                    have M4 := M3.out.goA hs4 hl4
                    have hx4 := hx3.out.upd hs4.upd (fun e => by omega)
                    have p3' := hx4.cell 3
                    have hr4 := (hrB.out.below M4.bas.hb).more M4.bas.hb.size
                    have kv := conv_bytes (c := cB) hr4
                    obtain ⟨w5, hw5⟩ : ∃ q, q = w4.alloc (.cells #[bsv xb] 9) := ⟨_, rfl⟩
                    have hsrc : Reads w5 (w4.heap.size + 1) 1 (some ⟨w4.heap.size, 0, none⟩) 1 [bsv xb] := by rw [hw5]; exact Reads.lit (size := 1) w4 #[bsv xb] 9 (0, 0) 1 [bsv xb] rfl rfl
                    have hb45 : Below w4.heap.size w4 w5 := by rw [hw5]; exact (Below.refl _ _).alloc (Nat.le_refl _) _
                    have M5 := M4.below hb45
                    have hoS := M5.ss.ho
                    rw [Ln.out.s] at hoS
                    rw [hw5] at hsrc hoS
                    unfold bsv at hsrc
                    have hns60 : ns ≤ 60 := by have := Ln.out.sb; omega
                    replace M5 := Lib.hid M5
                    replace hoS := Lib.hid hoS
                    replace hsrc := Lib.hid hsrc
                    clear M4 hl4 hs4 hr4 hr3
                    --CUT0
                    unfold bsv at hw5
                    go_upto_region 19 with (fail)
                    go_wp2_with (at_builtin; go_must (refine wpList_append_mine rfl _ _ 28 28 rfl 9 iS0 _ 1 16 Try.underlying28 iS1 iS2 iS3 iS4 rfl rfl hoS.out rfl (Src.ofReads Try.underlying28 _ hsrc.out (by intro u hu; simp only [List.mem_cons, List.not_mem_nil, or_false] at hu; subst hu; rfl)) ?b1 ?b2 ?grow))
                    case b1 => unfold maxLen; omega
                    case b2 => omega
                    case grow =>
                      intro A8 c8 w8 ho8 hg8 hat8
                      rw [← hw5] at hg8
                      have hsz : w5.heap.size = w4.heap.size + 1 := by rw [hw5]; simp
                      have hat8' : bOf A8 = bOf As ∨ bOf A8 = some w5.heap.size := by rw [hsz]; simpa using hat8
                      obtain ⟨col8, hs8, hp8⟩ := M5.out.ss.push (b := xb) M5.out.cx (by rw [Ln.out.s]; exact ho8) hg8 hat8'
                      have M8 := M5.out.goS hs8 hp8
                      have I8 := I.out.send hl8 (by rw [hLB.out]; omega) (by rw [Ln.out.s]; have := Ln.out.sb; omega)
                      have hend : RelA w ga gb (i + 1) (.slice At nt ct) (.slice Ak nk ck) (.slice A8 (ns + 1) c8) (.slice Ag ng cg) w8 :=
                        ⟨col8, sendD a xb, b, tos, back, sent ++ [xb], At, nt, ct, Ak, nk, ck, A8, ns + 1, c8, Ag, ng, cg, rfl, rfl, rfl, rfl, by rw [I.out.take_send]; exact M8, I8, ⟨Ln.out.t, Ln.out.k, by rw [List.length_append, Ln.out.s]; rfl, Ln.out.g, by have := Ln.out.tb; omega, by have := Ln.out.kb; omega, by have := Ln.out.sb; omega⟩⟩
                      replace hend := Lib.hid hend
                      clear M8 hp8 hs8 ho8 hg8 hat8 hat8' hsrc hoS hw5
                      go_wp2_with fail
                      go_meet
                      exact hend.out
          · as_aux_lemma =>
              have hou := lk_out (k := 1) M3.out.cx M3.out.la I.out.aok (by decide) M3.out.n7
              replace hou := Lib.hid hou
              unfold lnk at hou
              go_upto_region 21 with (fail)
              go_wp2_with fail
              refine hou.out.mono ?_
              clear hou
              rintro e w4 ⟨A1, c1, col4, rfl, hs4, hl4, ⟨x1, P1⟩⟩
              try dsimp only
              have M4 := M3.out.goA hs4 hl4
              have I4 := I.out.outA
              obtain ⟨n1, hn1⟩ : ∃ q, (outsD a).length = q := ⟨_, rfl⟩
              have hn18 : n1 ≤ 8 := by rw [← hn1, ← outsP_enc, List.length_map]; exact outsP_len a I.out.a8
              have hr1 := P1.ho.reads_
              rw [hn1] at hr1 ⊢
              obtain ⟨xt, Pt⟩ := M4.pt
              have hot := Pt.ho
              rw [List.length_map, Ln.out.t] at hot
              have hone1 := P1.one
              have hnt : nt ≤ 540 := by have := Ln.out.tb; omega
              have hnk : nk ≤ 540 := by have := Ln.out.kb; omega
              replace M4 := Lib.hid M4
              replace I4 := Lib.hid I4
              replace P1 := Lib.hid P1
              replace Pt := Lib.hid Pt
              replace hn1 := Lib.hid hn1
              clear hs4 hl4
              --CUT0
              go_wp2_with (at_builtin; go_must (refine wpList_append_mine rfl _ _ 27 27 rfl 29 iR0 _ 1 24 Try.underlying27 iR1 iR2 iR3 iR4 rfl rfl hot rfl (Src.ofReads Try.underlying27 _ hr1 hone1) ?b1 ?b2 ?grow))
              case b1 => unfold maxLen; omega
              case b2 => omega
              case grow =>
                intro A5 c5 w5 ho5 hg5 hat5
                have hps := Pt.out.push (L' := outsD a) (by decide) M4.out.cx (by rw [List.length_map, Ln.out.t, hn1.out]; exact ho5) hg5 hat5 (by have := P1.out.ho.len; omega) P1.out.hx
                obtain ⟨col5, hs5, hp5⟩ := hps
                rw [← outsP_enc, ← List.map_append] at hp5
                have M5 := M4.out.goT hs5 ⟨_, hp5⟩
                clear ho5 hg5 hat5 hot hr1 hone1 hs5 hp5 M4 P1 Pt
                have hou := lk_out (k := 2) M5.cx M5.lb I.out.bok (by decide) M5.n7
                replace hou := Lib.hid hou
                replace M5 := Lib.hid M5
                unfold lnk at hou
                --CUT1
                go_wp2_with fail
                refine hou.out.mono ?_
                clear hou
                rintro e w6 ⟨A2, c2, col6, rfl, hs6, hl6, ⟨x2, P2⟩⟩
                try dsimp only
                have M6 := M5.out.goB hs6 hl6
                obtain ⟨n2, hn2⟩ : ∃ q, (outsD b).length = q := ⟨_, rfl⟩
                have hn28 : n2 ≤ 8 := by rw [← hn2, ← outsP_enc, List.length_map]; exact outsP_len b (by rw [I.out.bl]; decide)
                have hr2 := P2.ho.reads_
                rw [hn2] at hr2 ⊢
                obtain ⟨xk, Pk⟩ := M6.pk
                have hok := Pk.ho
                rw [List.length_map, Ln.out.k] at hok
                have hone2 := P2.one
                replace M6 := Lib.hid M6
                replace P2 := Lib.hid P2
                replace Pk := Lib.hid Pk
                replace hn2 := Lib.hid hn2
                clear hs6 hl6 M5
                go_wp2_with (at_builtin; go_must (refine wpList_append_mine rfl _ _ 27 27 rfl 29 iR0 _ 1 24 Try.underlying27 iR1 iR2 iR3 iR4 rfl rfl hok rfl (Src.ofReads Try.underlying27 _ hr2 hone2) ?b1 ?b2 ?grow))
                case b1 => unfold maxLen; omega
                case b2 => omega
                case grow =>
                  intro A7 c7 w7 ho7 hg7 hat7
                  have hps := Pk.out.push (L' := outsD b) (by decide) M6.out.cx (by rw [List.length_map, Ln.out.k, hn2.out]; exact ho7) hg7 hat7 (by have := P2.out.ho.len; omega) P2.out.hx
                  obtain ⟨col7, hs7, hp7⟩ := hps
                  rw [← outsP_enc, ← List.map_append] at hp7
                  have M7 := M6.out.goK hs7 ⟨_, hp7⟩
                  have I7 := I4.out.outB
                  have hl1 : (outsP a).length = n1 := by rw [← hn1.out, ← outsP_enc, List.length_map]
                  have hl2 : (outsP b).length = n2 := by rw [← hn2.out, ← outsP_enc, List.length_map]
                  have hend : RelA w ga gb (i + 1) (.slice A5 (nt + n1) c5) (.slice A7 (nk + n2) c7) (.slice As ns cs) (.slice Ag ng cg) w7 :=
                    ⟨col7, outS a, outS b, tos ++ outsP a, back ++ outsP b, sent, A5, nt + n1, c5, A7, nk + n2, c7, As, ns, cs, Ag, ng, cg, rfl, rfl, rfl, rfl, M7, I7, ⟨by rw [List.length_append, hl1, Ln.out.t], by rw [List.length_append, hl2, Ln.out.k], Ln.out.s, Ln.out.g, by have := Ln.out.tb; omega, by have := Ln.out.kb; omega, by have := Ln.out.sb; omega⟩⟩
                  replace hend := Lib.hid hend
                  clear ho7 hg7 hat7 hok hr2 hone2 hs7 hp7 M7 M6 P2 Pk
                  --CUT2
                  go_wp2_with fail
                  go_meet
                  exact hend.out
          · as_aux_lemma =>
              rw [show ((3 : Nat) : Int) = 3 from rfl]
              by_cases hk0 : nt = 0
              · have hend : RelA w ga gb (i + 1) (.slice At nt ct) (.slice Ak nk ck) (.slice As ns cs) (.slice Ag ng cg) w3 :=
                  ⟨col, a, b, tos, back, sent, At, nt, ct, Ak, nk, ck, As, ns, cs, Ag, ng, cg, rfl, rfl, rfl, rfl, M3.out, I.out, ⟨Ln.out.t, Ln.out.k, Ln.out.s, Ln.out.g, by have := Ln.out.tb; omega, by have := Ln.out.kb; omega, by have := Ln.out.sb; omega⟩⟩
                replace hend := Lib.hid hend
                clear M3 I Ln hx3
                have dk : decide ((0 : Int) < (nt : Int)) = false := decide_eq_false (by omega)
                go_wp2_with fail
                go_meet
                exact hend.out
              · have dk : decide ((0 : Int) < (nt : Int)) = true := decide_eq_true (by omega)
                have dkN : decide (0 < nt) = true := decide_eq_true (by omega)
                have hnt540 : nt ≤ 540 := by have := Ln.out.tb; omega
                obtain ⟨kk, hkk⟩ : ∃ q, xn % nt = q := ⟨_, rfl⟩
                have hkl : kk < nt := by rw [← hkk]; exact Nat.mod_lt _ (by omega)
                have tk : Int.tmod (xn : Int) (nt : Int) = (kk : Int) := by rw [Int.tmod_eq_emod_of_nonneg (by omega)]; omega
                have tk' : (xn : Int) % (nt : Int) = (kk : Int) := by omega
                have vk : IntKind.i64.wrap (kk : Int) = (kk : Int) := by rw [IntKind.wrap_i64]; omega
                have vn : IntKind.i64.wrap (xn : Int) = (xn : Int) := by rw [IntKind.wrap_i64]; omega
                obtain ⟨p, hp⟩ : ∃ p, tos[kk]? = some p := ⟨_, List.getElem?_eq_getElem (by rw [Ln.out.t]; exact hkl)⟩
                have hpm : (tos.map Pk.enc)[kk]? = some p.enc := by rw [List.getElem?_map, hp]; rfl
                obtain ⟨xk, Pr⟩ := M3.out.pt
                obtain ⟨gk, BP, cP, rfl, c0, hcP, hFP⟩ := Pr.cell hpm
                have hok := I.out.hto p (List.mem_of_getElem? hp)
                obtain ⟨f1, f2, f3, f4, f5, f6, f7, f8⟩ := I.out.recvB_f hok
                have hrv := lk_recv (cb := cP) M3.out.cx M3.out.lb I.out.bok hFP.1 hcP f1 f2 f3 f4 f5 f6 f7 f8
                obtain ⟨NP, hNP⟩ : ∃ q, p.enc.length = q := ⟨_, rfl⟩
                obtain ⟨I4, htk, -⟩ := I.out.recvB_i hok
                obtain ⟨M1, hM1⟩ : ∃ q, (recvM b p).length = q := ⟨_, rfl⟩
                have hM11 : M1 ≤ 1 := by rw [← hM1]; unfold recvM; split <;> simp
                have hcm : (recvD b p).came = ng + M1 := by
                  have h1 := congrArg List.length htk
                  rw [List.length_append, take_len I4, take_len I.out, Ln.out.g, hM1] at h1
                  exact h1
                have hng60 : ng ≤ 60 := by have h1 := Ln.out.g; have h2 := I.out.bc; have h3 := I.out.sl; omega
                rw [hNP] at hrv c0 hcP
                replace hrv := Lib.hid hrv
                replace hp := Lib.hid hp
                replace hpm := Lib.hid hpm
                replace hok := Lib.hid hok
                replace I4 := Lib.hid I4
                replace htk := Lib.hid htk
                replace hM1 := Lib.hid hM1
                replace hcm := Lib.hid hcm
                unfold lnk at hrv
                replace hkk := Lib.hid hkk
                clear hFP hNP f1 f2 f3 f4 f5 f6 f7 f8 Pr
                have p2' := hx3.out.cell 2
                go_upto_region 27 with (fail)
                --CUT0
                go_wp2_with fail
                refine hrv.out.mono ?_
                clear hrv
                rintro e w4 ⟨Am, cm, col4, rfl, hs4, hl4, ⟨xm, Pm⟩⟩
                try dsimp only
                have M4 := M3.out.goB hs4 hl4
                have hx4 := hx3.out.upd hs4.upd (fun e => by omega)
                have hyc4 : col4 y10 = 0 := by rw [hs4.ext y10 hx3.out.lt]; exact hyc
                rw [hM1.out]
                clear hs4 hl4 c0 hcP M3
                replace M4 := Lib.hid M4
                replace Pm := Lib.hid Pm
                replace hx4 := Lib.hid hx4
                replace hyc4 := Lib.hid hyc4
                go_wp2_with fail
                go_loopw [8, 15] (fun t8 z wj => ∃ (jj : Nat) (colj : Nat → Nat) (Aj : Option Addr) (nj cj : Nat), jj ≤ M1 ∧ z = .int .i64 (jj : Int) ∧ t8 = .slice Aj nj cj ∧ nj = ng + jj ∧ Mem w wj colj ga gb a (recvD b p) (tos.map Pk.enc) (back.map Pk.enc) (some ⟨gk, 0, none⟩) ct Ak ck sent (sent.take b.came ++ (recvM b p).take jj) As cs Aj cj ∧ PksX colj 0 wj Am cm (recvM b p) xm ∧ Blk wj y10 31 #[.int .u8 (xw : Int), .int .u8 (xs' : Int), .int .u8 (xn : Int), .slice B LB cB] ∧ colj y10 = 0) (fun _ z _ => M1 - (intOf z).toNat)
                case atStart => exact ⟨0, col4, Ag, ng, cg, Nat.zero_le _, rfl, rfl, rfl, by rw [List.take_zero, List.append_nil]; exact M4.out, Pm.out, hx4.out, hyc4.out⟩
                case round =>
                  clear M4 Pm hx4 hyc4
                  obtain ⟨jj, colj, Aj, nj, cj, hjj, rfl, rfl, hnj, M4, Pm, hx4, hyc4⟩ := hrel
                  by_cases hjl : jj < M1
                  · obtain ⟨mb, hmb⟩ : ∃ q, (recvM b p)[jj]? = some q := ⟨_, List.getElem?_eq_getElem (by rw [hM1.out]; exact hjl)⟩
                    obtain ⟨gm, Bm, cBm, rfl, c0, -, hFm⟩ := Pm.cell hmb
                    have dj : decide ((jj : Int) < (M1 : Int)) = true := decide_eq_true (by omega)
                    have hjw2 : IntKind.i64.wrap ((jj : Int) + 1) = (jj : Int) + 1 := by rw [IntKind.wrap_i64]; omega
                    obtain ⟨LM, hLM⟩ : ∃ q, mb.length = q := ⟨_, rfl⟩
                    have kv := conv_bytes (c := cBm) hFm.1
                    rw [hLM] at c0 kv
                    obtain ⟨w5, hw5⟩ : ∃ q, q = wr.alloc (.cells #[bsv mb] 9) := ⟨_, rfl⟩
                    have hsrc : Reads w5 (wr.heap.size + 1) 1 (some ⟨wr.heap.size, 0, none⟩) 1 [bsv mb] := by rw [hw5]; exact Reads.lit (size := 1) wr #[bsv mb] 9 (0, 0) 1 [bsv mb] rfl rfl
                    have hb45 : Below wr.heap.size wr w5 := by rw [hw5]; exact (Below.refl _ _).alloc (Nat.le_refl _) _
                    have M5 := M4.below hb45
                    have hx5 := hx4.below hb45 hx4.lt
                    have Pm5 := Pm.below_ M4.cx hb45
                    have hgl : (sent.take b.came ++ (recvM b p).take jj).length = nj := by rw [List.length_append, take_len I.out, Ln.out.g, List.length_take, hM1.out, hnj]; omega
                    have hoS := M5.sg.ho
                    rw [hgl] at hoS
                    have htk1 : sent.take b.came ++ (recvM b p).take (jj + 1) = (sent.take b.came ++ (recvM b p).take jj) ++ [mb] := by rw [List.take_add_one, hmb, ← List.append_assoc]; rfl
                    obtain ⟨Gj, hGj⟩ : ∃ q, sent.take b.came ++ (recvM b p).take jj = q := ⟨_, rfl⟩
                    rw [hGj] at M5 hgl hoS htk1
                    clear hGj
                    rw [hw5] at hsrc hoS
                    unfold bsv at hsrc hw5
                    replace M5 := Lib.hid M5
                    replace hoS := Lib.hid hoS
                    replace hsrc := Lib.hid hsrc
                    replace hx5 := Lib.hid hx5
                    replace Pm5 := Lib.hid Pm5
                    replace hgl := Lib.hid hgl
                    replace htk1 := Lib.hid htk1
                    replace hmb := Lib.hid hmb
                    replace hnj := Lib.hid hnj
                    have hnj2 : nj ≤ 70 := by have := hnj.out; omega
                    clear M4 hx4 Pm hFm hLM
                    --CUT1
                    go_wp2_with (at_builtin; go_must (refine wpList_append_mine rfl _ _ 28 28 rfl 9 iS0 _ 1 16 Try.underlying28 iS1 iS2 iS3 iS4 rfl rfl hoS.out rfl (Src.ofReads Try.underlying28 _ hsrc.out (by intro u hu; simp only [List.mem_cons, List.not_mem_nil, or_false] at hu; subst hu; rfl)) ?b1 ?b2 ?grow))
                    case b1 => unfold maxLen; omega
                    case b2 => omega
                    case grow =>
                      intro A8 c8 w8 ho8 hg8 hat8
                      rw [← hw5] at hg8
                      have hsz : w5.heap.size = wr.heap.size + 1 := by rw [hw5]; simp
                      have hat8' : bOf A8 = bOf Aj ∨ bOf A8 = some w5.heap.size := by rw [hsz]; simpa using hat8
                      obtain ⟨col8, hs8, hp8⟩ := M5.out.sg.push (b := mb) M5.out.cx (by rw [hgl.out]; exact ho8) hg8 hat8'
                      have M8 := M5.out.goG hs8 hp8
                      rw [← htk1.out] at M8
                      have Pm8 := Pm5.out.keep hs8 (by decide) (by decide)
                      have hx8 := hx5.out.upd hs8.upd (fun e => by omega)
                      have hyc8 : col8 y10 = 0 := by rw [hs8.ext y10 hx5.out.lt]; exact hyc4
                      replace M8 := Lib.hid M8
                      replace Pm8 := Lib.hid Pm8
                      replace hx8 := Lib.hid hx8
                      replace hyc8 := Lib.hid hyc8
                      clear hp8 hs8 ho8 hg8 hat8 hat8' hsrc hoS hw5 M5 Pm5 hx5 hyc4
                      go_wp2_with fail
                      --CUT5
                      go_roundw
                      case rel => exact ⟨jj + 1, col8, A8, nj + 1, c8, by omega, by simp, rfl, by have := hnj.out; omega, M8.out, Pm8.out, hx8.out, hyc8.out⟩
                      case measure => simp [intOf]; omega
                  · have hjm : jj = M1 := by omega
                    have dj : decide ((jj : Int) < (M1 : Int)) = false := decide_eq_false (by omega)
                    have ht1 : (recvM b p).take M1 = recvM b p := List.take_of_length_le (by rw [hM1.out]; exact Nat.le_refl _)
                    rw [hjm, ht1, ← htk.out] at M4
                    clear ht1
                    rw [hjm] at hnj
                    have p1' := hx4.cell 1
                    obtain ⟨s3, hs3⟩ : ∃ q, xs' % 3 = q := ⟨_, rfl⟩
                    have ts : Int.tmod (xs' : Int) 3 = (s3 : Int) := by rw [Int.tmod_eq_emod_of_nonneg (by omega)]; omega
                    have ts' : (xs' : Int) % 3 = (s3 : Int) := by omega
                    have vs : IntKind.u8.wrap (s3 : Int) = (s3 : Int) := by unfold IntKind.wrap; simp [IntKind.bits, IntKind.signed]; omega
                    replace hs3 := Lib.hid hs3
                    replace hnj := Lib.hid hnj
                    clear Pm hx4 hjm
                    by_cases hs0 : s3 = 0
                    · have ds : decide ((0 : Int) < (s3 : Int)) = false := decide_eq_false (by omega)
                      have hend : RelA w ga gb (i + 1) (.slice (some ⟨gk, 0, none⟩) nt ct) (.slice Ak nk ck) (.slice As ns cs) (.slice Aj nj cj) wr :=
                        ⟨colj, a, recvD b p, tos, back, sent, some ⟨gk, 0, none⟩, nt, ct, Ak, nk, ck, As, ns, cs, Aj, nj, cj, rfl, rfl, rfl, rfl, M4, I4.out, ⟨Ln.out.t, Ln.out.k, Ln.out.s, by rw [hcm.out, hnj.out], by have := Ln.out.tb; omega, by have := Ln.out.kb; omega, by have := Ln.out.sb; omega⟩⟩
                      replace hend := Lib.hid hend
                      clear M4
                      --CUT2
                      go_wp2_with fail
                      go_meet
                      exact hend.out
                    · have ds : decide ((0 : Int) < (s3 : Int)) = true := decide_eq_true (by omega)
                      obtain ⟨xr, Pr⟩ := M4.pt
                      have ho4 := Pr.ho
                      rw [List.length_map, Ln.out.t] at ho4
                      have hcap4 := ho4.le_cap
                      obtain ⟨gr, curr, e4, -, -⟩ := ho4.open_ (by omega)
                      have e5 : gr = gk := by injection e4 with e; injection e with e1; exact e1.symm
                      subst e5
                      obtain ⟨n1, hn1⟩ : ∃ q, nt - 1 = q := ⟨_, rfl⟩
                      have b2 : (kk : Int) + 1 ≤ (nt : Int) := by omega
                      have b3 : (nt : Int) ≤ (ct : Int) := by omega
                      have b4 : (0 : Int) ≤ (kk : Int) := by omega
                      have b5 : (kk : Int) ≤ (ct : Int) := by omega
                      have b6 : kk + 1 ≤ nt := by omega
                      have b7 : kk ≤ ct := by omega
                      have b8 : (0 : Int) ≤ (kk : Int) + 1 := by omega
                      have b9 : ((kk : Int) + 1).toNat = kk + 1 := by omega
                      have b10 : kk ≤ nt := by omega
                      have b11 : IntKind.i64.wrap ((kk : Int) + 1) = (kk : Int) + 1 := by rw [IntKind.wrap_i64]; omega
                      have hS0 : Below wr.heap.size wr wr.drew := (Below.refl _ _).drew
                      replace hn1 := Lib.hid hn1
                      replace Pr := Lib.hid Pr
                      replace M4 := Lib.hid M4
                      go_upto_region 33 with (fail)
                      refine wp_region_lex (fun W => Below wr.heap.size wr W) [] [8] [0, 1, 2, 3, 4, 5, 6, 7, 8, 9] (by kernel_rfl) rfl (by kernel_rfl) (by kernel_rfl) (fun _ _ d _ _ h => by cases d <;> exact h) ?_
                      repeat (first | (refine lexG_take _ ?_ rfl rfl rfl rfl (fun _ => ?_) ?_; rotate_left; (focus (go_simp; with_reducible rfl)); try simp only [Act.put, List.setIfInBounds_toArray, List.set_cons_zero, List.set_cons_succ]) | (refine lexG_held _ ?_ rfl rfl rfl rfl (by assumption) (fun _ hSw => ?_) ?_; rotate_left; (focus ((try dsimp only at hSw); go_simp; with_reducible rfl)); try simp only [Act.put, List.setIfInBounds_toArray, List.set_cons_zero, List.set_cons_succ]) | (refine lexG_skip _ rfl rfl (by assumption) ?_; try simp only [Act.put, List.setIfInBounds_toArray, List.set_cons_zero, List.set_cons_succ]))
                      have hsrc := ((ho4.reads_.cut (k := kk + 1) (cap := ct) b6 hcap4).drew)
                      have eA : (if ct = kk + 1 then some (⟨gr, 0, none⟩ : Addr) else Option.map (fun x : Addr => x.add ((kk + 1) * 1)) (some (⟨gr, 0, none⟩ : Addr))) = (if ct = kk + 1 then some (⟨gr, 0, none⟩ : Addr) else some (⟨gr, kk + 1, none⟩ : Addr)) := by
                        split
                        · rfl
                        · simp [Addr.add]
                      rw [eA] at hsrc
                      generalize (if ct = kk + 1 then some (⟨gr, 0, none⟩ : Addr) else some (⟨gr, kk + 1, none⟩ : Addr)) = AA at *
                      have hown := ((ho4.first b10).clip (Nat.le_refl kk) b7).below hS0 (Nat.le_refl _)
                      have hone := Pr.out.one
                      refine lexG_nowF _ rfl rfl rfl (by kernel_rfl) (fun K0 hK => ?_)
                      refine wp_append_mine _ _ 27 27 rfl 29 iR0 _ 1 24 Try.underlying27 iR1 iR2 iR3 iR4 rfl rfl hown rfl (Src.ofReads Try.underlying27 _ hsrc (fun u hu => hone u (List.mem_of_mem_drop hu))) (by unfold maxLen; omega) (by omega) (fun A8 c8 w8 ho8 hg8 hat8 => ?_)
                      refine hK _ _ ?_
                      clear hK K0
                      try simp only [Act.put, List.setIfInBounds_toArray, List.set_cons_zero, List.set_cons_succ]
                      repeat (first | (refine lexG_take _ ?_ rfl rfl rfl rfl (fun _ => ?_) ?_; rotate_left; (focus (go_simp; with_reducible rfl)); try simp only [Act.put, List.setIfInBounds_toArray, List.set_cons_zero, List.set_cons_succ]) | (refine lexG_held _ ?_ rfl rfl rfl rfl (by assumption) (fun _ hSw => ?_) ?_; rotate_left; (focus ((try dsimp only at hSw); go_simp; with_reducible rfl)); try simp only [Act.put, List.setIfInBounds_toArray, List.set_cons_zero, List.set_cons_succ]) | (refine lexG_skip _ rfl rfl (by assumption) ?_; try simp only [Act.put, List.setIfInBounds_toArray, List.set_cons_zero, List.set_cons_succ]))
                      refine lexG_nil ?_
                      have eN : kk + (nt - (kk + 1)) = n1 := by have := hn1.out; omega
                      rw [eN, Nat.mul_one, Nat.mul_one] at ho8
                      rw [eN]
                      have hcut := (Pr.out.below_ M4.out.cx hS0).cutd (j := kk) (by decide) (M4.out.cx.below hS0) (by rw [List.length_map, Ln.out.t]; omega) (by rw [List.length_map, Ln.out.t, hn1.out]; exact ho8) hg8 hat8
                      obtain ⟨col8, hs8, hp8⟩ := hcut
                      rw [← map_erase] at hp8
                      have M8 := (M4.out.below hS0).goT hs8 hp8
                      have hend : RelA w ga gb (i + 1) (.slice A8 n1 c8) (.slice Ak nk ck) (.slice As ns cs) (.slice Aj nj cj) w8 :=
                        ⟨col8, a, recvD b p, tos.eraseIdx kk, back, sent, A8, n1, c8, Ak, nk, ck, As, ns, cs, Aj, nj, cj, rfl, rfl, rfl, rfl, M8, I4.out.sub (fun _ h => List.mem_of_mem_eraseIdx h) (fun _ h => h), ⟨by rw [List.length_eraseIdx, if_pos (by rw [Ln.out.t]; exact hkl), Ln.out.t, hn1.out], Ln.out.k, Ln.out.s, by rw [hcm.out, hnj.out], by have := Ln.out.tb; have := hn1.out; omega, by have := Ln.out.kb; omega, by have := Ln.out.sb; omega⟩⟩
                      replace hend := Lib.hid hend
                      clear M8 hs8 hp8 ho8 hg8 hat8 hown hsrc ho4 M4 Pr hone
                      go_wp2_with fail
                      go_meet
                      exact hend.out
          · as_aux_lemma =>
              by_cases hk0 : nk = 0
              · have hend : RelA w ga gb (i + 1) (.slice At nt ct) (.slice Ak nk ck) (.slice As ns cs) (.slice Ag ng cg) w3 :=
                  ⟨col, a, b, tos, back, sent, At, nt, ct, Ak, nk, ck, As, ns, cs, Ag, ng, cg, rfl, rfl, rfl, rfl, M3.out, I.out, ⟨Ln.out.t, Ln.out.k, Ln.out.s, Ln.out.g, by have := Ln.out.tb; omega, by have := Ln.out.kb; omega, by have := Ln.out.sb; omega⟩⟩
                replace hend := Lib.hid hend
                clear M3 I Ln hx3
                have dk : decide ((0 : Int) < (nk : Int)) = false := decide_eq_false (by omega)
                go_wp2_with fail
                go_meet
                exact hend.out
              · have dk : decide ((0 : Int) < (nk : Int)) = true := decide_eq_true (by omega)
                have hnk540 : nk ≤ 540 := by have := Ln.out.kb; omega
                obtain ⟨kk, hkk⟩ : ∃ q, xn % nk = q := ⟨_, rfl⟩
                have hkl : kk < nk := by rw [← hkk]; exact Nat.mod_lt _ (by omega)
                have tk : Int.tmod (xn : Int) (nk : Int) = (kk : Int) := by rw [Int.tmod_eq_emod_of_nonneg (by omega)]; omega
                have tk' : (xn : Int) % (nk : Int) = (kk : Int) := by omega
                have vk : IntKind.i64.wrap (kk : Int) = (kk : Int) := by rw [IntKind.wrap_i64]; omega
                have vn : IntKind.i64.wrap (xn : Int) = (xn : Int) := by rw [IntKind.wrap_i64]; omega
                obtain ⟨p, hp⟩ : ∃ p, back[kk]? = some p := ⟨_, List.getElem?_eq_getElem (by rw [Ln.out.k]; exact hkl)⟩
                have hpm : (back.map Pk.enc)[kk]? = some p.enc := by rw [List.getElem?_map, hp]; rfl
                obtain ⟨xk, Pr⟩ := M3.out.pk
                obtain ⟨gk, BP, cP, rfl, c0, hcP, hFP⟩ := Pr.cell hpm
                have hok := I.out.hback p (List.mem_of_getElem? hp)
                obtain ⟨f1, f2, f3, f4, f5, f6, f7, f8⟩ := I.out.recvA_f hok
                have hrv := lk_recv (cb := cP) M3.out.cx M3.out.la I.out.aok hFP.1 hcP f1 f2 f3 f4 f5 f6 f7 f8
                obtain ⟨NP, hNP⟩ : ∃ q, p.enc.length = q := ⟨_, rfl⟩
                rw [hNP] at hrv c0 hcP
                replace hrv := Lib.hid hrv
                replace hp := Lib.hid hp
                replace hpm := Lib.hid hpm
                replace hok := Lib.hid hok
                unfold lnk at hrv
                replace hkk := Lib.hid hkk
                clear hFP hNP f1 f2 f3 f4 f5 f6 f7 f8 Pr
                have p2' := hx3.out.cell 2
                go_upto_region 38 with (fail)
                --CUT0
                go_wp2_with fail
                refine hrv.out.mono ?_
                clear hrv
                rintro e w4 ⟨Am, cm, col4, rfl, hs4, hl4, -⟩
                try dsimp only
                have M4 := M3.out.goA hs4 hl4
                have I4 := (I.out.recvA_i hok.out).1
                obtain ⟨xr, Pr⟩ := M4.pk
                clear hs4 hl4 c0 hcP M3
                have ho4 := Pr.ho
                rw [List.length_map, Ln.out.k] at ho4
                have hcap4 := ho4.le_cap
                obtain ⟨gr, curr, e4, -, -⟩ := ho4.open_ (by omega)
                have e5 : gr = gk := by injection e4 with e; injection e with e1; exact e1.symm
                subst e5
                obtain ⟨n1, hn1⟩ : ∃ q, nk - 1 = q := ⟨_, rfl⟩
                have b2 : (kk : Int) + 1 ≤ (nk : Int) := by omega
                have b3 : (nk : Int) ≤ (ck : Int) := by omega
                have b4 : (0 : Int) ≤ (kk : Int) := by omega
                have b5 : (kk : Int) ≤ (ck : Int) := by omega
                have b6 : kk + 1 ≤ nk := by omega
                have b7 : kk ≤ ck := by omega
                have b8 : (0 : Int) ≤ (kk : Int) + 1 := by omega
                have b9 : ((kk : Int) + 1).toNat = kk + 1 := by omega
                have b10 : kk ≤ nk := by omega
                have b11 : IntKind.i64.wrap ((kk : Int) + 1) = (kk : Int) + 1 := by rw [IntKind.wrap_i64]; omega
                have hS0 : Below w4.heap.size w4 w4.drew := (Below.refl _ _).drew
                replace hn1 := Lib.hid hn1
                replace Pr := Lib.hid Pr
                replace M4 := Lib.hid M4
                go_upto_region 39 with (fail)
                refine wp_region_lex (fun W => Below w4.heap.size w4 W) [] [8] [0, 1, 2, 3, 4, 5, 6, 7, 8, 9] (by kernel_rfl) rfl (by kernel_rfl) (by kernel_rfl) (fun _ _ d _ _ h => by cases d <;> exact h) ?_
                repeat (first | (refine lexG_take _ ?_ rfl rfl rfl rfl (fun _ => ?_) ?_; rotate_left; (focus (go_simp; with_reducible rfl)); try simp only [Act.put, List.setIfInBounds_toArray, List.set_cons_zero, List.set_cons_succ]) | (refine lexG_held _ ?_ rfl rfl rfl rfl (by assumption) (fun _ hSw => ?_) ?_; rotate_left; (focus ((try dsimp only at hSw); go_simp; with_reducible rfl)); try simp only [Act.put, List.setIfInBounds_toArray, List.set_cons_zero, List.set_cons_succ]) | (refine lexG_skip _ rfl rfl (by assumption) ?_; try simp only [Act.put, List.setIfInBounds_toArray, List.set_cons_zero, List.set_cons_succ]))
                have hsrc := ((ho4.reads_.cut (k := kk + 1) (cap := ck) b6 hcap4).drew)
                have eA : (if ck = kk + 1 then some (⟨gr, 0, none⟩ : Addr) else Option.map (fun x : Addr => x.add ((kk + 1) * 1)) (some (⟨gr, 0, none⟩ : Addr))) = (if ck = kk + 1 then some (⟨gr, 0, none⟩ : Addr) else some (⟨gr, kk + 1, none⟩ : Addr)) := by
                  split
                  · rfl
                  · simp [Addr.add]
                rw [eA] at hsrc
                generalize (if ck = kk + 1 then some (⟨gr, 0, none⟩ : Addr) else some (⟨gr, kk + 1, none⟩ : Addr)) = AA at *
                have hown := ((ho4.first b10).clip (Nat.le_refl kk) b7).below hS0 (Nat.le_refl _)
                have hone := Pr.out.one
                refine lexG_nowF _ rfl rfl rfl (by kernel_rfl) (fun K0 hK => ?_)
                refine wp_append_mine _ _ 27 27 rfl 29 iR0 _ 1 24 Try.underlying27 iR1 iR2 iR3 iR4 rfl rfl hown rfl (Src.ofReads Try.underlying27 _ hsrc (fun u hu => hone u (List.mem_of_mem_drop hu))) (by unfold maxLen; omega) (by omega) (fun A8 c8 w8 ho8 hg8 hat8 => ?_)
                refine hK _ _ ?_
                clear hK K0
                try simp only [Act.put, List.setIfInBounds_toArray, List.set_cons_zero, List.set_cons_succ]
                repeat (first | (refine lexG_take _ ?_ rfl rfl rfl rfl (fun _ => ?_) ?_; rotate_left; (focus (go_simp; with_reducible rfl)); try simp only [Act.put, List.setIfInBounds_toArray, List.set_cons_zero, List.set_cons_succ]) | (refine lexG_held _ ?_ rfl rfl rfl rfl (by assumption) (fun _ hSw => ?_) ?_; rotate_left; (focus ((try dsimp only at hSw); go_simp; with_reducible rfl)); try simp only [Act.put, List.setIfInBounds_toArray, List.set_cons_zero, List.set_cons_succ]) | (refine lexG_skip _ rfl rfl (by assumption) ?_; try simp only [Act.put, List.setIfInBounds_toArray, List.set_cons_zero, List.set_cons_succ]))
                refine lexG_nil ?_
                have eN : kk + (nk - (kk + 1)) = n1 := by have := hn1.out; omega
                rw [eN, Nat.mul_one, Nat.mul_one] at ho8
                rw [eN]
                have hcut := (Pr.out.below_ M4.out.cx hS0).cutd (j := kk) (by decide) (M4.out.cx.below hS0) (by rw [List.length_map, Ln.out.k]; omega) (by rw [List.length_map, Ln.out.k, hn1.out]; exact ho8) hg8 hat8
                obtain ⟨col8, hs8, hp8⟩ := hcut
                rw [← map_erase] at hp8
                have M8 := (M4.out.below hS0).goK hs8 hp8
                have hend : RelA w ga gb (i + 1) (.slice At nt ct) (.slice A8 n1 c8) (.slice As ns cs) (.slice Ag ng cg) w8 :=
                  ⟨col8, recvD a p, b, tos, back.eraseIdx kk, sent, At, nt, ct, A8, n1, c8, As, ns, cs, Ag, ng, cg, rfl, rfl, rfl, rfl, M8, I4.sub (fun _ h => h) (fun _ h => List.mem_of_mem_eraseIdx h), ⟨Ln.out.t, by rw [List.length_eraseIdx, if_pos (by rw [Ln.out.k]; exact hkl), Ln.out.k, hn1.out], Ln.out.s, Ln.out.g, by have := Ln.out.tb; omega, by have := Ln.out.kb; have := hn1.out; omega, by have := Ln.out.sb; omega⟩⟩
                replace hend := Lib.hid hend
                clear M8 hs8 hp8 ho8 hg8 hat8 hown hsrc ho4 M4 Pr hone
                --CUT1
                go_wp2_with fail
                go_meet
                exact hend.out
          · as_aux_lemma =>
              have htk := lk_tick M3.out.cx M3.out.la I.out.aok
              replace htk := Lib.hid htk
              unfold lnk at htk
              go_upto_region 15 with (fail)
              go_wp2_with fail
              refine htk.out.mono ?_
              clear htk
              rintro e w4 ⟨rfl, col4, hs4, hl4⟩
              unfold nil_
              try dsimp only
              have M4 := M3.out.goA hs4 hl4
              have hend : RelA w ga gb (i + 1) (.slice At nt ct) (.slice Ak nk ck) (.slice As ns cs) (.slice Ag ng cg) w4 :=
                ⟨col4, tickD a, b, tos, back, sent, At, nt, ct, Ak, nk, ck, As, ns, cs, Ag, ng, cg, rfl, rfl, rfl, rfl, M4, I.out.tickA, ⟨Ln.out.t, Ln.out.k, Ln.out.s, Ln.out.g, by have := Ln.out.tb; omega, by have := Ln.out.kb; omega, by have := Ln.out.sb; omega⟩⟩
              replace hend := Lib.hid hend
              clear M4 hl4 hs4
              go_wp2_with fail
              go_meet
              exact hend.out
        case rest =>
          obtain ⟨col', a', b', tos', back', sent', At', nt', ct', Ak', nk', ck', As', ns', cs', Ag', ng', cg', rfl, rfl, rfl, rfl, M', I', Ln'⟩ := hcut
          have hle : ng' ≤ ns' := by have := I'.bc; have h1 := Ln'.g; have h2 := Ln'.s; omega
          have hdg : decide ((ns' : Int) < (ng' : Int)) = false := decide_eq_false (by omega)
          have hng' : (sent'.take b'.came).length = ng' := by rw [take_len I']; exact Ln'.g
          have hns60 : ns' ≤ 61 := by have := Ln'.sb; omega
          have hpf := prefix_true M'.sg M'.ss rfl (by rw [hng']; omega) (by rw [Ln'.s]; omega)
          rw [hng', Ln'.s] at hpf
          replace M' := Lib.hid M'
          replace I' := Lib.hid I'
          replace Ln' := Lib.hid Ln'
          replace hpf := Lib.hid hpf
          clear M3 I Ln hx3 hrB hLB p0 p1 p2 p3
          go_wp2_with fail
          refine hpf.out.mono ?_
          clear hpf
          rintro e w9 ⟨rfl, hb9⟩
          try dsimp only
          have hend : RelA w ga gb (i + 1) (.slice At' nt' ct') (.slice Ak' nk' ck') (.slice As' ns' cs') (.slice Ag' ng' cg') w9 :=
            ⟨col', a', b', tos', back', sent', At', nt', ct', Ak', nk', ck', As', ns', cs', Ag', ng', cg', rfl, rfl, rfl, rfl, M'.out.below hb9, I'.out, Ln'.out⟩
          replace hend := Lib.hid hend
          clear M'
          go_wp2_with fail
          go_roundw
          case rel => exact ⟨i + 1, by omega, by simp, hend.out⟩
          case measure => simp [intOf]; omega
      · have hj' : i = n := by omega
        have hd : decide ((i : Int) < (n : Int)) = false := decide_eq_false (by omega)
        subst hj'
        have I0 := I.sub (tos' := []) (back' := []) (fun _ h => by cases h) (fun _ h => by cases h)
        have hns60 : ns ≤ 60 := by have h1 := Ln.s; have h2 := I.sl; omega
        obtain ⟨TT, hTT⟩ : ∃ q, tos.map Pk.enc = q := ⟨_, rfl⟩
        obtain ⟨KK, hKK⟩ : ∃ q, back.map Pk.enc = q := ⟨_, rfl⟩
        rw [hTT, hKK] at M
        have hLs := Ln.s
        have hLg := Ln.g
        replace M := Lib.hid M
        replace I0 := Lib.hid I0
        replace hLs := Lib.hid hLs
        replace hLg := Lib.hid hLg
        clear I Ln hTT hKK
        go_wp2_with fail
        go_loopw [8, 18] (fun t8 z wq => ∃ (R : Nat) (colq : Nat → Nat) (aq bq : LkD) (Aq : Option Addr) (nq cq : Nat), R ≤ 32 ∧ z = .int .i64 (R : Int) ∧ t8 = .slice Aq nq cq ∧ bq.came = nq ∧ Mem w wq colq ga gb aq bq TT KK At ct Ak ck sent (sent.take bq.came) As cs Aq cq ∧ Inv sent aq bq [] [] ∧ Live R aq) (fun _ z _ => 32 - (intOf z).toNat)
        case atStart => exact ⟨0, col, a, b, Ag, ng, cg, by decide, rfl, rfl, hLg.out, M.out, I0.out, live_start⟩
        case round =>
          clear M I0 hLg
          obtain ⟨R, col, a, b, Ag, ng, cg, hR, rfl, rfl, hLg, M, I, hV⟩ := hrel
          by_cases hRl : R < 32
          · as_aux_lemma =>
              have dR : decide ((R : Int) < 32) = true := decide_eq_true (by omega)
              have hRw : IntKind.i64.wrap ((R : Int) + 1) = (R : Int) + 1 := by rw [IntKind.wrap_i64]; omega
              have hou := lk_out (k := 1) M.cx M.la I.aok (by decide) M.n7
              have hVn := round_live I hV
              replace hou := Lib.hid hou
              replace M := Lib.hid M
              replace I := Lib.hid I
              replace hVn := Lib.hid hVn
              replace hLg := Lib.hid hLg
              unfold lnk at hou
              clear hV
              go_upto_region 45 with (fail)
              go_wp2_with fail
              refine hou.out.mono ?_
              clear hou
              rintro e w4 ⟨A1, c1, col4, rfl, hs4, hl4, ⟨x1, P1⟩⟩
              try dsimp only
              have M4 := M.out.goA hs4 hl4
              have I4 := I.out.outA
              rw [List.nil_append] at I4
              obtain ⟨P, hP⟩ : ∃ q, outsP a = q := ⟨_, rfl⟩
              have hPe : P.map Pk.enc = outsD a := by rw [← hP]; exact outsP_enc a
              rw [hP] at I4
              rw [hP] at hVn
              rw [← hPe] at P1 ⊢
              obtain ⟨n1, hn1⟩ : ∃ q, P.length = q := ⟨_, rfl⟩
              have hn18 : n1 ≤ 8 := by rw [← hn1, ← hP]; exact outsP_len a I.out.a8
              rw [List.length_map, hn1]
              obtain ⟨a1, ha1⟩ : ∃ q, outS a = q := ⟨_, rfl⟩
              rw [ha1] at M4 I4 hVn
              replace hn1 := Lib.hid hn1
              replace M4 := Lib.hid M4
              replace I4 := Lib.hid I4
              replace P1 := Lib.hid P1
              clear hs4 hl4 M hP hPe ha1
              go_wp2_with fail
              go_loopw [8, 20] (fun t8 z wk => ∃ (kk : Nat) (colk : Nat → Nat) (Aq : Option Addr) (nq cq : Nat), kk ≤ n1 ∧ z = .int .i64 (kk : Int) ∧ t8 = .slice Aq nq cq ∧ (feed b (P.take kk)).came = nq ∧ Mem w wk colk ga gb a1 (feed b (P.take kk)) TT KK At ct Ak ck sent (sent.take (feed b (P.take kk)).came) As cs Aq cq ∧ Inv sent a1 (feed b (P.take kk)) P [] ∧ PksX colk 0 wk A1 c1 (P.map Pk.enc) x1) (fun _ z _ => n1 - (intOf z).toNat)
              case atStart => exact ⟨0, col4, Ag, ng, cg, Nat.zero_le _, rfl, rfl, hLg.out, M4.out, I4.out, P1.out⟩
              case round =>
                clear M4 I4 P1 hLg
                obtain ⟨kk, col4, Ag, ng, cg, hkk, rfl, rfl, hLg, M4, I4, P1⟩ := hrel
                by_cases hkl : kk < n1
                · as_aux_lemma =>
                    have dk : decide ((kk : Int) < (n1 : Int)) = true := decide_eq_true (by omega)
                    have hkw : IntKind.i64.wrap ((kk : Int) + 1) = (kk : Int) + 1 := by rw [IntKind.wrap_i64]; omega
                    obtain ⟨p, hp⟩ : ∃ p, P[kk]? = some p := ⟨_, List.getElem?_eq_getElem (by rw [hn1.out]; exact hkl)⟩
                    have hpm : (P.map Pk.enc)[kk]? = some p.enc := by rw [List.getElem?_map, hp]; rfl
                    have hfs := feed_succ (d := b) hp
                    obtain ⟨bk, hbk⟩ : ∃ q, feed b (P.take kk) = q := ⟨_, rfl⟩
                    rw [hbk] at hLg M4 I4 hfs
                    obtain ⟨gk, BP, cP, rfl, c0, hcP, hFP⟩ := P1.cell hpm
                    have hok := I4.hto p (List.mem_of_getElem? hp)
                    obtain ⟨f1, f2, f3, f4, f5, f6, f7, f8⟩ := I4.recvB_f hok
                    have hrv := lk_recv (cb := cP) M4.cx M4.lb I4.bok hFP.1 hcP f1 f2 f3 f4 f5 f6 f7 f8
                    obtain ⟨NP, hNP⟩ : ∃ q, p.enc.length = q := ⟨_, rfl⟩
                    obtain ⟨I5, htk, -⟩ := I4.recvB_i hok
                    obtain ⟨M1, hM1⟩ : ∃ q, (recvM bk p).length = q := ⟨_, rfl⟩
                    have hM11 : M1 ≤ 1 := by rw [← hM1]; unfold recvM; split <;> simp
                    have hcm : (recvD bk p).came = ng + M1 := by
                      have h1 := congrArg List.length htk
                      rw [List.length_append, take_len I5, take_len I4, hLg, hM1] at h1
                      exact h1
                    have hng60 : ng ≤ 60 := by have h2 := I4.bc; have h3 := I4.sl; omega
                    have hgl0 : (sent.take bk.came).length = ng := by rw [take_len I4, hLg]
                    rw [hNP] at hrv c0 hcP
                    replace hrv := Lib.hid hrv
                    replace hpm := Lib.hid hpm
                    replace I5 := Lib.hid I5
                    replace htk := Lib.hid htk
                    replace hM1 := Lib.hid hM1
                    replace hcm := Lib.hid hcm
                    replace hfs := Lib.hid hfs
                    replace hgl0 := Lib.hid hgl0
                    replace M4 := Lib.hid M4
                    replace P1 := Lib.hid P1
                    replace hLg := Lib.hid hLg
                    unfold lnk at hrv
                    clear hFP hNP f1 f2 f3 f4 f5 f6 f7 f8 I4 hp hok hbk
                    go_upto_region 49 with (fail)
                    --CUT0
                    go_wp2_with fail
                    refine hrv.out.mono ?_
                    clear hrv
                    rintro e w5 ⟨Am, cm, col5, rfl, hs5, hl5, ⟨xm, Pm⟩⟩
                    try dsimp only
                    have M5 := M4.out.goB hs5 hl5
                    have P5 := P1.out.keep hs5 (by decide) (by decide)
                    rw [hM1.out]
                    clear hs5 hl5 c0 hcP M4 P1
                    replace M5 := Lib.hid M5
                    replace Pm := Lib.hid Pm
                    replace P5 := Lib.hid P5
                    go_wp2_with fail
                    go_loopw [8, 23] (fun t8 z wj => ∃ (jj : Nat) (colj : Nat → Nat) (Aj : Option Addr) (nj cj : Nat), jj ≤ M1 ∧ z = .int .i64 (jj : Int) ∧ t8 = .slice Aj nj cj ∧ nj = ng + jj ∧ Mem w wj colj ga gb a1 (recvD bk p) TT KK At ct Ak ck sent (sent.take bk.came ++ (recvM bk p).take jj) As cs Aj cj ∧ PksX colj 0 wj Am cm (recvM bk p) xm ∧ PksX colj 0 wj (some ⟨gk, 0, none⟩) c1 (P.map Pk.enc) x1) (fun _ z _ => M1 - (intOf z).toNat)
                    case atStart => exact ⟨0, col5, Ag, ng, cg, Nat.zero_le _, rfl, rfl, rfl, by rw [List.take_zero, List.append_nil]; exact M5.out, Pm.out, P5.out⟩
                    case round =>
                      clear M5 Pm P5
                      obtain ⟨jj, colj, Aj, nj, cj, hjj, rfl, rfl, hnj, M4, Pm, P4⟩ := hrel
                      by_cases hjl : jj < M1
                      · obtain ⟨mb, hmb⟩ : ∃ q, (recvM bk p)[jj]? = some q := ⟨_, List.getElem?_eq_getElem (by rw [hM1.out]; exact hjl)⟩
                        obtain ⟨gm, Bm, cBm, rfl, c0, -, hFm⟩ := Pm.cell hmb
                        have dj : decide ((jj : Int) < (M1 : Int)) = true := decide_eq_true (by omega)
                        have hjw2 : IntKind.i64.wrap ((jj : Int) + 1) = (jj : Int) + 1 := by rw [IntKind.wrap_i64]; omega
                        obtain ⟨LM, hLM⟩ : ∃ q, mb.length = q := ⟨_, rfl⟩
                        have kv := conv_bytes (c := cBm) hFm.1
                        rw [hLM] at c0 kv
                        obtain ⟨w5, hw5⟩ : ∃ q, q = wr.alloc (.cells #[bsv mb] 9) := ⟨_, rfl⟩
                        have hsrc : Reads w5 (wr.heap.size + 1) 1 (some ⟨wr.heap.size, 0, none⟩) 1 [bsv mb] := by rw [hw5]; exact Reads.lit (size := 1) wr #[bsv mb] 9 (0, 0) 1 [bsv mb] rfl rfl
                        have hb45 : Below wr.heap.size wr w5 := by rw [hw5]; exact (Below.refl _ _).alloc (Nat.le_refl _) _
                        have M5 := M4.below hb45
                        have Pm5 := Pm.below_ M4.cx hb45
                        have P5 := P4.below_ M4.cx hb45
                        have hgl : (sent.take bk.came ++ (recvM bk p).take jj).length = nj := by rw [List.length_append, hgl0.out, List.length_take, hM1.out, hnj]; omega
                        have hoS := M5.sg.ho
                        rw [hgl] at hoS
                        have htk1 : sent.take bk.came ++ (recvM bk p).take (jj + 1) = (sent.take bk.came ++ (recvM bk p).take jj) ++ [mb] := by rw [List.take_add_one, hmb, ← List.append_assoc]; rfl
                        obtain ⟨Gj, hGj⟩ : ∃ q, sent.take bk.came ++ (recvM bk p).take jj = q := ⟨_, rfl⟩
                        rw [hGj] at M5 hgl hoS htk1
                        clear hGj
                        rw [hw5] at hsrc hoS
                        unfold bsv at hsrc hw5
                        replace M5 := Lib.hid M5
                        replace hoS := Lib.hid hoS
                        replace hsrc := Lib.hid hsrc
                        replace Pm5 := Lib.hid Pm5
                        replace P5 := Lib.hid P5
                        replace hgl := Lib.hid hgl
                        replace htk1 := Lib.hid htk1
                        replace hmb := Lib.hid hmb
                        replace hnj := Lib.hid hnj
                        have hnj2 : nj ≤ 70 := by have := hnj.out; omega
                        clear M4 Pm P4 hFm hLM
                        --CUT1
                        go_wp2_with (at_builtin; go_must (refine wpList_append_mine rfl _ _ 28 28 rfl 9 iS0 _ 1 16 Try.underlying28 iS1 iS2 iS3 iS4 rfl rfl hoS.out rfl (Src.ofReads Try.underlying28 _ hsrc.out (by intro u hu; simp only [List.mem_cons, List.not_mem_nil, or_false] at hu; subst hu; rfl)) ?b1 ?b2 ?grow))
                        case b1 => unfold maxLen; omega
                        case b2 => omega
                        case grow =>
                          intro A8 c8 w8 ho8 hg8 hat8
                          rw [← hw5] at hg8
                          have hsz : w5.heap.size = wr.heap.size + 1 := by rw [hw5]; simp
                          have hat8' : bOf A8 = bOf Aj ∨ bOf A8 = some w5.heap.size := by rw [hsz]; simpa using hat8
                          obtain ⟨col8, hs8, hp8⟩ := M5.out.sg.push (b := mb) M5.out.cx (by rw [hgl.out]; exact ho8) hg8 hat8'
                          have M8 := M5.out.goG hs8 hp8
                          rw [← htk1.out] at M8
                          have Pm8 := Pm5.out.keep hs8 (by decide) (by decide)
                          have P8 := P5.out.keep hs8 (by decide) (by decide)
                          replace M8 := Lib.hid M8
                          replace Pm8 := Lib.hid Pm8
                          replace P8 := Lib.hid P8
                          clear hp8 hs8 ho8 hg8 hat8 hat8' hsrc hoS hw5 M5 Pm5 P5
                          go_wp2_with fail
                          --CUT5
                          go_roundw
                          case rel => exact ⟨jj + 1, col8, A8, nj + 1, c8, by omega, by simp, rfl, by have := hnj.out; omega, M8.out, Pm8.out, P8.out⟩
                          case measure => simp [intOf]; omega
                      · have hjm : jj = M1 := by omega
                        have dj : decide ((jj : Int) < (M1 : Int)) = false := decide_eq_false (by omega)
                        have ht1 : (recvM bk p).take M1 = recvM bk p := List.take_of_length_le (by rw [hM1.out]; exact Nat.le_refl _)
                        rw [hjm, ht1, ← htk.out, ← hfs.out] at M4
                        rw [hjm] at hnj
                        have hend : (feed b (P.take (kk + 1))).came = nj ∧ Mem w wr colj ga gb a1 (feed b (P.take (kk + 1))) TT KK At ct Ak ck sent (sent.take (feed b (P.take (kk + 1))).came) As cs Aj cj ∧ Inv sent a1 (feed b (P.take (kk + 1))) P [] ∧ PksX colj 0 wr (some ⟨gk, 0, none⟩) c1 (P.map Pk.enc) x1 := ⟨by rw [hfs.out, hcm.out, hnj], M4, by rw [hfs.out]; exact I5.out, P4⟩
                        replace hend := Lib.hid hend
                        clear M4 P4 Pm hjm ht1 hnj
                        go_wp2_with fail
                        --CUT6
                        go_roundw
                        case rel => exact ⟨kk + 1, colj, Aj, nj, cj, by omega, by simp, rfl, hend.out.1, hend.out.2.1, hend.out.2.2.1, hend.out.2.2.2⟩
                        case measure => simp [intOf]; omega
                · as_aux_lemma =>
                    have hkn : kk = n1 := by omega
                    have dk : decide ((kk : Int) < (n1 : Int)) = false := decide_eq_false (by omega)
                    have ht1 : P.take n1 = P := List.take_of_length_le (by rw [hn1.out]; exact Nat.le_refl _)
                    rw [hkn, ht1] at hLg M4 I4
                    clear P1 ht1 hkn
                    obtain ⟨b1, hb1⟩ : ∃ q, feed b P = q := ⟨_, rfl⟩
                    rw [hb1] at hLg M4 I4
                    have hou := lk_out (k := 2) M4.cx M4.lb I4.bok (by decide) M4.n7
                    replace hou := Lib.hid hou
                    replace M4 := Lib.hid M4
                    replace I4 := Lib.hid I4
                    replace hLg := Lib.hid hLg
                    replace hb1 := Lib.hid hb1
                    unfold lnk at hou
                    --CUT7
                    go_upto_region 54 with (fail)
                    go_wp2_with fail
                    refine hou.out.mono ?_
                    clear hou
                    rintro e w6 ⟨A2, c2, col6, rfl, hs6, hl6, ⟨x2, P2⟩⟩
                    try dsimp only
                    have M6 := M4.out.goB hs6 hl6
                    have I6 := I4.out.outB.sub (tos' := []) (fun _ h => by cases h) (fun _ h => h)
                    rw [List.nil_append] at I6
                    obtain ⟨Q, hQ⟩ : ∃ q, outsP b1 = q := ⟨_, rfl⟩
                    have hQe : Q.map Pk.enc = outsD b1 := by rw [← hQ]; exact outsP_enc b1
                    rw [hQ] at I6
                    rw [← hQe] at P2 ⊢
                    obtain ⟨n2, hn2⟩ : ∃ q, Q.length = q := ⟨_, rfl⟩
                    have hn28 : n2 ≤ 8 := by rw [← hn2, ← hQ]; exact outsP_len b1 (by rw [I4.out.bl]; decide)
                    rw [List.length_map, hn2]
                    have hbc : (outS b1).came = ng := hLg.out
                    replace hn2 := Lib.hid hn2
                    replace M6 := Lib.hid M6
                    replace I6 := Lib.hid I6
                    replace P2 := Lib.hid P2
                    replace hQ := Lib.hid hQ
                    replace hbc := Lib.hid hbc
                    clear hs6 hl6 M4 hQe
                    go_wp2_with fail
                    go_loopw [24] (fun z wk => ∃ (kk : Nat) (colk : Nat → Nat), kk ≤ n2 ∧ z = .int .i64 (kk : Int) ∧ Mem w wk colk ga gb (feed a1 (Q.take kk)) (outS b1) TT KK At ct Ak ck sent (sent.take (outS b1).came) As cs Ag cg ∧ Inv sent (feed a1 (Q.take kk)) (outS b1) [] Q ∧ PksX colk 0 wk A2 c2 (Q.map Pk.enc) x2) (fun z _ => n2 - (intOf z).toNat)
                    case atStart => exact ⟨0, col6, Nat.zero_le _, rfl, M6.out, I6.out, P2.out⟩
                    case round =>
                      clear M6 I6 P2
                      obtain ⟨kk, col6, hkk, rfl, M6, I6, P2⟩ := hrel
                      by_cases hkl : kk < n2
                      · have dk : decide ((kk : Int) < (n2 : Int)) = true := decide_eq_true (by omega)
                        have hkw : IntKind.i64.wrap ((kk : Int) + 1) = (kk : Int) + 1 := by rw [IntKind.wrap_i64]; omega
                        obtain ⟨p, hp⟩ : ∃ p, Q[kk]? = some p := ⟨_, List.getElem?_eq_getElem (by rw [hn2.out]; exact hkl)⟩
                        have hpm : (Q.map Pk.enc)[kk]? = some p.enc := by rw [List.getElem?_map, hp]; rfl
                        have hfs := feed_succ (d := a1) hp
                        obtain ⟨ak, hak⟩ : ∃ q, feed a1 (Q.take kk) = q := ⟨_, rfl⟩
                        rw [hak] at M6 I6 hfs
                        obtain ⟨gk, BP, cP, rfl, c0, hcP, hFP⟩ := P2.cell hpm
                        have hok := I6.hback p (List.mem_of_getElem? hp)
                        obtain ⟨f1, f2, f3, f4, f5, f6, f7, f8⟩ := I6.recvA_f hok
                        have hrv := lk_recv (cb := cP) M6.cx M6.la I6.aok hFP.1 hcP f1 f2 f3 f4 f5 f6 f7 f8
                        obtain ⟨NP, hNP⟩ : ∃ q, p.enc.length = q := ⟨_, rfl⟩
                        have I7 := (I6.recvA_i hok).1
                        rw [hNP] at hrv c0 hcP
                        replace hrv := Lib.hid hrv
                        replace hpm := Lib.hid hpm
                        replace I7 := Lib.hid I7
                        replace hfs := Lib.hid hfs
                        replace M6 := Lib.hid M6
                        replace P2 := Lib.hid P2
                        unfold lnk at hrv
                        clear hFP hNP f1 f2 f3 f4 f5 f6 f7 f8 I6 hp hok hak
                        --CUT8
                        go_wp2_with fail
                        refine hrv.out.mono ?_
                        clear hrv
                        rintro e w7 ⟨Am, cm, col7, rfl, hs7, hl7, -⟩
                        try dsimp only
                        have M7 := M6.out.goA hs7 hl7
                        have P7 := P2.out.keep hs7 (by decide) (by decide)
                        rw [← hfs.out] at M7
                        have hI7 := I7.out
                        rw [← hfs.out] at hI7
                        replace M7 := Lib.hid M7
                        replace P7 := Lib.hid P7
                        replace hI7 := Lib.hid hI7
                        clear hs7 hl7 c0 hcP M6 P2 I7
                        go_wp2_with fail
                        go_roundw
                        case rel => exact ⟨kk + 1, col7, by omega, by simp, M7.out, hI7.out, P7.out⟩
                        case measure => simp [intOf]; omega
                      · have hkn : kk = n2 := by omega
                        have dk : decide ((kk : Int) < (n2 : Int)) = false := decide_eq_false (by omega)
                        have ht1 : Q.take n2 = Q := List.take_of_length_le (by rw [hn2.out]; exact Nat.le_refl _)
                        rw [hkn, ht1] at M6 I6
                        clear P2 ht1 hkn
                        obtain ⟨a2, ha2⟩ : ∃ q, feed a1 Q = q := ⟨_, rfl⟩
                        rw [ha2] at M6 I6
                        have hta := lk_tick M6.cx M6.la I6.aok
                        replace hta := Lib.hid hta
                        replace M6 := Lib.hid M6
                        replace I6 := Lib.hid I6
                        replace ha2 := Lib.hid ha2
                        unfold lnk at hta
                        --CUT9
                        go_wp2_with fail
                        refine hta.out.mono ?_
                        clear hta
                        rintro e w7 ⟨rfl, col7, hs7, hl7⟩
                        unfold nil_
                        try dsimp only
                        have M7 := M6.out.goA (a' := tickD a2) hs7 hl7
                        have I7 := I6.out.tickA
                        have htb := lk_tick M7.cx M7.lb I7.bok
                        replace htb := Lib.hid htb
                        replace M7 := Lib.hid M7
                        replace I7 := Lib.hid I7
                        unfold lnk at htb
                        clear hs7 hl7 M6 I6
                        go_wp2_with fail
                        refine htb.out.mono ?_
                        clear htb
                        rintro e w8 ⟨rfl, col8, hs8, hl8⟩
                        unfold nil_
                        try dsimp only
                        have M8 := M7.out.goB (b' := tickD (outS b1)) hs8 hl8
                        have I8 := I7.out.tickB.sub (tos' := []) (back' := []) (fun _ h => h) (fun _ h => by cases h)
                        have htc : (tickD (outS b1)).came = (outS b1).came := by unfold tickD anewD; split <;> rfl
                        have hVV := hVn.out
                        rw [hb1.out, hQ.out, ha2.out] at hVV
                        have hend : (tickD (outS b1)).came = ng ∧ Mem w w8 col8 ga gb (tickD a2) (tickD (outS b1)) TT KK At ct Ak ck sent (sent.take (tickD (outS b1)).came) As cs Ag cg ∧ Inv sent (tickD a2) (tickD (outS b1)) [] [] ∧ Live (R + 1) (tickD a2) := ⟨by rw [htc]; exact hbc.out, by rw [htc]; exact M8, I8, hVV⟩
                        replace hend := Lib.hid hend
                        clear hs8 hl8 M7 I7 M8 I8 hVV hVn
                        go_wp2_with fail
                        --CUTa
                        go_roundw
                        case rel => exact ⟨R + 1, col8, tickD a2, tickD (outS b1), Ag, ng, cg, by omega, by simp, rfl, hend.out.1, hend.out.2.1, hend.out.2.2.1, hend.out.2.2.2⟩
                        case measure => simp [intOf]; omega
          · as_aux_lemma =>
              have hR32 : R = 32 := by omega
              have dR : decide ((R : Int) < 32) = false := decide_eq_false (by omega)
              rw [hR32] at hV
              obtain ⟨hal, hall⟩ := live_end I hV
              have hgl := take_len I
              have hng : ng = ns := by rw [hall] at hgl; have := hLs.out; omega
              subst hng
              have hpf := prefix_true M.sg M.ss rfl (by rw [hgl, hLg]; omega) (by rw [hLs.out]; omega)
              rw [hgl, hLg, hLs.out] at hpf
              replace hpf := Lib.hid hpf
              replace M := Lib.hid M
              replace hal := Lib.hid hal
              clear I hV hall hgl hLg hR32
              --CUTb
              go_wp2_with fail
              refine hpf.out.mono ?_
              clear hpf
              rintro e w9 ⟨rfl, hb9⟩
              try dsimp only
              have M9 := M.out.below hb9
              have hop := lk_open M9.la
              rw [hal.out] at hop
              replace hop : Calls Try.prog 11 #[lnk ga] w9 (Says w9 (.int .i64 0)) := hop
              replace hop := Lib.hid hop
              replace M9 := Lib.hid M9
              unfold lnk at hop
              go_wp2_with fail
              refine hop.out.mono ?_
              clear hop
              rintro e wa ⟨rfl, hba⟩
              try dsimp only
              go_wp2_with fail
              go_ret
              exact ⟨rfl, (M9.out.bas.below hba).hb⟩
end Go.Proofs.Ytflgmphghmkciaa
