/- References: ref.Parse at any text. -/
import Derived.Test.YtdnoafjaheofcaaDoorRf14
set_option linter.unusedSimpArgs false
set_option linter.unusedVariables false
namespace Go.Proofs.YtdnoafjaheofcaaDoor
open Go.RowKit Go.Sort Go.Lib
set_option maxRecDepth 100000

theorem text_any {g : List UInt8} {v : Nat} {A : Option Addr} {c : Nat} {ns : List Int} {w : World} (h : Reads w w.heap.size 1 A ns.length (ints ns)) (hg : g.length ≤ 140737488351232) (hn : ns.length ≤ 140737488351232) (hv : v < 4294967296) (hL : LaidW w) :
    Calls Tryd.prog 10 #[.agg #[.string (bstr g), .int .u32 (v : Int), .slice A ns.length c]] w (fun e w' => e = .returned (.string (bstr (textR g v ns))) ∧ RowKit.Below w.heap.size w w') := by
  cases hr : rightB g ns with
  | true => exact text_yes h hv hr hL
  | false =>
    rw [show textR g v ns = [] from by unfold textR; rw [hr]; rfl]
    exact text_no h hg hn hr
theorem textR_right {g : List UInt8} {v : Nat} {ns : List Int} (h : textR g v ns ≠ []) : rightB g ns = true := by
  cases hr : rightB g ns with
  | true => rfl
  | false => exact absurd (by unfold textR; rw [hr]; rfl) h
theorem textR_some {g : List UInt8} {v : Nat} {ns : List Int} (h : rightB g ns = true) : textR g v ns ≠ [] := by unfold textR; rw [if_pos h]; simp
/-- What is read of the pieces of a right reference's text. -/
def Reading (P : List (List UInt8)) (h : List UInt8) (u : Nat) (Q : List (List UInt8)) (X : List Int) : Prop :=
  ∃ p0 p1 p2, P = [p0, p1, p2] ∧ h = unhexL p0 ∧ (∀ v, v ≤ 4294967295 → p1 = Lib.decDigits v → u = v) ∧ Q = pieces p2 44 ∧ X.length = Q.length ∧ ∀ i, i < X.length → ∀ v : Nat, v ≤ 255 → Q.getD i [] = Lib.decDigits v → X.getD i 0 = (v : Int)
theorem reading_is {g' : List UInt8} {v' : Nat} {ns' : List Int} (hr : rightB g' ns' = true) (hv : v' < 4294967296) {h : List UInt8} {u : Nat} {Q : List (List UInt8)} {X : List Int} (H : Reading (pieces (trimL (textR g' v' ns')) 47) h u Q X) : h = g' ∧ u = v' ∧ X = ns' := by
  obtain ⟨p0, p1, p2, hP, hh, hu, hQ, hX, hXi⟩ := H
  obtain ⟨t1, t2⟩ := text_parts (v := v') hr
  rw [t1] at hP
  injection hP with e0 hP
  injection hP with e1 hP
  injection hP with e2 hP
  subst e0 e1 e2
  rw [t2] at hQ
  subst hQ
  obtain ⟨-, -, -, -, hok⟩ := right_yes hr
  refine ⟨by rw [hh, unhex_hex], hu v' (by omega) rfl, ?_⟩
  have hl : X.length = ns'.length := by rw [hX]; simp [nodeTs]
  apply List.ext_getElem hl
  intro i h1 h2
  obtain ⟨o0, o1, -⟩ := hok i h2
  rw [List.getD, List.getElem?_eq_getElem h2, Option.getD_some] at o0 o1
  have e : (nodeTs ns').getD i [] = Lib.decDigits (ns'[i]).toNat := by
    rw [List.getD, nodeTs, List.getElem?_map, List.getElem?_eq_getElem h2, Option.map_some, Option.getD_some, itoa_pos o0]
  have := hXi i h1 _ (by omega) e
  rw [List.getD, List.getElem?_eq_getElem h1, Option.getD_some] at this
  omega

def ParseRes (l : List UInt8) (w : World) (e : Ending) (w' : World) : Prop :=
  ∃ (g : List UInt8) (v : Nat) (ns : List Int) (b : Bool) (A : Option Addr) (c : Nat), e = .returned (.tuple #[.agg #[.string (bstr g), .int .u32 (v : Int), .slice A ns.length c], .bool b]) ∧ v < 4294967296 ∧ Own w' 3 1 A ns.length c (ints ns) ∧ RowKit.Below w.heap.size w w' ∧ (∀ q, bOf A = some q → w.heap.size ≤ q) ∧ g.length ≤ l.length ∧ ns.length ≤ l.length + 1 ∧
    (b = true → textR g v ns = l ∧ rightB g ns = true ∧ ∀ g' v' ns', rightB g' ns' = true → v' < 4294967296 → textR g' v' ns' = l → g = g' ∧ v = v' ∧ ns = ns') ∧
    (b = false → (g = [] ∧ v = 0 ∧ ns = []) ∧ ∀ g' v' ns', rightB g' ns' = true → v' < 4294967296 → textR g' v' ns' ≠ l)

set_option maxHeartbeats 6400000 in
theorem parse_walk (l : List UInt8) (hl : l.length ≤ 100000) (w : World) (hL : LaidW w) : Calls Tryd.prog 13 #[.string (bstr l)] w (ParseRes l w) := by
  have hy := Blk.new w 26 #[.string ⟨#[]⟩, .int .u32 0, .slice none 0 0]
  have hb0 := (RowKit.Below.refl w.heap.size w).alloc (Nat.le_refl _) (.cells #[.string ⟨#[]⟩, .int .u32 0, .slice none 0 0] 26)
  obtain ⟨T, hT⟩ : ∃ T, trimL l = T := ⟨_, rfl⟩
  have hTl : T.length ≤ l.length := by rw [← hT]; unfold trimL Lib.trimPrefix; split <;> simp
  obtain ⟨P, hP⟩ : ∃ P, pieces T 47 = P := ⟨_, rfl⟩
  have hPs := pieces_small T 47
  have hPl := pieces_len T 47
  rw [hP] at hPs hPl
  have hPn : P.length ≤ 100001 := by omega
  have htrim : ∀ W, Calls Tryd.prog 33 #[.string (bstr l), .string ⟨#[99, 104, 111, 105, 114, 58]⟩] W (fun e w' => e = .returned (.string (bstr T)) ∧ w' = W) := fun W => by
    have h := Tryd.strings_TrimPrefix (bstr l) ⟨#[99, 104, 111, 105, 114, 58]⟩ W
    rw [bstr_dl, show (⟨#[99, 104, 111, 105, 114, 58]⟩ : ByteArray).data.toList = [99, 104, 111, 105, 114, 58] from rfl, show Lib.trimPrefix l [99, 104, 111, 105, 114, 58] = T from hT] at h
    exact h
  have hspl : ∀ W, LaidW W → Calls Tryd.prog 32 #[.string (bstr T), .string ⟨#[47]⟩] W (fun e w' => e = .returned (.slice (some ⟨W.heap.size, 0, none⟩) P.length P.length) ∧ w' = W.alloc (.cells (strs P).toArray 9)) := fun W hW => by
    have h := split_walk T 47 (by omega) W hW
    rw [hP] at h
    exact h
  -- no right text is left out
  have hkey : ∀ g' v' ns', rightB g' ns' = true → v' < 4294967296 → textR g' v' ns' = l → ∀ h u Q X, Reading P h u Q X → h = g' ∧ u = v' ∧ X = ns' := fun g' v' ns' hr hv ht h u Q X H => reading_is hr hv (by rw [ht, hT, hP]; exact H)
  have hkey3 : P.length ≠ 3 → ∀ g' v' ns', rightB g' ns' = true → v' < 4294967296 → textR g' v' ns' ≠ l := fun h3 g' v' ns' hr hv ht => by
    have := (text_parts (v := v') hr).1
    rw [ht, hT, hP] at this
    rw [this] at h3
    exact h3 rfl
  replace htrim := Lib.hid htrim
  replace hspl := Lib.hid hspl
  replace hkey := Lib.hid hkey
  replace hkey3 := Lib.hid hkey3
  replace hPs := Lib.hid hPs
  replace hL := Lib.hid hL
  clear hT hP hPl
  obtain ⟨y, ey⟩ : ∃ y, w.heap.size = y := ⟨_, rfl⟩
  have hyb : w.heap.size ≤ y := by rw [ey]; exact Nat.le_refl _
  rw [ey] at hy
  replace ey := Lib.hid ey
  go_enter Tryd.func13, Tryd.ntmps13
  go_upto_region 1 with (fail)
  try rw [ey.out]
  generalize w.alloc (.cells #[.string ⟨#[]⟩, .int .u32 0, .slice none 0 0] 26) = w1 at *
  go_wp2_with fail
  refine (htrim.out _).mono ?_
  rintro e w2 ⟨rfl, hw2⟩
  obtain rfl := hw2
  dsimp only
  go_wp2_with fail
  refine (hspl.out _ (hL.out.next hb0)).mono ?_
  rintro e w3 ⟨rfl, hw3⟩
  dsimp only
  have hz := Blk.new w2 9 (strs P).toArray
  have hb3 := (RowKit.Below.refl w2.heap.size w2).alloc (Nat.le_refl _) (.cells (strs P).toArray 9)
  rw [← hw3] at hz hb3
  obtain ⟨z, ez⟩ : ∃ z, w2.heap.size = z := ⟨_, rfl⟩
  have hyz : y < z := by rw [← ez]; exact hy.lt
  have hy3 := hy.below hb3 hy.lt
  have hb03 := below_then hb3 hb0
  rw [ez] at hz ⊢
  clear hb3 hw3 ez hb0 hy
  by_cases h3 : P.length = 3
  case neg =>
    have t0 : ((P.length : Int) != 3) = true := bne_iff_ne.2 (by omega)
    have f0 := hy3.frozen 0
    have f1 := hy3.frozen 1
    have f2 := hy3.frozen 2
    have k0 := hy3.cell 0
    have k1 := hy3.cell 1
    have k2 := hy3.cell 2
    have hno := Lib.hid (hkey3.out h3)
    clear h3
    go_wp2_with fail
    exact bodyPost_ret (v := .tuple #[.agg #[.string ⟨#[]⟩, .int .u32 0, .slice none 0 0], .bool false]) (results_ct rfl _ _ y 26 _ (0, 0) _ _ rfl rfl (((hy3.set_ 0 (.string ⟨#[]⟩)).set_ 1 (.int .u32 0)).set_ 2 (.slice none 0 0)) Tryd.underlying26 rfl (by kernel_rfl)) rfl
      ⟨[], 0, [], false, none, 0, rfl, by omega, Own.none_, below_three hb03 hyb _ _ _, (fun _ h => by cases h), by simp, by simp, (fun h => by cases h), fun _ => ⟨⟨rfl, rfl, rfl⟩, hno.out⟩⟩
  /- THREE -/
  obtain ⟨p0, p1, p2, rfl⟩ : ∃ p0 p1 p2, P = [p0, p1, p2] := by
    match P, h3 with
    | [a, b, c], _ => exact ⟨a, b, c, rfl⟩
  clear h3 hkey3
  have hz' : Blk w3 z 9 #[.string (bstr p0), .string (bstr p1), .string (bstr p2)] := hz
  clear hz
  have q0 : p0.length ≤ l.length := Nat.le_trans (hPs.out p0 (by simp)) hTl
  have q1 : p1.length ≤ l.length := Nat.le_trans (hPs.out p1 (by simp)) hTl
  have q2 : p2.length ≤ l.length := Nat.le_trans (hPs.out p2 (by simp)) hTl
  have hpu := pu32_any p1 (by omega) w3 (hL.out.next hb03)
  replace hpu := Lib.hid hpu
  have k1 := hz'.cell 1
  rw [show [p0, p1, p2].length = 3 from rfl]
  clear hPn
  go_wp2_with fail
  refine hpu.out.mono ?_
  clear hpu k1
  rintro e w4 ⟨u, ev, rfl, hu, hud, hb4⟩
  dsimp only
  have hz4 := hz'.below hb4 hz'.lt
  have hy4 := hy3.below hb4 hy3.lt
  have hb04 := below_then hb4 hb03
  clear hz' hy3 hb03 hb4
  obtain ⟨h, hh⟩ : ∃ h, unhexL p0 = h := ⟨_, rfl⟩
  have hhl : h.length ≤ l.length := by rw [← hh]; exact Nat.le_trans (unhexL_len p0) q0
  have hun := unhexed_walk p0 (by omega) w4 (hL.out.next hb04)
  rw [hh] at hun
  replace hun := Lib.hid hun
  replace hh := Lib.hid hh
  replace hud := Lib.hid hud
  have k0 := hz4.cell 0
  have wu : IntKind.u32.wrap (u : Int) = (u : Int) := by unfold IntKind.wrap; simp [IntKind.bits, IntKind.signed]; omega
  go_wp2_with fail
  refine hun.out.mono ?_
  clear hun k0
  rintro e w5 ⟨rfl, hb5⟩
  dsimp only
  have hz5 := hz4.below hb5 hz4.lt
  have hy5 := hy4.below hb5 hy4.lt
  have hb05 := below_then hb5 hb04
  have hzx : z < w5.heap.size := hz5.lt
  clear hz4 hy4 hb04 hb5
  have hx := Blk.new w5 26 #[.string (bstr h), .int .u32 (u : Int), .slice none 0 0]
  have hb6 := (RowKit.Below.refl w5.heap.size w5).alloc (Nat.le_refl _) (.cells #[.string (bstr h), .int .u32 (u : Int), .slice none 0 0] 26)
  have hz6 := hz5.below hb6 hz5.lt
  have hy6 := hy5.below hb6 hy5.lt
  have hb06 := below_then hb6 hb05
  obtain ⟨x, ex⟩ : ∃ x, w5.heap.size = x := ⟨_, rfl⟩
  rw [ex] at hx hzx
  replace ex := Lib.hid ex
  clear hz5 hy5 hb05 hb6
  go_upto_region 6 with (fail)
  try rw [ex.out]
  generalize w5.alloc (.cells #[.string (bstr h), .int .u32 (u : Int), .slice none 0 0] 26) = w6 at *
  clear wu
  obtain ⟨Q, hQ⟩ : ∃ Q, pieces p2 44 = Q := ⟨_, rfl⟩
  have hQs := pieces_small p2 44
  have hQl := pieces_len p2 44
  have hsq := split_walk p2 44 (by omega) w6 (hL.out.next hb06)
  rw [hQ] at hQs hQl hsq
  have hQn : Q.length ≤ l.length + 1 := by omega
  replace hQs := Lib.hid hQs
  replace hQ := Lib.hid hQ
  replace hsq := Lib.hid hsq
  clear hQl
  have k2 := hz6.cell 2
  go_wp2_with fail
  refine hsq.out.mono ?_
  clear hsq k2
  rintro e w7 ⟨rfl, hw7⟩
  dsimp only
  have hq := Blk.new w6 9 (strs Q).toArray
  have hb7 := (RowKit.Below.refl w6.heap.size w6).alloc (Nat.le_refl _) (.cells (strs Q).toArray 9)
  rw [← hw7] at hq hb7
  have hx7 := hx.below hb7 hx.lt
  have hy7 := hy6.below hb7 hy6.lt
  have hb07 := below_then hb7 hb06
  have hxq : x < w6.heap.size := hx.lt
  obtain ⟨q, eq⟩ : ∃ q, w6.heap.size = q := ⟨_, rfl⟩
  rw [eq] at hq hxq ⊢
  clear hw7 hb7 hb06 hy6 hz6 hx
  replace eq := Lib.hid eq
  obtain ⟨i0, hi, hz0, hz1, hz2⟩ := info_parts' info_int
  replace hi := Lib.hid hi
  replace hz0 := Lib.hid hz0
  replace hz1 := Lib.hid hz1
  replace hz2 := Lib.hid hz2
  have hyx : y < x := by omega
  have hql : q < w7.heap.size := hq.lt
  go_wp2_with fail
  go_loopw [9, 10, 11, 38] (fun x9 x10 x11 i wr => ∃ (j : Nat) (A6 : Option Addr) (c6 : Nat) (X : List Int), j ≤ Q.length ∧ i = .int .i64 (j : Int) ∧ X.length = j ∧ Hid (∀ i, i < X.length → ∀ v : Nat, v ≤ 255 → Q.getD i [] = Lib.decDigits v → X.getD i 0 = (v : Int)) ∧ Blk wr x 26 #[.string (bstr h), .int .u32 (u : Int), .slice A6 j c6] ∧ Blk wr q 9 (strs Q).toArray ∧ Own wr 3 1 A6 j c6 (ints X) ∧ RowKit.Below x w7 wr ∧ (∀ g, bOf A6 = some g → q < g) ∧ w7.heap.size ≤ wr.heap.size) (fun _ _ _ i _ => Q.length - (RowKit.intOf i).toNat)
  case atStart => exact ⟨0, none, 0, [], Nat.zero_le _, rfl, rfl, Lib.hid (fun i hi => absurd hi (by simp)), hx7, hq, Own.none_, RowKit.Below.refl _ _, (fun _ h => by cases h), Nat.le_refl _⟩
  case round =>
    rename_i hrel
    obtain ⟨j, A6, c6, X, hj, rfl, hXj, hXi, hxr, hqr, hor, hbr, hgr, hsz⟩ := hrel
    by_cases hlt : j < Q.length
    · obtain ⟨p, hp⟩ : ∃ p, Q[j] = p := ⟨_, rfl⟩
      have hpl : p.length ≤ l.length := by rw [← hp]; exact Nat.le_trans (hQs.out _ (List.getElem_mem hlt)) q2
      have hcj : wr.cell? ⟨q, j, none⟩ = some (.string (bstr p)) := by
        rw [hqr.cell j]
        simp [strs, List.getElem?_eq_getElem hlt, hp]
      have hbw : RowKit.Below w.heap.size w wr := hb07.trans (hbr.mono (by rw [ey.out]; omega))
      have hat := atoi_any p (by omega) wr (hL.out.next hbw)
      replace hat := Lib.hid hat
      replace hp := Lib.hid hp
      replace hXj := Lib.hid hXj
      go_wp2_with fail
      refine hat.out.mono ?_
      clear hat hcj
      rintro e w8 ⟨m, ev', rfl, ⟨hm0, hm1⟩, hmd, hb8⟩
      dsimp only
      replace hmd := Lib.hid hmd
      have hx8 := hxr.below hb8 hxr.lt
      have hq8 := hqr.below hb8 hqr.lt
      have ho8 := hor.below hb8 (Nat.le_refl _)
      have hxl := hx8.lt
      have hb78 : RowKit.Below x w7 w8 := hbr.trans (hb8.mono (by have := hxr.lt; omega))
      have hsz8 : w7.heap.size ≤ w8.heap.size := Nat.le_trans hsz hb8.size
      have k2 := hx8.cell 2
      have f2 := hx8.frozen 2
      have hint : Hid ((#[Value.int .i64 m] : Array Value).toList = ints [m]) := Lib.hid rfl
      go_wp2_with (at_builtin; go_must (refine wpList_append_mine rfl _ _ 24 24 rfl 3 i0 (.int .i64 0) 1 8 Tryd.underlying24 hi.out hz0.out hz1.out hz2.out rfl rfl (ho8.alloc _) rfl (Src.ofReads Tryd.underlying24 _ (Reads.lit _ _ _ _ 1 _ hint.out rfl) (fun u hu => by simp [ints] at hu; subst hu; rfl)) ?b1 ?b2 ?grow))
      case b1 => unfold maxLen; omega
      case b2 => omega
      case grow =>
        intro A7 c7 w9 ho9 hg9 hat9
        have hx9 := (hx8.alloc (.cells #[.int .i64 m] 3)).grown hg9 (fun e => by have := hgr x e.symm; omega)
        have hq9 := (hq8.alloc (.cells #[.int .i64 m] 3)).grown hg9 (fun e => by have := hgr q e.symm; omega)
        have f9 := hx9.frozen 2
        have k9 := hx9.cell 2
        have hgx : ∀ g, bOf A7 = some g → q < g := fun g hg => by
          rcases hat9 with h7 | h7 <;> rw [h7] at hg
          · exact hgr g hg
          · simp at hg; omega
        have hb9 : RowKit.Below x w7 w9 := (hb78.alloc (Nat.le_of_lt hxl) (.cells #[.int .i64 m] 3)).grown hg9 (by simp; omega) (fun g hg => by have := hgr g hg; omega)
        have hs9 : w7.heap.size ≤ w9.heap.size := by have := hg9.size; simp at this; omega
        have hXn : Hid (∀ i, i < (X ++ [m]).length → ∀ v : Nat, v ≤ 255 → Q.getD i [] = Lib.decDigits v → (X ++ [m]).getD i 0 = (v : Int)) := Lib.hid fun i hi v hv hqv => by
          have hXl := hXj.out
          rw [List.length_append, List.length_singleton] at hi
          by_cases hij : i < X.length
          · rw [List.getD, List.getElem?_append_left hij, ← List.getD]; exact hXi.out i hij v hv hqv
          · obtain rfl : i = j := by omega
            rw [List.getD, List.getElem?_append_right (by omega), hXl, Nat.sub_self]
            refine hmd.out v hv ?_
            rw [List.getD, List.getElem?_eq_getElem hlt, Option.getD_some, hp.out] at hqv
            exact hqv
        rw [show ints X ++ ints [m] = ints (X ++ [m]) from by simp [ints]] at ho9
        go_wp2_with fail
        go_roundw
        case rel => exact ⟨j + 1, A7, c7, X ++ [m], by omega, by go_num, by rw [List.length_append, hXj.out]; rfl, hXn, hx9.set_ 2 _, hq9.far (p := ⟨x, 2, none⟩) (by show q ≠ x; omega) _, ho9.setCell (p := ⟨x, 2, none⟩) (fun e => by have := hgx x e; omega) _, hb9.setCell (p := ⟨x, 2, none⟩) (Nat.le_refl _) _, hgx, by simpa [World.setCell] using hs9⟩
        case measure => simp [RowKit.intOf]; omega
    · have hjq : X.length = Q.length := by omega
      subst hXj
      have hread : Hid (Reading [p0, p1, p2] h u Q X) := Lib.hid ⟨p0, p1, p2, rfl, hh.out.symm, hud.out, hQ.out.symm, hjq, hXi.out⟩
      have hXl : X.length ≤ l.length + 1 := by omega
      have td : decide ((X.length : Int) < (Q.length : Int)) = false := decide_eq_false (by omega)
      have hbw : RowKit.Below w.heap.size w wr := hb07.trans (hbr.mono (by rw [ey.out]; omega))
      have hyr := hy7.below hbr hyx
      have hxl := hxr.lt
      replace hjq := Lib.hid hjq
      clear hqr hXi hQs
      have hgy : ∀ g, bOf A6 = some g → y < g := fun g hg => by have := hgr g hg; omega
      have hgw : ∀ g, bOf A6 = some g → w.heap.size ≤ g := fun g hg => by have := hgy g hg; omega
      by_cases hl0 : l = []
      · have t1 : (l == []) = true := by rw [hl0]; rfl
        have hno : Hid (∀ g' v' ns', rightB g' ns' = true → v' < 4294967296 → textR g' v' ns' ≠ l) := Lib.hid fun g' v' ns' hr _ => by rw [hl0]; exact textR_some hr
        have f0 := hyr.frozen 0
        have f1 := hyr.frozen 1
        have f2 := hyr.frozen 2
        have k0 := hyr.cell 0
        have k1 := hyr.cell 1
        have k2 := hyr.cell 2
        clear hl0
        go_wp2_with fail
        exact bodyPost_ret (v := .tuple #[.agg #[.string ⟨#[]⟩, .int .u32 0, .slice none 0 0], .bool false]) (results_ct rfl _ _ y 26 _ (0, 0) _ _ rfl rfl (((hyr.set_ 0 (.string ⟨#[]⟩)).set_ 1 (.int .u32 0)).set_ 2 (.slice none 0 0)) Tryd.underlying26 rfl (by kernel_rfl)) rfl
          ⟨[], 0, [], false, none, 0, rfl, by omega, Own.none_, below_three hbw hyb _ _ _, (fun _ h => by cases h), by simp, by simp, (fun h => by cases h), fun _ => ⟨⟨rfl, rfl, rfl⟩, hno.out⟩⟩
      have t1 : (l == []) = false := by simpa using hl0
      have htx := text_any (g := h) (v := u) (c := c6) (A := A6) (ns := X) (w := wr) hor.reads_ (by omega) (by omega) (by omega) (hL.out.next hbw)
      obtain ⟨Y, hY⟩ : ∃ Y, textR h u X = Y := ⟨_, rfl⟩
      rw [hY] at htx
      replace htx := Lib.hid htx
      replace hY := Lib.hid hY
      have x0 := hxr.cell 0
      have x1 := hxr.cell 1
      have x2 := hxr.cell 2
      by_cases hYl : Y = l
      · have t2 : (Y == l) = true := by rw [hYl]; simp
        have t3 : (Y != l) = false := by rw [hYl]; simp
        have hall : Hid (textR h u X = l ∧ rightB h X = true ∧ ∀ g' v' ns', rightB g' ns' = true → v' < 4294967296 → textR g' v' ns' = l → h = g' ∧ u = v' ∧ X = ns') := Lib.hid ⟨by rw [hY.out, hYl], textR_right (v := u) (by rw [hY.out, hYl]; exact hl0), fun g' v' ns' hr hv ht => hkey.out g' v' ns' hr hv ht _ _ _ _ hread.out⟩
        clear hl0 hYl
        go_wp2_with fail
        refine htx.out.mono ?_
        clear htx x0 x1 x2
        rintro e wA ⟨rfl, hbA⟩
        dsimp only
        have hxA := hxr.below hbA hxr.lt
        have hyA := hyr.below hbA hyr.lt
        have hoA := hor.below hbA (Nat.le_refl _)
        have hbwA := below_then hbA hbw
        have x0 := hxA.cell 0
        have x1 := hxA.cell 1
        have x2 := hxA.cell 2
        have f0 := hyA.frozen 0
        have f1 := hyA.frozen 1
        have f2 := hyA.frozen 2
        have k0 := hyA.cell 0
        have k1 := hyA.cell 1
        have k2 := hyA.cell 2
        go_wp2_with fail
        exact bodyPost_ret (v := .tuple #[.agg #[.string (bstr h), .int .u32 (u : Int), .slice A6 X.length c6], .bool true]) (results_ct rfl _ _ y 26 _ (0, 0) _ _ rfl rfl (((hyA.set_ 0 (.string (bstr h))).set_ 1 (.int .u32 (u : Int))).set_ 2 (.slice A6 X.length c6)) Tryd.underlying26 rfl (by kernel_rfl)) rfl
          ⟨h, u, X, true, A6, c6, rfl, by omega, ((hoA.setCell (p := ⟨y, 0, none⟩) (fun e => by have := hgy y e; omega) _).setCell (p := ⟨y, 1, none⟩) (fun e => by have := hgy y e; omega) _).setCell (p := ⟨y, 2, none⟩) (fun e => by have := hgy y e; omega) _, below_three hbwA hyb _ _ _, hgw, hhl, hXl, fun _ => hall.out, fun h => by cases h⟩
      · have t2 : (Y == l) = false := by simpa using hYl
        have t3 : (Y != l) = true := by simpa using hYl
        have hno : Hid (∀ g' v' ns', rightB g' ns' = true → v' < 4294967296 → textR g' v' ns' ≠ l) := Lib.hid fun g' v' ns' hr hv ht => by
          obtain ⟨rfl, rfl, rfl⟩ := hkey.out g' v' ns' hr hv ht _ _ _ _ hread.out
          exact hYl (by rw [← hY.out, ht])
        clear hl0 hYl
        go_wp2_with fail
        refine htx.out.mono ?_
        clear htx x0 x1 x2
        rintro e wA ⟨rfl, hbA⟩
        dsimp only
        have hyA := hyr.below hbA hyr.lt
        have hbwA := below_then hbA hbw
        have f0 := hyA.frozen 0
        have f1 := hyA.frozen 1
        have f2 := hyA.frozen 2
        have k0 := hyA.cell 0
        have k1 := hyA.cell 1
        have k2 := hyA.cell 2
        go_wp2_with fail
        exact bodyPost_ret (v := .tuple #[.agg #[.string ⟨#[]⟩, .int .u32 0, .slice none 0 0], .bool false]) (results_ct rfl _ _ y 26 _ (0, 0) _ _ rfl rfl (((hyA.set_ 0 (.string ⟨#[]⟩)).set_ 1 (.int .u32 0)).set_ 2 (.slice none 0 0)) Tryd.underlying26 rfl (by kernel_rfl)) rfl
          ⟨[], 0, [], false, none, 0, rfl, by omega, Own.none_, below_three hbwA hyb _ _ _, (fun _ h => by cases h), by simp, by simp, (fun h => by cases h), fun _ => ⟨⟨rfl, rfl, rfl⟩, hno.out⟩⟩
end Go.Proofs.YtdnoafjaheofcaaDoor
