/- A call put, as the document does it. -/
import Derived.Test.YtblakaddanoilaaOpQ
namespace Go.Proofs.Ytblakaddanoilaa
open Go.RowKit
set_option maxRecDepth 100000

def TextRow (w : World) (row : Option Nat) (r : List UInt8) (e : Ending) (w' : World) : Prop :=
  ∃ A' c', e = .returned (.tuple #[.slice A' r.length c', .int .i64 0]) ∧ Own w' 5 1 A' r.length c' (bys r) ∧ Upd (fun k => some k = row) w w' ∧ (bOf A' = row ∨ ∀ g, bOf A' = some g → w.heap.size ≤ g)
theorem ref_put_text_own {A : Option Addr} {c : Nat} {bs s r : List UInt8} {m : Int} {w : World} (h : Own w 5 1 A bs.length c (bys bs)) (hl : bs.length ≤ 1000000000) (hs : (s.length : Int) ≤ m) (h65 : s.length ≤ 65535) (hr : bs ++ putU s.length 2 ++ s = r) :
    Calls Try.prog 30 #[.slice A bs.length c, .string (bstr s), .int .i64 m] w (TextRow w (bOf A) r) := by
  obtain ⟨i0, hi, hz0, hz1, hz2⟩ := info_parts info_u8
  obtain ⟨q, hq⟩ : ∃ q, bs ++ putU s.length 2 = q := ⟨_, rfl⟩
  have hqr : q.length + s.length = r.length := by rw [← hr, ← hq]; simp only [List.length_append]
  have hqs : bys q ++ bys s = bys r := by rw [← bys_append, ← hr, ← hq]
  have hql : q.length ≤ 1000000100 := by rw [← hq]; simp [putU_len]; omega
  have hsz : (bstr s).size = s.length := bstr_size s
  clear hr
  replace hq := Lib.hid hq
  replace hqr := Lib.hid hqr
  replace hqs := Lib.hid hqs
  go_enter Try.func30, Try.ntmps30
  go_wp2_with fail
  refine (ref_put (m := 2) h (by omega) (by omega)).mono ?_
  rw [show n8 2 = 2 from rfl, hq.out]
  rintro e w1 ⟨A1, c1, rfl, ho1, hu1, hf1⟩
  dsimp only
  go_wp2_with (at_builtin; refine wpList_append_mine rfl _ _ 22 9 rfl 5 i0 (.int .u8 0) 1 1 Try.underlying22 hi hz0 hz1 hz2 rfl rfl ho1 rfl (text_src _ s) (by unfold maxLen; omega) (by omega) (fun A3 c3 w3 ho3 hg3 hat3 => ?_); rw [hqs.out, hqr.out] at ho3; rw [hqr.out])
  go_ret2
  have hu3 : Upd (fun k => some k = bOf A) w w3 := hu1.grown hg3 (fun k hk hkl => by rcases hf1 with e | e; (rw [e] at hk; exact hk.symm); (have := e k hk; omega))
  refine ⟨A3, c3, rfl, ho3, hu3, ?_⟩
  rcases hat3 with e | e
  · rcases hf1 with e1 | e1
    · exact .inl (e.trans e1)
    · exact .inr (fun g hg => by rw [e] at hg; exact e1 g hg)
  · exact .inr (fun g hg => by rw [e] at hg; cases hg; exact hu1.size)

structure PRel2 (w wr : World) (b c s n : Nat) (gg mm : ByteArray) (A : Option Addr) (cc : Nat) (l : List Val) (q4 : List UInt8) (er : Nat) (j : Nat) (A1 : Option Addr) (c1 : Nat) (q : List UInt8) : Prop where
  jl : j ≤ l.length
  own : Own wr 5 1 A1 q.length c1 (bys q)
  fresh : ∀ g, bOf A1 = some g → b < g
  hq : Hid (q = q4 ++ encL (l.take j))
  hlen : Hid (q.length ≤ q4.length + j * 4096)
  he : Hid (errL (l.drop j) = er)
  hb : Below w.heap.size w wr
  box : Blk wr b 29 #[.int .u32 (c : Int), .int .u32 (s : Int), .int .u16 (n : Int), .string gg, .string mm, .slice A l.length cc]

set_option maxHeartbeats 6400000 in
theorem ref_put_op {w : World} {B : Nat} {o : OpD} {cs : Array Value} {A0 : Option Addr} {bs : List UInt8} (h : OpReads w B o cs) (hB : B ≤ w.heap.size) (hA : Reads w w.heap.size 1 A0 bs.length (bys bs)) (hl : bs.length ≤ 100000) (hg100 : o.g.length ≤ 1000) (hm100 : o.m.length ≤ 1000) :
    Calls Try.prog 10 #[.slice A0 bs.length bs.length, .agg cs] w (OpPut w bs o) := by
  obtain ⟨A, cc, xs, css, rfl, hr, hx, hxs, hll, hok, hc, hs, hn⟩ := h
  obtain ⟨c, s, n, g, m, l⟩ := o
  dsimp only at *
  obtain ⟨i0, hi, hz0, hz1, hz2⟩ := info_parts info_u8
  have hsf := fun a k x m w => run_store_float (P := Try.prog) a k x m w
  obtain ⟨gg, hgg⟩ : ∃ gg, bstr g = gg := ⟨_, rfl⟩
  obtain ⟨mm, hmm⟩ : ∃ mm, bstr m = mm := ⟨_, rfl⟩
  rw [hgg, hmm]
  have b1 := Blk.new w 29 #[.int .u32 (c : Int), .int .u32 (s : Int), .int .u16 (n : Int), .string gg, .string mm, .slice A l.length cc]
  have hbl := (Below.refl w.heap.size w).alloc (Nat.le_refl _) (.cells #[.int .u32 (c : Int), .int .u32 (s : Int), .int .u16 (n : Int), .string gg, .string mm, .slice A l.length cc] 29)
  obtain ⟨b, hb0⟩ : ∃ b, w.heap.size = b := ⟨_, rfl⟩
  by_cases h16 : 16 < l.length
  · have herr : errO ⟨c, s, n, g, m, l⟩ = 22 := by unfold errO; rw [if_pos h16]
    have hd : decide ((16 : Int) < (l.length : Int)) = true := decide_eq_true (by omega)
    have b15 := b1.cell 5
    clear hr hx hxs hll hok hc hs hn hA hg100 hm100 hl b1
    go_enter Try.func10, Try.ntmps10
    go_wp2_with fail
    go_ret2
    exact ⟨fun e => absurd (herr.symm.trans e) (by decide), fun _ => ⟨by rw [herr]; rfl, hbl⟩⟩
  have hd : decide ((16 : Int) < (l.length : Int)) = false := decide_eq_false (by omega)
  have hpi := fun w2 (hb2 : Below w.heap.size w w2) => ref_put_id (bs := bs) (hA.below hb2) hb2.size (by omega) hc hs hn
  obtain ⟨q0, hq0⟩ : ∃ q, bs ++ idB c s n = q := ⟨_, rfl⟩
  have hl0 : q0.length = bs.length + 10 := by rw [← hq0, List.length_append, idB_len]
  rw [hq0] at hpi
  obtain ⟨q1, hq1⟩ : ∃ q, q0 ++ putU g.length 2 ++ g = q := ⟨_, rfl⟩
  obtain ⟨q2, hq2⟩ : ∃ q, q1 ++ putU m.length 2 ++ m = q := ⟨_, rfl⟩
  obtain ⟨q3, hq3⟩ : ∃ q, q2 ++ [UInt8.ofNat l.length] = q := ⟨_, rfl⟩
  have hl1 : q1.length = q0.length + 2 + g.length := by rw [← hq1, List.length_append, List.length_append, putU_len]
  have hl2 : q2.length = q1.length + 2 + m.length := by rw [← hq2, List.length_append, List.length_append, putU_len]
  have hl3 : q3.length = q2.length + 1 := by rw [← hq3, List.length_append]; rfl
  have hb3 : bys q3 = bys q2 ++ bys [UInt8.ofNat l.length] := by rw [← hq3, bys_append]
  have hhead : bs ++ headO ⟨c, s, n, g, m, l⟩ = q3 := by rw [← hq3, ← hq2, ← hq1, ← hq0]; unfold headO; simp only [List.append_assoc]
  have hgno : 32 < g.length → ∀ (A : Option Addr) (c3 : Nat) (w3 : World), Calls Try.prog 30 #[.slice A q0.length c3, .string gg, .int .i64 32] w3 (fun e w' => e = .returned (.tuple #[.slice none 0 0, .int .i64 22]) ∧ w3 = w') := fun h32 A c3 w3 => by
    rw [← hgg]; exact ref_put_text_no (m := 32) (.inl (by omega)) (by omega)
  have hmno : 32 < m.length → ∀ (A : Option Addr) (c3 : Nat) (w3 : World), Calls Try.prog 30 #[.slice A q1.length c3, .string mm, .int .i64 32] w3 (fun e w' => e = .returned (.tuple #[.slice none 0 0, .int .i64 22]) ∧ w3 = w') := fun h32 A c3 w3 => by
    rw [← hmm]; exact ref_put_text_no (m := 32) (.inl (by omega)) (by omega)
  have hgok : ¬ 32 < g.length → ∀ (A : Option Addr) (c3 : Nat) (w3 : World), Own w3 5 1 A q0.length c3 (bys q0) → Calls Try.prog 30 #[.slice A q0.length c3, .string gg, .int .i64 32] w3 (TextRow w3 (bOf A) q1) := fun h32 A c3 w3 hR => by
    rw [← hgg]; exact ref_put_text_own (m := 32) hR (by omega) (by omega) (by omega) hq1
  have hmok : ¬ 32 < m.length → ∀ (A : Option Addr) (c3 : Nat) (w3 : World), q1.length ≤ 1000000 → Own w3 5 1 A q1.length c3 (bys q1) → Calls Try.prog 30 #[.slice A q1.length c3, .string mm, .int .i64 32] w3 (TextRow w3 (bOf A) q2) := fun h32 A c3 w3 hl1 hR => by
    rw [← hmm]; exact ref_put_text_own (m := 32) hR (by omega) (by omega) (by omega) hq2
  have hwb : IntKind.u8.wrap (l.length : Int) = (l.length : Int) := by simp [IntKind.wrap, IntKind.bits, IntKind.signed]; omega
  have hbyte : (#[Value.int .u8 (l.length : Int)] : Array Value).toList = bys [UInt8.ofNat l.length] := by
    have : l.length % 256 = l.length := by omega
    simp [bys, byv, this]
  have herr : errO ⟨c, s, n, g, m, l⟩ = if 32 < g.length then 22 else if 32 < m.length then 22 else errL l := by unfold errO; rw [if_neg h16]
  have hby : bs ++ bytesO ⟨c, s, n, g, m, l⟩ = q3 ++ encL l := by unfold bytesO; rw [← List.append_assoc, hhead]
  unfold OpPut
  rw [herr, hby]
  obtain ⟨er, her⟩ : ∃ er, (if 32 < g.length then 22 else if 32 < m.length then 22 else errL l) = er := ⟨_, rfl⟩
  rw [her]
  clear herr hby hhead hq0 hgg hmm hq3
  replace her := Lib.hid her
  replace hq1 := Lib.hid hq1
  replace hq2 := Lib.hid hq2
  replace hl0 := Lib.hid hl0
  replace hl1 := Lib.hid hl1
  replace hl2 := Lib.hid hl2
  replace hl3 := Lib.hid hl3
  replace hb3 := Lib.hid hb3
  replace hbyte := Lib.hid hbyte
  replace hgno := Lib.hid hgno
  replace hmno := Lib.hid hmno
  replace hgok := Lib.hid hgok
  replace hmok := Lib.hid hmok
  replace hpi := Lib.hid hpi
  replace hc := Lib.hid hc
  replace hs := Lib.hid hs
  replace hn := Lib.hid hn
  have hrx := Lib.hid hr
  have hxx := Lib.hid hx
  have hxxs := Lib.hid hxs
  have hokx := Lib.hid hok
  have hbl' := hbl
  have B1 := b1
  rw [hb0] at B1
  have b10 := b1.cell 0
  have b11 := b1.cell 1
  have b12 := b1.cell 2
  have b13 := b1.cell 3
  have b14 := b1.cell 4
  have b15 := b1.cell 5
  clear hr hx hxs hok hA
  go_enter Try.func10, Try.ntmps10
  go_wp2_with fail
  refine (hpi.out _ hbl).mono ?_
  rintro e w2 ⟨A2, c2, rfl, ho2, hb2, hf2⟩
  dsimp only
  have B2 := B1.below hb2 B1.lt
  have hB2 := below_then hb2 hbl
  have d3 := B2.cell 3
  have hf2' : ∀ g, bOf A2 = some g → b < g := fun g hg => by have h1 : (w.alloc (.cells #[.int .u32 (c : Int), .int .u32 (s : Int), .int .u16 (n : Int), .string gg, .string mm, .slice A l.length cc] 29)).heap.size ≤ g := hf2 g hg; rw [World.size_alloc] at h1; omega
  clear b10 b11 b12 b13 b14 b15 hbl hbl' hb2 B1 hf2
  go_wp2_with fail
  by_cases hg32 : 32 < g.length
  · have he22 : er = 22 := by rw [← her.out, if_pos hg32]
    subst he22
    refine (hgno.out hg32 _ _ _).mono ?_
    rintro e w4 ⟨rfl, rfl⟩
    dsimp only
    go_wp2_with fail
    go_ret2
    exact ⟨fun e => absurd e (by decide), fun _ => ⟨rfl, hB2⟩⟩
  refine (hgok.out hg32 _ _ _ ho2).mono ?_
  rintro e w4 ⟨A4, c4, rfl, ho4, hu4, hf4⟩
  dsimp only
  have B4 := B2.upd hu4 (fun e => by have := hf2' b e.symm; omega)
  have hB4 := hB2.trans (hu4.below (B := w.heap.size) hB2.size (fun k hk e => by have := hf2' k e.symm; omega))
  have hbl4 := B2.lt
  have hf4' : ∀ g, bOf A4 = some g → b < g := fun g hg => by rcases hf4 with h | h; (rw [h] at hg; exact hf2' g hg); (have := h g hg; omega)
  have d4 := B4.cell 4
  clear ho2 d3 hf4 hu4 B2 hB2 hf2' hbl4
  go_wp2_with fail
  by_cases hm32 : 32 < m.length
  · have he22 : er = 22 := by rw [← her.out, if_neg hg32, if_pos hm32]
    subst he22
    refine (hmno.out hm32 _ _ _).mono ?_
    rintro e w5 ⟨rfl, rfl⟩
    dsimp only
    go_wp2_with fail
    go_ret2
    exact ⟨fun e => absurd e (by decide), fun _ => ⟨rfl, hB4⟩⟩
  have her' : errL l = er := by rw [← her.out, if_neg hg32, if_neg hm32]
  replace her' := Lib.hid her'
  clear her
  refine (hmok.out hm32 _ _ _ (by rw [hl1.out, hl0.out]; omega) ho4).mono ?_
  rintro e w5 ⟨A5, c5, rfl, ho5, hu5, hf5⟩
  dsimp only
  have B5 := B4.upd hu5 (fun e => by have := hf4' b e.symm; omega)
  have hB5 := hB4.trans (hu5.below (B := w.heap.size) hB4.size (fun k hk e => by have := hf4' k e.symm; omega))
  have hbl5 := B4.lt
  have hf5' : ∀ g, bOf A5 = some g → b < g := fun g hg => by rcases hf5 with h | h; (rw [h] at hg; exact hf4' g hg); (have := h g hg; omega)
  have d5 := B5.cell 5
  clear ho4 hB4 hf4' hf5 hu5 B4 d4 hbl5
  go_wp2_with (at_builtin; go_must (refine wpList_append_mine rfl _ _ 22 22 rfl 5 i0 (.int .u8 0) 1 1 Try.underlying22 hi hz0 hz1 hz2 rfl rfl (ho5.alloc _) rfl (Src.ofReads Try.underlying22 _ (Reads.lit _ _ _ _ 1 _ hbyte.out rfl) (bys_one _)) ?b1 ?b2 ?grow))
  case b1 =>
    have e1 := hl2.out
    have e2 := hl1.out
    have e3 := hl0.out
    unfold maxLen
    omega
  case b2 =>
    have e1 := hl2.out
    have e2 := hl1.out
    have e3 := hl0.out
    omega
  case grow =>
    intro A6 c6 w6 ho6 hg6 hat6
    have hb5s : w5.heap.size ≤ (w5.alloc (.cells #[.int .u8 (l.length : Int)] 5)).heap.size := by simp
    have B6 := (B5.alloc (.cells #[.int .u8 (l.length : Int)] 5)).grown hg6 (fun e => by have := hf5' b e.symm; omega)
    have hbw : w.heap.size ≤ b := by omega
    have hB6 := (hB5.alloc hB5.size (.cells #[.int .u8 (l.length : Int)] 5)).grown hg6 (Nat.le_trans hB5.size hb5s) (fun k hk => by have := hf5' k hk; omega)
    have hf6 : ∀ g, bOf A6 = some g → b < g := fun g hg => by
      rcases hat6 with h | h
      · rw [h] at hg; exact hf5' g hg
      · rw [h] at hg; cases hg; have := B5.lt; omega
    rw [← hb3.out, ← hl3.out] at ho6
    rw [← hl3.out]
    have d5' := B6.cell 5
    have hql : q3.length ≤ 200000 := by have e0 := hl3.out; have e1 := hl2.out; have e2 := hl1.out; have e3 := hl0.out; omega
    replace hql := Lib.hid hql
    clear B5 hB5 ho5 hf5' hg6 hat6 hb5s d5
    go_wp2_with fail
    clear d5' hgno hmno hgok hmok hpi
    go_loopw [0, 6, 7] (fun out ev ii wr => ∃ (j : Nat) (A1 : Option Addr) (c1 : Nat) (q : List UInt8), out = .slice A1 q.length c1 ∧ ii = .int .i64 (j : Int) ∧ PRel2 w wr b c s n gg mm A cc l q3 er j A1 c1 q) (fun _ _ ii _ => l.length - (intOf ii).toNat)
    case atStart => exact ⟨0, A6, c6, q3, rfl, rfl, Nat.zero_le _, ho6, hf6, Lib.hid (by simp [encL]), Lib.hid (by simp), Lib.hid (by rw [List.drop_zero]; exact her'.out), hB6, B6⟩
    case round =>
      rename_i hrel
      obtain ⟨j, A1, c1, q, rfl, rfl, R⟩ := hrel
      have y5 := R.box.cell 5
      by_cases hlt : j < l.length
      · obtain ⟨ad, k', i', f', s', A', n', c', rfl, hform, hgk, g0, g1, g2, g3, g4⟩ := kid hrx.out hxx.out hxxs.out (R.hb.mono hB) hlt
        have hstep := errL_step hlt
        have hen := encL_snoc hlt
        have hb7 := R.hb
        have ho7 := R.own
        have hbx := R.box
        have hjl := R.hlen.out
        have hql' := hql.out
        have hj16 : j < 16 := by omega
        have hfr := R.fresh
        have hbwr := R.box.lt
        by_cases hck : checkV l[j] = 0
        · have hpo := ref_put_ok (c := c1) (hxx.out j l[j] hgk) (hokx.out l[j] (List.getElem_mem hlt)) hck (hb7.mono hB) (Nat.le_trans hB hb7.size) (Grows.own ho7) (fun g hg => by have := hfr g hg; omega) (by omega)
          have hsm := encV_small hck
          obtain ⟨q', hq'⟩ : ∃ q', q ++ encV l[j] = q' := ⟨_, rfl⟩
          have hql2 : q'.length ≤ q3.length + (j + 1) * 4096 := by rw [← hq', List.length_append]; omega
          have hq2' : q' = q3 ++ encL (l.take (j + 1)) := by rw [← hq', R.hq.out, hen, List.append_assoc]
          have he2 : errL (l.drop (j + 1)) = er := by rw [← R.he.out, hstep, if_neg (by rw [hck]; simp)]
          rw [hform, hq'] at hpo
          replace hpo := Lib.hid hpo
          replace hql2 := Lib.hid hql2
          replace hq2' := Lib.hid hq2'
          replace he2 := Lib.hid he2
          clear hform hgk hstep hen R hjl hck hq' ho7 hsm hql'
          go_wp2_with fail
          refine hpo.out.mono ?_
          rintro e w8 ⟨A8, c8, rfl, ho8, hu8, hf8⟩
          dsimp only
          have hB8 := hb7.trans (hu8.below (B := w.heap.size) hb7.size (fun k hk e => by have := hfr k e.symm; omega))
          have B8 := hbx.upd hu8 (fun e => by have := hfr b e.symm; omega)
          have hf8' : ∀ g, bOf A8 = some g → b < g := fun g hg => by rcases hf8 with h | h; (rw [h] at hg; exact hfr g hg); (have := h g hg; omega)
          clear hb7 hu8 hf8 hpo g0 g1 g2 g3 g4 y5 hbx
          go_wp2_with fail
          go_roundw
          case rel => exact ⟨j + 1, A8, c8, q', rfl, by simp, by omega, ho8, hf8', hq2', hql2, he2, hB8, B8⟩
          case measure => simp [intOf]; omega
        · have hpo := ref_put_no (A := A1) (m := q.length) (c := c1) (hxx.out j l[j] hgk) hck (hb7.mono hB) (Nat.le_trans hB hb7.size)
          have hern : checkV l[j] = er := by rw [← R.he.out, hstep, if_pos hck]
          rw [hform, hern] at hpo
          rw [hern] at hck
          have hne : ((er : Int) != 0) = true := bne_iff_ne.2 (by omega)
          replace hpo := Lib.hid hpo
          replace hck := Lib.hid hck
          clear hform hgk hstep hen R hjl hern ho7 hql'
          go_wp2_with fail
          refine hpo.out.mono ?_
          rintro e w8 ⟨rfl, hb8⟩
          dsimp only
          have hB8 := below_then hb8 hb7
          go_wp2_with fail
          go_ret2
          exact ⟨fun e => absurd e hck.out, fun _ => ⟨rfl, hB8⟩⟩
      · have hj' : j = l.length := by have := R.jl; omega
        subst hj'
        have he0 : er = 0 := by rw [← R.he.out, List.drop_length]; rfl
        have hq0 : q3 ++ encL l = q := by rw [R.hq.out, List.take_length]
        have ho := R.own
        have hfr := R.fresh
        have hbf := R.hb
        subst he0
        replace hq0 := Lib.hid hq0
        clear R
        go_wp2_with fail
        go_ret2
        rw [hq0.out]
        exact ⟨A1, c1, rfl, ho, hbf, fun g hg => by have := hfr g hg; omega⟩
end Go.Proofs.Ytblakaddanoilaa
