/- A call put: what its bytes are, when it is refused; by the program. -/
import Derived.Test.YtlkokkbikkbaoaaOpP
set_option linter.unusedSimpArgs false
set_option linter.unusedVariables false
set_option linter.unusedSimpArgs false
set_option linter.unusedVariables false
namespace Go.Proofs.Ytlkokkbikkbaoaa
open Go.RowKit
set_option maxRecDepth 100000

def errL : List Val → Nat
  | [] => 0
  | v :: l => if checkV v ≠ 0 then checkV v else errL l
def errO (o : OpD) : Nat := if 16 < o.l.length then 22 else if 32 < o.g.length then 22 else if 32 < o.m.length then 22 else errL o.l
def headO (o : OpD) : List UInt8 := idB o.c o.s o.n ++ (putU o.g.length 2 ++ o.g) ++ (putU o.m.length 2 ++ o.m) ++ [UInt8.ofNat o.l.length]
def bytesO (o : OpD) : List UInt8 := headO o ++ encL o.l
def OpPut (w : World) (bs : List UInt8) (o : OpD) (e : Ending) (w' : World) : Prop := (errO o = 0 → PutOk w (bs ++ bytesO o) e w') ∧ (errO o ≠ 0 → PutNo w (errO o) e w')
theorem errL_step {l : List Val} {j : Nat} (h : j < l.length) : errL (l.drop j) = if checkV l[j] ≠ 0 then checkV l[j] else errL (l.drop (j + 1)) := by
  rw [List.drop_eq_getElem_cons h, errL]
theorem encL_snoc {l : List Val} {j : Nat} (h : j < l.length) : encL (l.take (j + 1)) = encL (l.take j) ++ encV l[j] := encL_next l j h
theorem encV_small {v : Val} (h : checkV v = 0) : (encV v).length ≤ 4096 := by
  rw [encV_len]
  rcases checkV_cases v with ⟨_, e⟩ | ⟨_, _, e⟩ | ⟨_, _, _, e⟩ | ⟨h1, h2, h3, _⟩
  · rw [e] at h; cases h
  · rw [e] at h; cases h
  · rw [e] at h; cases h
  · exact h3

/-- The row that a put grows. -/
structure PRel (w wr : World) (l : List Val) (q4 : List UInt8) (er : Nat) (j : Nat) (A1 : Option Addr) (c1 : Nat) (q : List UInt8) : Prop where
  jl : j ≤ l.length
  own : Own wr 5 1 A1 q.length c1 (bys q)
  fresh : ∀ g, bOf A1 = some g → w.heap.size ≤ g
  hq : Hid (q = q4 ++ encL (l.take j))
  hlen : Hid (q.length ≤ q4.length + j * 4096)
  he : Hid (errL (l.drop j) = er)
  hb : Below w.heap.size w wr

set_option maxHeartbeats 6400000 in
theorem call_put {w : World} {B : Nat} {o : OpD} {cs : Array Value} {A0 : Option Addr} {ca : Nat} {bs : List UInt8} (h : OpReads w B o cs) (hB : B ≤ w.heap.size) (hA : Reads w w.heap.size 1 A0 bs.length (bys bs)) (hl : bs.length ≤ 100000) (hg100 : o.g.length ≤ 1000) (hm100 : o.m.length ≤ 1000) :
    Calls Try.prog 26 #[.slice A0 bs.length ca, .agg cs] w (OpPut w bs o) := by
  obtain ⟨A, cc, xs, css, rfl, hr, hx, hxs, hll, hok, hc, hs, hn⟩ := h
  obtain ⟨c, s, n, g, m, l⟩ := o
  dsimp only at *
  obtain ⟨i0, hi, hz0, hz1, hz2⟩ := info_parts info_u8
  have hsf := fun a k x m w => run_store_float (P := Try.prog) a k x m w
  obtain ⟨gg, hgg⟩ : ∃ gg, bstr g = gg := ⟨_, rfl⟩
  obtain ⟨mm, hmm⟩ : ∃ mm, bstr m = mm := ⟨_, rfl⟩
  rw [hgg, hmm]
  have b1 := Blk.new w 38 #[.int .u32 (c : Int), .int .u32 (s : Int), .int .u16 (n : Int), .string gg, .string mm, .slice A l.length cc]
  have hbl := (Below.refl w.heap.size w).alloc (Nat.le_refl _) (.cells #[.int .u32 (c : Int), .int .u32 (s : Int), .int .u16 (n : Int), .string gg, .string mm, .slice A l.length cc] 38)
  obtain ⟨b, hb0⟩ : ∃ b, w.heap.size = b := ⟨_, rfl⟩
  by_cases h16 : 16 < l.length
  · have herr : errO ⟨c, s, n, g, m, l⟩ = 22 := by unfold errO; rw [if_pos h16]
    have hd : decide ((16 : Int) < (l.length : Int)) = true := decide_eq_true (by omega)
    have b15 := b1.cell 5
    clear hr hx hxs hll hok hc hs hn hA hg100 hm100 hl b1
    go_enter Try.func26, Try.ntmps26
    go_wp2_with fail
    go_ret2
    exact ⟨fun e => absurd (herr.symm.trans e) (by decide), fun _ => ⟨by rw [herr]; rfl, hbl⟩⟩
  have hd : decide ((16 : Int) < (l.length : Int)) = false := decide_eq_false (by omega)
  have hpi := fun w2 (hb2 : Below w.heap.size w w2) => put_id (cc := ca) (bs := bs) (hA.below hb2) hb2.size (by omega) hc hs hn
  obtain ⟨q0, hq0⟩ : ∃ q, bs ++ idB c s n = q := ⟨_, rfl⟩
  have hl0 : q0.length = bs.length + 10 := by rw [← hq0, List.length_append, idB_len]
  rw [hq0] at hpi
  obtain ⟨q1, hq1⟩ : ∃ q, q0 ++ putU g.length 2 ++ g = q := ⟨_, rfl⟩
  obtain ⟨q2, hq2⟩ : ∃ q, q1 ++ putU m.length 2 ++ m = q := ⟨_, rfl⟩
  obtain ⟨q3, hq3⟩ : ∃ q, q2 ++ [UInt8.ofNat l.length] = q := ⟨_, rfl⟩
  have hl1 : q1.length = q0.length + 2 + g.length := by rw [← hq1, List.length_append, List.length_append, putU_len]
  have hl2 : q2.length = q1.length + 2 + m.length := by rw [← hq2, List.length_append, List.length_append, putU_len]
  have hl3 : q3.length = q2.length + 1 := by rw [← hq3, List.length_append]; rfl
  have hb3 : bys q3 = bys q2 ++ bys [UInt8.ofNat l.length] := by rw [← hq3, bys_append]
  have hhead : bs ++ headO ⟨c, s, n, g, m, l⟩ = q3 := by rw [← hq3, ← hq2, ← hq1, ← hq0]; unfold headO; simp only [List.append_assoc]
  have hgno : 32 < g.length → ∀ (A : Option Addr) (c3 : Nat) (w3 : World), Calls Try.prog 43 #[.slice A q0.length c3, .string gg, .int .i64 32] w3 (fun e w' => e = .returned (.tuple #[.slice none 0 0, .int .i64 22]) ∧ w3 = w') := fun h32 A c3 w3 => by
    rw [← hgg]; exact put_text_no (m := 32) (.inl (by omega)) (by omega)
  have hmno : 32 < m.length → ∀ (A : Option Addr) (c3 : Nat) (w3 : World), Calls Try.prog 43 #[.slice A q1.length c3, .string mm, .int .i64 32] w3 (fun e w' => e = .returned (.tuple #[.slice none 0 0, .int .i64 22]) ∧ w3 = w') := fun h32 A c3 w3 => by
    rw [← hmm]; exact put_text_no (m := 32) (.inl (by omega)) (by omega)
  have hgok : ¬ 32 < g.length → ∀ (A : Option Addr) (c3 : Nat) (w3 : World), Reads w3 w3.heap.size 1 A q0.length (bys q0) → Calls Try.prog 43 #[.slice A q0.length c3, .string gg, .int .i64 32] w3 (TextPut w3 q1) := fun h32 A c3 w3 hR => by
    rw [← hgg]; exact put_text (m := 32) hR (Nat.le_refl _) (by omega) (by omega) (by omega) hq1
  have hmok : ¬ 32 < m.length → ∀ (A : Option Addr) (c3 : Nat) (w3 : World), q1.length ≤ 1000000 → Reads w3 w3.heap.size 1 A q1.length (bys q1) → Calls Try.prog 43 #[.slice A q1.length c3, .string mm, .int .i64 32] w3 (TextPut w3 q2) := fun h32 A c3 w3 hl1 hR => by
    rw [← hmm]; exact put_text (m := 32) hR (Nat.le_refl _) (by omega) (by omega) (by omega) hq2
  have hwb : IntKind.u8.wrap (l.length : Int) = (l.length : Int) := by simp [IntKind.wrap, IntKind.bits, IntKind.signed]; omega
  have hbyte : (#[Value.int .u8 (l.length : Int)] : Array Value).toList = bys [UInt8.ofNat l.length] := by
    have : l.length % 256 = l.length := by omega
    simp [bys, byv, this]
  have herr : errO ⟨c, s, n, g, m, l⟩ = if 32 < g.length then 22 else if 32 < m.length then 22 else errL l := by unfold errO; rw [if_neg h16]
  have hby : bs ++ bytesO ⟨c, s, n, g, m, l⟩ = q3 ++ encL l := by unfold bytesO; rw [← List.append_assoc, hhead]
  unfold OpPut
  rw [herr, hby]
  obtain ⟨er, her⟩ : ∃ er, (if 32 < g.length then 22 else if 32 < m.length then 22 else errL l) = er := ⟨_, rfl⟩
  rw [her]
  clear herr hby hhead hq0 hgg hmm hq3
  replace her := Lib.hid her
  replace hq1 := Lib.hid hq1
  replace hq2 := Lib.hid hq2
  replace hl0 := Lib.hid hl0
  replace hl1 := Lib.hid hl1
  replace hl2 := Lib.hid hl2
  replace hl3 := Lib.hid hl3
  replace hb3 := Lib.hid hb3
  replace hbyte := Lib.hid hbyte
  replace hgno := Lib.hid hgno
  replace hmno := Lib.hid hmno
  replace hgok := Lib.hid hgok
  replace hmok := Lib.hid hmok
  replace hpi := Lib.hid hpi
  replace hc := Lib.hid hc
  replace hs := Lib.hid hs
  replace hn := Lib.hid hn
  have hrx := Lib.hid hr
  have hxx := Lib.hid hx
  have hxxs := Lib.hid hxs
  have hokx := Lib.hid hok
  have hbl' := hbl
  have B1 := b1
  rw [hb0] at B1
  have b10 := b1.cell 0
  have b11 := b1.cell 1
  have b12 := b1.cell 2
  have b13 := b1.cell 3
  have b14 := b1.cell 4
  have b15 := b1.cell 5
  clear hr hx hxs hok hA
  go_enter Try.func26, Try.ntmps26
  go_wp2_with fail
  refine (hpi.out _ hbl).mono ?_
  rintro e w2 ⟨A2, c2, rfl, ho2, hb2, hf2⟩
  dsimp only
  have B2 := B1.below hb2 B1.lt
  have hB2 := below_then hb2 hbl
  have d3 := B2.cell 3
  have d4 := B2.cell 4
  have d5 := B2.cell 5
  clear b10 b11 b12 b13 b14 b15 hbl hbl' hb2 B1
  go_wp2_with fail
  refine wp_loop_rounds 3 ?_
  rw [rounds_succ]
  go_wp2_with fail
  have hst := Blk.new w2 9 #[.string gg, .string mm]
  have ho3 := ho2.alloc (.cells #[.string gg, .string mm] 9)
  have hB3 := hB2.alloc hB2.size (.cells #[.string gg, .string mm] 9)
  have B3 := B2.alloc (.cells #[.string gg, .string mm] 9)
  have hw2 : w.heap.size ≤ w2.heap.size := hB2.size
  by_cases hg32 : 32 < g.length
  · have he22 : er = 22 := by rw [← her.out, if_pos hg32]
    subst he22
    refine (hgno.out hg32 _ _ _).mono ?_
    rintro e w4 ⟨rfl, rfl⟩
    dsimp only
    go_wp2_with fail
    go_ret2
    exact ⟨fun e => absurd e (by decide), fun _ => ⟨rfl, hB3⟩⟩
  refine (hgok.out hg32 _ _ _ ho3.reads_).mono ?_
  rintro e w4 ⟨A4, c4, rfl, ho4, hb4, hf4⟩
  dsimp only
  have hst4 := hst.below hb4 hst.lt
  have B4 := B3.below hb4 B3.lt
  have hB4 := below_then hb4 hB3
  have hw24 : w.heap.size ≤ (w2.alloc (.cells #[.string gg, .string mm] 9)).heap.size := hB3.size
  have hf4' : ∀ g, bOf A4 = some g → w.heap.size ≤ g := fun g hg => Nat.le_trans hw24 (hf4 g hg)
  have st0 := hst4.cell 0
  have st1 := hst4.cell 1
  clear ho2 ho3 hst B3 hB3 hf4 hb4 d3 d4 d5 B2 hB2 hf2 hw24
  go_wp2_with fail
  try rw [rounds_succ]
  go_wp2_with fail
  by_cases hm32 : 32 < m.length
  · have he22 : er = 22 := by rw [← her.out, if_neg hg32, if_pos hm32]
    subst he22
    refine (hmno.out hm32 _ _ _).mono ?_
    rintro e w5 ⟨rfl, rfl⟩
    dsimp only
    go_wp2_with fail
    go_ret2
    exact ⟨fun e => absurd e (by decide), fun _ => ⟨rfl, hB4⟩⟩
  have her' : errL l = er := by rw [← her.out, if_neg hg32, if_neg hm32]
  replace her' := Lib.hid her'
  clear her
  refine (hmok.out hm32 _ _ _ (by rw [hl1.out, hl0.out]; omega) ho4.reads_).mono ?_
  rintro e w5 ⟨A5, c5, rfl, ho5, hb5, hf5⟩
  dsimp only
  have B5 := B4.below hb5 B4.lt
  have hB5 := below_then hb5 hB4
  have hf5' : ∀ g, bOf A5 = some g → b < g := fun g hg => Nat.lt_of_lt_of_le B4.lt (hf5 g hg)
  have d5 := B5.cell 5
  clear ho4 st0 st1 hst4 hB4 hf4' hf5 hb5 B4
  go_wp2_with fail
  try rw [rounds_succ]
  go_wp2_with (at_builtin; go_must (refine wpList_append_mine rfl _ _ 26 26 rfl 5 i0 (.int .u8 0) 1 1 Try.underlying26 hi hz0 hz1 hz2 rfl rfl (ho5.alloc _) rfl (Src.ofReads Try.underlying26 _ (Reads.lit _ _ _ _ 1 _ hbyte.out rfl) (bys_one _)) ?b1 ?b2 ?grow))
  case b1 =>
    have e1 := hl2.out
    have e2 := hl1.out
    have e3 := hl0.out
    unfold maxLen
    omega
  case b2 =>
    have e1 := hl2.out
    have e2 := hl1.out
    have e3 := hl0.out
    omega
  case grow =>
    intro A6 c6 w6 ho6 hg6 hat6
    have hb5s : w5.heap.size ≤ (w5.alloc (.cells #[.int .u8 (l.length : Int)] 5)).heap.size := by simp
    have B6 := (B5.alloc (.cells #[.int .u8 (l.length : Int)] 5)).grown hg6 (fun e => by have := hf5' b e.symm; omega)
    have hbw : w.heap.size ≤ b := by omega
    have hB6 := (hB5.alloc hB5.size (.cells #[.int .u8 (l.length : Int)] 5)).grown hg6 (Nat.le_trans hB5.size hb5s) (fun k hk => by have := hf5' k hk; omega)
    have hf6 : ∀ g, bOf A6 = some g → w.heap.size ≤ g := fun g hg => by
      rcases hat6 with h | h
      · rw [h] at hg; have := hf5' g hg; omega
      · rw [h] at hg; cases hg; have := hB5.size; omega
    rw [← hb3.out, ← hl3.out] at ho6
    rw [← hl3.out]
    have d5' := B6.cell 5
    have hql : q3.length ≤ 200000 := by have e0 := hl3.out; have e1 := hl2.out; have e2 := hl1.out; have e3 := hl0.out; omega
    replace hql := Lib.hid hql
    clear B5 hB5 ho5 hf5' hg6 hat6 hb5s B6 d5
    go_wp2_with fail
    clear d5' hgno hmno hgok hmok hpi
    go_loopw [6, 7, 11, 50] (fun out ev x ii wr => ∃ (j : Nat) (A1 : Option Addr) (c1 : Nat) (q : List UInt8), out = .slice A1 q.length c1 ∧ ii = .int .i64 (j : Int) ∧ PRel w wr l q3 er j A1 c1 q) (fun _ _ _ ii _ => l.length - (intOf ii).toNat)
    case atStart => exact ⟨0, A6, c6, q3, rfl, rfl, Nat.zero_le _, ho6, hf6, Lib.hid (by simp [encL]), Lib.hid (by simp), Lib.hid (by rw [List.drop_zero]; exact her'.out), hB6⟩
    case round =>
      rename_i hrel
      obtain ⟨j, A1, c1, q, rfl, rfl, R⟩ := hrel
      by_cases hlt : j < l.length
      · obtain ⟨ad, k', i', f', s', A', n', c', rfl, hform, hgk, g0, g1, g2, g3, g4⟩ := kid hrx.out hxx.out hxxs.out (R.hb.mono hB) hlt
        have hstep := errL_step hlt
        have hen := encL_snoc hlt
        have hb7 := R.hb.alloc R.hb.size (.cells #[.int .i64 k', .int .i64 i', .float .f64 f', .string s', .slice A' n' c'] 64)
        have ho7 := R.own.alloc (.cells #[.int .i64 k', .int .i64 i', .float .f64 f', .string s', .slice A' n' c'] 64)
        have hjl := R.hlen.out
        have hql' := hql.out
        have hj16 : j < 16 := by omega
        have hsz7 : wr.heap.size ≤ (wr.alloc (.cells #[.int .i64 k', .int .i64 i', .float .f64 f', .string s', .slice A' n' c'] 64)).heap.size := by simp
        by_cases hck : checkV l[j] = 0
        · have hpo := wire_put_ok (c := c1) (hxx.out j l[j] hgk) (hokx.out l[j] (List.getElem_mem hlt)) hck (hb7.mono hB) (Nat.le_trans hB hb7.size) ho7.reads_ (Nat.le_refl _) (by omega)
          have hsm := encV_small hck
          obtain ⟨q', hq'⟩ : ∃ q', q ++ encV l[j] = q' := ⟨_, rfl⟩
          have hql2 : q'.length ≤ q3.length + (j + 1) * 4096 := by rw [← hq', List.length_append]; omega
          have hq2' : q' = q3 ++ encL (l.take (j + 1)) := by rw [← hq', R.hq.out, hen, List.append_assoc]
          have he2 : errL (l.drop (j + 1)) = er := by rw [← R.he.out, hstep, if_neg (by rw [hck]; simp)]
          rw [hform, hq'] at hpo
          replace hpo := Lib.hid hpo
          replace hql2 := Lib.hid hql2
          replace hq2' := Lib.hid hq2'
          replace he2 := Lib.hid he2
          have hfr : w.heap.size ≤ (wr.alloc (.cells #[.int .i64 k', .int .i64 i', .float .f64 f', .string s', .slice A' n' c'] 64)).heap.size := hb7.size
          clear hform hgk hstep hen R hjl hck hq' ho7 hsm hql'
          go_wp2_with fail
          refine hpo.out.mono ?_
          rintro e w8 ⟨A8, c8, rfl, ho8, hb8, hf8⟩
          dsimp only
          have hB8 := below_then hb8 hb7
          have hf8' : ∀ g, bOf A8 = some g → w.heap.size ≤ g := fun g hg => Nat.le_trans hfr (hf8 g hg)
          clear hb7 hb8 hf8 hpo g0 g1 g2 g3 g4
          go_wp2_with fail
          go_roundw
          case rel => exact ⟨j + 1, A8, c8, q', rfl, by simp, by omega, ho8, hf8', hq2', hql2, he2, hB8⟩
          case measure => simp [intOf]; omega
        · have hpo := wire_put_no (A := A1) (m := q.length) (c := c1) (hxx.out j l[j] hgk) hck (hb7.mono hB) (Nat.le_trans hB hb7.size)
          have hern : checkV l[j] = er := by rw [← R.he.out, hstep, if_pos hck]
          rw [hform, hern] at hpo
          rw [hern] at hck
          have hne : ((er : Int) != 0) = true := bne_iff_ne.2 (by omega)
          replace hpo := Lib.hid hpo
          replace hck := Lib.hid hck
          clear hform hgk hstep hen R hjl hern ho7 hql'
          go_wp2_with fail
          refine hpo.out.mono ?_
          rintro e w8 ⟨rfl, hb8⟩
          dsimp only
          have hB8 := below_then hb8 hb7
          go_wp2_with fail
          go_ret2
          exact ⟨fun e => absurd e hck.out, fun _ => ⟨rfl, hB8⟩⟩
      · have hj' : j = l.length := by have := R.jl; omega
        subst hj'
        have he0 : er = 0 := by rw [← R.he.out, List.drop_length]; rfl
        have hq0 : q3 ++ encL l = q := by rw [R.hq.out, List.take_length]
        have ho := R.own
        have hfr := R.fresh
        have hbf := R.hb
        subst he0
        replace hq0 := Lib.hid hq0
        clear R
        go_wp2_with fail
        go_ret2
        rw [hq0.out]
        exact ⟨A1, c1, rfl, ho, hbf, hfr⟩
end Go.Proofs.Ytlkokkbikkbaoaa
