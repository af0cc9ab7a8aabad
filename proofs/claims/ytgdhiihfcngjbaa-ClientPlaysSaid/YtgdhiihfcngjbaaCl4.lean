/- (*client.Stub).Call. -/
import Derived.Test.YtgdhiihfcngjbaaCl3
import Derived.Test.YtgdhiihfcngjbaaIdRef
set_option linter.unusedSimpArgs false
set_option linter.unusedVariables false
namespace Go.Proofs.Ytgdhiihfcngjbaa
open Go.RowKit
set_option maxRecDepth 100000

theorem Blk.st4 {w : World} {g : Nat} {t : TypeId} {a b c d : Value} (x : Blk w g t #[a, b, c, d]) : w.cell? ⟨g, 0, none⟩ = some a ∧ w.cell? ⟨g, 1, none⟩ = some b ∧ w.cell? ⟨g, 2, none⟩ = some c ∧ w.cell? ⟨g, 3, none⟩ = some d := ⟨x.cell 0, x.cell 1, x.cell 2, x.cell 3⟩
theorem info_open : (Try.prog.info? 72).map (fun i => (i.zero, i.size, i.bytes)) = some (some (.agg #[.int .u32 0, .int .u32 0, .int .u16 0, .string ⟨#[]⟩, .string ⟨#[]⟩, .slice none 0 0, .int .i64 0, .bool false]), 8, 88) := by kernel_rfl
/-- Cleaned by the program: the call's row is new. -/
theorem clean_own {w : World} {B c s n : Nat} {g m : List UInt8} {l : List Val} {gg mm : ByteArray} {A : Option Addr} {L cc : Nat} (h : OpReads w B ⟨c, s, n, g, m, l⟩ #[.int .u32 (c : Int), .int .u32 (s : Int), .int .u16 (n : Int), .string gg, .string mm, .slice A L cc]) (hB : B ≤ w.heap.size) :
    Calls Try.prog 26 #[.agg #[.int .u32 (c : Int), .int .u32 (s : Int), .int .u16 (n : Int), .string gg, .string mm, .slice A L cc]] w (OpCleanRes w (c : Int) (s : Int) (n : Int) gg mm l) := by
  obtain ⟨rfl, rfl, rfl⟩ := op_parts h
  obtain ⟨A0, cc0, xs, css, hcs, hr, hx, hxs, hll, hok, hc, hs, hn⟩ := h
  simp at hcs
  obtain ⟨rfl, rfl⟩ := hcs
  exact op_clean hr hB hxs hx hll (fun j v hv w1 hb1 => val_clean_s (hx j v hv) w1 (short_of_ok (hok v (List.mem_of_getElem? hv))) (hb1.mono hB) (Nat.le_trans hB hb1.size))
theorem StubX.neA {w : World} {F : Nat → Prop} {g : Nat} {d : CliD} {A : Option Addr} {c : Nat} {A2 : Option Addr} {c2 : Nat} {xs xs2 : List Value} {css css2 : Nat → Array Value} (h : StubX w F g d A c A2 c2 xs xs2 css css2) : ∀ y, bOf A = some y → y ≠ g := fun y hy e => by
  rcases h.ho.2 with ⟨rfl, -⟩ | ⟨gA, cur, rfl, hb, -⟩
  · cases hy
  · cases hy; exact hb.ne_ h.blk (by decide) e
theorem StubX.neA2 {w : World} {F : Nat → Prop} {g : Nat} {d : CliD} {A : Option Addr} {c : Nat} {A2 : Option Addr} {c2 : Nat} {xs xs2 : List Value} {css css2 : Nat → Array Value} (h : StubX w F g d A c A2 c2 xs xs2 css css2) : ∀ y, bOf A2 = some y → y ≠ g := fun y hy e => by
  rcases h.hr.2 with ⟨rfl, -⟩ | ⟨gA, cur, rfl, hb, -⟩
  · cases hy
  · cases hy; exact hb.ne_ h.blk (by decide) e
/-- A call that is open anew. -/
theorem StubX.push {w : World} {F : Nat → Prop} {g : Nat} {d : CliD} {A : Option Addr} {c : Nat} {A2 : Option Addr} {c2 : Nat} {xs xs2 : List Value} {css css2 : Nat → Array Value} {w5 w7 w8 w9 : World} {b g8 c8 : Nat} {A8 : Option Addr} {o : OpD} {cs : Array Value} (h : StubX w F g d A c A2 c2 xs xs2 css css2) (h4 : d.op.length < 4) (hu : Upd (fun y => y = g) w w5) (hop : OpHeld w5 (fun x => x < b) o cs) (hwb : w.heap.size < b) (hb7 : Below w5.heap.size w5 w7)
    (ho8 : Own w8 72 8 A8 (d.op.length + 1) c8 (xs ++ (cs.toList ++ [.int .i64 0, .bool true]))) (hg8 : w7.grownBy w8 (bOf A)) (hat : bOf A8 = bOf A ∨ bOf A8 = some w7.heap.size) (he8 : g8 = w.heap.size) (hu9 : Upd (fun y => y = g ∨ y = g8) w8 w9)
    (hblk : Blk w9 g 67 #[.int .u32 (d.id : Int), .int .u32 ((d.seq + 1 : Nat) : Int), .slice A8 (d.op.length + 1) c8, .slice A2 d.rp.length c2]) (hs : d.seq + 1 ≤ 1000000) (h8 : g8 < w5.heap.size) :
    Upd F w w9 ∧ ∃ F', StubS w9 F' g ⟨d.id, d.seq + 1, d.op ++ [⟨o, 0, true⟩], d.rp⟩ ∧ ∀ y, F' y → F y ∨ w.heap.size ≤ y := by
  have hlx := h.ho.len
  have hAl : ∀ y, bOf A = some y → y < w.heap.size := fun y hy => h.ho.lt hy
  have hA2l : ∀ y, bOf A2 = some y → y < w.heap.size := fun y hy => h.hr.lt hy
  have hgl := h.blk.lt
  have hu78 : Upd (fun y => bOf A = some y) w7 w8 := (Upd.refl _ w7).grown hg8 (fun k e _ => e)
  have hu59 : Upd (fun y => y = g ∨ y = g8 ∨ bOf A = some y) w5 w9 := ((Upd.of_below_size hb7).trans (hu78.mono (fun _ _ e => .inr (.inr e))) (fun _ _ e => e)).trans (hu9.mono (fun _ _ e => e.elim .inl (fun e => .inr (.inl e)))) (fun _ _ e => e)
  have hu09 : Upd (fun y => y = g ∨ y = g8 ∨ bOf A = some y) w w9 := (hu.mono (fun _ _ e => .inl e)).trans hu59 (fun _ _ e => e)
  have h79 : w7.heap.size ≤ w9.heap.size := Nat.le_trans hu78.size hu9.size
  have h57 := hb7.size
  have h05 := hu.size
  have hA9 : ∀ y, bOf A8 = some y → bOf A = some y ∨ y = w7.heap.size := fun y hy => by
    rcases hat with e | e <;> rw [e] at hy
    · exact .inl hy
    · cases hy; exact .inr rfl
  have hcs : cs.toList.length = 6 := by
    obtain ⟨_, _, _, _, rfl, _⟩ := hop.reads
    rfl
  refine ⟨hu09.mono (fun y hy e => ?_), fun y => F y ∨ (w.heap.size ≤ y ∧ y < w9.heap.size), ⟨A8, c8, A2, c2, xs ++ (cs.toList ++ [.int .i64 0, .bool true]), xs2, fun k => if k = d.op.length then cs else css k, css2, ?_⟩, fun y hy => hy.elim .inl (fun e => .inr e.1)⟩
  · rcases e with rfl | rfl | e
    · exact h.fg
    · omega
    · exact h.fA y e
  have hop9 := hop.next (P' := fun y => ¬ (F y ∨ (w.heap.size ≤ y ∧ y < w9.heap.size)) ∨ y = g ∨ bOf A8 = some y ∨ bOf A2 = some y) hu59 (fun y _ e => by
    rcases e with e | e | e
    · omega
    · omega
    · have := hAl y e; omega) (fun y hy e => by
    rcases e with e | e | e | e
    · rcases Nat.lt_or_ge y b with h' | h'
      · exact h'
      · exact absurd (.inr ⟨by omega, by omega⟩) e
    · omega
    · rcases hA9 y e with e | e
      · have := hAl y e; omega
      · omega
    · have := hA2l y e; omega)
  have ho9 := ho8.upd hu9 (fun y hy e => by
    rcases hA9 y hy with h' | h'
    · rcases e with e | e
      · exact h.neA y h' e
      · have := hAl y h'; omega
    · omega)
  refine ⟨by rw [List.length_append]; exact hblk, by rw [List.length_append]; exact ho9, (h.hr.upd hu09 (fun y hy e => ?_)), fun j x hj => ?_, fun j x hj => ?_, fun j x hj => ?_, h.rxs, .inl h.fg, fun y hy => ?_, fun y hy => .inl (h.fA2 y hy), fun y hy => ?_, h.hid, hs, by rw [List.length_append]; exact h4, h.hr4⟩
  · rcases e with e | e | e
    · exact h.neA2 y hy e
    · have := hA2l y hy; omega
    · exact h.ho.ne_own h.hr (by decide) y e hy
  · rcases Nat.lt_trichotomy j d.op.length with hjl | hjl | hjl
    · rw [if_neg (by omega)]
      rw [List.getElem?_append_left hjl] at hj
      refine (h.hx j x hj).next hu09 (fun y hy e => ?_) (fun y hy e => ?_)
      · rcases e with e | e | e
        · exact .inr (.inl e)
        · omega
        · exact .inr (.inr (.inl e))
      · rcases e with e | e | e | e
        · exact .inl (fun hf => e (.inl hf))
        · exact .inr (.inl e)
        · rcases hA9 y e with e | e
          · exact .inr (.inr (.inl e))
          · omega
        · exact .inr (.inr (.inr e))
    · subst hjl
      rw [if_pos rfl]
      simp at hj
      subst hj
      exact hop9
    · rw [List.getElem?_eq_none (by simp; omega)] at hj; cases hj
  · rcases Nat.lt_trichotomy j d.op.length with hjl | hjl | hjl
    · rw [if_neg (by omega)]
      rw [List.getElem?_append_left hjl] at hj
      rw [← h.hxs j x hj, List.drop_append_of_le_length (by omega), List.take_append_of_le_length (by rw [List.length_drop]; omega)]
    · subst hjl
      rw [if_pos rfl]
      simp at hj
      subst hj
      rw [List.drop_left' hlx]
      exact List.take_of_length_le (by simp [hcs])
    · rw [List.getElem?_eq_none (by simp; omega)] at hj; cases hj
  · refine ((h.rx j x hj).upd hu09 (fun y hy e => ?_)).mono (fun y _ hy => ⟨.inl hy.1, hy.2.1, fun e => ?_, hy.2.2.2⟩)
    · rcases e with e | e | e
      · exact hy.2.1 e
      · have := h.ft y hy.1; omega
      · exact hy.2.2.1 e
    · rcases hA9 y e with e | e
      · exact hy.2.2.1 e
      · have := h.ft y hy.1; omega
  · rcases hA9 y hy with e | e
    · exact .inl (h.fA y e)
    · exact .inr ⟨by omega, by have := ho8.lt hy; have := hu9.size; omega⟩
  · rcases hy with hy | hy
    · exact Nat.lt_of_lt_of_le (h.ft y hy) hu09.size
    · exact hy.2
def nameB (s : ByteArray) : Bool := decide (1 ≤ s.size) && decide (s.size ≤ 32)
def badC (gg mm : ByteArray) (l : List Val) : Bool := !nameB gg || (!nameB mm || (decide (16 < l.length) || l.any fun v => decide (checkV v ≠ 0)))
def ClCall (w : World) (F : Nat → Prop) (g : Nat) (d : CliD) (gg mm : ByteArray) (l : List Val) (e : Ending) (w' : World) : Prop :=
  Below w.heap.size w w' ∧ StubS w' F g d ∧ ((badC gg mm l = true ∧ e = .returned (.tuple #[.agg #[.int .u32 0, .int .u32 0, .int .u16 0], .int .i64 31])) ∨ (badC gg mm l = false ∧ 4 ≤ d.op.length ∧ e = .returned (.tuple #[.agg #[.int .u32 0, .int .u32 0, .int .u16 0], .int .i64 42]))) ∨
  (badC gg mm l = false ∧ d.op.length < 4 ∧ e = .returned (.tuple #[.agg #[.int .u32 (d.id : Int), .int .u32 ((d.seq + 1 : Nat) : Int), .int .u16 0], .int .i64 0]) ∧ Upd F w w' ∧
    ∃ F', StubS w' F' g ⟨d.id, d.seq + 1, d.op ++ [⟨⟨d.id, d.seq + 1, 0, gg.toList, mm.toList, l.map cleanV⟩, 0, true⟩], d.rp⟩ ∧ ∀ y, F' y → F y ∨ w.heap.size ≤ y)
set_option maxHeartbeats 6400000 in
theorem cl_call {w : World} {F : Nat → Prop} {g : Nat} {d : CliD} {A : Option Addr} {c : Nat} {A2 : Option Addr} {c2 : Nat} {xs xs2 : List Value} {css css2 : Nat → Array Value} {Al : Option Addr} {cl : Nat} {gg mm : ByteArray} {l : List Val} (h : StubX w F g d A c A2 c2 xs xs2 css css2) (ha : OpHeld w (fun y => y = g) ⟨d.id, d.seq + 1, 0, gg.toList, mm.toList, l⟩ #[.int .u32 (d.id : Int), .int .u32 ((d.seq + 1 : Nat) : Int), .int .u16 ((0 : Nat) : Int), .string gg, .string mm, .slice Al l.length cl]) (hlen : l.length ≤ 1000000) (hsq1 : d.seq < 1000000)
    (hgs : gg.size ≤ 1000000000) (hms : mm.size ≤ 1000000000) :
    Calls Try.prog 8 #[.pointer (some ⟨g, 0, none⟩), .string gg, .string mm, .slice Al l.length cl] w (ClCall w F g d gg mm l) := by
  have hng := fun W => cl_name gg W hgs
  have hnm := fun W => cl_name mm W hms
  have hcw : ∀ W, Below w.heap.size w W → Calls Try.prog 24 #[.slice Al l.length cl, .func (Fn.func 25) #[] #[]] W (Says W (.bool (l.any fun v => decide (checkV v ≠ 0)))) := fun W hW => by
    obtain ⟨A', cc', xl, cssl, hcs, hr, hv, hxl, -⟩ := ha (fun _ => False) W (Upd.of_below_size hW) (fun _ hf => hf.elim)
    have h5 := congrArg (fun a : Array Value => a.toList[5]?) hcs
    simp at h5
    obtain ⟨rfl, rfl⟩ := h5
    exact contains_wrong hr (Nat.le_refl _) hxl hv (by omega) (fun j v hj w1 hb1 => wrong_walk (hv j v hj) w1 hb1 hb1.size)
  have hbad : badC gg mm l = (!nameB gg || (!nameB mm || (decide (16 < l.length) || l.any fun v => decide (checkV v ≠ 0)))) := rfl
  have hcl := fun W (hu : Upd (fun y => y = g) w W) => clean_own (ha _ W hu (fun _ e => e)) (Nat.le_refl _)
  have hokl : ∀ v ∈ l, OkV v := by
    obtain ⟨A', cc', xl, cssl, hcs, hr, hv, hxl, -, hok, -⟩ := ha (fun _ => False) w (Upd.refl _ w) (fun _ hf => hf.elim)
    exact hok
  obtain ⟨n1, hn1⟩ : ∃ q, nameB gg = q := ⟨_, rfl⟩
  obtain ⟨n2, hn2⟩ : ∃ q, nameB mm = q := ⟨_, rfl⟩
  obtain ⟨q4, hq4⟩ : ∃ q, (l.any fun v => decide (checkV v ≠ 0)) = q := ⟨_, rfl⟩
  have hng' := fun W => (show Calls Try.prog 23 #[.string gg] W (Says W (.bool n1)) by rw [← hn1]; exact hng W)
  have hnm' := fun W => (show Calls Try.prog 23 #[.string mm] W (Says W (.bool n2)) by rw [← hn2]; exact hnm W)
  rw [hq4] at hcw
  rw [hn1, hn2, hq4] at hbad
  obtain ⟨LL, hLL⟩ : ∃ q, l.length = q := ⟨_, rfl⟩
  obtain ⟨N, hN⟩ : ∃ q, d.op.length = q := ⟨_, rfl⟩
  have hg2 : w.cell? ⟨g, 2, none⟩ = some (.slice A N c) := by rw [← hN]; exact h.blk.cell 2
  have hg2w := fun W (hW : Below w.heap.size w W) => (hW.cell (p := ⟨g, 2, none⟩) h.blk.lt).trans hg2
  rw [hLL] at hcw hbad hcl ⊢
  clear hng hnm
  replace hng' := Lib.hid hng'
  replace hnm' := Lib.hid hnm'
  replace hcw := Lib.hid hcw
  replace hcl := Lib.hid hcl
  replace hbad := Lib.hid hbad
  replace hN := Lib.hid hN
  replace hLL := Lib.hid hLL
  replace hg2w := Lib.hid hg2w
  replace h := Lib.hid h
  replace hokl := Lib.hid hokl
  clear ha hn1 hn2 hq4 hg2
  have hz0 := Blk.new w 29 #[.int .u32 0, .int .u32 0, .int .u16 0]
  have hb0 := (Below.refl w.heap.size w).alloc (Nat.le_refl _) (.cells #[.int .u32 0, .int .u32 0, .int .u16 0] 29)
  obtain ⟨g8, hg8⟩ : ∃ y, w.heap.size = y := ⟨_, rfl⟩
  rw [hg8] at hz0
  go_enter Try.func8, Try.ntmps8
  go_upto_region 1 with (fail)
  generalize w.alloc (.cells #[.int .u32 0, .int .u32 0, .int .u16 0] 29) = w0 at *
  try rw [hg8]
  have hz0l := hz0.lt
  go_wp2_with fail
  refine (hng'.out w0).mono ?_
  rintro e w1 ⟨rfl, hb1⟩
  try dsimp only
  have hz1 := hz0.below hb1 hz0l
  have hz1l := hz1.lt
  have hb01 := hb0.trans (hb1.mono hb0.size)
  have hg8w : w.heap.size ≤ g8 := by rw [← hg8]; exact Nat.le_refl _
  have hg22 := hg2w.out
  rcases Bool.eq_false_or_eq_true n1 with hn1 | hn1
  · subst hn1
    go_wp2_with fail
    refine (hnm'.out w1).mono ?_
    rintro e w2 ⟨rfl, hb2⟩
    try dsimp only
    have hz2 := hz1.below hb2 hz1l
    have hz2l := hz2.lt
    have hb02 := hb01.trans (hb2.mono hb01.size)
    rcases Bool.eq_false_or_eq_true n2 with hn2 | hn2
    · subst hn2
      by_cases h16 : 16 < LL
      · have d1 : decide ((16 : Int) < (LL : Int)) = true := decide_eq_true (by omega)
        have d1' : decide (16 < LL) = true := decide_eq_true h16
        have hbd : badC gg mm l = true := by rw [hbad.out, d1']; rfl
        have f0 := hz2.frozen 0
        have f1 := hz2.frozen 1
        have f2 := hz2.frozen 2
        have k0 := hz2.cell 0
        have k1 := hz2.cell 1
        have k2 := hz2.cell 2
        have hze := ((hz2.set_ 0 (.int .u32 0)).set_ 1 (.int .u32 0)).set_ 2 (.int .u16 0)
        have hbe := ((hb02.setCell (p := ⟨g8, 0, none⟩) hg8w (.int .u32 0)).setCell (p := ⟨g8, 1, none⟩) hg8w (.int .u32 0)).setCell (p := ⟨g8, 2, none⟩) hg8w (.int .u16 0)
        go_wp2_with fail
        refine bodyPost_ret (v := .tuple #[.agg #[.int .u32 0, .int .u32 0, .int .u16 0], .int .i64 31]) ?hr rfl ?_
        case hr => exact results_ct rfl _ _ g8 29 _ (0, 0) _ _ rfl rfl hze Try.underlying29 rfl (by kernel_rfl)
        exact .inl ⟨hbe, ⟨A, c, A2, c2, xs, xs2, css, css2, h.out.below hbe⟩, .inl ⟨hbd, rfl⟩⟩
      · have d1 : decide ((16 : Int) < (LL : Int)) = false := decide_eq_false (by omega)
        have d1' : decide (16 < LL) = false := decide_eq_false h16
        go_wp2_with fail
        refine (hcw.out w2 hb02).mono ?_
        rintro e w3 ⟨rfl, hb3⟩
        try dsimp only
        have hz3 := hz2.below hb3 hz2l
        have hz3l := hz3.lt
        have hb03 := hb02.trans (hb3.mono hb02.size)
        rcases Bool.eq_false_or_eq_true q4 with hq | hq
        · subst hq
          have hbd : badC gg mm l = true := by rw [hbad.out, d1']; rfl
          have f0 := hz3.frozen 0
          have f1 := hz3.frozen 1
          have f2 := hz3.frozen 2
          have k0 := hz3.cell 0
          have k1 := hz3.cell 1
          have k2 := hz3.cell 2
          have hze := ((hz3.set_ 0 (.int .u32 0)).set_ 1 (.int .u32 0)).set_ 2 (.int .u16 0)
          have hbe := ((hb03.setCell (p := ⟨g8, 0, none⟩) hg8w (.int .u32 0)).setCell (p := ⟨g8, 1, none⟩) hg8w (.int .u32 0)).setCell (p := ⟨g8, 2, none⟩) hg8w (.int .u16 0)
          go_wp2_with fail
          refine bodyPost_ret (v := .tuple #[.agg #[.int .u32 0, .int .u32 0, .int .u16 0], .int .i64 31]) ?hr rfl ?_
          case hr => exact results_ct rfl _ _ g8 29 _ (0, 0) _ _ rfl rfl hze Try.underlying29 rfl (by kernel_rfl)
          exact .inl ⟨hbe, ⟨A, c, A2, c2, xs, xs2, css, css2, h.out.below hbe⟩, .inl ⟨hbd, rfl⟩⟩
        · subst hq
          have hbd : badC gg mm l = false := by rw [hbad.out, d1']; rfl
          have hgc := hg22 w3 hb03
          by_cases h4 : 4 ≤ N
          · have d2 : decide ((4 : Int) ≤ (N : Int)) = true := decide_eq_true (by omega)
            have d2' : decide (4 ≤ N) = true := decide_eq_true h4
            have f0 := hz3.frozen 0
            have f1 := hz3.frozen 1
            have f2 := hz3.frozen 2
            have k0 := hz3.cell 0
            have k1 := hz3.cell 1
            have k2 := hz3.cell 2
            have hze := ((hz3.set_ 0 (.int .u32 0)).set_ 1 (.int .u32 0)).set_ 2 (.int .u16 0)
            have hbe := ((hb03.setCell (p := ⟨g8, 0, none⟩) hg8w (.int .u32 0)).setCell (p := ⟨g8, 1, none⟩) hg8w (.int .u32 0)).setCell (p := ⟨g8, 2, none⟩) hg8w (.int .u16 0)
            go_wp2_with fail
            refine bodyPost_ret (v := .tuple #[.agg #[.int .u32 0, .int .u32 0, .int .u16 0], .int .i64 42]) ?hr rfl ?_
            case hr => exact results_ct rfl _ _ g8 29 _ (0, 0) _ _ rfl rfl hze Try.underlying29 rfl (by kernel_rfl)
            exact .inl ⟨hbe, ⟨A, c, A2, c2, xs, xs2, css, css2, h.out.below hbe⟩, .inr ⟨hbd, by rw [hN.out]; exact h4, rfl⟩⟩
          · have d2 : decide ((4 : Int) ≤ (N : Int)) = false := decide_eq_false (by omega)
            have d2' : decide (4 ≤ N) = false := decide_eq_false h4
            have hX := h.out.below hb03
            have hsq := hX.hsq
            have hbs := hX.blk
            have hs0 : w3.cell? ⟨g, 0, none⟩ = some (.int .u32 (d.id : Int)) := hbs.cell 0
            have hs1 : w3.cell? ⟨g, 1, none⟩ = some (.int .u32 (d.seq : Int)) := hbs.cell 1
            have hf1 := hbs.frozen 1
            have wsq : IntKind.u32.wrap ((d.seq : Int) + 1) = (d.seq : Int) + 1 := by unfold IntKind.wrap; simp [IntKind.bits, IntKind.signed]; omega
            obtain ⟨sid, hsid⟩ : ∃ q, d.id = q := ⟨_, rfl⟩
            obtain ⟨sq, hsq'⟩ : ∃ q, d.seq = q := ⟨_, rfl⟩
            obtain ⟨M, hM⟩ : ∃ q, d.rp.length = q := ⟨_, rfl⟩
            rw [hsid] at hs0
            rw [hsq'] at hs1 wsq hsq
            rw [hsid, hsq', hN.out, hM] at hbs
            have hbs4 : Blk (w3.setCell ⟨g, 1, none⟩ (.int .u32 ((sq : Int) + 1))) g 67 #[.int .u32 (sid : Int), .int .u32 ((sq : Int) + 1), .slice A N c, .slice A2 M c2] := hbs.set_ 1 (.int .u32 ((sq : Int) + 1))
            have hu4 : Upd (fun y => y = g) w3 (w3.setCell ⟨g, 1, none⟩ (.int .u32 ((sq : Int) + 1))) := (Upd.refl (fun y => y = g) w3).setCell (p := ⟨g, 1, none⟩) (fun _ => rfl) _
            have hgg8 : g ≠ g8 := by have := h.out.blk.lt; omega
            have hz4 := hz3.upd hu4 (fun e => hgg8 e.symm)
            replace hsid := Lib.hid hsid
            replace hsq' := Lib.hid hsq'
            replace hM := Lib.hid hM
            replace hX := Lib.hid hX
            go_upto_region 6 with (fail)
            generalize w3.setCell ⟨g, 1, none⟩ (.int .u32 ((sq : Int) + 1)) = w4 at *
            have hu04 : Upd (fun y => y = g) w w4 := (Upd.of_below_size hb03).trans hu4 (fun _ _ e => e)
            have hcl' := fun W (hu : Upd (fun y => y = g) w W) => hcl.out W hu
            rw [hsid.out, hsq'.out] at hcl'
            replace hcl' := Lib.hid hcl'
            have hl4 := hbs4.lt
            go_cut [10] from 45 to 59 (fun x10 wx => ∃ (y : Nat) (A' : Option Addr) (c' : Nat) (xs' : List Value) (css' : Nat → Array Value), x10 = .pointer (some ⟨y, 0, none⟩) ∧ w4.heap.size ≤ y ∧ Blk wx y 62 #[.int .u32 (sid : Int), .int .u32 ((sq : Int) + 1), .int .u16 0, .string gg, .string mm, .slice A' LL c'] ∧ VRowP wx (fun g => w4.heap.size ≤ g ∧ g ≠ y) (l.map cleanV) A' c' xs' css' ∧ Below w4.heap.size w4 wx)
            case first =>
              have hS0 : Below w4.heap.size w4 w4.drew := (Below.refl _ _).drew
              refine wp_region_pair (fun W => Below w4.heap.size w4 W) [3, 7] [13, 14, 15] [0, 1, 2, 3, 4, 5, 6, 7, 8, 9, 10, 11, 12] 13 14 [14, 15] [13, 15] (by kernel_rfl) rfl rfl (by kernel_rfl) (by kernel_rfl) (by kernel_rfl) rfl rfl (by kernel_rfl) (by kernel_rfl) (fun _ _ d _ _ h => by cases d <;> exact h) ?_
              repeat (first | (refine lexG_take _ ?_ rfl rfl rfl rfl (fun _ => ?_) ?_; rotate_left; (focus (go_simp; with_reducible rfl)); try simp only [Act.put, List.setIfInBounds_toArray, List.set_cons_zero, List.set_cons_succ]) | (refine lexG_held _ ?_ rfl rfl rfl rfl (by assumption) (fun _ hSw => ?_) ?_; rotate_left; (focus (have h1 := (hbs4.below hSw hl4).st4; clear hSw; go_simp; with_reducible rfl)); try simp only [Act.put, List.setIfInBounds_toArray, List.set_cons_zero, List.set_cons_succ]) | (refine lexG_skip _ rfl rfl (by assumption) ?_; try simp only [Act.put, List.setIfInBounds_toArray, List.set_cons_zero, List.set_cons_succ]))
              refine lexG_nil ?_
              refine ⟨?_, ?_⟩
              · skip
                refine lexG_now _ rfl rfl rfl (fun K0 hK => ?_)
                go_wp2_with fail
                refine (hcl'.out w4.drew (hu04.trans (Upd.of_below_size hS0) (fun _ _ e => e))).mono ?_
                rintro e w5 ⟨A', c', xs', css', rfl, R, hb5'⟩
                try dsimp only
                rw [hLL.out]
                have hS5 := below_then hb5' hS0
                refine hK _ _ (fun W => Below w4.heap.size w4 W) (fun W h => h) hS5 ?_
                clear hK K0
                try simp only [Act.put, List.setIfInBounds_toArray, List.set_cons_zero, List.set_cons_succ]
                have h35 := hS5.size
                have hy6 := Blk.new w5 62 #[.int .u32 0, .int .u32 0, .int .u16 0, .string ⟨#[]⟩, .string ⟨#[]⟩, .slice none 0 0]
                have hS6 := hS5.alloc hS5.size (.cells #[.int .u32 0, .int .u32 0, .int .u16 0, .string ⟨#[]⟩, .string ⟨#[]⟩, .slice none 0 0] 62)
                have RP := (R.toP (P := fun g => w4.heap.size ≤ g ∧ g ≠ w5.heap.size) (fun g h1 h2 => ⟨h1, by omega⟩)).upd ((Upd.refl (fun _ => False) w5).alloc (.cells #[.int .u32 0, .int .u32 0, .int .u16 0, .string ⟨#[]⟩, .string ⟨#[]⟩, .slice none 0 0] 62)) (fun _ _ h => h)
                refine lexG_now _ rfl rfl rfl (fun K0 hK => ?_)
                go_wp2_with fail
                generalize hww : w5.alloc (.cells #[.int .u32 0, .int .u32 0, .int .u16 0, .string ⟨#[]⟩, .string ⟨#[]⟩, .slice none 0 0] 62) = w6 at *
                refine hK _ _ (fun W => Below w4.heap.size w4 W) (fun W h => h) hS6 ?_
                clear hK K0
                try simp only [Act.put, List.setIfInBounds_toArray, List.set_cons_zero, List.set_cons_succ]
                have hyr := hy6.row #[.int .u32 (sid : Int), .int .u32 ((sq : Int) + 1), .int .u16 0, .string gg, .string mm, .slice A' LL c']
                have hSr := below_row hS6 (g := w5.heap.size) (by omega) #[.int .u32 (sid : Int), .int .u32 ((sq : Int) + 1), .int .u16 0, .string gg, .string mm, .slice A' LL c']
                have Rr := RP.upd ((Upd.refl (fun g => g = w5.heap.size) w6).setRow (g := w5.heap.size) (fun _ => rfl) #[.int .u32 (sid : Int), .int .u32 ((sq : Int) + 1), .int .u16 0, .string gg, .string mm, .slice A' LL c']) (fun g hg e => hg.2 e)
                refine lexG_nowF _ rfl rfl rfl (by kernel_rfl) (fun K0 hK => ?_)
                refine wp_store_row 62 (Operand.tmp 10) _ rfl w5.heap.size #[.int .u32 (sid : Int), .int .u32 ((sq : Int) + 1), .int .u16 0, .string gg, .string mm, .slice A' LL c'] (by simp [go_sem]) (by simp [go_sem]) 62 _ hy6 (by kernel_rfl) rfl (by simp [Value.oneCell']) ?_
                go_simp
                refine hK _ _ ?_
                clear hK K0
                try simp only [Act.put, List.setIfInBounds_toArray, List.set_cons_zero, List.set_cons_succ]
                refine lexG_nil ?_
                go_wp2_with fail
                go_meet
                exact ⟨w5.heap.size, A', c', xs', css', rfl, by omega, hyr, Rr, hSr⟩
              · have hy4 := (Blk.new w4 62 #[.int .u32 0, .int .u32 0, .int .u16 0, .string ⟨#[]⟩, .string ⟨#[]⟩, .slice none 0 0])
                have hS4 := (((Below.refl w4.heap.size w4).alloc (Nat.le_refl _) (.cells #[.int .u32 0, .int .u32 0, .int .u16 0, .string ⟨#[]⟩, .string ⟨#[]⟩, .slice none 0 0] 62))).drew
                refine lexG_now _ rfl rfl rfl (fun K0 hK => ?_)
                go_wp2_with fail
                refine hK _ _ (fun W => Below w4.heap.size w4 W) (fun W h => h) hS4 ?_
                clear hK K0
                try simp only [Act.put, List.setIfInBounds_toArray, List.set_cons_zero, List.set_cons_succ]
                replace hy4 := hy4.drew
                generalize hww : (w4.alloc (.cells #[.int .u32 0, .int .u32 0, .int .u16 0, .string ⟨#[]⟩, .string ⟨#[]⟩, .slice none 0 0] 62)).drew = w5' at *
                have hy4l := hy4.lt
                refine lexG_now _ rfl rfl rfl (fun K0 hK => ?_)
                go_wp2_with fail
                refine (hcl'.out w5' (hu04.trans (Upd.of_below_size hS4) (fun _ _ e => e))).mono ?_
                rintro e w5 ⟨A', c', xs', css', rfl, R, hb5'⟩
                try dsimp only
                rw [hLL.out]
                have hS5 := below_then hb5' hS4
                refine hK _ _ (fun W => Below w4.heap.size w4 W) (fun W h => h) hS5 ?_
                clear hK K0
                try simp only [Act.put, List.setIfInBounds_toArray, List.set_cons_zero, List.set_cons_succ]
                have hy6 := hy4.below hb5' hy4l
                have RP := R.toP (P := fun g => w4.heap.size ≤ g ∧ g ≠ w4.heap.size) (fun g h1 h2 => ⟨by omega, by omega⟩)
                have hyr := hy6.row #[.int .u32 (sid : Int), .int .u32 ((sq : Int) + 1), .int .u16 0, .string gg, .string mm, .slice A' LL c']
                have hSr := below_row hS5 (g := w4.heap.size) (by omega) #[.int .u32 (sid : Int), .int .u32 ((sq : Int) + 1), .int .u16 0, .string gg, .string mm, .slice A' LL c']
                have Rr := RP.upd ((Upd.refl (fun g => g = w4.heap.size) w5).setRow (g := w4.heap.size) (fun _ => rfl) #[.int .u32 (sid : Int), .int .u32 ((sq : Int) + 1), .int .u16 0, .string gg, .string mm, .slice A' LL c']) (fun g hg e => hg.2 e)
                refine lexG_nowF _ rfl rfl rfl (by kernel_rfl) (fun K0 hK => ?_)
                refine wp_store_row 62 (Operand.tmp 10) _ rfl w4.heap.size #[.int .u32 (sid : Int), .int .u32 ((sq : Int) + 1), .int .u16 0, .string gg, .string mm, .slice A' LL c'] (by simp [go_sem]) (by simp [go_sem]) 62 _ hy6 (by kernel_rfl) rfl (by simp [Value.oneCell']) ?_
                go_simp
                refine hK _ _ ?_
                clear hK K0
                try simp only [Act.put, List.setIfInBounds_toArray, List.set_cons_zero, List.set_cons_succ]
                refine lexG_nil ?_
                go_wp2_with fail
                go_meet
                exact ⟨w4.heap.size, A', c', xs', css', rfl, by omega, hyr, Rr, hSr⟩
            case rest =>
              obtain ⟨y, A', c', xs', css', rfl, hwy, hy5, R5, hb5⟩ := hcut
              generalize wc = w5 at *
              obtain ⟨i0, hi, hz0', hz1', hz2'⟩ := info_parts info_open
              have hbs5 := hbs4.below hb5 hl4
              have hAl := fun z (hz : bOf A = some z) => h.out.ho.lt hz
              have hw4s := hu04.size
              have hgA : ¬ some g = bOf A := fun e => h.out.neA g e.symm rfl
              have hyA : ¬ some y = bOf A := fun e => by have := hAl y e.symm; omega
              have hXo := hX.out.ho
              rw [hN.out] at hXo
              have ho5 := (hXo.upd hu4 (fun z hz e => h.out.neA z hz e)).below hb5 (Nat.le_refl _)
              have hz5 := hz4.below hb5 hz4.lt
              have hsLL : (l.map cleanV).length = LL := by rw [List.length_map]; exact hLL.out
              have H5 := held_of_row (w := w4) (o := ⟨sid, sq + 1, 0, gg.toList, mm.toList, l.map cleanV⟩) (L := LL) (R5.toRow (fun z hz => hz.1)) hsLL (by have := hLL.out; omega) (fun u hu => by obtain ⟨v, hv, rfl⟩ := List.mem_map.1 hu; exact clean_okv (hokl.out v hv)) (by have := h.out.hid; have := hsid.out; show sid < _; omega) (by show sq + 1 < _; omega) (by show 0 < 65536; decide)
              dsimp only at H5
              rw [show bstr gg.toList = gg from ByteArray.ext (by rw [bstr]; simp [ByteArray.toList_eq]), show bstr mm.toList = mm from ByteArray.ext (by rw [bstr]; simp [ByteArray.toList_eq])] at H5
              have hU0 : Upd (fun x => some x = bOf A) w5 w5.drew := Upd.of_below_size (Below.refl _ _).drew
              replace H5 := Lib.hid H5
              clear R5
              go_upto_region 7 with (fail)
              refine wp_region_lex (fun W => Upd (fun x => some x = bOf A) w5 W) [4, 5] [7, 8, 11] [0, 1, 2, 3, 4, 5, 6, 7, 8, 9, 10, 11] (by kernel_rfl) rfl (by kernel_rfl) (by kernel_rfl) (fun _ _ d _ _ h => by cases d <;> exact h) ?_
              repeat (first | (refine lexG_take _ ?_ rfl rfl rfl rfl (fun _ => ?_) ?_; rotate_left; (focus (go_simp; with_reducible rfl)); try simp only [Act.put, List.setIfInBounds_toArray, List.set_cons_zero, List.set_cons_succ]) | (refine lexG_held _ ?_ rfl rfl rfl rfl (by assumption) (fun _ hSw => ?_) ?_; rotate_left; (focus (have h1 := (hbs5.upd hSw hgA).st4; have h2 := (hy5.upd hSw hyA).op6; clear hSw; go_simp; with_reducible rfl)); try simp only [Act.put, List.setIfInBounds_toArray, List.set_cons_zero, List.set_cons_succ]) | (refine lexG_skip _ rfl rfl (by assumption) ?_; try simp only [Act.put, List.setIfInBounds_toArray, List.set_cons_zero, List.set_cons_succ]))
              have hsrc := (Reads.lit (size := 8) w5 #[.int .u32 (sid : Int), .int .u32 ((sq : Int) + 1), .int .u16 0, .string gg, .string mm, .slice A' LL c', .int .i64 0, .bool true] 72 (0, 0) 1 [.int .u32 (sid : Int), .int .u32 ((sq : Int) + 1), .int .u16 0, .string gg, .string mm, .slice A' LL c', .int .i64 0, .bool true] rfl rfl).below ((Below.refl _ _).drew)
              have hS7 := ((Below.refl w5.heap.size w5).alloc (Nat.le_refl _) (.cells #[.int .u32 (sid : Int), .int .u32 ((sq : Int) + 1), .int .u16 0, .string gg, .string mm, .slice A' LL c', .int .i64 0, .bool true] 72)).drew
              refine lexG_now _ rfl rfl rfl (fun K0 hK => ?_)
              go_wp2_with fail
              generalize (w5.alloc (.cells #[.int .u32 (sid : Int), .int .u32 ((sq : Int) + 1), .int .u16 0, .string gg, .string mm, .slice A' LL c', .int .i64 0, .bool true] 72)).drew = w7 at *
              have hU7 := Upd.of_below_size (S := fun x => some x = bOf A) hS7
              refine hK _ _ _ (fun _ h => h) hU7 ?_
              clear hK K0
              try simp only [Act.put, List.setIfInBounds_toArray, List.set_cons_zero, List.set_cons_succ]
              repeat (first | (refine lexG_take _ ?_ rfl rfl rfl rfl (fun _ => ?_) ?_; rotate_left; (focus (go_simp; with_reducible rfl)); try simp only [Act.put, List.setIfInBounds_toArray, List.set_cons_zero, List.set_cons_succ]) | (refine lexG_held _ ?_ rfl rfl rfl rfl (by assumption) (fun _ hSw => ?_) ?_; rotate_left; (focus (have h1 := (hbs5.upd hSw hgA).st4; have h2 := (hy5.upd hSw hyA).op6; clear hSw; go_simp; with_reducible rfl)); try simp only [Act.put, List.setIfInBounds_toArray, List.set_cons_zero, List.set_cons_succ]) | (refine lexG_skip _ rfl rfl (by assumption) ?_; try simp only [Act.put, List.setIfInBounds_toArray, List.set_cons_zero, List.set_cons_succ]))
              have ho7 := ho5.below hS7 (Nat.le_refl _)
              refine lexG_now _ rfl rfl rfl (fun K0 hK => ?_)
              refine wp_append_mine _ _ 65 65 rfl 72 i0 _ 8 88 Try.underlying65 hi hz0' hz1' hz2' rfl rfl ho7 rfl (Src.ofReads Try.underlying65 _ hsrc (by intro u hu; simp only [List.mem_cons, List.not_mem_nil, or_false] at hu; rcases hu with rfl | rfl | rfl | rfl | rfl | rfl | rfl | rfl <;> rfl)) (by unfold maxLen; omega) (by omega) (fun A8 c8 w8 ho8 hg8' hat8 => ?_)
              have hU8 := hU7.grown hg8' (fun k e _ => e.symm)
              refine hK _ _ _ (fun _ h => h) hU8 ?_
              clear hK K0
              try simp only [Act.put, List.setIfInBounds_toArray, List.set_cons_zero, List.set_cons_succ]
              repeat (first | (refine lexG_take _ ?_ rfl rfl rfl rfl (fun _ => ?_) ?_; rotate_left; (focus (go_simp; with_reducible rfl)); try simp only [Act.put, List.setIfInBounds_toArray, List.set_cons_zero, List.set_cons_succ]) | (refine lexG_held _ ?_ rfl rfl rfl rfl (by assumption) (fun _ hSw => ?_) ?_; rotate_left; (focus (have h1 := (hbs5.upd hSw hgA).st4; have h2 := (hy5.upd hSw hyA).op6; clear hSw; go_simp; with_reducible rfl)); try simp only [Act.put, List.setIfInBounds_toArray, List.set_cons_zero, List.set_cons_succ]) | (refine lexG_skip _ rfl rfl (by assumption) ?_; try simp only [Act.put, List.setIfInBounds_toArray, List.set_cons_zero, List.set_cons_succ]))
              have hbs8 := hbs5.upd hU8 hgA
              have k2 := hbs8.cell 2
              have f2 := hbs8.frozen 2
              have hg8A : ¬ some g8 = bOf A := fun e => by have := hAl g8 e.symm; omega
              have hz4l := hz4.lt
              have hygne : y ≠ g := by omega
              have hyg8 : y ≠ g8 := by omega
              have hy8 := hy5.upd hU8 hyA
              have hz8 := hz5.upd hU8 hg8A
              have u1 : Upd (fun z => z = g) w8 (w8.setCell ⟨g, 2, none⟩ (.slice A8 (N + 1) c8)) := (Upd.refl (fun z => z = g) w8).setCell (p := ⟨g, 2, none⟩) (fun _ => rfl) _
              have hbE : Blk (w8.setCell ⟨g, 2, none⟩ (.slice A8 (N + 1) c8)) g 67 #[.int .u32 (sid : Int), .int .u32 ((sq : Int) + 1), .slice A8 (N + 1) c8, .slice A2 M c2] := hbs8.set_ 2 (.slice A8 (N + 1) c8)
              have hyE := hy8.upd u1 hygne
              have hzE := hz8.upd u1 (fun e => hgg8 e.symm)
              refine lexG_nowF _ rfl rfl rfl (by kernel_rfl) (fun K0 hK => ?_)
              go_wp2_with fail
              try simp only [Act.put, List.setIfInBounds_toArray, List.set_cons_zero, List.set_cons_succ]
              refine lexG_nil ?_
              go_upto_region 8 with (fail)
              generalize w8.setCell ⟨g, 2, none⟩ (.slice A8 (N + 1) c8) = wE at *
              have e0 : wE.cell? ⟨y, 0, none⟩ = some (.int .u32 (sid : Int)) := hyE.cell 0
              have e1 : wE.cell? ⟨y, 1, none⟩ = some (.int .u32 ((sq : Int) + 1)) := hyE.cell 1
              have e2 : wE.cell? ⟨y, 2, none⟩ = some (.int .u16 0) := hyE.cell 2
              have p0 := hzE.frozen 0
              have p1 := hzE.frozen 1
              have p2 := hzE.frozen 2
              have t0 := hzE.cell 0
              have t1 := hzE.cell 1
              have t2 := hzE.cell 2
              have hzF := ((hzE.set_ 0 (.int .u32 (sid : Int))).set_ 1 (.int .u32 ((sq : Int) + 1))).set_ 2 (.int .u16 0)
              have uF : Upd (fun z => z = g8) wE (((wE.setCell ⟨g8, 0, none⟩ (.int .u32 (sid : Int))).setCell ⟨g8, 1, none⟩ (.int .u32 ((sq : Int) + 1))).setCell ⟨g8, 2, none⟩ (.int .u16 0)) := (((Upd.refl (fun z => z = g8) wE).setCell (p := ⟨g8, 0, none⟩) (fun _ => rfl) _).setCell (p := ⟨g8, 1, none⟩) (fun _ => rfl) _).setCell (p := ⟨g8, 2, none⟩) (fun _ => rfl) _
              have hbF := hbE.upd uF hgg8
              have u89 := (u1.mono (T := fun z => z = g ∨ z = g8) (fun _ _ e => .inl e)).trans uF (fun _ _ e => .inr e)
              have hu05 : Upd (fun z => z = g) w w5 := hu04.trans (Upd.of_below_size hb5) (fun _ _ e => e)
              have hpush := h.out.push (b := w4.heap.size) (g8 := g8) (by rw [hN.out]; omega) hu05 H5.out (by omega) hS7 (by rw [hN.out]; exact ho8) hg8' hat8 hg8.symm u89 (by rw [hsid.out, hsq'.out, hN.out, hM.out]; exact hbF) (by omega) (by have := hb5.size; omega)
              replace hpush := Lib.hid hpush
              clear hU8 hU7 hbE hbF u1 u89 hyE hy8 hz8 hsrc
              replace hzF := Lib.hid hzF
              go_wp2_with fail
              refine bodyPost_ret (v := .tuple #[.agg #[.int .u32 (sid : Int), .int .u32 ((sq : Int) + 1), .int .u16 0], .int .i64 0]) ?hr rfl ?_
              case hr => exact results_ct rfl _ _ g8 29 _ (0, 0) _ _ rfl rfl hzF.out Try.underlying29 rfl (by kernel_rfl)
              obtain ⟨hUF, F', hS, hF⟩ := hpush.out
              have eo : (⟨⟨d.id, d.seq + 1, 0, gg.toList, mm.toList, l.map cleanV⟩, 0, true⟩ : OpnD) = ⟨⟨sid, sq + 1, 0, gg.toList, mm.toList, l.map cleanV⟩, 0, true⟩ := by rw [hsid.out, hsq'.out]
              refine .inr ⟨hbd, by rw [hN.out]; omega, by rw [hsid.out, hsq'.out]; rfl, hUF, F', ?_, hF⟩
              rw [eo]
              exact hS
    · subst hn2
      have hbd : badC gg mm l = true := by rw [hbad.out]; rfl
      have f0 := hz2.frozen 0
      have f1 := hz2.frozen 1
      have f2 := hz2.frozen 2
      have k0 := hz2.cell 0
      have k1 := hz2.cell 1
      have k2 := hz2.cell 2
      have hze := ((hz2.set_ 0 (.int .u32 0)).set_ 1 (.int .u32 0)).set_ 2 (.int .u16 0)
      have hbe := ((hb02.setCell (p := ⟨g8, 0, none⟩) hg8w (.int .u32 0)).setCell (p := ⟨g8, 1, none⟩) hg8w (.int .u32 0)).setCell (p := ⟨g8, 2, none⟩) hg8w (.int .u16 0)
      go_wp2_with fail
      refine bodyPost_ret (v := .tuple #[.agg #[.int .u32 0, .int .u32 0, .int .u16 0], .int .i64 31]) ?hr rfl ?_
      case hr => exact results_ct rfl _ _ g8 29 _ (0, 0) _ _ rfl rfl hze Try.underlying29 rfl (by kernel_rfl)
      exact .inl ⟨hbe, ⟨A, c, A2, c2, xs, xs2, css, css2, h.out.below hbe⟩, .inl ⟨hbd, rfl⟩⟩
  · subst hn1
    have hbd : badC gg mm l = true := by rw [hbad.out]; rfl
    have f0 := hz1.frozen 0
    have f1 := hz1.frozen 1
    have f2 := hz1.frozen 2
    have k0 := hz1.cell 0
    have k1 := hz1.cell 1
    have k2 := hz1.cell 2
    have hze := ((hz1.set_ 0 (.int .u32 0)).set_ 1 (.int .u32 0)).set_ 2 (.int .u16 0)
    have hbe := ((hb01.setCell (p := ⟨g8, 0, none⟩) hg8w (.int .u32 0)).setCell (p := ⟨g8, 1, none⟩) hg8w (.int .u32 0)).setCell (p := ⟨g8, 2, none⟩) hg8w (.int .u16 0)
    go_wp2_with fail
    refine bodyPost_ret (v := .tuple #[.agg #[.int .u32 0, .int .u32 0, .int .u16 0], .int .i64 31]) ?hr rfl ?_
    case hr => exact results_ct rfl _ _ g8 29 _ (0, 0) _ _ rfl rfl hze Try.underlying29 rfl (by kernel_rfl)
    exact .inl ⟨hbe, ⟨A, c, A2, c2, xs, xs2, css, css2, h.out.below hbe⟩, .inl ⟨hbd, rfl⟩⟩
end Go.Proofs.Ytgdhiihfcngjbaa
