/- Both stubs side by side; what stays true of their state. -/
import Derived.Test.YtgdhiihfcngjbaaCy7
import Derived.Test.YtgdhiihfcngjbaaActArg
set_option linter.unusedSimpArgs false
set_option linter.unusedVariables false
set_option linter.unusedSimpArgs false
set_option linter.unusedVariables false
namespace Go.Proofs.Ytgdhiihfcngjbaa
open Go.RowKit
set_option maxRecDepth 100000

structure Two (b : Nat) (w0 w : World) (G G2 : Nat) (F F2 K : Nat → Prop) (d e : CliD) : Prop where
  S : StubS w F G d
  Y : StubYS w F2 G2 e
  hF : ∀ y, F y → b ≤ y ∧ ¬ F2 y
  hF2 : ∀ y, F2 y → b ≤ y
  hK : ∀ y, K y → y < w.heap.size ∧ ¬ F y ∧ ¬ F2 y
  hb : Below b w0 w
  hbw : b ≤ w.heap.size
section
variable {b : Nat} {w0 w w' : World} {G G2 : Nat} {F F2 K : Nat → Prop} {d e d' e' : CliD}
theorem Two.below (h : Two b w0 w G G2 F F2 K d e) (hb : Below w.heap.size w w') : Two b w0 w' G G2 F F2 K d e :=
  ⟨h.S.below hb, h.Y.below hb, h.hF, h.hF2, fun y hy => ⟨Nat.lt_of_lt_of_le (h.hK y hy).1 hb.size, (h.hK y hy).2⟩, h.hb.trans (hb.mono h.hbw), Nat.le_trans h.hbw hb.size⟩
theorem Two.prog (h : Two b w0 w G G2 F F2 K d e) (hC : Cli w w' F G d') : ∃ F', Two b w0 w' G G2 F' F2 K d' e ∧ Upd (fun y => ¬ K y) w w' := by
  obtain ⟨hu, F', hS, hF'⟩ := hC
  have hsz := hu.size
  have hbw := h.hbw
  refine ⟨F', ⟨hS, h.Y.keep hu (fun y hy hf => (h.hF y hf).2 hy), fun y hy => ?_, h.hF2, fun y hy => ?_, h.hb.trans (hu.below h.hbw (fun k hk e => by have := (h.hF k e).1; omega)), by omega⟩, hu.mono (fun y _ hf hk => (h.hK y hk).2.1 hf)⟩
  · rcases hF' y hy with e1 | e1
    · exact h.hF y e1
    · exact ⟨by omega, fun e2 => by have := h.Y.ft y e2; omega⟩
  · have hk := h.hK y hy
    refine ⟨by omega, fun hf => ?_, hk.2.2⟩
    rcases hF' y hf with e1 | e1
    · exact hk.2.1 e1
    · omega
theorem Two.doc (h : Two b w0 w G G2 F F2 K d e) (hC : CliY w w' F2 G2 e') : ∃ F2', Two b w0 w' G G2 F F2' K d e' ∧ Upd (fun y => ¬ K y) w w' := by
  obtain ⟨hu, F', hY, hF'⟩ := hC
  have hsz := hu.size
  have hbw := h.hbw
  refine ⟨F', ⟨h.S.keep hu (fun y hy hf => (h.hF y hy).2 hf), hY, fun y hy => ⟨(h.hF y hy).1, fun e1 => ?_⟩, fun y hy => ?_, fun y hy => ?_, h.hb.trans (hu.below h.hbw (fun k hk e => by have := h.hF2 k e; omega)), by omega⟩, hu.mono (fun y _ hf hk => (h.hK y hk).2.2 hf)⟩
  · rcases hF' y e1 with e2 | e2
    · exact (h.hF y hy).2 e2
    · have := h.S.ft y hy; omega
  · rcases hF' y hy with e1 | e1
    · exact h.hF2 y e1
    · omega
  · have hk := h.hK y hy
    refine ⟨by omega, hk.2.1, fun hf => ?_⟩
    rcases hF' y hf with e1 | e1
    · exact hk.2.2 e1
    · omega
theorem Two.box (h : Two b w0 w G G2 F F2 K d e) (o : Obj) : Two b w0 (w.alloc o) G G2 F F2 (fun y => K y ∨ y = w.heap.size) d e := by
  have h' := h.below ((Below.refl w.heap.size w).alloc (Nat.le_refl _) o)
  refine ⟨h'.S, h'.Y, h'.hF, h'.hF2, fun y hy => ?_, h'.hb, h'.hbw⟩
  rcases hy with hy | hy
  · exact h'.hK y hy
  · subst hy
    exact ⟨by simp, fun hf => by have := h.S.ft _ hf; omega, fun hf => by have := h.Y.ft _ hf; omega⟩
theorem Two.free (h : Two b w0 w G G2 F F2 K d e) : Two b w0 w G G2 F F2 (fun _ => False) d e := ⟨h.S, h.Y, h.hF, h.hF2, fun _ hf => hf.elim, h.hb, h.hbw⟩
end
/-- What stays true of the state, behind j acts. -/
structure InvC (id j : Nat) (d : CliD) : Prop where
  hid : d.id = id
  hsum : d.rp.length + d.op.length = d.seq
  hseq : d.seq ≤ j
  hop : ∀ x ∈ d.op, x.age < 3000 ∧ ∀ v ∈ x.o.l, cleanV v = v
  hrp : ∀ x ∈ d.rp, OkV x.v ∧ cleanV x.v = x.v
section
variable {id j : Nat} {d : CliD}
theorem InvC.mono {j' : Nat} (h : InvC id j d) (hj : j ≤ j') : InvC id j' d := ⟨h.hid, h.hsum, Nat.le_trans h.hseq hj, h.hop, h.hrp⟩
theorem InvC.call (h : InvC id j d) (gg mm : ByteArray) (l : List Val) : InvC id (j + 1) (callD d gg mm l) := by
  unfold callD
  split
  · refine ⟨h.hid, ?_, ?_, fun x hx => ?_, h.hrp⟩
    · have := h.hsum
      show d.rp.length + (d.op ++ _).length = d.seq + 1
      rw [List.length_append]
      simp
      omega
    · show d.seq + 1 ≤ j + 1
      have := h.hseq
      omega
    · rcases List.mem_append.1 hx with hx | hx
      · exact h.hop x hx
      · cases List.mem_singleton.1 hx
        refine ⟨(by show 0 < 3000; decide), fun v hv => ?_⟩
        obtain ⟨u, -, rfl⟩ := List.mem_map.1 hv
        exact clean_idem u
  · exact h.mono (by omega)
theorem InvC.out (h : InvC id j d) : InvC id j (outD d) := by
  refine ⟨h.hid, ?_, h.hseq, fun x hx => ?_, h.hrp⟩
  · have := h.hsum
    show d.rp.length + (d.op.map offO).length = d.seq
    rw [List.length_map]
    exact this
  · obtain ⟨y, hy, rfl⟩ := List.mem_map.1 hx
    exact h.hop y hy
theorem InvC.recv (h : InvC id j d) {c s n : Nat} {e : Int} {v : Val} (hok : OkV v) : InvC id j (recvD d ⟨c, s, n, e, cleanV v⟩).1 := by
  unfold recvD
  dsimp only
  split
  · exact h
  · rename_i k hk
    split
    · exact h
    · have hkl : k < d.op.length := by
        have := List.findIdx?_eq_some_iff_getElem.1 hk
        exact this.1
      refine ⟨h.hid, ?_, h.hseq, fun x hx => h.hop x (List.mem_of_mem_eraseIdx hx), fun x hx => ?_⟩
      · have := h.hsum
        show (d.rp ++ _).length + (d.op.eraseIdx k).length = d.seq
        rw [List.length_append, List.length_eraseIdx, if_pos hkl]
        simp
        omega
      · rcases List.mem_append.1 hx with hx | hx
        · exact h.hrp x hx
        · cases List.mem_singleton.1 hx
          exact ⟨clean_okv hok, clean_idem v⟩
theorem filter_both {α : Type} (p : α → Bool) (l : List α) : (l.filter p).length + (l.filter fun x => !p x).length = l.length := by
  induction l with
  | nil => rfl
  | cons a l ih =>
    cases hp : p a <;> simp [List.filter_cons, hp] <;> omega
theorem InvC.tick (h : InvC id j d) : InvC id j (tickD d) := by
  refine ⟨h.hid, ?_, h.hseq, fun x hx => ?_, fun x hx => ?_⟩
  · have h1 := h.hsum
    have h2 := filter_both keepO d.op
    show (d.rp ++ (d.op.filter fun x => !keepO x).map goneO).length + ((d.op.filter keepO).map tickO).length = d.seq
    rw [List.length_append, List.length_map, List.length_map]
    omega
  · obtain ⟨y, hy, rfl⟩ := List.mem_map.1 hx
    have h1 := List.mem_filter.1 hy
    exact ⟨of_decide_eq_true h1.2, (h.hop y h1.1).2⟩
  · rcases List.mem_append.1 hx with hx | hx
    · exact h.hrp x hx
    · obtain ⟨y, hy, rfl⟩ := List.mem_map.1 hx
      exact ⟨zero_ok, rfl⟩
theorem InvC.outs (h : InvC id j d) : outL d = outR d := by
  unfold outL outR
  refine List.map_congr_left (fun x hx => ?_)
  have h1 := (h.hop x (List.mem_filter.1 hx).1).2
  obtain ⟨⟨c, s, n, g, m, l⟩, a, q⟩ := x
  show (⟨c, s, n, g, m, l.map cleanV⟩ : OpD) = ⟨c, s, n, g, m, l⟩
  congr 1
  have : l.map cleanV = l.map (fun v => v) := List.map_congr_left (fun v hv => h1 v hv)
  rw [this]
  simp
theorem InvC.reps (h : InvC id j d) : d.rp.map clR = d.rp := by
  have : d.rp.map clR = d.rp.map (fun x => x) := List.map_congr_left (fun x hx => by
    obtain ⟨c, s, n, e, v⟩ := x
    show (⟨c, s, n, e, cleanV v⟩ : RplD) = ⟨c, s, n, e, v⟩
    rw [(h.hrp _ hx).2])
  rw [this]
  simp
end
/-- The arguments of a call, and a value, that came as an argument: they stay while the stubs' blocks are written. -/
theorem act_held {w0 w : World} {G c s cl : Nat} {gg mm : ByteArray} {l : List Val} {Al : Option Addr} {xs : List Value} {css : Nat → Array Value} (hb : Below w0.heap.size w0 w) (hG : w0.heap.size ≤ G) (hr : Reads w0 w0.heap.size 5 Al l.length xs) (hx : ∀ (j : Nat) (u : Val), l[j]? = some u → VReads w0 w0.heap.size u (css j)) (hxs : ∀ j, j < l.length → (xs.drop (j * 5)).take 5 = (css j).toList) (hok : ∀ u ∈ l, OkV u) (hl : l.length ≤ 2199023255488) (hc : c < 4294967296) (hs : s < 4294967296) :
    OpHeld w (fun y => y = G) ⟨c, s, 0, gg.toList, mm.toList, l⟩ #[.int .u32 (c : Int), .int .u32 (s : Int), .int .u16 ((0 : Nat) : Int), .string gg, .string mm, .slice Al l.length cl] := fun S W hu hS => by
  have hs0 := hb.size
  have hW : Below w0.heap.size w0 W := hb.trans (hu.below hb.size (fun k hk e => by have := hS k e; omega))
  exact ⟨Al, cl, xs, css, by dsimp only; rw [bstr_tl, bstr_tl], (hr.below hW).more hW.size, fun j u hj => ((hx j u hj).under hW).up hW.size, hxs, hl, hok, hc, hs, (by decide : 0 < 65536)⟩
theorem val_held {w0 w : World} {F : Nat → Prop} {v : Val} {cs : Array Value} (hb : Below w0.heap.size w0 w) (hF : ∀ y, F y → w0.heap.size ≤ y) (hv : VReads w0 w0.heap.size v cs) : VHeld w F v cs := fun S W hu hS => by
  have hW : Below w0.heap.size w0 W := hb.trans (hu.below hb.size (fun k hk e => by have := hF k (hS k e); omega))
  exact (hv.under hW).up hW.size
theorem RepsP.toO {w : World} {b c : Nat} {A : Option Addr} {rs : List RplD} {xs : List Value} {css : Nat → Array Value} (h : RepsP w b A c rs xs css) : RepsO w A c rs xs css := ⟨h.ho, fun j x hj => (h.hx j x hj).reads, h.hxs⟩
theorem OpsP.toO {w : World} {b c : Nat} {A : Option Addr} {os : List OpD} {xs : List Value} {css : Nat → Array Value} (h : OpsP w b A c os xs css) : OpsO w A c os xs css := ⟨h.ho, fun j x hj => (h.hx j x hj).reads, h.hxs⟩
theorem OpsF.toO {w : World} {b c : Nat} {P : Nat → Prop} {A : Option Addr} {os : List OpD} {xs : List Value} {css : Nat → Array Value} (h : OpsF w b P A c os xs css) : OpsO w A c os xs css := ⟨h.ho, fun j x hj => (h.hx j x hj).reads, h.hxs⟩
theorem StubY.done {w : World} {F : Nat → Prop} {g : Nat} {d : CliD} {r : RowsY} (h : StubY w F g d r) : RepsO w r.A2 r.c2 d.rp r.xs2 r.css2 := ⟨h.hr, fun j x hj => (h.rx j x hj).reads, h.rxs⟩
end Go.Proofs.Ytgdhiihfcngjbaa
