/- The stub's functions, told by its plain state; the chapter's example. -/
import Derived.Test.YtgdhiihfcngjbaaCl12
import Derived.Test.YtgdhiihfcngjbaaSt2
set_option linter.unusedSimpArgs false
set_option linter.unusedVariables false
namespace Go.Proofs.Ytgdhiihfcngjbaa
open Go.RowKit
set_option maxRecDepth 100000

def callE (d : CliD) (gg mm : ByteArray) (l : List Val) : Nat := if badC gg mm l = true then 31 else if 4 ≤ d.op.length then 42 else 0
def callD (d : CliD) (gg mm : ByteArray) (l : List Val) : CliD := if callE d gg mm l = 0 then ⟨d.id, d.seq + 1, d.op ++ [⟨⟨d.id, d.seq + 1, 0, gg.toList, mm.toList, l.map cleanV⟩, 0, true⟩], d.rp⟩ else d
def callC (d : CliD) (gg mm : ByteArray) (l : List Val) : Nat := if callE d gg mm l = 0 then d.id else 0
def callS (d : CliD) (gg mm : ByteArray) (l : List Val) : Nat := if callE d gg mm l = 0 then d.seq + 1 else 0
/-- A stub that has gone on to another state. -/
def Cli (w w' : World) (F : Nat → Prop) (g : Nat) (d : CliD) : Prop := Upd F w w' ∧ ∃ F', StubS w' F' g d ∧ ∀ y, F' y → F y ∨ w.heap.size ≤ y
theorem StubS.ft {w : World} {F : Nat → Prop} {g : Nat} {d : CliD} (h : StubS w F g d) : ∀ y, F y → y < w.heap.size := by obtain ⟨_, _, _, _, _, _, _, _, h⟩ := h; exact h.ft
theorem StubS.hn {w : World} {F : Nat → Prop} {g : Nat} {d : CliD} (h : StubS w F g d) : d.op.length ≤ 4 := by obtain ⟨_, _, _, _, _, _, _, _, h⟩ := h; exact h.hn
theorem Cli.next {w0 w w' : World} {F K : Nat → Prop} {g b : Nat} {d : CliD} (h : Cli w w' F g d) (hF : ∀ y, F y → b ≤ y ∧ ¬ K y) (hK : ∀ y, K y → y < w.heap.size) (hb : Below b w0 w) (hbw : b ≤ w.heap.size) :
    ∃ F', StubS w' F' g d ∧ (∀ y, F' y → b ≤ y ∧ ¬ K y) ∧ Below b w0 w' ∧ Upd (fun y => ¬ K y) w w' := by
  obtain ⟨hu, F', hS, hF'⟩ := h
  refine ⟨F', hS, fun y hy => ?_, hb.trans (hu.below hbw (fun k hk e => by have := (hF k e).1; omega)), hu.mono (fun y _ e => (hF y e).2)⟩
  rcases hF' y hy with e | e
  · exact hF y e
  · exact ⟨by omega, fun e2 => by have := hK y e2; omega⟩
theorem cl_callS {w : World} {F : Nat → Prop} {g : Nat} {d : CliD} {Al : Option Addr} {cl : Nat} {gg mm : ByteArray} {l : List Val} (h : StubS w F g d) (ha : OpHeld w (fun y => y = g) ⟨d.id, d.seq + 1, 0, gg.toList, mm.toList, l⟩ #[.int .u32 (d.id : Int), .int .u32 ((d.seq + 1 : Nat) : Int), .int .u16 ((0 : Nat) : Int), .string gg, .string mm, .slice Al l.length cl]) (hlen : l.length ≤ 1000000) (hsq1 : d.seq < 1000000)
    (hgs : gg.size ≤ 1000000000) (hms : mm.size ≤ 1000000000) :
    Calls Try.prog 8 #[.pointer (some ⟨g, 0, none⟩), .string gg, .string mm, .slice Al l.length cl] w (fun e w' => e = .returned (.tuple #[.agg #[.int .u32 ((callC d gg mm l : Nat) : Int), .int .u32 ((callS d gg mm l : Nat) : Int), .int .u16 0], .int .i64 ((callE d gg mm l : Nat) : Int)]) ∧ Cli w w' F g (callD d gg mm l)) := by
  obtain ⟨_, _, _, _, _, _, _, _, h⟩ := h
  refine (cl_call h ha hlen hsq1 hgs hms).mono fun e w' H => ?_
  rcases H with ⟨hb, hS, ⟨h1, rfl⟩ | ⟨h1, h2, rfl⟩⟩ | ⟨h1, h2, rfl, hu, hS⟩
  · have hE : callE d gg mm l = 31 := by unfold callE; rw [if_pos h1]
    unfold callC callS callD
    rw [hE]
    exact ⟨rfl, Upd.of_below_size hb, F, hS, fun y hy => .inl hy⟩
  · have hE : callE d gg mm l = 42 := by unfold callE; rw [if_neg (by simp [h1]), if_pos h2]
    unfold callC callS callD
    rw [hE]
    exact ⟨rfl, Upd.of_below_size hb, F, hS, fun y hy => .inl hy⟩
  · have hE : callE d gg mm l = 0 := by unfold callE; rw [if_neg (by simp [h1]), if_neg (by omega)]
    unfold callC callS callD
    rw [hE]
    exact ⟨rfl, hu, hS⟩
theorem cl_recvS {w : World} {F : Nat → Prop} {g : Nat} {d : CliD} {rc rs rn B : Nat} {er k i : Int} {f : Nat} {s : ByteArray} {Av : Option Addr} {nv cv : Nat} {v : Val} (h : StubS w F g d) (hv : VReads w B v #[.int .i64 k, .int .i64 i, .float .f64 f, .string s, .slice Av nv cv]) (hB : B ≤ w.heap.size) (hok : OkV v) (hr4 : d.rp.length < 1000000) :
    Calls Try.prog 9 #[.pointer (some ⟨g, 0, none⟩), .agg #[.int .u32 (rc : Int), .int .u32 (rs : Int), .int .u16 (rn : Int), .int .i64 er, .int .i64 k, .int .i64 i, .float .f64 f, .string s, .slice Av nv cv]] w (fun e w' => e = .returned (.bool (recvD d ⟨rc, rs, rn, er, cleanV v⟩).2) ∧ Cli w w' F g (recvD d ⟨rc, rs, rn, er, cleanV v⟩).1) := by
  obtain ⟨_, _, _, _, _, _, _, _, h⟩ := h
  exact cl_recv h hv hB hok hr4
theorem cl_tickS {w : World} {F : Nat → Prop} {g : Nat} {d : CliD} (h : StubS w F g d) (hage : ∀ x ∈ d.op, x.age < 1000000) (hr4 : d.rp.length < 900000) : Calls Try.prog 12 #[.pointer (some ⟨g, 0, none⟩)] w (fun e w' => e = .returned (.tuple #[]) ∧ Cli w w' F g (tickD d)) := cl_tick h hage hr4
def outD (d : CliD) : CliD := ⟨d.id, d.seq, d.op.map offO, d.rp⟩
def outL (d : CliD) : List OpD := (d.op.filter (·.now)).map fun x => clO x.o
theorem cl_outS {w : World} {F : Nat → Prop} {g : Nat} {d : CliD} (h : StubS w F g d) : Calls Try.prog 11 #[.pointer (some ⟨g, 0, none⟩)] w (fun e w' => ∃ (Ao : Option Addr) (co : Nat) (xo : List Value) (cso : Nat → Array Value), e = .returned (.slice Ao (outL d).length co) ∧ OpsP w' w.heap.size Ao co (outL d) xo cso ∧ Cli w w' F g (outD d)) := by
  obtain ⟨_, _, _, _, _, _, _, _, h⟩ := h
  refine (cl_out h).mono fun e w' H => ?_
  obtain ⟨m, Ao, co, xo, cso, rfl, hm, hP, hS, hu⟩ := H
  subst hm
  exact ⟨Ao, co, xo, cso, rfl, hP, hu, F, hS, fun y hy => .inl hy⟩
theorem cl_openS {w : World} {F : Nat → Prop} {g : Nat} {d : CliD} (h : StubS w F g d) : Calls Try.prog 10 #[.pointer (some ⟨g, 0, none⟩)] w (fun e w' => ∃ A' c', e = .returned (.slice A' d.op.length c') ∧ Own w' 29 3 A' d.op.length c' (idRow d.op) ∧ (∀ y, bOf A' = some y → w.heap.size ≤ y) ∧ Below w.heap.size w w') := by
  obtain ⟨_, _, _, _, _, _, _, _, h⟩ := h
  exact cl_open h
theorem cl_repliesS {w : World} {F : Nat → Prop} {g : Nat} {d : CliD} (h : StubS w F g d) (hok : ∀ x ∈ d.rp, OkV x.v) : Calls Try.prog 13 #[.pointer (some ⟨g, 0, none⟩)] w (fun e w' => ∃ (A' : Option Addr) (c' : Nat) (xs' : List Value) (css' : Nat → Array Value), e = .returned (.slice A' d.rp.length c') ∧ RepsP w' w.heap.size A' c' (d.rp.map clR) xs' css' ∧ Below w.heap.size w w') := by
  obtain ⟨_, _, _, _, _, _, _, _, h⟩ := h
  exact cl_replies h hok
theorem bstr_tl (s : ByteArray) : bstr s.toList = s := by rw [ByteArray.toList_eq, bstr_data]
/-- A call without arguments; a call with one. -/
theorem held_none (w : World) (P : Nat → Prop) (c s n : Nat) (gg mm : ByteArray) (hc : c < 4294967296) (hs : s < 4294967296) (hn : n < 65536) :
    OpHeld w P ⟨c, s, n, gg.toList, mm.toList, []⟩ #[.int .u32 (c : Int), .int .u32 (s : Int), .int .u16 (n : Int), .string gg, .string mm, .slice none ([] : List Val).length 0] := fun S W _ _ =>
  ⟨none, 0, [], fun _ => #[], by dsimp only; rw [bstr_tl, bstr_tl], ⟨rfl, by simp⟩, by simp, by simp, by simp, by simp, hc, hs, hn⟩
theorem held_int {w : World} {q : Nat} {t : TypeId} {k : Int} (h : Blk w q t #[.int .i64 1, .int .i64 k, .float .f64 0, .string ⟨#[]⟩, .slice none 0 0]) (hk : -9223372036854775808 ≤ k ∧ k ≤ 9223372036854775807) (P : Nat → Prop) (hP : ¬ P q) (c s n cap : Nat) (gg mm : ByteArray) (hc : c < 4294967296) (hs : s < 4294967296) (hn : n < 65536) :
    OpHeld w P ⟨c, s, n, gg.toList, mm.toList, [.mk 1 k 0 [] []]⟩ #[.int .u32 (c : Int), .int .u32 (s : Int), .int .u16 (n : Int), .string gg, .string mm, .slice (some ⟨q, 0, none⟩) ([.mk 1 k 0 [] []] : List Val).length cap] := fun S W hu hS => by
  have h' := h.upd hu (fun e => hP (hS q e))
  refine ⟨some ⟨q, 0, none⟩, cap, [.int .i64 1, .int .i64 k, .float .f64 0, .string ⟨#[]⟩, .slice none 0 0], fun _ => #[.int .i64 1, .int .i64 k, .float .f64 0, .string ⟨#[]⟩, .slice none 0 0], by dsimp only; rw [bstr_tl, bstr_tl], ⟨rfl, fun _ => ⟨⟨q, 0, none⟩, rfl, h'.lt, fun j u hj => by rw [add_row]; exact (h'.cell j).trans (by simpa using hj)⟩⟩, ?_, ?_, by simp, ?_, hc, hs, hn⟩
  · intro j v hv
    cases j with
    | zero =>
      simp at hv
      subst hv
      exact val1_reads W _ 1 k 0
    | succ j => simp at hv
  · intro j hj
    have : j = 0 := by simp at hj; exact hj
    subst this
    rfl
  · intro v hv
    simp at hv
    subst hv
    exact val1_ok 1 k 0 (by decide) hk
end Go.Proofs.Ytgdhiihfcngjbaa
