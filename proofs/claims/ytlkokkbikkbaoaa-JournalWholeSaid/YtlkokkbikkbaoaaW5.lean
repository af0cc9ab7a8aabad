/- Values read, in both ways. -/
import Derived.Test.YtlkokkbikkbaoaaW4
set_option linter.unusedSimpArgs false
set_option linter.unusedVariables false
set_option linter.unusedSimpArgs false
set_option linter.unusedVariables false
namespace Go.Proofs.Ytlkokkbikkbaoaa
set_option maxRecDepth 100000
open Go.RowKit
theorem results_ctt {P : Program} {fn : Func} {p u x : Tmp} {ty : TypeId} (h : fn.results = #[.cell p ty, .tmp u, .tmp x]) (tmps : Array Value) (w : World) (g : Nat) (t : TypeId) (cs : Array Value) (fr : Nat × Nat) (d : TypeDesc) (v y : Value)
    (hp : tmps.getD p undef = .pointer (some ⟨g, 0, none⟩)) (hv : tmps.getD u undef = v) (hy : tmps.getD x undef = y) (hg : w.heap[g]? = some (.cells cs t fr))
    (hu : P.underlying ty = some d) (hd : (match d with | .struct _ | .array _ _ => true | _ => false) = true) (hi : (P.info? ty).map (·.size) = some cs.size) :
    (results fn tmps).run P w = .ok (.tuple #[.agg cs, v, y]) w := by
  have hp' : tmps[p]?.getD undef = .pointer (some ⟨g, 0, none⟩) := by simpa using hp
  have hv' : tmps[u]?.getD undef = v := by simpa using hv
  have hy' : tmps[x]?.getD undef = y := by simpa using hy
  simp [results, h, hp', hv', hy', asAddr, run_loadVar_row w g t ty cs fr d hg hu hd hi]
/-- b[1:] -/
theorem cut1 {w : World} {B : Nat} {ad : Addr} {c : Nat} {k : UInt8} {t : List UInt8} (hr : Reads w B 1 (some ad) (k :: t).length (bys (k :: t))) (hc : (k :: t).length ≤ c) : Reads w B 1 (if c = 1 then some ad else some (ad.add 1)) t.length (bys t) ∧ w.cell? ad = some (.int .u8 (k.toNat : Int)) := by
  have h1 := hr.cut (k := 1) (cap := c) (by simp) hc
  refine ⟨by simpa [bys] using h1, ?_⟩
  obtain ⟨a, e, -, hcell⟩ := hr.2 (by simp)
  cases e
  have := hcell 0 (byv k) (by simp [bys])
  simpa [byv, Addr.add] using this
end Go.Proofs.Ytlkokkbikkbaoaa
namespace Go.Proofs.Ytlkokkbikkbaoaa
set_option maxRecDepth 100000
open Go.RowKit
end Go.Proofs.Ytlkokkbikkbaoaa
namespace Go.Proofs.Ytlkokkbikkbaoaa
set_option maxRecDepth 100000
open Go.RowKit
theorem pl_facts {p : List UInt8 → Option (Val × Nat)} {d : Int} (hp : ∀ b v m, p b = some (v, m) → sizeV v = m ∧ strangeV v = false ∧ greatV v d = false) : ∀ n b l m, pl p n b = some (l, m) → sizeL l = m ∧ strangeL l = false ∧ greatL l d = false ∧ l.length = n := by
  intro n
  induction n with
  | zero =>
    intro b l m h
    simp only [pl, Option.some.injEq, Prod.mk.injEq] at h
    obtain ⟨rfl, rfl⟩ := h
    exact ⟨rfl, rfl, rfl, rfl⟩
  | succ n ih =>
    intro b l m h
    rw [pl] at h
    split at h
    · cases h
    · rename_i v m1 hv
      split at h
      · cases h
      · rename_i l1 m2 hl
        simp only [Option.some.injEq, Prod.mk.injEq] at h
        obtain ⟨rfl, rfl⟩ := h
        obtain ⟨a1, a2, a3⟩ := hp _ _ _ hv
        obtain ⟨b1, b2, b3, b4⟩ := ih _ _ _ hl
        exact ⟨by show sizeV v + sizeL l1 = m1 + m2; rw [a1, b1], by show (strangeV v || strangeL l1) = false; rw [a2, b2]; rfl, by show (greatV v d || greatL l1 d) = false; rw [a3, b3]; rfl, by rw [List.length_cons, b4]⟩
theorem readT_facts (b : List UInt8) (h : (readT b 256).2.2 = 0) : (readT b 256).1.length ≤ 256 ∧ (readT b 256).2.1 = 2 + (readT b 256).1.length := by
  unfold readT at *
  split at h
  · rename_i hc
    rw [if_pos hc]
    dsimp only
    rw [List.length_take, List.length_drop]
    omega
  · cases h
theorem pv_facts : ∀ (d : Nat) (b : List UInt8) (v : Val) (m : Nat), pv d b = some (v, m) → sizeV v = m ∧ strangeV v = false ∧ greatV v (d : Int) = false := by
  intro d
  induction d with
  | zero =>
    intro b v m h
    cases b with
    | nil => simp [pv] at h
    | cons k t =>
      rw [pv_cons] at h
      split at h
      · simp only [Option.some.injEq, Prod.mk.injEq] at h; obtain ⟨rfl, rfl⟩ := h; exact ⟨rfl, rfl, rfl⟩
      split at h
      · split at h
        · cases h
        · simp only [Option.some.injEq, Prod.mk.injEq] at h; obtain ⟨rfl, rfl⟩ := h; exact ⟨rfl, rfl, rfl⟩
      split at h
      · split at h
        · cases h
        · split at h
          · simp only [Option.some.injEq, Prod.mk.injEq] at h; obtain ⟨rfl, rfl⟩ := h; exact ⟨rfl, rfl, rfl⟩
          · cases h
      split at h
      · split at h
        · rename_i h0
          simp only [Option.some.injEq, Prod.mk.injEq] at h
          obtain ⟨rfl, rfl⟩ := h
          obtain ⟨a1, a2⟩ := readT_facts t h0
          refine ⟨?_, rfl, ?_⟩
          · show 3 + (readT t 256).1.length = 1 + (readT t 256).2.1
            omega
          · show decide (256 < (readT t 256).1.length) = false
            rw [decide_eq_false (by omega)]
        · cases h
      split at h
      · cases h
      · cases h
  | succ d ih =>
    intro b v m h
    cases b with
    | nil => simp [pv] at h
    | cons k t =>
      rw [pv_cons] at h
      split at h
      · simp only [Option.some.injEq, Prod.mk.injEq] at h; obtain ⟨rfl, rfl⟩ := h; exact ⟨rfl, rfl, rfl⟩
      split at h
      · split at h
        · cases h
        · simp only [Option.some.injEq, Prod.mk.injEq] at h; obtain ⟨rfl, rfl⟩ := h; exact ⟨rfl, rfl, rfl⟩
      split at h
      · split at h
        · cases h
        · split at h
          · simp only [Option.some.injEq, Prod.mk.injEq] at h; obtain ⟨rfl, rfl⟩ := h; exact ⟨rfl, rfl, rfl⟩
          · cases h
      split at h
      · split at h
        · rename_i h0
          simp only [Option.some.injEq, Prod.mk.injEq] at h
          obtain ⟨rfl, rfl⟩ := h
          obtain ⟨a1, a2⟩ := readT_facts t h0
          refine ⟨?_, rfl, ?_⟩
          · show 3 + (readT t 256).1.length = 1 + (readT t 256).2.1
            omega
          · show decide (256 < (readT t 256).1.length) = false
            rw [decide_eq_false (by omega)]
        · cases h
      split at h
      · cases t with
        | nil => cases h
        | cons n u =>
          dsimp only at h
          split at h
          · cases h
          · rename_i h64
            cases hp : pl (pv d) n.toNat u with
            | none => rw [hp] at h; cases h
            | some x =>
              obtain ⟨l, m1⟩ := x
              rw [hp] at h
              simp only [Option.some.injEq, Prod.mk.injEq] at h
              obtain ⟨rfl, rfl⟩ := h
              obtain ⟨b1, b2, b3, b4⟩ := pl_facts ih _ _ _ _ hp
              refine ⟨?_, ?_, ?_⟩
              · show 2 + sizeL l = 2 + m1
                rw [b1]
              · show (decide ((4 : Int) < 0 ∨ (4 : Int) < 4) || ((4 : Int) == 4 && strangeL l)) = false
                rw [b2]; rfl
              · show (decide (64 < l.length) || decide (((d + 1 : Nat) : Int) < 1) || greatL l (((d + 1 : Nat) : Int) - 1)) = false
                rw [show (((d + 1 : Nat) : Int) - 1) = (d : Int) by omega, b3, decide_eq_false (by omega), decide_eq_false (by omega)]
                rfl
      · cases h
theorem pv_check {b : List UInt8} {v : Val} {m : Nat} (h : pv 8 b = some (v, m)) (hm : m ≤ 4096) : checkV v = 0 ∧ sizeV v ≤ 1000000000 := by
  obtain ⟨h1, h2, h3⟩ := pv_facts 8 b v m h
  have h3' : greatV v 8 = false := h3
  unfold checkV
  rw [h2, h3', h1]
  refine ⟨?_, by omega⟩
  rw [decide_eq_false (by omega)]
  rfl
end Go.Proofs.Ytlkokkbikkbaoaa
namespace Go.Proofs.Ytlkokkbikkbaoaa
set_option maxRecDepth 100000
open Go.RowKit
def RdRes (w : World) (o : Option (Val × Nat)) (e : Ending) (w' : World) : Prop :=
  match o with
  | some (v, m) => ∃ cs, e = .returned (.tuple #[.agg cs, .int .i64 (m : Int), .int .i64 0]) ∧ VOwn w' (fun g => w.heap.size ≤ g) v cs ∧ Below w.heap.size w w'
  | none => e = .returned (.tuple #[.agg #[.int .i64 0, .int .i64 0, .float .f64 0, .string ⟨#[]⟩, .slice none 0 0], .int .i64 0, .int .i64 20]) ∧ Below w.heap.size w w'
theorem value_end0 {r : Nat} {deep : Int} {w : World} (h : RdAt w r none 0 0 0 deep) :
    Calls Try.prog 76 #[.pointer (some ⟨r, 0, none⟩)] w (fun e w' => e = .panicked shortP ∧ Upd (fun x => x = r) w w') := by
  go_enter Try.func76, Try.ntmps76
  go_wp2_with fail
  refine (number_no (k := 1) (Blk.alloc h _) (fun _ => rfl) (Nat.le_refl _) (by omega) (by omega) (Nat.le_refl _) (by omega)).mono ?_
  rintro e w1 ⟨rfl, hb1⟩
  dsimp only
  go_wp2_with fail
  exact ⟨rfl, rfl, ((Upd.refl _ w).alloc _).trans ((Upd.refl _ _).thenBelow hb1 (Nat.le_refl _)) (fun _ _ h => h)⟩
theorem wire_read_all {A : Option Addr} {c : Nat} {b : List UInt8} {w : World} (h : Reads w w.heap.size 1 A b.length (bys b)) (hA : A = none → c = 0) (hc : b.length ≤ c) (hl : b.length ≤ 1000000000) (o : Option (Val × Nat)) (ho : pv 8 b = o) (hsz : ∀ v m, o = some (v, m) → m ≤ 4096) :
    Calls Try.prog 70 #[.slice A b.length c] w (RdRes w o) := by
  cases A with
  | none =>
    have hc0 := hA rfl
    subst hc0
    have hb : b = [] := List.eq_nil_of_length_eq_zero (by omega)
    subst hb
    have ho' : o = none := by rw [← ho]; rfl
    rw [ho']
    exact read_short (fun w1 hb hr => value_end0 hr)
  | some ad =>
    have hva := fun (w1 : World) (hb : Below w.heap.size w w1) (hr : RdAt w1 (w.heap.size + 1 + 1 + 1) (some ad) b.length c 0 8) =>
      value_all (r := w.heap.size + 1 + 1 + 1) (B := w.heap.size) (by omega) hc hl 8 (by omega) w1 0 hr (h.below hb) (Nat.zero_le _)
    cases o with
    | some x =>
      obtain ⟨v, m⟩ := x
      obtain ⟨hk, hs⟩ := pv_check ho (hsz v m rfl)
      refine read_tree (at_ := m) (v := v) (deep := 8) hk hs (fun w1 hb hr => ?_)
      have hv := hva w1 hb hr
      rw [List.drop_zero, ho] at hv
      refine hv.mono ?_
      rintro e w' ⟨cs, rfl, h1, h2, h3⟩
      rw [Nat.zero_add] at h2
      exact ⟨cs, rfl, h1, h2, h3⟩
    | none =>
      refine read_short (fun w1 hb hr => ?_)
      have hv := hva w1 hb hr
      rw [List.drop_zero, ho] at hv
      exact hv
end Go.Proofs.Ytlkokkbikkbaoaa
namespace Go.Proofs.Ytlkokkbikkbaoaa
set_option maxRecDepth 100000
open Go.RowKit
theorem readT_enc (s more : List UInt8) (h : s.length ≤ 256) : readT (putU s.length 2 ++ s ++ more) 256 = (s, 2 + s.length, 0) := by
  have hr : readU (putU s.length 2) = s.length := by rw [readU_put]; exact Nat.mod_eq_of_lt (by omega)
  unfold readT
  rw [List.append_assoc, take_putU, drop_putU, hr, if_pos ⟨by simp [putU_len], by omega, by simp [putU_len]; omega⟩, List.take_left]
theorem cb_cb (f : Nat) : cb (cb f) = cb f := by
  by_cases h : nanB f = true
  · have hc : cb f = 9221120237041090561 := by unfold cb; rw [if_pos h]
    rw [hc]
    decide +kernel
  · have hc : cb f = f := by unfold cb; rw [if_neg h]
    rw [hc, hc]
theorem wrap_u64_back (i : Int) (h0 : -9223372036854775808 ≤ i) (h1 : i ≤ 9223372036854775807) : wrap64 (u64 i : Nat) = i := by
  unfold wrap64 u64
  omega
mutual
theorem pv_enc : ∀ (v : Val) (d : Nat) (more : List UInt8), OkV v → strangeV v = false → greatV v (d : Int) = false → pv d (encV v ++ more) = some (cleanV v, sizeV v)
  | .mk k i f s l, d, more, hok, hst, hg => by
    obtain ⟨hf, hi, hkids⟩ : f < 18446744073709551616 ∧ (-9223372036854775808 ≤ i ∧ i ≤ 9223372036854775807) ∧ (∀ v, v ∈ l → OkV v) := by
      cases hok with
      | mk h1 h2 h3 => exact ⟨h1, h2, h3⟩
    have hst2 : (decide (k < 0 ∨ 4 < k) || (k == 4 && strangeL l)) = false := hst
    simp only [Bool.or_eq_false_iff, decide_eq_false_iff_not] at hst2
    obtain ⟨hk, hsl⟩ := hst2
    unfold greatV at hg
    unfold encV cleanV sizeV
    by_cases h1 : k = 1
    · rw [if_pos h1, if_pos h1, if_pos (.inl h1), List.cons_append, pv_cons]
      have hr : readU (putU (u64 i) 8) = u64 i := by rw [readU_put]; exact Nat.mod_eq_of_lt (by unfold u64; omega)
      rw [if_neg (by decide), if_pos (by decide), if_neg (by simp [putU_len]), take_putU, hr, wrap_u64_back i hi.1 hi.2]
    by_cases h2 : k = 2
    · rw [if_neg h1, if_pos h2, if_neg h1, if_pos h2, if_pos (.inr h2), List.cons_append, pv_cons]
      have hr : readU (putU (cb f) 8) = cb f := by rw [readU_put]; exact Nat.mod_eq_of_lt (cb_lt hf)
      rw [if_neg (by decide), if_neg (by decide), if_pos (by decide), if_neg (by simp [putU_len]), take_putU, hr, if_pos (cb_cb f)]
    by_cases h3 : k = 3
    · rw [if_pos h3] at hg
      have hs : ¬ 256 < s.length := by simpa using hg
      rw [if_neg h1, if_neg h2, if_pos h3, if_neg h1, if_neg h2, if_pos h3, if_neg (by omega), if_pos h3, List.cons_append, pv_cons]
      rw [if_neg (by decide), if_neg (by decide), if_neg (by decide), if_pos (by decide), readT_enc s more (by omega), if_pos rfl]
      show some (Val.mk 3 0 0 s [], 1 + (2 + s.length)) = some (Val.mk 3 0 0 s [], 3 + s.length)
      rw [show 1 + (2 + s.length) = 3 + s.length from by omega]
    by_cases h4 : k = 4
    · rw [if_neg h3, if_pos h4] at hg
      simp only [Bool.or_eq_false_iff, decide_eq_false_iff_not] at hg
      obtain ⟨⟨h64, hd⟩, hgl⟩ := hg
      obtain ⟨e, rfl⟩ : ∃ e, d = e + 1 := ⟨d - 1, by omega⟩
      have hgl' : greatL l (e : Int) = false := by rw [← hgl]; congr 1; omega
      have hsl2 : strangeL l = false := by
        rw [h4] at hsl
        simpa using hsl
      have hn : (UInt8.ofNat l.length).toNat = l.length := by rw [UInt8.toNat_ofNat']; omega
      rw [if_neg h1, if_neg h2, if_neg h3, if_pos h4, if_neg h1, if_neg h2, if_neg h3, if_pos h4, if_neg (by omega), if_neg h3, if_pos h4, List.cons_append, List.cons_append, pv_cons]
      rw [if_neg (by decide), if_neg (by decide), if_neg (by decide), if_neg (by decide), if_pos (by decide)]
      dsimp only
      rw [hn, if_neg (by omega), pl_enc l e more hkids hsl2 hgl']
    · rw [if_neg h1, if_neg h2, if_neg h3, if_neg h4, if_neg h1, if_neg h2, if_neg h3, if_neg h4, if_neg (by omega), if_neg h3, if_neg h4]
      show pv d (0 :: more) = _
      rw [pv_cons, if_pos (by decide)]
theorem pl_enc : ∀ (l : List Val) (d : Nat) (more : List UInt8), (∀ v, v ∈ l → OkV v) → strangeL l = false → greatL l (d : Int) = false → pl (pv d) l.length (encL l ++ more) = some (cleanL l, sizeL l)
  | [], d, more, _, _, _ => rfl
  | v :: l, d, more, hok, hst, hg => by
    have hst := Bool.or_eq_false_iff.1 (show (strangeV v || strangeL l) = false from hst)
    have hg := Bool.or_eq_false_iff.1 (show (greatV v (d : Int) || greatL l (d : Int)) = false from hg)
    have e1 := pv_enc v d (encL l ++ more) (hok v (by simp)) hst.1 hg.1
    have e2 := pl_enc l d more (fun x hx => hok x (by simp [hx])) hst.2 hg.2
    show pl (pv d) (l.length + 1) ((encV v ++ encL l) ++ more) = some (cleanV v :: cleanL l, sizeV v + sizeL l)
    rw [List.append_assoc, pl, e1]
    dsimp only
    rw [show (encV v ++ (encL l ++ more)).drop (sizeV v) = encL l ++ more from by rw [← encV_len v, List.drop_left], e2]
end
theorem checkV_zero {v : Val} (h : checkV v = 0) : strangeV v = false ∧ greatV v 8 = false ∧ sizeV v ≤ 4096 := by
  rcases checkV_cases v with ⟨_, e⟩ | ⟨_, _, e⟩ | ⟨_, _, _, e⟩ | ⟨h1, h2, h3, _⟩
  · omega
  · omega
  · omega
  · exact ⟨h1, h2, h3⟩
end Go.Proofs.Ytlkokkbikkbaoaa
