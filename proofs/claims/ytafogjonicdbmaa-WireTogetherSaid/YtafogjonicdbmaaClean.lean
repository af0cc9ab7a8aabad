/- choirref1's Canon, Bits, Float, Text, Clean, Cleans at any value that is not great. -/
import Derived.Test.YtafogjonicdbmaaSizes
import Derived.Test.YtafogjonicdbmaaWireKnown
namespace Go.Proofs.Ytafogjonicdbmaa
open Go.RowKit

mutual
def cleanV : Val → Val
  | .mk k i f s l => if k = 1 then .mk 1 i 0 [] [] else if k = 2 then .mk 2 0 (cb f) [] [] else if k = 3 then .mk 3 0 0 s [] else if k = 4 then .mk 4 0 0 [] (cleanL l) else .mk 0 0 0 [] []
def cleanL : List Val → List Val
  | [] => []
  | v :: l => cleanV v :: cleanL l
end
theorem cleanL_map (l : List Val) : cleanL l = l.map cleanV := by
  induction l with
  | nil => rfl
  | cons v l ih => simp [cleanL, ih]

theorem ref_canon (x : Nat) (w : World) : Calls Try.prog 51 #[.float .f64 x] w fun e w' => e = .returned (.float .f64 (cb x)) ∧ w = w' := by
  have ho := order_self x
  have hcan : ∀ w, (callFunc 49 #[.int .u64 9221120237041090561]).run Try.prog w = .ok (.value (.float .f64 9221120237041090561)) w := fun w => run_frombits 9221120237041090561 w
  by_cases h : nanB x = true
  · rw [h] at ho
    have hc : cb x = 9221120237041090561 := by unfold cb; rw [if_pos h]
    rw [hc]
    clear h hc
    go_enter Try.func51, Try.ntmps51
    go_wp2
    go_ret
    exact ⟨rfl, rfl⟩
  · rw [Bool.not_eq_true] at h
    rw [h] at ho
    have hc : cb x = x := by unfold cb; rw [h]; rfl
    rw [hc]
    clear h hc
    go_enter Try.func51, Try.ntmps51
    go_wp2
    go_ret
    exact ⟨rfl, rfl⟩

theorem ref_bits (x : Nat) (w : World) : Calls Try.prog 37 #[.float .f64 x] w fun e w' => e = .returned (.int .u64 (cb x : Int)) ∧ w = w' := by
  obtain ⟨y, hy⟩ : ∃ y, cb x = y := ⟨_, rfl⟩
  have hc := ref_canon x w
  have hb := fun w => run_bits y w
  rw [hy] at hc ⊢
  clear hy
  go_enter Try.func37, Try.ntmps37
  go_wp2_with fail
  refine hc.mono ?_
  rintro e w2 ⟨rfl, rfl⟩
  dsimp only
  go_wp2_with fail
  go_ret
  exact ⟨rfl, rfl⟩

theorem text_ref (s : ByteArray) (w : World) : Calls Try.prog 39 #[.string s] w (Says w (.agg #[.int .i64 3, .int .i64 0, .float .f64 0, .string s, .slice none 0 0])) := by
  have hsf := fun a k x m w => run_store_float (P := Try.prog) a k x m w
  go_enter Try.func39, Try.ntmps39
  go_wp2_with fail
  have hb := Blk.new w 26 #[.int .i64 3, .int .i64 0, .float .f64 0, .string s, .slice none 0 0]
  refine bodyPost_ret ?hr rfl ⟨rfl, (Below.refl _ w).alloc (Nat.le_refl _) _⟩
  case hr => exact results_cell_row rfl _ _ w.heap.size 26 _ (0, 0) _ rfl hb Try.underlying26 rfl (by kernel_rfl)

theorem float_ref (x : Nat) (w : World) : Calls Try.prog 38 #[.float .f64 x] w (Says w (.agg #[.int .i64 2, .int .i64 0, .float .f64 (cb x), .string ⟨#[]⟩, .slice none 0 0])) := by
  have hsf := fun a k x m w => run_store_float (P := Try.prog) a k x m w
  obtain ⟨y, hy⟩ : ∃ y, cb x = y := ⟨_, rfl⟩
  have hc := fun w => ref_canon x w
  rw [hy] at hc ⊢
  clear hy
  go_enter Try.func38, Try.ntmps38
  go_wp2_with fail
  refine (hc _).mono ?_
  rintro e w2 ⟨rfl, rfl⟩
  dsimp only
  go_wp2_with fail
  have hb := Blk.new w 26 #[.int .i64 2, .int .i64 0, .float .f64 y, .string ⟨#[]⟩, .slice none 0 0]
  refine bodyPost_ret ?hr rfl ⟨rfl, (Below.refl _ w).alloc (Nat.le_refl _) _⟩
  case hr => exact results_cell_row rfl _ _ w.heap.size 26 _ (0, 0) _ rfl hb Try.underlying26 rfl (by kernel_rfl)

/-- A row of values that a walk fills, one behind another. -/
structure VRow (w : World) (b : Nat) (l : List Val) (A : Option Addr) (c : Nat) (xs : List Value) (css : Nat → Array Value) : Prop where
  ho : Own w 26 5 A l.length c xs
  hA : ∀ g, bOf A = some g → b ≤ g
  hx : ∀ k v, l[k]? = some v → VOwn w (fun g => b ≤ g ∧ some g ≠ bOf A) v (css k)
  hxs : ∀ k, k < l.length → (xs.drop (k * 5)).take 5 = (css k).toList

theorem VRow.nil (w : World) (b : Nat) : VRow w b [] none 0 [] (fun _ => #[]) := ⟨Own.none_, by simp [bOf], by simp, by simp⟩

/-- A value that a call made, appended. -/
theorem VRow.push {w w6 w7 w8 : World} {b c c8 : Nat} {l : List Val} {A A8 : Option Addr} {xs : List Value} {css : Nat → Array Value} {v : Val} {cs : Array Value} {T : Nat → Prop} (R : VRow w b l A c xs css) (hb : b ≤ w.heap.size)
    (hu6 : Upd T w w6) (hT : ∀ g, T g → g < b) (hv : VOwn w6 (fun g => w.heap.size ≤ g) v cs) (h7 : ∃ o, w7 = w6.alloc o) (ho8 : Own w8 26 5 A8 (l.length + 1) c8 (xs ++ cs.toList)) (hg8 : w7.grownBy w8 (bOf A)) (hat8 : bOf A8 = bOf A ∨ bOf A8 = some w7.heap.size) :
    VRow w8 b (l ++ [v]) A8 c8 (xs ++ cs.toList) (fun k => if k = l.length then cs else css k) := by
  obtain ⟨o, rfl⟩ := h7
  have hAl : ∀ g, bOf A = some g → g < w.heap.size := fun g hg => R.ho.lt hg
  have hw6 : w.heap.size ≤ w6.heap.size := hu6.size
  have hw7 : (w6.alloc o).heap.size = w6.heap.size + 1 := by simp
  have hA8 : ∀ g, bOf A8 = some g → b ≤ g := by
    rcases hat8 with e | e
    · rw [e]; exact R.hA
    · intro g hg
      rw [e, hw7] at hg
      cases hg
      omega
  have hfresh : ∀ g, g < w6.heap.size → some g ≠ bOf A → some g ≠ bOf A8 := by
    intro g hg hne
    rcases hat8 with e | e
    · rw [e]; exact hne
    · rw [e, hw7]
      intro e2
      cases e2
      omega
  have hu8 : Upd (fun x => T x ∨ some x = bOf A) w w8 := (((hu6.mono (T := fun x => T x ∨ some x = bOf A) (fun _ _ h => .inl h))).alloc o).grown hg8 (fun k e _ => .inr e.symm)
  have hu68 : Upd (fun x => some x = bOf A) w6 w8 := ((Upd.refl _ w6).alloc o).grown hg8 (fun k e _ => e.symm)
  have hxl : xs.length = l.length * 5 := R.ho.1
  refine ⟨by simpa using ho8, hA8, ?_, ?_⟩
  · intro k u hku
    by_cases hk : k < l.length
    · rw [List.getElem?_append_left hk] at hku
      show VOwn _ _ u (if k = l.length then _ else css k)
      rw [if_neg (by omega)]
      refine ((((R.hx k u hku).mono (Q := fun g => (b ≤ g ∧ some g ≠ bOf A) ∧ g < w.heap.size) (fun g h1 h2 => ⟨h2, h1⟩))).upd hu8 (fun g hg e => ?_)).mono (fun g _ hg => ⟨hg.1.1, hfresh g (by omega) hg.1.2⟩)
      rcases e with e | e
      · have := hT g e; omega
      · exact hg.1.2 e
    · rw [List.getElem?_append_right (by omega)] at hku
      have hk0 : k = l.length := by
        have := (List.getElem?_eq_some_iff.1 hku).1
        simp at this; omega
      subst hk0
      simp at hku
      subst hku
      show VOwn _ _ v (if l.length = l.length then _ else _)
      rw [if_pos rfl]
      refine ((hv.mono (Q := fun g => w.heap.size ≤ g ∧ g < w6.heap.size) (fun g h1 h2 => ⟨h2, h1⟩)).upd hu68 (fun g hg e => ?_)).mono (fun g _ hg => ⟨by omega, hfresh g hg.2 (fun e => by have := hAl g e.symm; omega)⟩)
      have := hAl g e.symm; omega
  · intro k hk
    show _ = (if k = l.length then _ else css k).toList
    by_cases hk2 : k < l.length
    · rw [if_neg (by omega), ← R.hxs k hk2, List.drop_append_of_le_length (by omega), List.take_append_of_le_length (by rw [List.length_drop, hxl]; omega)]
    · have hk0 : k = l.length := by simp at hk; omega
      subst hk0
      rw [if_pos rfl, ← hxl, List.drop_left]
      have := hv.size
      rw [List.take_of_length_le (by simp [this])]

theorem VRow.own {w : World} {b : Nat} {l : List Val} {A : Option Addr} {c : Nat} {xs : List Value} {css : Nat → Array Value} (R : VRow w b l A c xs css) (hn : l.length ≤ 1000000) (k i : Int) (f : Nat) (s : List UInt8) : VOwn w (fun g => b ≤ g) (.mk k i f s l) #[.int .i64 k, .int .i64 i, .float .f64 f, .string (bstr s), .slice A l.length c] :=
  .mk css hn R.ho R.hA (fun j v hv => (R.hx j v hv).mono (fun g _ hg => hg.1)) R.hxs
theorem VRow.upd {w w' : World} {b : Nat} {l : List Val} {A : Option Addr} {c : Nat} {xs : List Value} {css : Nat → Array Value} {S : Nat → Prop} (R : VRow w b l A c xs css) (hu : Upd S w w') (hS : ∀ g, b ≤ g → ¬ S g) : VRow w' b l A c xs css :=
  ⟨R.ho.upd hu (fun g hg => hS g (R.hA g hg)), R.hA, fun k v hv => (R.hx k v hv).upd hu (fun g hg => hS g hg.1), R.hxs⟩

/-- What Clean tells of a value. -/
def CleanRes (w : World) (v : Val) (e : Ending) (w' : World) : Prop := ∃ cs, e = .returned (.agg cs) ∧ VOwn w' (fun g => w.heap.size ≤ g) (cleanV v) cs ∧ Below w.heap.size w w'
def CleansRes (w : World) (l : List Val) (e : Ending) (w' : World) : Prop := ∃ A' c' xs' css', e = .returned (.slice A' l.length c') ∧ VRow w' w.heap.size (l.map cleanV) A' c' xs' css' ∧ Below w.heap.size w w'

set_option maxHeartbeats 1600000 in
theorem ref_cleans {A : Option Addr} {c B : Nat} {l : List Val} {xs : List Value} {css : Nat → Array Value} {w : World} (hr : Reads w B 5 A l.length xs) (hB : B ≤ w.heap.size) (hxs : ∀ j, j < l.length → (xs.drop (j * 5)).take 5 = (css j).toList) (hx : ∀ j v, l[j]? = some v → VReads w B v (css j)) (hlen : l.length ≤ 1000000)
    (hcall : ∀ j v, l[j]? = some v → ∀ w1, Below w.heap.size w w1 → Calls Try.prog 16 #[.agg (css j)] w1 (CleanRes w1 v)) :
    Calls Try.prog 40 #[.slice A l.length c] w (CleansRes w l) := by
  obtain ⟨i1, gi, gz0, gz1, gz2⟩ := info_parts info_val
  replace hcall := Lib.hid hcall
  go_enter Try.func40, Try.ntmps40
  go_wp2_with fail
  go_loopw [3, 4] (fun acc i wr => ∃ (j : Nat) (A1 : Option Addr) (c1 : Nat) (xs1 : List Value) (css1 : Nat → Array Value), j ≤ l.length ∧ i = .int .i64 (j : Int) ∧ acc = .slice A1 j c1 ∧ VRow wr w.heap.size ((l.take j).map cleanV) A1 c1 xs1 css1 ∧ Below w.heap.size w wr) (fun _ i _ => l.length - (intOf i).toNat)
  case atStart => exact ⟨0, none, 0, [], _, Nat.zero_le _, rfl, rfl, VRow.nil _ _, Below.refl _ _⟩
  case round =>
    rename_i hrel
    obtain ⟨j, A1, c1, xs1, css1, hj, rfl, rfl, R, hb⟩ := hrel
    have hjl : ((l.take j).map cleanV).length = j := by simp; omega
    have hbs := hb.size
    by_cases hlt : j < l.length
    · obtain ⟨ad, k', i', f', s', A', n', c', rfl, hform, hgk, g0, g1, g2, g3, g4⟩ := kid hr hx hxs (hb.mono hB) hlt
      have hcl := hcall.out j l[j] hgk wr hb
      have htk : (l.take (j + 1)).map cleanV = (l.take j).map cleanV ++ [cleanV l[j]] := by rw [List.take_succ_eq_append_getElem hlt, List.map_append]; rfl
      rw [hform] at hcl
      have hcl' : Calls Try.prog 16 #[.agg #[.int .i64 k', .int .i64 i', .float .f64 f', .string s', .slice A' n' c']] wr (CleanRes wr l[j]) := hcl
      replace htk := Lib.hid htk
      clear hform hgk hcl
      go_wp2_with fail
      refine hcl'.mono ?_
      clear hcl'
      rintro e w6 ⟨cs, rfl, hv, hb6⟩
      dsimp only
      have hcs5 := hv.size
      have hone := hv.one
      obtain ⟨a0, a1, a2, a3, a4, rfl⟩ : ∃ a0 a1 a2 a3 a4, cs = #[a0, a1, a2, a3, a4] := by
        match cs, hcs5 with
        | ⟨[a0, a1, a2, a3, a4]⟩, _ => exact ⟨a0, a1, a2, a3, a4, rfl⟩
      have hu6 := Upd.of_below_size (S := fun _ => False) hb6
      have ho7 := (R.ho.upd hu6 (fun g _ h => h)).alloc (.cells #[a0, a1, a2, a3, a4] 26)
      rw [hjl] at ho7
      have hsrc := Reads.lit (size := 5) w6 #[a0, a1, a2, a3, a4] 26 (0, 0) 1 [a0, a1, a2, a3, a4] rfl rfl
      have hb7 := below_then hb6 hb
      go_wp2_with (at_builtin; go_must (refine wpList_append_mine rfl _ _ 24 24 rfl 26 i1 _ 5 64 Try.underlying24 gi gz0 gz1 gz2 rfl rfl ho7 rfl (Src.ofReads Try.underlying24 _ hsrc (by intro u hu; exact hone u (by simpa using hu))) ?b1 ?b2 ?grow))
      case b1 => unfold maxLen; omega
      case b2 => omega
      case grow =>
        intro A8 c8 w8 ho8 hg8 hat8
        have R8 := R.push hbs hu6 (fun _ h => h.elim) hv ⟨_, rfl⟩ (by rw [hjl]; exact ho8) hg8 (by rw [World.size_alloc]; exact hat8)
        have hb8 : Below w.heap.size w w8 := ((hb7.alloc hb7.size (.cells #[a0, a1, a2, a3, a4] 26))).grown hg8 (Nat.le_trans hb7.size (by simp)) (fun k hk => R.hA k hk)
        rw [← htk.out, hjl] at R8
        replace R8 := Lib.hid R8
        clear R ho7 hsrc ho8 hg8 hat8 hv hb6 hb7 hone hcs5 hu6
        go_wp2_with fail
        go_roundw
        case rel => exact ⟨j + 1, A8, c8, _, _, by omega, by simp, by simp, R8.out, hb8⟩
        case measure => simp [intOf]; omega
    · have hj' : j = l.length := by omega
      subst hj'
      rw [List.take_length] at R
      go_wp2_with fail
      go_ret
      exact ⟨_, _, _, _, rfl, R, hb⟩

set_option maxHeartbeats 1600000 in
theorem ref_clean {w : World} {B : Nat} {v : Val} {cs : Array Value} (h : VReads w B v cs) : ∀ (d : Int) (w1 : World), greatV v d = false → Below B w w1 → B ≤ w1.heap.size → Calls Try.prog 16 #[.agg cs] w1 (CleanRes w1 v) := by
  have hsf := fun a k x m w => run_store_float (P := Try.prog) a k x m w
  induction h with
  | @mk k i f s l A c xs css hn hr hx hxs ih =>
    intro d w1 hg hb1 hB1
    have hS := (Below.refl w1.heap.size w1).alloc (Nat.le_refl _) (.cells #[.int .i64 k, .int .i64 i, .float .f64 f, .string (bstr s), .slice A l.length c] 26)
    have hS2 := hS.alloc hS.size (.cells #[.int .i64 0, .int .i64 0, .float .f64 0, .string ⟨#[]⟩, .slice none 0 0] 26)
    have hz := Blk.new (w1.alloc (.cells #[.int .i64 k, .int .i64 i, .float .f64 f, .string (bstr s), .slice A l.length c] 26)) 26 #[.int .i64 0, .int .i64 0, .float .f64 0, .string ⟨#[]⟩, .slice none 0 0]
    have hsz : (w1.alloc (.cells #[.int .i64 k, .int .i64 i, .float .f64 f, .string (bstr s), .slice A l.length c] 26)).heap.size = w1.heap.size + 1 := by simp
    rw [hsz] at hz
    unfold greatV at hg
    unfold CleanRes cleanV
    by_cases h1 : k = 1
    · rw [if_pos h1]
      subst h1
      clear hg ih hx hxs hr
      go_enter Try.func16, Try.ntmps16
      go_wp2_with fail
      refine (int_ref _ _).mono ?_
      rintro e w3 ⟨rfl, hb3⟩
      dsimp only
      have hz3 := hz.below hb3 hz.lt
      have hb4 := below_then hb3 hS2
      clear hS hS2 hb3
      have hz4 := hz3.row #[.int .i64 1, .int .i64 i, .float .f64 0, .string ⟨#[]⟩, .slice none 0 0]
      have hb5 := below_row hb4 (g := w1.heap.size + 1) (by omega) #[.int .i64 1, .int .i64 i, .float .f64 0, .string ⟨#[]⟩, .slice none 0 0]
      go_wp2_with (refine store_row_gen rfl 26 (Operand.tmp 2) _ rfl (w1.heap.size + 1) #[.int .i64 1, .int .i64 i, .float .f64 0, .string ⟨#[]⟩, .slice none 0 0] rfl rfl 26 _ hz3 (by kernel_rfl) rfl (by simp [Value.oneCell']) (fun w6 hw6 => ?_); rw [← hw6] at hz4 hb5)
      refine bodyPost_ret (v := .agg #[.int .i64 1, .int .i64 i, .float .f64 0, .string ⟨#[]⟩, .slice none 0 0]) ?hr rfl ?_
      case hr => exact results_cell_row rfl _ _ (w1.heap.size + 1) 26 _ (0, 0) _ rfl hz4 Try.underlying26 rfl (by kernel_rfl)
      exact ⟨_, rfl, VOwn.flat _ _ 1 i 0 [], hb5⟩
    by_cases h2 : k = 2
    · rw [if_neg h1]
      rw [if_pos h2]
      subst h2
      clear hg ih hx hxs hr
      go_enter Try.func16, Try.ntmps16
      go_wp2_with fail
      refine (float_ref _ _).mono ?_
      rintro e w3 ⟨rfl, hb3⟩
      dsimp only
      have hz3 := hz.below hb3 hz.lt
      have hb4 := below_then hb3 hS2
      clear hS hS2 hb3
      have hz4 := hz3.row #[.int .i64 2, .int .i64 0, .float .f64 (cb f), .string ⟨#[]⟩, .slice none 0 0]
      have hb5 := below_row hb4 (g := w1.heap.size + 1) (by omega) #[.int .i64 2, .int .i64 0, .float .f64 (cb f), .string ⟨#[]⟩, .slice none 0 0]
      go_wp2_with (refine store_row_gen rfl 26 (Operand.tmp 2) _ rfl (w1.heap.size + 1) #[.int .i64 2, .int .i64 0, .float .f64 (cb f), .string ⟨#[]⟩, .slice none 0 0] rfl rfl 26 _ hz3 (by kernel_rfl) rfl (by simp [Value.oneCell']) (fun w6 hw6 => ?_); rw [← hw6] at hz4 hb5)
      refine bodyPost_ret (v := .agg #[.int .i64 2, .int .i64 0, .float .f64 (cb f), .string ⟨#[]⟩, .slice none 0 0]) ?hr rfl ?_
      case hr => exact results_cell_row rfl _ _ (w1.heap.size + 1) 26 _ (0, 0) _ rfl hz4 Try.underlying26 rfl (by kernel_rfl)
      exact ⟨_, rfl, VOwn.flat _ _ 2 0 (cb f) [], hb5⟩
    by_cases h3 : k = 3
    · rw [if_neg h1]
      rw [if_neg h2]
      rw [if_pos h3]
      subst h3
      clear hg ih hx hxs hr
      go_enter Try.func16, Try.ntmps16
      go_wp2_with fail
      refine (text_ref _ _).mono ?_
      rintro e w3 ⟨rfl, hb3⟩
      dsimp only
      have hz3 := hz.below hb3 hz.lt
      have hb4 := below_then hb3 hS2
      clear hS hS2 hb3
      have hz4 := hz3.row #[.int .i64 3, .int .i64 0, .float .f64 0, .string (bstr s), .slice none 0 0]
      have hb5 := below_row hb4 (g := w1.heap.size + 1) (by omega) #[.int .i64 3, .int .i64 0, .float .f64 0, .string (bstr s), .slice none 0 0]
      go_wp2_with (refine store_row_gen rfl 26 (Operand.tmp 2) _ rfl (w1.heap.size + 1) #[.int .i64 3, .int .i64 0, .float .f64 0, .string (bstr s), .slice none 0 0] rfl rfl 26 _ hz3 (by kernel_rfl) rfl (by simp [Value.oneCell']) (fun w6 hw6 => ?_); rw [← hw6] at hz4 hb5)
      refine bodyPost_ret (v := .agg #[.int .i64 3, .int .i64 0, .float .f64 0, .string (bstr s), .slice none 0 0]) ?hr rfl ?_
      case hr => exact results_cell_row rfl _ _ (w1.heap.size + 1) 26 _ (0, 0) _ rfl hz4 Try.underlying26 rfl (by kernel_rfl)
      exact ⟨_, rfl, VOwn.flat _ _ 3 0 0 s, hb5⟩
    by_cases h4 : k = 4
    · rw [if_neg h1, if_neg h2, if_neg h3, if_pos h4, cleanL_map]
      rw [if_neg h3, if_pos h4] at hg
      simp only [Bool.or_eq_false_iff, decide_eq_false_iff_not] at hg
      obtain ⟨⟨h64, -⟩, hgl⟩ := hg
      rw [greatL_any] at hgl
      have hgi : ∀ (j : Nat) (v : Val), l[j]? = some v → greatV v (d - 1) = false := by
        intro j v hv
        have := List.any_eq_false.1 hgl v (List.mem_of_getElem? hv)
        simpa using this
      have hcl : ∀ w2, Below w1.heap.size w1 w2 → Calls Try.prog 40 #[.slice A l.length c] w2 (CleansRes w2 l) := by
        intro w2 hb2
        have hb12 : Below B w w2 := hb1.trans (hb2.mono hB1)
        have hB2 : B ≤ w2.heap.size := Nat.le_trans hB1 hb2.size
        exact ref_cleans (hr.below hb12) hB2 hxs (fun j v hv => (hx j v hv).under hb12) (by omega) (fun j v hv w3 hb3 => ih j v hv (d - 1) w3 (hgi j v hv) (hb12.trans (hb3.mono hB2)) (Nat.le_trans hB2 hb3.size))
      subst h4
      have hln : l.length ≤ 1000000 := by omega
      clear hgl hgi ih hx hxs hr h64 h1 h2 h3
      replace hcl := Lib.hid hcl
      go_enter Try.func16, Try.ntmps16
      go_wp2_with fail
      refine (hcl.out _ hS2).mono ?_
      rintro e w3 ⟨A3, c3, xs3, css3, rfl, R, hb3⟩
      dsimp only
      have hz3 := hz.below hb3 hz.lt
      have hb4 := below_then hb3 hS2
      have hw2 : (Go.World.alloc (w1.alloc (.cells #[.int .i64 4, .int .i64 i, .float .f64 f, .string (bstr s), .slice A l.length c] 26)) (.cells #[.int .i64 0, .int .i64 0, .float .f64 0, .string ⟨#[]⟩, .slice none 0 0] 26)).heap.size = w1.heap.size + 1 + 1 := by simp
      rw [hw2] at R
      have R4 := R.upd ((Upd.refl (fun x => x = w1.heap.size + 1) w3).setRow (g := w1.heap.size + 1) (fun _ => rfl) #[.int .i64 4, .int .i64 0, .float .f64 0, .string ⟨#[]⟩, .slice A3 l.length c3]) (fun g hg e => by omega)
      have hml : (l.map cleanV).length = l.length := by simp
      have V4 := R4.own (by omega) 4 0 0 []
      rw [hml] at V4
      clear hS hS2 hb3 R R4 hw2
      have hz4 := hz3.row #[.int .i64 4, .int .i64 0, .float .f64 0, .string ⟨#[]⟩, .slice A3 l.length c3]
      have hb5 := below_row hb4 (g := w1.heap.size + 1) (by omega) #[.int .i64 4, .int .i64 0, .float .f64 0, .string ⟨#[]⟩, .slice A3 l.length c3]
      go_wp2_with (refine store_row_gen rfl 26 (Operand.tmp 2) _ rfl (w1.heap.size + 1) #[.int .i64 4, .int .i64 0, .float .f64 0, .string ⟨#[]⟩, .slice A3 l.length c3] rfl rfl 26 _ hz3 (by kernel_rfl) rfl (by simp [Value.oneCell']) (fun w6 hw6 => ?_); rw [← hw6] at hz4 hb5 V4)
      refine bodyPost_ret (v := .agg #[.int .i64 4, .int .i64 0, .float .f64 0, .string ⟨#[]⟩, .slice A3 l.length c3]) ?hr rfl ?_
      case hr => exact results_cell_row rfl _ _ (w1.heap.size + 1) 26 _ (0, 0) _ rfl hz4 Try.underlying26 rfl (by kernel_rfl)
      exact ⟨_, rfl, V4.mono (fun g _ hg => by omega), hb5⟩
    · rw [if_neg h1, if_neg h2, if_neg h3, if_neg h4]
      have k1 : (k == 1) = false := by rw [beq_eq_false_iff_ne]; exact h1
      have k2 : (k == 2) = false := by rw [beq_eq_false_iff_ne]; exact h2
      have k3 : (k == 3) = false := by rw [beq_eq_false_iff_ne]; exact h3
      have k4 : (k == 4) = false := by rw [beq_eq_false_iff_ne]; exact h4
      clear hg ih hx hxs hr h1 h2 h3 h4
      have hz3 := hz
      have hb4 := hS2
      have hz4 := hz3.row #[.int .i64 0, .int .i64 0, .float .f64 0, .string ⟨#[]⟩, .slice none 0 0]
      have hb5 := below_row hb4 (g := w1.heap.size + 1) (by omega) #[.int .i64 0, .int .i64 0, .float .f64 0, .string ⟨#[]⟩, .slice none 0 0]
      clear hS hS2 hz
      go_enter Try.func16, Try.ntmps16
      go_wp2_with (refine store_row_gen rfl 26 (Operand.tmp 2) _ rfl (w1.heap.size + 1) #[.int .i64 0, .int .i64 0, .float .f64 0, .string ⟨#[]⟩, .slice none 0 0] (by simp [go_sem]) rfl 26 _ hz3 (by kernel_rfl) rfl (by simp [Value.oneCell']) (fun w6 hw6 => ?_); rw [← hw6] at hz4 hb5)
      refine bodyPost_ret (v := .agg #[.int .i64 0, .int .i64 0, .float .f64 0, .string ⟨#[]⟩, .slice none 0 0]) ?hr rfl ?_
      case hr => exact results_cell_row rfl _ _ (w1.heap.size + 1) 26 _ (0, 0) _ rfl hz4 Try.underlying26 rfl (by kernel_rfl)
      exact ⟨_, rfl, VOwn.flat _ _ 0 0 0 [], hb5⟩
end Go.Proofs.Ytafogjonicdbmaa
