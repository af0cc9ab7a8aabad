/- Values of the seat. -/
import Derived.Test.YtlkokkbikkbaoaaSt1
set_option linter.unusedSimpArgs false
set_option linter.unusedVariables false
set_option linter.unusedSimpArgs false
set_option linter.unusedVariables false
namespace Go.Proofs.Ytlkokkbikkbaoaa
open Go.RowKit
set_option maxRecDepth 100000

/-- A value as the seat makes it: clean, right, lists in one another at most d deep, at most n long. -/
structure SeatV (d n : Nat) (v : Val) : Prop where
  clean : cleanV v = v
  ok : OkV v
  strange : strangeV v = false
  great : ∀ e : Int, (d : Int) ≤ e → greatV v e = false
  size : sizeV v ≤ n
theorem SeatV.check {d n : Nat} {v : Val} (h : SeatV d n v) (hd : d ≤ 8) (hn : n ≤ 4096) : checkV v = 0 := by
  unfold checkV
  have h1 := h.size
  rw [h.strange, h.great 8 (by omega), if_neg (by simp), if_neg (by simp; omega)]
theorem SeatV.mono {d n d' n' : Nat} {v : Val} (h : SeatV d n v) (hd : d ≤ d') (hn : n ≤ n') : SeatV d' n' v := ⟨h.clean, h.ok, h.strange, fun e he => h.great e (by omega), Nat.le_trans h.size hn⟩
theorem seat_int {i : Int} (hi : -9223372036854775808 ≤ i ∧ i ≤ 9223372036854775807) : SeatV 0 9 (.mk 1 i 0 [] []) :=
  ⟨rfl, .mk (by decide) hi (by simp) (by simp), by simp [strangeV], fun e _ => by simp [greatV], by simp [sizeV]⟩
theorem seat_float {f : Nat} (hf : f < 18446744073709551616) : SeatV 0 9 (.mk 2 0 (cb f) [] []) :=
  ⟨by simp [cleanV, cb_cb], .mk (cb_lt hf) (by decide) (by simp) (by simp), by simp [strangeV], fun e _ => by simp [greatV], by simp [sizeV]⟩
theorem seat_text {s : List UInt8} (hs : s.length ≤ 200) : SeatV 0 (3 + s.length) (.mk 3 0 0 s []) :=
  ⟨by simp [cleanV], .mk (by decide) (by decide) (by simp) (by simp), by simp [strangeV], fun e _ => by simp [greatV]; omega, by simp [sizeV]⟩
theorem seat_list {d n : Nat} {l : List Val} (h : ∀ v ∈ l, SeatV d n v) (hl : l.length ≤ 64) : SeatV (d + 1) (2 + l.length * n) (.mk 4 0 0 [] l) := by
  refine ⟨?_, .mk (by decide) (by decide) (fun v hv => (h v hv).ok) (by omega), ?_, fun e he => ?_, ?_⟩
  · unfold cleanV
    rw [if_neg (by decide), if_neg (by decide), if_neg (by decide), if_pos rfl, cleanL_map]
    congr 1
    conv => rhs; rw [← List.map_id l]
    exact List.map_congr_left (fun v hv => (h v hv).clean)
  · unfold strangeV
    rw [strangeL_any]
    simp
    intro v hv
    exact (h v hv).strange
  · unfold greatV
    rw [if_neg (by decide), if_pos rfl]
    have : greatL l (e - 1) = false := by
      clear hl
      induction l with
      | nil => rfl
      | cons v l ih =>
        unfold greatL
        rw [(h v (List.mem_cons_self ..)).great (e - 1) (by omega), ih (fun u hu => h u (List.mem_cons_of_mem _ hu))]
        rfl
    rw [this]
    simp
    omega
  · unfold sizeV
    rw [if_neg (by decide), if_neg (by decide), if_pos rfl]
    have : sizeL l ≤ l.length * n := by
      clear hl
      induction l with
      | nil => simp [sizeL]
      | cons v l ih =>
        unfold sizeL
        have h1 := (h v (List.mem_cons_self ..)).size
        have h2 := ih (fun u hu => h u (List.mem_cons_of_mem _ hu))
        rw [List.length_cons, Nat.add_mul]
        omega
    omega
theorem own_leaf (w : World) (P : Nat → Prop) (k i : Int) (f : Nat) (s : List UInt8) : VOwn w P (.mk k i f s []) #[.int .i64 k, .int .i64 i, .float .f64 f, .string (bstr s), .slice none 0 0] :=
  .mk (l := []) (A := none) (c := 0) (xs := []) (fun _ => #[]) (by simp) Own.none_ (by simp [bOf]) (by simp) (by simp)
theorem bstr_data (S : ByteArray) : bstr S.data.toList = S := by cases S; simp [bstr]

/-- A value of the seat, in new memory. -/
def ValS (d n : Nat) (w : World) (e : Ending) (w' : World) : Prop :=
  ∃ v cs, e = .returned (.agg cs) ∧ VOwn w' (fun g => w.heap.size ≤ g) v cs ∧ SeatV d n v ∧ Below w.heap.size w w'
theorem ValS.mono {d n d' n' : Nat} {w w' : World} {e : Ending} (h : ValS d n w e w') (hd : d ≤ d') (hn : n ≤ n') : ValS d' n' w e w' := by
  obtain ⟨v, cs, h1, h2, h3, h4⟩ := h
  exact ⟨v, cs, h1, h2, h3.mono hd hn, h4⟩

theorem text_says (S : ByteArray) (w : World) : Calls Try.prog 23 #[.string S] w (Says w (.agg #[.int .i64 3, .int .i64 0, .float .f64 0, .string S, .slice none 0 0])) := by
  have hsf := fun a k x m w => run_store_float (P := Try.prog) a k x m w
  go_enter Try.func23, Try.ntmps23
  go_wp2_with fail
  have hb := Blk.new w 64 #[.int .i64 3, .int .i64 0, .float .f64 0, .string S, .slice none 0 0]
  refine bodyPost_ret ?hr rfl ⟨rfl, (Below.refl _ w).alloc (Nat.le_refl _) _⟩
  case hr => exact results_cell_row rfl _ _ w.heap.size 64 _ (0, 0) _ rfl hb Try.underlying64 rfl (by kernel_rfl)
theorem float_says (f : Nat) (w : World) : Calls Try.prog 30 #[.float .f64 f] w (Says w (.agg #[.int .i64 2, .int .i64 0, .float .f64 (cb f), .string ⟨#[]⟩, .slice none 0 0])) := by
  have hsf := fun a k x m w => run_store_float (P := Try.prog) a k x m w
  have hcan := fun w => ref_canon f w
  go_enter Try.func30, Try.ntmps30
  go_wp2_with fail
  refine (hcan _).mono ?_
  rintro e w2 ⟨rfl, rfl⟩
  try dsimp only
  go_wp2_with fail
  have hb := Blk.new w 64 #[.int .i64 2, .int .i64 0, .float .f64 (cb f), .string ⟨#[]⟩, .slice none 0 0]
  refine bodyPost_ret ?hr rfl ⟨rfl, (Below.refl _ w).alloc (Nat.le_refl _) _⟩
  case hr => exact results_cell_row rfl _ _ w.heap.size 64 _ (0, 0) _ rfl hb Try.underlying64 rfl (by kernel_rfl)
theorem list_says (A : Option Addr) (n c : Nat) (w : World) : Calls Try.prog 47 #[.slice A n c] w (Says w (.agg #[.int .i64 4, .int .i64 0, .float .f64 0, .string ⟨#[]⟩, .slice A n c])) := by
  have hsf := fun a k x m w => run_store_float (P := Try.prog) a k x m w
  go_enter Try.func47, Try.ntmps47
  go_wp2_with fail
  have hb := Blk.new w 64 #[.int .i64 4, .int .i64 0, .float .f64 0, .string ⟨#[]⟩, .slice A n c]
  refine bodyPost_ret ?hr rfl ⟨rfl, (Below.refl _ w).alloc (Nat.le_refl _) _⟩
  case hr => exact results_cell_row rfl _ _ w.heap.size 64 _ (0, 0) _ rfl hb Try.underlying64 rfl (by kernel_rfl)

theorem text_val {S : ByteArray} (w : World) (h : S.size ≤ 100) : Calls Try.prog 23 #[.string S] w (fun e w' => e = .returned (.agg #[.int .i64 3, .int .i64 0, .float .f64 0, .string S, .slice none 0 0]) ∧ VOwn w' (fun g => w.heap.size ≤ g) (.mk 3 0 0 S.data.toList []) #[.int .i64 3, .int .i64 0, .float .f64 0, .string S, .slice none 0 0] ∧ SeatV 0 103 (.mk 3 0 0 S.data.toList []) ∧ Below w.heap.size w w') := by
  refine (text_says S w).mono fun e w' h' => ⟨h'.1, ?_, ?_, h'.2⟩
  · have := own_leaf w' (fun g => w.heap.size ≤ g) 3 0 0 S.data.toList
    rw [bstr_data] at this
    exact this
  · have hl : S.data.toList.length = S.size := Array.length_toList
    exact (seat_text (by omega)).mono (Nat.le_refl _) (by omega)
theorem int_val {i : Int} (w : World) (hi : -9223372036854775808 ≤ i ∧ i ≤ 9223372036854775807) : Calls Try.prog 31 #[.int .i64 i] w (fun e w' => e = .returned (.agg #[.int .i64 1, .int .i64 i, .float .f64 0, .string ⟨#[]⟩, .slice none 0 0]) ∧ VOwn w' (fun g => w.heap.size ≤ g) (.mk 1 i 0 [] []) #[.int .i64 1, .int .i64 i, .float .f64 0, .string ⟨#[]⟩, .slice none 0 0] ∧ SeatV 0 103 (.mk 1 i 0 [] []) ∧ Below w.heap.size w w') :=
  (int_ref i w).mono fun e w' h' => ⟨h'.1, own_leaf w' _ 1 i 0 [], (seat_int hi).mono (Nat.le_refl _) (by decide), h'.2⟩
theorem float_val {f : Nat} (w : World) (hf : f < 18446744073709551616) : Calls Try.prog 30 #[.float .f64 f] w (fun e w' => e = .returned (.agg #[.int .i64 2, .int .i64 0, .float .f64 (cb f), .string ⟨#[]⟩, .slice none 0 0]) ∧ VOwn w' (fun g => w.heap.size ≤ g) (.mk 2 0 (cb f) [] []) #[.int .i64 2, .int .i64 0, .float .f64 (cb f), .string ⟨#[]⟩, .slice none 0 0] ∧ SeatV 0 103 (.mk 2 0 (cb f) [] []) ∧ Below w.heap.size w w') :=
  (float_says f w).mono fun e w' h' => ⟨h'.1, own_leaf w' _ 2 0 (cb f) [], (seat_float hf).mono (Nat.le_refl _) (by decide), h'.2⟩

set_option maxHeartbeats 1600000 in
theorem seat_text_walk (w : World) {k : Int} (h0 : 0 ≤ k) (h1 : k ≤ 255) : Calls Try.prog 32 #[.int .u8 k] w (ValS 0 103 w) := by
  have hsf := fun a k x m w => run_store_float (P := Try.prog) a k x m w
  obtain ⟨b, hb5⟩ : ∃ b : UInt8, IntKind.u8.wrap (97 + k % 5) = ((b.toNat : Nat) : Int) := ⟨UInt8.ofNat (97 + k % 5).toNat, by
    have h2 : 0 ≤ k % 5 ∧ k % 5 < 5 := by omega
    have h3 : (UInt8.ofNat (97 + k % 5).toNat).toNat = (97 + k % 5).toNat := by
      rw [UInt8.toNat_ofNat']
      omega
    rw [h3]
    unfold IntKind.wrap
    simp [IntKind.bits, IntKind.signed]
    omega⟩
  have htm : k.tmod 5 = k % 5 := Int.tmod_eq_emod_of_nonneg h0
  have hz0 := Blk.new w 64 #[.int .i64 0, .int .i64 0, .float .f64 0, .string ⟨#[]⟩, .slice none 0 0]
  have hz1 := hz0.alloc (.cells #[.int .u8 ((b.toNat : Nat) : Int)] 5)
  have hb1 := ((Below.refl w.heap.size w).alloc (Nat.le_refl _) (.cells #[.int .i64 0, .int .i64 0, .float .f64 0, .string ⟨#[]⟩, .slice none 0 0] 64)).alloc (by simp) (.cells #[.int .u8 ((b.toNat : Nat) : Int)] 5)
  have hr := Reads.lit (size := 1) (w.alloc (.cells #[.int .i64 0, .int .i64 0, .float .f64 0, .string ⟨#[]⟩, .slice none 0 0] 64)) #[.int .u8 ((b.toNat : Nat) : Int)] 5 (0, 0) 1 (bys [b]) rfl rfl
  rw [World.size_alloc] at hr
  have hcv := conv_bytes (c := 1) hr
  obtain ⟨S, hS⟩ : ∃ S, (⟨#[110]⟩ : ByteArray) ++ bstr [b] = S := ⟨_, rfl⟩
  have hS2 : S.size ≤ 100 := by rw [← hS, ByteArray.size_append]; simp [bstr, ByteArray.size]
  clear hr hz0
  go_enter Try.func32, Try.ntmps32
  go_wp2_with fail
  generalize (w.alloc (.cells #[.int .i64 0, .int .i64 0, .float .f64 0, .string ⟨#[]⟩, .slice none 0 0] 64)).alloc (.cells #[.int .u8 ((b.toNat : Nat) : Int)] 5) = w2 at *
  clear hcv hb5 htm hS
  obtain ⟨z, hzz⟩ : ∃ z, w.heap.size = z := ⟨_, rfl⟩
  have hwz : w.heap.size ≤ z := by omega
  rw [hzz] at hz1 ⊢
  have hzl := hz1.lt
  refine (text_val w2 hS2).mono ?_
  rintro e w3 ⟨rfl, hv, hs, hb3'⟩
  try dsimp only
  have hz3 := hz1.below hb3' hz1.lt
  have hzr := hz3.row #[.int .i64 3, .int .i64 0, .float .f64 0, .string S, .slice none 0 0]
  have hbr := below_row (below_then hb3' hb1) (g := z) hwz #[.int .i64 3, .int .i64 0, .float .f64 0, .string S, .slice none 0 0]
  have hv4 := (hv.upd ((Upd.refl (fun g => g = z) w3).setRow (g := z) (fun _ => rfl) #[.int .i64 3, .int .i64 0, .float .f64 0, .string S, .slice none 0 0]) (fun g hg e => by have hg' : w2.heap.size ≤ g := hg; omega)).mono (Q := fun g => w2.heap.size ≤ g ∧ True) (fun g _ hg => ⟨hg, trivial⟩)
  have hw2 := hb1.size
  go_wp2_with (refine store_row_gen rfl 64 (Operand.tmp 2) _ rfl z #[.int .i64 3, .int .i64 0, .float .f64 0, .string S, .slice none 0 0] (by simp [go_sem]) (by simp [go_sem]) 64 _ hz3 (by kernel_rfl) rfl (by simp [Value.oneCell']) (fun w9 hw9 => ?_); rw [← hw9] at hzr hbr hv4; clear hw9)
  refine bodyPost_ret (v := .agg #[.int .i64 3, .int .i64 0, .float .f64 0, .string S, .slice none 0 0]) ?hr rfl ?fin
  case hr => exact results_cell_row rfl _ _ z 64 _ (0, 0) _ rfl hzr Try.underlying64 rfl (by kernel_rfl)
  case fin => exact ⟨_, _, rfl, hv4.mono (fun g _ hg => by have := hg.1; omega), hs, hbr⟩

/-- A class's or a style's name as a value. -/
theorem seat_style_walk (w : World) {k : Int} (h0 : 0 ≤ k) (h1 : k ≤ 255) : Calls Try.prog 24 #[.int .u8 k] w (ValS 0 103 w) := by
  have hsf := fun a k x m w => run_store_float (P := Try.prog) a k x m w
  have htm : k.tmod 3 = k % 3 := Int.tmod_eq_emod_of_nonneg h0
  have hz0 := Blk.new w 64 #[.int .i64 0, .int .i64 0, .float .f64 0, .string ⟨#[]⟩, .slice none 0 0]
  have hz1 := hz0.alloc (.cells #[.string ⟨#[97, 99, 116, 105, 118, 101]⟩, .string ⟨#[119, 97, 114, 109]⟩, .string ⟨#[99, 111, 108, 100]⟩] 9)
  have hb1 := ((Below.refl w.heap.size w).alloc (Nat.le_refl _) (.cells #[.int .i64 0, .int .i64 0, .float .f64 0, .string ⟨#[]⟩, .slice none 0 0] 64)).alloc (by simp) (.cells #[.string ⟨#[97, 99, 116, 105, 118, 101]⟩, .string ⟨#[119, 97, 114, 109]⟩, .string ⟨#[99, 111, 108, 100]⟩] 9)
  have hr := Blk.new (w.alloc (.cells #[.int .i64 0, .int .i64 0, .float .f64 0, .string ⟨#[]⟩, .slice none 0 0] 64)) 9 #[.string ⟨#[97, 99, 116, 105, 118, 101]⟩, .string ⟨#[119, 97, 114, 109]⟩, .string ⟨#[99, 111, 108, 100]⟩]
  rw [World.size_alloc] at hr
  obtain ⟨j, hj⟩ : ∃ j : Nat, k % 3 = (j : Int) := ⟨(k % 3).toNat, by omega⟩
  have hj3 : j < 3 := by omega
  obtain ⟨S, hS, hS2⟩ : ∃ S : ByteArray, #[.string ⟨#[97, 99, 116, 105, 118, 101]⟩, .string ⟨#[119, 97, 114, 109]⟩, .string ⟨#[99, 111, 108, 100]⟩][j]? = some (Value.string S) ∧ S.size ≤ 100 := by
    have : j = 0 ∨ j = 1 ∨ j = 2 := by omega
    rcases this with rfl | rfl | rfl
    · exact ⟨_, rfl, by decide⟩
    · exact ⟨_, rfl, by decide⟩
    · exact ⟨_, rfl, by decide⟩
  have hcell := hr.cell j
  rw [hS] at hcell
  clear hr hz0 hS
  go_enter Try.func24, Try.ntmps24
  go_wp2_with fail
  generalize (w.alloc (.cells #[.int .i64 0, .int .i64 0, .float .f64 0, .string ⟨#[]⟩, .slice none 0 0] 64)).alloc (.cells #[.string ⟨#[97, 99, 116, 105, 118, 101]⟩, .string ⟨#[119, 97, 114, 109]⟩, .string ⟨#[99, 111, 108, 100]⟩] 9) = w2 at *
  clear hcell htm hj
  obtain ⟨z, hzz⟩ : ∃ z, w.heap.size = z := ⟨_, rfl⟩
  have hwz : w.heap.size ≤ z := by omega
  rw [hzz] at hz1 ⊢
  have hzl := hz1.lt
  refine (text_val w2 hS2).mono ?_
  rintro e w3 ⟨rfl, hv, hs, hb3'⟩
  try dsimp only
  have hz3 := hz1.below hb3' hz1.lt
  have hzr := hz3.row #[.int .i64 3, .int .i64 0, .float .f64 0, .string S, .slice none 0 0]
  have hbr := below_row (below_then hb3' hb1) (g := z) hwz #[.int .i64 3, .int .i64 0, .float .f64 0, .string S, .slice none 0 0]
  have hv4 := (hv.upd ((Upd.refl (fun g => g = z) w3).setRow (g := z) (fun _ => rfl) #[.int .i64 3, .int .i64 0, .float .f64 0, .string S, .slice none 0 0]) (fun g hg e => by have hg' : w2.heap.size ≤ g := hg; omega)).mono (Q := fun g => w2.heap.size ≤ g ∧ True) (fun g _ hg => ⟨hg, trivial⟩)
  have hw2 := hb1.size
  go_wp2_with (refine store_row_gen rfl 64 (Operand.tmp 2) _ rfl z #[.int .i64 3, .int .i64 0, .float .f64 0, .string S, .slice none 0 0] (by simp [go_sem]) (by simp [go_sem]) 64 _ hz3 (by kernel_rfl) rfl (by simp [Value.oneCell']) (fun w9 hw9 => ?_); rw [← hw9] at hzr hbr hv4; clear hw9)
  refine bodyPost_ret (v := .agg #[.int .i64 3, .int .i64 0, .float .f64 0, .string S, .slice none 0 0]) ?hr rfl ?fin
  case hr => exact results_cell_row rfl _ _ z 64 _ (0, 0) _ rfl hzr Try.underlying64 rfl (by kernel_rfl)
  case fin => exact ⟨_, _, rfl, hv4.mono (fun g _ hg => by have := hg.1; omega), hs, hbr⟩

end Go.Proofs.Ytlkokkbikkbaoaa
