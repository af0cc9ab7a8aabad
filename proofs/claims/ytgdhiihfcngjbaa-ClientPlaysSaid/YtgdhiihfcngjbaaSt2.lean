/- Values of the seat. -/
import Derived.Test.YtgdhiihfcngjbaaSt1
import Derived.Test.YtgdhiihfcngjbaaPvEnc
import Derived.Test.YtgdhiihfcngjbaaBytes
set_option linter.unusedSimpArgs false
set_option linter.unusedVariables false
namespace Go.Proofs.Ytgdhiihfcngjbaa
open Go.RowKit
set_option maxRecDepth 100000

/-- A value as the seat makes it: clean, right, lists in one another at most d deep, at most n long. -/
structure SeatV (d n : Nat) (v : Val) : Prop where
  clean : cleanV v = v
  ok : OkV v
  strange : strangeV v = false
  great : ∀ e : Int, (d : Int) ≤ e → greatV v e = false
  size : sizeV v ≤ n
theorem SeatV.check {d n : Nat} {v : Val} (h : SeatV d n v) (hd : d ≤ 8) (hn : n ≤ 4096) : checkV v = 0 := by
  unfold checkV
  have h1 := h.size
  rw [h.strange, h.great 8 (by omega), if_neg (by simp), if_neg (by simp; omega)]
theorem SeatV.mono {d n d' n' : Nat} {v : Val} (h : SeatV d n v) (hd : d ≤ d') (hn : n ≤ n') : SeatV d' n' v := ⟨h.clean, h.ok, h.strange, fun e he => h.great e (by omega), Nat.le_trans h.size hn⟩
theorem seat_int {i : Int} (hi : -9223372036854775808 ≤ i ∧ i ≤ 9223372036854775807) : SeatV 0 9 (.mk 1 i 0 [] []) :=
  ⟨rfl, .mk (by decide) hi (by simp) (by simp), by simp [strangeV], fun e _ => by simp [greatV], by simp [sizeV]⟩
theorem seat_float {f : Nat} (hf : f < 18446744073709551616) : SeatV 0 9 (.mk 2 0 (cb f) [] []) :=
  ⟨by simp [cleanV, cb_cb], .mk (cb_lt hf) (by decide) (by simp) (by simp), by simp [strangeV], fun e _ => by simp [greatV], by simp [sizeV]⟩
theorem seat_text {s : List UInt8} (hs : s.length ≤ 200) : SeatV 0 (3 + s.length) (.mk 3 0 0 s []) :=
  ⟨by simp [cleanV], .mk (by decide) (by decide) (by simp) (by simp), by simp [strangeV], fun e _ => by simp [greatV]; omega, by simp [sizeV]⟩
theorem seat_list {d n : Nat} {l : List Val} (h : ∀ v ∈ l, SeatV d n v) (hl : l.length ≤ 64) : SeatV (d + 1) (2 + l.length * n) (.mk 4 0 0 [] l) := by
  refine ⟨?_, .mk (by decide) (by decide) (fun v hv => (h v hv).ok) (by omega), ?_, fun e he => ?_, ?_⟩
  · unfold cleanV
    rw [if_neg (by decide), if_neg (by decide), if_neg (by decide), if_pos rfl, cleanL_map]
    congr 1
    conv => rhs; rw [← List.map_id l]
    exact List.map_congr_left (fun v hv => (h v hv).clean)
  · unfold strangeV
    rw [strangeL_any]
    simp
    intro v hv
    exact (h v hv).strange
  · unfold greatV
    rw [if_neg (by decide), if_pos rfl]
    have : greatL l (e - 1) = false := by
      clear hl
      induction l with
      | nil => rfl
      | cons v l ih =>
        unfold greatL
        rw [(h v (List.mem_cons_self ..)).great (e - 1) (by omega), ih (fun u hu => h u (List.mem_cons_of_mem _ hu))]
        rfl
    rw [this]
    simp
    omega
  · unfold sizeV
    rw [if_neg (by decide), if_neg (by decide), if_pos rfl]
    have : sizeL l ≤ l.length * n := by
      clear hl
      induction l with
      | nil => simp [sizeL]
      | cons v l ih =>
        unfold sizeL
        have h1 := (h v (List.mem_cons_self ..)).size
        have h2 := ih (fun u hu => h u (List.mem_cons_of_mem _ hu))
        rw [List.length_cons, Nat.add_mul]
        omega
    omega
theorem own_leaf (w : World) (P : Nat → Prop) (k i : Int) (f : Nat) (s : List UInt8) : VOwn w P (.mk k i f s []) #[.int .i64 k, .int .i64 i, .float .f64 f, .string (bstr s), .slice none 0 0] :=
  .mk (l := []) (A := none) (c := 0) (xs := []) (fun _ => #[]) (by simp) Own.none_ (by simp [bOf]) (by simp) (by simp)
theorem bstr_data (S : ByteArray) : bstr S.data.toList = S := by cases S; simp [bstr]

/-- A value of the seat, in new memory. -/
def ValS (d n : Nat) (w : World) (e : Ending) (w' : World) : Prop :=
  ∃ v cs, e = .returned (.agg cs) ∧ VOwn w' (fun g => w.heap.size ≤ g) v cs ∧ SeatV d n v ∧ Below w.heap.size w w'
theorem ValS.mono {d n d' n' : Nat} {w w' : World} {e : Ending} (h : ValS d n w e w') (hd : d ≤ d') (hn : n ≤ n') : ValS d' n' w e w' := by
  obtain ⟨v, cs, h1, h2, h3, h4⟩ := h
  exact ⟨v, cs, h1, h2, h3.mono hd hn, h4⟩

theorem text_says (S : ByteArray) (w : World) : Calls Try.prog 52 #[.string S] w (Says w (.agg #[.int .i64 3, .int .i64 0, .float .f64 0, .string S, .slice none 0 0])) := by
  have hsf := fun a k x m w => run_store_float (P := Try.prog) a k x m w
  go_enter Try.func52, Try.ntmps52
  go_wp2_with fail
  have hb := Blk.new w 37 #[.int .i64 3, .int .i64 0, .float .f64 0, .string S, .slice none 0 0]
  refine bodyPost_ret ?hr rfl ⟨rfl, (Below.refl _ w).alloc (Nat.le_refl _) _⟩
  case hr => exact results_cell_row rfl _ _ w.heap.size 37 _ (0, 0) _ rfl hb Try.underlying37 rfl (by kernel_rfl)
theorem float_says (f : Nat) (w : World) : Calls Try.prog 51 #[.float .f64 f] w (Says w (.agg #[.int .i64 2, .int .i64 0, .float .f64 (cb f), .string ⟨#[]⟩, .slice none 0 0])) := by
  have hsf := fun a k x m w => run_store_float (P := Try.prog) a k x m w
  have hcan := fun w => ref_canon f w
  go_enter Try.func51, Try.ntmps51
  go_wp2_with fail
  refine (hcan _).mono ?_
  rintro e w2 ⟨rfl, rfl⟩
  try dsimp only
  go_wp2_with fail
  have hb := Blk.new w 37 #[.int .i64 2, .int .i64 0, .float .f64 (cb f), .string ⟨#[]⟩, .slice none 0 0]
  refine bodyPost_ret ?hr rfl ⟨rfl, (Below.refl _ w).alloc (Nat.le_refl _) _⟩
  case hr => exact results_cell_row rfl _ _ w.heap.size 37 _ (0, 0) _ rfl hb Try.underlying37 rfl (by kernel_rfl)
theorem text_val {S : ByteArray} (w : World) (h : S.size ≤ 100) : Calls Try.prog 52 #[.string S] w (fun e w' => e = .returned (.agg #[.int .i64 3, .int .i64 0, .float .f64 0, .string S, .slice none 0 0]) ∧ VOwn w' (fun g => w.heap.size ≤ g) (.mk 3 0 0 S.data.toList []) #[.int .i64 3, .int .i64 0, .float .f64 0, .string S, .slice none 0 0] ∧ SeatV 0 103 (.mk 3 0 0 S.data.toList []) ∧ Below w.heap.size w w') := by
  refine (text_says S w).mono fun e w' h' => ⟨h'.1, ?_, ?_, h'.2⟩
  · have := own_leaf w' (fun g => w.heap.size ≤ g) 3 0 0 S.data.toList
    rw [bstr_data] at this
    exact this
  · have hl : S.data.toList.length = S.size := Array.length_toList
    exact (seat_text (by omega)).mono (Nat.le_refl _) (by omega)
theorem int_val {i : Int} (w : World) (hi : -9223372036854775808 ≤ i ∧ i ≤ 9223372036854775807) : Calls Try.prog 22 #[.int .i64 i] w (fun e w' => e = .returned (.agg #[.int .i64 1, .int .i64 i, .float .f64 0, .string ⟨#[]⟩, .slice none 0 0]) ∧ VOwn w' (fun g => w.heap.size ≤ g) (.mk 1 i 0 [] []) #[.int .i64 1, .int .i64 i, .float .f64 0, .string ⟨#[]⟩, .slice none 0 0] ∧ SeatV 0 103 (.mk 1 i 0 [] []) ∧ Below w.heap.size w w') :=
  (int_ref i w).mono fun e w' h' => ⟨h'.1, own_leaf w' _ 1 i 0 [], (seat_int hi).mono (Nat.le_refl _) (by decide), h'.2⟩
theorem float_val {f : Nat} (w : World) (hf : f < 18446744073709551616) : Calls Try.prog 51 #[.float .f64 f] w (fun e w' => e = .returned (.agg #[.int .i64 2, .int .i64 0, .float .f64 (cb f), .string ⟨#[]⟩, .slice none 0 0]) ∧ VOwn w' (fun g => w.heap.size ≤ g) (.mk 2 0 (cb f) [] []) #[.int .i64 2, .int .i64 0, .float .f64 (cb f), .string ⟨#[]⟩, .slice none 0 0] ∧ SeatV 0 103 (.mk 2 0 (cb f) [] []) ∧ Below w.heap.size w w') :=
  (float_says f w).mono fun e w' h' => ⟨h'.1, own_leaf w' _ 2 0 (cb f) [], (seat_float hf).mono (Nat.le_refl _) (by decide), h'.2⟩

end Go.Proofs.Ytgdhiihfcngjbaa
