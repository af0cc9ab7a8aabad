/- The language's own panics, as this program meets them; what they are told by. -/
import Derived.Test.YtffpkencgbiafaaDoorRows
import Derived.Test.YtffpkencgbiafaaDoorKit
import Derived.Test.YtffpkencgbiafaaDoorVals2
import Derived.Laws.PanicsMore
import Derived.Laws.Externs
import Derived.Stop.Asserts
import Derived.WalkKit
set_option linter.unusedSimpArgs false
set_option linter.unusedVariables false
namespace Go.Proofs.YtffpkencgbiafaaDoor
open Go.RowKit
set_option maxRecDepth 100000

theorem rt_bounds : Tryd.prog.rt.boundsError = 8 := by kernel_rfl
theorem rt_error : Tryd.prog.rt.errorString = 10 := by kernel_rfl
theorem rt_plain : Tryd.prog.rt.plainError = 11 := by kernel_rfl
/-- The panics of the language's own: bounds, an error's text, a plain text. -/
inductive PanV : Bool → Value → Prop
  | bounds (x y : Int) (s : Bool) (c : Nat) (hc : c < 8) : PanV false (.iface 8 (.agg #[.int .i64 x, .int .i64 y, .bool s, .int .u8 (c : Int)]))
  | text (m : String) : PanV false (.iface 10 (strVal m))
  | plain : PanV true (.iface 11 (strVal "assignment to entry in nil map"))
def TextOk : Bool → ByteArray → Prop
  | false, t => 14 < t.size ∧ t.extract 0 14 = ⟨#[114, 117, 110, 116, 105, 109, 101, 32, 101, 114, 114, 111, 114, 58]⟩
  | true, t => 10 < t.size ∧ t.extract 0 10 = ⟨#[97, 115, 115, 105, 103, 110, 109, 101, 110, 116]⟩
theorem run_time_text (r : String) : TextOk false ("runtime error: " ++ r).toUTF8 := by
  have e : ("runtime error: " ++ r).toUTF8 = "runtime error: ".toUTF8 ++ r.toUTF8 := by simp
  rw [e]
  have h1 : "runtime error: ".toUTF8 = ⟨#[114, 117, 110, 116, 105, 109, 101, 32, 101, 114, 114, 111, 114, 58, 32]⟩ := rfl
  rw [h1]
  generalize r.toUTF8 = b
  refine ⟨by rw [ByteArray.size_append]; show 14 < 15 + _; omega, ?_⟩
  obtain ⟨⟨d⟩⟩ := b
  show (ByteArray.mk _ ++ ByteArray.mk _).extract 0 14 = _
  rw [ByteArray.mk_append_mk]
  have := bstr_extract ([114, 117, 110, 116, 105, 109, 101, 32, 101, 114, 114, 111, 114, 58, 32] ++ d) 0 14
  exact this
theorem plain_text : TextOk true "assignment to entry in nil map".toUTF8 := by
  have h1 : "assignment to entry in nil map".toUTF8 = ⟨#[97, 115, 115, 105, 103, 110, 109, 101, 110, 116, 32, 116, 111, 32, 101, 110, 116, 114, 121, 32, 105, 110, 32, 110, 105, 108, 32, 109, 97, 112]⟩ := rfl
  rw [h1]
  exact ⟨by decide, rfl⟩

theorem err_bounds (x y : Int) (s : Bool) (c : Nat) (hc : c < 8) : ∃ t, TextOk false t ∧ ∀ w, (callFunc 53 #[.agg #[.int .i64 x, .int .i64 y, .bool s, .int .u8 (c : Int)]]).run Tryd.prog w = .ok (.value (.string t)) w := by
  obtain ⟨fmt, hf⟩ : ∃ fmt, (if s && x < 0 then Extern.RuntimeError.boundsNegErrorFmts else Extern.RuntimeError.boundsErrorFmts)[c]? = some fmt := by
    split
    · exact ⟨_, List.getElem?_eq_getElem (by show c < 8; exact hc)⟩
    · exact ⟨_, List.getElem?_eq_getElem (by show c < 9; omega)⟩
  refine ⟨_, run_time_text (String.replace (String.replace fmt "%x" (toString (if s then x else IntKind.u64.wrap x))) "%y" (toString y)), fun w => ?_⟩
  rw [run_callFunc_extern Tryd.func53 (by kernel_rfl) (by kernel_rfl) (by kernel_rfl) (e := Extern.RuntimeError.boundsError) (by kernel_rfl)]
  have hb : Extern.RuntimeError.boundsError #[.agg #[.int .i64 x, .int .i64 y, .bool s, .int .u8 (c : Int)]] = (match (if s && x < 0 then Extern.RuntimeError.boundsNegErrorFmts else Extern.RuntimeError.boundsErrorFmts)[(c : Int).toNat]? with
    | some fmt => Extern.RuntimeError.text ("runtime error: " ++ (fmt.replace "%x" (toString (if s then x else IntKind.u64.wrap x))).replace "%y" (toString y))
    | none => stuck "boundsError: no such code") := rfl
  rw [hb, Int.toNat_natCast, hf]
  rfl
theorem err_text (m : String) (w : World) : (callFunc 55 #[strVal m]).run Tryd.prog w = .ok (.value (.string ("runtime error: " ++ m).toUTF8)) w := by
  rw [run_callFunc_extern Tryd.func55 (by kernel_rfl) (by kernel_rfl) (by kernel_rfl) (e := fun args => do pure (.string ("runtime error: ".toUTF8 ++ (← asString (args.getD 0 (.tuple #[])))))) (by kernel_rfl)]
  simp [strVal, asString]
theorem err_plain (w : World) : (callFunc 57 #[strVal "assignment to entry in nil map"]).run Tryd.prog w = .ok (.value (.string "assignment to entry in nil map".toUTF8)) w := by
  rw [run_callFunc_extern Tryd.func57 (by kernel_rfl) (by kernel_rfl) (by kernel_rfl) (e := fun args => do pure (.string (← asString (args.getD 0 (.tuple #[]))))) (by kernel_rfl)]
  simp [strVal, asString]
theorem types_size : Tryd.prog.types.size = 105 := by kernel_rfl
theorem meth_bounds (rv : Value) (w : World) : Sem.run Tryd.prog (method 205 8 rv "Error") w = .ok (53, rv) w := by kernel_rfl
theorem meth_error (rv : Value) (w : World) : Sem.run Tryd.prog (method 205 10 rv "Error") w = .ok (55, rv) w := by kernel_rfl
theorem meth_plain (rv : Value) (w : World) : Sem.run Tryd.prog (method 205 11 rv "Error") w = .ok (57, rv) w := by kernel_rfl
set_option maxHeartbeats 3200000 in
theorem told_text {b : Bool} {v : Value} (h : PanV b v) (w : World) : Calls Tryd.prog 24 #[v] w (fun e w' => ∃ t, e = .returned (.string t) ∧ TextOk b t ∧ w' = w) := by
  have hs8 : ∀ v w, (Instr.typeAssert (.iface 8 v) 20 9 true).run Tryd.prog w = .ok (.tuple #[.string ⟨#[]⟩, .bool false]) w := fun v w => by simp [Instr.typeAssert, go_sem]
  have hs10 : ∀ v w, (Instr.typeAssert (.iface 10 v) 20 9 true).run Tryd.prog w = .ok (.tuple #[.string ⟨#[]⟩, .bool false]) w := fun v w => by simp [Instr.typeAssert, go_sem]
  have hs11 : ∀ v w, (Instr.typeAssert (.iface 11 v) 20 9 true).run Tryd.prog w = .ok (.tuple #[.string ⟨#[]⟩, .bool false]) w := fun v w => by simp [Instr.typeAssert, go_sem]
  have he8 := fun v w => run_typeAssert_hasB (P := Tryd.prog) (t := 8) Tryd.underlying69 (by kernel_rfl) v 20 w
  have he10 := fun v w => run_typeAssert_hasB (P := Tryd.prog) (t := 10) Tryd.underlying69 (by kernel_rfl) v 20 w
  have he11 := fun v w => run_typeAssert_hasB (P := Tryd.prog) (t := 11) Tryd.underlying69 (by kernel_rfl) v 20 w
  have m8 := meth_bounds
  have hts := types_size
  have m10 := meth_error
  have m11 := meth_plain
  cases h with
  | bounds x y s c hc =>
    obtain ⟨t, ht, her⟩ := err_bounds x y s c hc
    go_enter Tryd.func24, Tryd.ntmps24
    go_wp2_with fail
    go_ret
    exact ⟨t, rfl, ht, rfl⟩
  | text m =>
    have her := err_text m
    have ht := run_time_text m
    generalize ("runtime error: " ++ m).toUTF8 = t at *
    generalize strVal m = q at *
    go_enter Tryd.func24, Tryd.ntmps24
    go_wp2_with fail
    go_ret
    exact ⟨t, rfl, ht, rfl⟩
  | plain =>
    have her := err_plain
    have ht := plain_text
    generalize "assignment to entry in nil map".toUTF8 = t at *
    generalize strVal "assignment to entry in nil map" = q at *
    go_enter Tryd.func24, Tryd.ntmps24
    go_wp2_with fail
    go_ret
    exact ⟨t, rfl, ht, rfl⟩
end Go.Proofs.YtffpkencgbiafaaDoor
