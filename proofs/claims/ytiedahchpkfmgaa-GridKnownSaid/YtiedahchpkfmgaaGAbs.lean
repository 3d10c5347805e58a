/-
  The floats' small functions walked: Float64bits, Float64frombits, archTrunc, Trunc, Abs, whole, is.
-/
import Derived.Test.YtiedahchpkfmgaaProg
import Derived.Test.YtiedahchpkfmgaaBase
import Derived.Test.YtiedahchpkfmgaaFl
import Derived.Laws.Externs
namespace Go.Proofs.Ytiedahchpkfmgaa.GAbs
open Go Ieee Go.RowKit Base Fl
set_option linter.unusedVariables false
set_option linter.unusedSimpArgs false

theorem ext_bits (args : Array Value) (w : World) : (callFunc 22 args).run Try.prog w = (((Extern.MathFloatBits.float64bits) args).run Try.prog w).andThen fun v w' => .ok (.value v) w' :=
  run_callFunc_extern Try.func22 (by kernel_rfl) (by kernel_rfl) (by kernel_rfl) (by kernel_rfl) args w
theorem ext_from (args : Array Value) (w : World) : (callFunc 21 args).run Try.prog w = (((Extern.MathFloatBits.float64frombits) args).run Try.prog w).andThen fun v w' => .ok (.value v) w' :=
  run_callFunc_extern Try.func21 (by kernel_rfl) (by kernel_rfl) (by kernel_rfl) (by kernel_rfl) args w
theorem ext_trunc (args : Array Value) (w : World) : (callFunc 24 args).run Try.prog w = ((((Extern.MathFloor.toIntegral "math.archTrunc" .zero)) args).run Try.prog w).andThen fun v w' => .ok (.value v) w' :=
  run_callFunc_extern Try.func24 (by kernel_rfl) (by kernel_rfl) (by kernel_rfl) (by kernel_rfl) args w
theorem run_bits (x : Nat) (w : World) : (Extern.MathFloatBits.float64bits #[.float .f64 x]).run Try.prog w = .ok (.int .u64 x) w := rfl
theorem run_from (n : Int) (w : World) : (Extern.MathFloatBits.float64frombits #[.int .u64 n]).run Try.prog w = .ok (.float .f64 n.toNat) w := rfl
theorem run_trunc (x : Nat) (s : Bool) (m : Nat) (p : Int) (h : double.read x = .number s m p) (v : Nat) (hv : double.write ((Datum.number s m p).integral .zero) = v) (w : World) :
    (Extern.MathFloor.toIntegral "math.archTrunc" .zero #[.float .f64 x]).run Try.prog w = .ok (.float .f64 v) w := by
  subst hv
  have h' : FloatKind.f64.decode x = .number s m p := h
  have e : Extern.MathFloor.toIntegral "math.archTrunc" .zero #[.float .f64 x] = (match FloatKind.f64.decode x with
    | .nan s t =>
      if FloatKind.f64.format.quiet t = t then pure (.float .f64 x) else do
      let kept ← choose (.extern "math.Floor,Ceil,Trunc,RoundToEven.signallingNaN kept" 2)
      pure (.float .f64 (if kept == 1 then x else FloatKind.f64.encode (.nan s (FloatKind.f64.format.quiet t))))
    | d => pure (.float .f64 (FloatKind.f64.encode (d.integral .zero)))) := rfl
  rw [e, h']
  rfl
/-- The sign struck. -/
theorem andnot (r : Nat) (s : Bool) (h : r < 9223372036854775808) : bits .andNot .u64 (double.word s r : Nat) 9223372036854775808 = (r : Int) := by
  have hw : double.word s r < 2 ^ 64 := by unfold Format.word; rw [sgn]; split <;> omega
  have hm := (word_mod s h).2
  rw [sgn] at hm
  unfold bits
  show IntKind.u64.wrap (BitVec.ofInt 64 (double.word s r : Nat) &&& ~~~ (BitVec.ofInt 64 9223372036854775808)).toNat = (r : Int)
  have e1 : ~~~ (BitVec.ofInt 64 9223372036854775808) = BitVec.ofNat 64 (2 ^ 63 - 1) := by decide
  rw [e1, BitVec.toNat_and, BitVec.ofInt_natCast, BitVec.toNat_ofNat, BitVec.toNat_ofNat, Nat.mod_eq_of_lt hw, show (2 ^ 63 - 1) % 2 ^ 64 = 2 ^ 63 - 1 by decide, Nat.and_two_pow_sub_one_eq_mod]
  rw [show double.word s r % 2 ^ 63 = r from hm]
  simp [IntKind.wrap, IntKind.signed, IntKind.bits]
  omega
theorem trunc_any (x : Nat) (s : Bool) (m : Nat) (p : Int) (h : double.read x = .number s m p) (v : Nat) (hv : double.write ((Datum.number s m p).integral .zero) = v) (w : World) :
    Calls Try.prog 23 #[.float .f64 x] w fun e w' => e = .returned (.float .f64 v) ∧ w = w' := by
  have h1 := ext_trunc
  have h2 := run_trunc x s m p h v hv
  clear h hv
  go_enter Try.func23, Try.ntmps23
  go_wp2
  go_ret
  exact ⟨rfl, rfl⟩
theorem abs_any (s : Bool) (r : Nat) (h : r < 9223372036854775808) (w : World) :
    Calls Try.prog 17 #[.float .f64 (double.word s r)] w fun e w' => e = .returned (.float .f64 r) ∧ w = w' := by
  have h1 := ext_bits
  have h2 := ext_from
  have h3 := run_bits
  have h4 := run_from
  have h5 := andnot r s h
  go_enter Try.func17, Try.ntmps17
  go_wp2
  go_ret
  exact ⟨rfl, rfl⟩
end Go.Proofs.Ytiedahchpkfmgaa.GAbs
