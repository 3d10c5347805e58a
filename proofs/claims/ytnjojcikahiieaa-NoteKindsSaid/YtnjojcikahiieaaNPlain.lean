/-
  Whether a note may be, in plain words; what the two texts answer is that.
-/
import Derived.Test.YtnjojcikahiieaaNSmall
namespace Go.Proofs.Ytnjojcikahiieaa.NPlain
open Go.RowKit Base Blks NRec NSmall
set_option linter.unusedVariables false

def whoN (n : NT) : Int := if homeB n.K then n.Fr else n.To
def atN (n : NT) : Int := if homeB n.K then n.To else n.Fr
def restN (n : NT) : Bool :=
  (stampB n.K || n.St == 0) && (if n.K = 6 then decide (1 ≤ n.S ∧ n.S ≤ 3) else n.S == 0) && (n.K == 3 || !n.Sk) && (if n.K = 3 ∨ n.K = 6 then n.Ha else if n.K = 9 then true else !n.Ha) && (n.Ha || eqB n.f (fun _ => 0))
def mayN (n : NT) : Bool := decide (1 ≤ n.K ∧ n.K ≤ 11) && decide (0 ≤ n.B ∧ n.B ≤ 255) && coreB (whoN n) && (atN n == -1) && restN n
theorem eqB_self (f : Nat → Int) : eqB f f = true := eqB_true fun _ _ => rfl
theorem mayN_out {n : NT} (h : ¬ (1 ≤ n.K ∧ n.K ≤ 11) ∨ ¬ (0 ≤ n.B ∧ n.B ≤ 255)) : mayN n = false := by
  unfold mayN
  rcases h with h | h
  · rw [decide_eq_false h]; simp
  · rw [decide_eq_false h]; simp
theorem mayN_core {n : NT} (h : coreB (whoN n) = false) : mayN n = false := by simp [mayN, h]
theorem mayN_at {n : NT} (h : (atN n == -1) = false) : mayN n = false := by simp [mayN, h]
theorem mayN_in {n : NT} (h0 : 1 ≤ n.K) (h1 : n.K ≤ 11) (b0 : 0 ≤ n.B) (b1 : n.B ≤ 255) (hc : coreB (whoN n) = true) (ha : (atN n == -1) = true) : mayN n = restN n := by
  simp [mayN, h0, h1, b0, b1, hc, ha]
end Go.Proofs.Ytnjojcikahiieaa.NPlain
