/-
  The plain law of the layer 'plan': which plans may be, in plain integers. No program in sight.
-/
import Derived.Test.YtnhfbdjjbmhnkaaBase
namespace Go.Proofs.Ytnhfbdjjbmhnkaa.PPlain
open Go.RowKit

/-- The k-th field of a plan, and its bounds. -/
def fld (c0 c1 c2 c3 c4 c5 c6 c7 : Int) (k : Nat) : Int :=
  match k with | 0 => c0 | 1 => c1 | 2 => c2 | 3 => c3 | 4 => c4 | 5 => c5 | 6 => c6 | _ => c7
def lo (k : Nat) : Int := match k with | 7 => 0 | _ => 1
def hi (k : Nat) : Int := match k with | 0 => 16 | 1 => 16 | 2 => 4 | 3 => 256 | 4 => 4 | 5 => 4 | _ => 8
/-- A power of two, up to 16. -/
def pow2 (n : Int) : Bool := decide (n = 1 ∨ n = 2 ∨ n = 4 ∨ n = 8 ∨ n = 16)
def inB (c0 c1 c2 c3 c4 c5 c6 c7 : Int) : Bool :=
  decide (1 ≤ c0 ∧ c0 ≤ 16 ∧ 1 ≤ c1 ∧ c1 ≤ 16 ∧ 1 ≤ c2 ∧ c2 ≤ 4 ∧ 1 ≤ c3 ∧ c3 ≤ 256 ∧ 1 ≤ c4 ∧ c4 ≤ 4 ∧ 1 ≤ c5 ∧ c5 ≤ 4 ∧ 1 ≤ c6 ∧ c6 ≤ 8 ∧ 0 ≤ c7 ∧ c7 ≤ 8)
/-- Whether a plan may be. -/
def mayB (c0 c1 c2 c3 c4 c5 c6 c7 : Int) : Bool := inB c0 c1 c2 c3 c4 c5 c6 c7 && pow2 c1 && pow2 c2 && decide (c0 * c4 < c3)

theorem inB_false {c0 c1 c2 c3 c4 c5 c6 c7 : Int} {k : Nat} (hk : k < 8) (h : fld c0 c1 c2 c3 c4 c5 c6 c7 k < lo k ∨ hi k < fld c0 c1 c2 c3 c4 c5 c6 c7 k) : inB c0 c1 c2 c3 c4 c5 c6 c7 = false := by
  have : k = 0 ∨ k = 1 ∨ k = 2 ∨ k = 3 ∨ k = 4 ∨ k = 5 ∨ k = 6 ∨ k = 7 := by omega
  unfold inB
  rw [decide_eq_false_iff_not]
  rcases this with rfl | rfl | rfl | rfl | rfl | rfl | rfl | rfl <;> simp only [fld, lo, hi] at h <;> omega
theorem inB_true {c0 c1 c2 c3 c4 c5 c6 c7 : Int} (h : ∀ k, k < 8 → lo k ≤ fld c0 c1 c2 c3 c4 c5 c6 c7 k ∧ fld c0 c1 c2 c3 c4 c5 c6 c7 k ≤ hi k) : inB c0 c1 c2 c3 c4 c5 c6 c7 = true := by
  have h0 := h 0 (by omega)
  have h1 := h 1 (by omega)
  have h2 := h 2 (by omega)
  have h3 := h 3 (by omega)
  have h4 := h 4 (by omega)
  have h5 := h 5 (by omega)
  have h6 := h 6 (by omega)
  have h7 := h 7 (by omega)
  simp only [fld, lo, hi] at h0 h1 h2 h3 h4 h5 h6 h7
  unfold inB
  rw [decide_eq_true_iff]
  omega
theorem inB_iff {c0 c1 c2 c3 c4 c5 c6 c7 : Int} : inB c0 c1 c2 c3 c4 c5 c6 c7 = true ↔
    (1 ≤ c0 ∧ c0 ≤ 16 ∧ 1 ≤ c1 ∧ c1 ≤ 16 ∧ 1 ≤ c2 ∧ c2 ≤ 4 ∧ 1 ≤ c3 ∧ c3 ≤ 256 ∧ 1 ≤ c4 ∧ c4 ≤ 4 ∧ 1 ≤ c5 ∧ c5 ≤ 4 ∧ 1 ≤ c6 ∧ c6 ≤ 8 ∧ 0 ≤ c7 ∧ c7 ≤ 8) := by
  unfold inB
  rw [decide_eq_true_iff]
theorem upto16 {p : Int → Prop} (h : ∀ k : Fin 16, p ((k.val : Int) + 1)) {m : Int} (h0 : 1 ≤ m) (h1 : m ≤ 16) : p m := by
  have := h ⟨(m - 1).toNat, by omega⟩
  rwa [show (((⟨(m - 1).toNat, by omega⟩ : Fin 16).val : Int) + 1) = m from by simp; omega] at this
theorem and_pow {n : Int} (h0 : 1 ≤ n) (h1 : n ≤ 16) : (bits .and .i64 n (n - 1) == 0) = pow2 n :=
  upto16 (p := fun n => (bits .and .i64 n (n - 1) == 0) = pow2 n) (by decide +kernel) h0 h1
theorem prod_bd {a b : Int} (h0 : 1 ≤ a ∧ a ≤ 16) (h4 : 1 ≤ b ∧ b ≤ 4) : 1 ≤ a * b ∧ a * b ≤ 64 := by
  constructor
  · have := Int.mul_le_mul h0.1 h4.1 (by omega) (by omega); omega
  · have := Int.mul_le_mul h0.2 h4.2 (by omega) (by omega); omega
end Go.Proofs.Ytnhfbdjjbmhnkaa.PPlain
