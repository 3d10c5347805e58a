/-
  Bits of unsigned numbers, in plain Lean: a mask of the lowest bits is a rest; '|' of numbers that share no bit is a sum.
-/
import Derived.Laws.BitsAllLaws
namespace Go.Proofs.YtdaglmoibijdeaaDoor.PBits
open Go

theorem u32_mask (x : Int) (j : Nat) (m : Int) (hx : 0 ≤ x) (hx2 : x < 4294967296) (hj : j ≤ 31) (hm : m = 2 ^ j - 1) : bits .and .u32 x m = x % 2 ^ j := by
  have hp : (2 : Nat) ^ j ≤ 2 ^ 31 := Nat.pow_le_pow_right (by omega) hj
  have hp0 : 0 < (2 : Nat) ^ j := Nat.two_pow_pos j
  have hc : ((2 : Int) ^ j) = ((2 ^ j : Nat) : Int) := by simp
  have hm0 : m = ((2 ^ j - 1 : Nat) : Int) := by rw [hm, hc]; omega
  obtain ⟨n, rfl⟩ := Int.eq_ofNat_of_zero_le hx
  rw [hm0, u32_and_nat n (2 ^ j - 1) (by omega) (by omega), Nat.and_two_pow_sub_one_eq_mod, hc]
  simp
theorem u32_or_add (a b : Int) (j : Nat) (hj : j ≤ 31) (q : Int) (ha : a = 2 ^ j * q) (hq : 0 ≤ q) (ha2 : a < 4294967296) (hb : 0 ≤ b) (hb2 : b < 2 ^ j) : bits .or .u32 a b = a + b := by
  have hc : ((2 : Int) ^ j) = ((2 ^ j : Nat) : Int) := by simp
  obtain ⟨n, rfl⟩ := Int.eq_ofNat_of_zero_le hq
  obtain ⟨m, rfl⟩ := Int.eq_ofNat_of_zero_le hb
  have ha' : a = ((2 ^ j * n : Nat) : Int) := by rw [ha, hc]; simp
  have hm : m < 2 ^ j := by rw [hc] at hb2; omega
  by_cases h0 : n = 0
  · subst h0
    have : a = 0 := by rw [ha']; simp
    subst this
    have hp : (2 : Nat) ^ j ≤ 2 ^ 31 := Nat.pow_le_pow_right (by omega) hj
    have := u32_or_nat 0 m (by omega) (by omega)
    simpa using this
  · have hle : 2 ^ j ≤ 2 ^ j * n := Nat.le_mul_of_pos_right _ (by omega)
    have hn2 : 2 ^ j * n < 4294967296 := by omega
    rw [ha', u32_or_nat (2 ^ j * n) m (by omega) (by omega), ← Nat.two_pow_add_eq_or_of_lt hm]
    simp
end Go.Proofs.YtdaglmoibijdeaaDoor.PBits
