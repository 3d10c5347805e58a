/-
  Numbers as bytes, the lowest first: number of the document.
-/
import Derived.Test.YtnjojcikahiieaaNVal
namespace Go.Proofs.Ytnjojcikahiieaa.NNumR
open Go.RowKit Base Words NNum NVal
set_option linter.unusedVariables false
set_option linter.unusedSimpArgs false

def bytesB (x : Int) (m : Nat) : List UInt8 := (List.range m).map fun k => UInt8.ofNat (byteN x k).toNat
theorem bytesB_succ (x : Int) (m : Nat) : bytesB x (m + 1) = bytesB x m ++ [UInt8.ofNat (byteN x m).toNat] := by simp [bytesB, List.range_succ]
theorem byteN_bd (x : Int) (k : Nat) : 0 ≤ byteN x k ∧ byteN x k ≤ 255 := by unfold byteN; omega
theorem conv_one (w : World) (b : Int) (h0 : 0 ≤ b) (h1 : b ≤ 255) :
    (convert 42 9 (.slice (some ⟨w.heap.size, 0, none⟩) 1 1)).run Try.prog (w.alloc (.cells #[.int .u8 b] 5)) = .ok (.string ⟨#[UInt8.ofNat b.toNat]⟩) (w.alloc (.cells #[.int .u8 b] 5)) := by
  have h := run_convert_bytes_back (P := Try.prog) (w.alloc (.cells #[.int .u8 b] 5)) 42 9 5 ⟨w.heap.size, 0, none⟩ 1 [UInt8.ofNat b.toNat] Try.underlying42 Try.underlying5 Try.underlying9 (fun j hj => by
    obtain rfl : j = 0 := by simpa using hj
    have e : (⟨w.heap.size, 0, none⟩ : Addr).add 0 = ⟨w.heap.size, 0, none⟩ := by unfold Addr.add; rfl
    rw [e, (Blk.new w 5 #[.int .u8 b]).cell 0]
    have : b.toNat < 256 := by omega
    simp [UInt8.toNat_ofNat, Nat.mod_eq_of_lt this]
    omega)
  exact h
theorem str_add (a b : Array UInt8) : ((⟨a⟩ : ByteArray) ++ ⟨b⟩) = ⟨a ++ b⟩ := by
  apply ByteArray.ext
  simp [ByteArray.data_append]
theorem div_next (x : Int) (k : Nat) : x / (256 ^ k : Nat) / 256 = x / (256 ^ (k + 1) : Nat) := by
  rw [Int.ediv_ediv, if_neg (fun h => Int.not_lt.mpr (Int.natCast_nonneg _) h.1), Int.sub_zero, Nat.pow_succ, Int.natCast_mul]
  rfl
theorem numberR_any (x : Int) (m : Nat) (hm : m ≤ 8) (x0 : 0 ≤ x) (x1 : x ≤ 18446744073709551615) (w : World) :
    Calls Try.prog 24 #[.int .u64 x, .int .i64 (m : Int)] w fun e w' => e = .returned (.string ⟨(bytesB x m).toArray⟩) ∧ Below w.heap.size w w' := by
  go_enter Try.func24, Try.ntmps24
  go_wp2_with fail
  go_loopw [0, 5, 6] (fun y s i wr => ∃ k : Nat, k ≤ m ∧ y = .int .u64 (x / (256 ^ k : Nat)) ∧ s = .string ⟨(bytesB x k).toArray⟩ ∧ i = .int .i64 k ∧ Hid (Below w.heap.size w wr)) (fun _ _ i _ => m - (intOf i).toNat)
  case atStart => exact ⟨0, by omega, by simp, rfl, rfl, hide (Below.refl _ _)⟩
  case round =>
    obtain ⟨k, hk, rfl, rfl, rfl, hB⟩ := hrel
    by_cases hlt : k < m
    · have hlt' : (k : Int) < (m : Int) := by omega
      have hb := byteN_bd x k
      have HC := conv_one wr (byteN x k) hb.1 hb.2
      have HS := hide (bytesB_succ x k)
      have HD := hide (div_next x k)
      have y0 : 0 ≤ x / (256 ^ k : Nat) := Int.ediv_nonneg x0 (Int.natCast_nonneg _)
      have y1 : x / (256 ^ k : Nat) ≤ 18446744073709551615 := Int.le_trans (Int.ediv_le_self _ x0) x1
      have hbe : byteN x k = x / (256 ^ k : Nat) % 256 := rfl
      have HBE := hide hbe
      rw [hbe] at HC
      have hl : (bytesB x k).length = k := by simp [bytesB]
      clear hb hbe
      generalize x / (256 ^ k : Nat) = y at *
      go_wp2_with fail
      go_roundw
      case rel =>
        refine ⟨k + 1, by omega, by rw [← HD.out], ?_, by go_num, hide (hB.out.alloc hB.out.size _)⟩
        rw [str_add, HS.out, HBE.out]
        simp
      case measure => simp [intOf]; omega
    · obtain rfl : k = m := by omega
      have hlt' : ¬ ((k : Int) < (k : Int)) := by omega
      go_wp2
      go_ret
      exact ⟨rfl, hB.out⟩
end Go.Proofs.Ytnjojcikahiieaa.NNumR
