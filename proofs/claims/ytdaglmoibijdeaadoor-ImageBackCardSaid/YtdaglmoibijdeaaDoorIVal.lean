/-
  Bytes as numbers, the lowest first: value of the program; bytes and value of the document; sums.
-/
import Derived.Test.YtdaglmoibijdeaaDoorINum
namespace Go.Proofs.YtdaglmoibijdeaaDoor.IVal
open Go.RowKit Base Words INum
set_option linter.unusedVariables false
set_option linter.unusedSimpArgs false

def val (q : Nat → Int) : Nat → Int
  | 0 => 0
  | k + 1 => val q k + q k * (256 ^ k : Nat)
theorem val_bd {q : Nat → Int} {n : Nat} (h : ∀ j, j < n → 0 ≤ q j ∧ q j ≤ 255) : ∀ k, k ≤ n → 0 ≤ val q k ∧ val q k < (256 ^ k : Nat)
  | 0, _ => by simp [val]
  | k + 1, hk => by
    obtain ⟨h1, h2⟩ := val_bd h k (by omega)
    obtain ⟨h3, h4⟩ := h k (by omega)
    have hp : (0 : Int) ≤ (256 ^ k : Nat) := by omega
    have h5 := Int.mul_nonneg h3 hp
    have h6 := Int.mul_le_mul_of_nonneg_right h4 hp
    rw [Nat.pow_succ]
    simp only [val]
    omega
theorem u32_or_add (v y : Int) (k : Nat) (hk : k ≤ 3) (v0 : 0 ≤ v) (v1 : v < (256 ^ k : Nat)) (y0 : 0 ≤ y) (y1 : y ≤ 255) : bits .or .u32 v (y * (256 ^ k : Nat)) = v + y * (256 ^ k : Nat) := by
  obtain ⟨m, rfl⟩ := Int.eq_ofNat_of_zero_le v0
  obtain ⟨z, rfl⟩ := Int.eq_ofNat_of_zero_le y0
  have hp : 256 ^ k = 2 ^ (8 * k) := by rw [Nat.pow_mul]
  have hle : 256 ^ k ≤ 256 ^ 3 := Nat.pow_le_pow_right (by omega) hk
  have hm : m < 2 ^ (8 * k) := by rw [← hp]; omega
  have hz : z * 256 ^ k ≤ 255 * 256 ^ 3 := Nat.mul_le_mul (by omega) hle
  have e1 : ((z : Int) * ((256 ^ k : Nat) : Int)) = ((z * 256 ^ k : Nat) : Int) := by simp
  rw [e1, u32_or_nat m (z * 256 ^ k) (by omega) (by omega), Nat.or_comm, Nat.mul_comm, hp, ← Nat.two_pow_add_eq_or_of_lt hm, Int.natCast_add, Int.add_comm]
/-- A string's byte. -/
def bt (s : ByteArray) (j : Nat) : Int := if h : j < s.size then ((s[j]'h).toNat : Int) else 0
theorem bt_bd (s : ByteArray) (j : Nat) : 0 ≤ bt s j ∧ bt s j ≤ 255 := by
  unfold bt
  split
  · rename_i h
    have := (s[j]'h).toNat_lt
    omega
  · omega
theorem bt_at (s : ByteArray) {j : Nat} (h : j < s.size) : bt s j = ((s[j]'h).toNat : Int) := by simp [bt, h]
def upv (q : Nat → Int) : Nat → Nat → Int
  | _, 0 => 0
  | k, m + 1 => q k + 256 * upv q (k + 1) m
theorem upv_val (q : Nat → Int) : ∀ m k, upv q k m * (256 ^ k : Nat) + val q k = val q (k + m)
  | 0, k => by simp [upv]
  | m + 1, k => by
    have h := upv_val q m (k + 1)
    have e : val q (k + 1) = val q k + q k * (256 ^ k : Nat) := rfl
    rw [show k + (m + 1) = k + 1 + m by omega, ← h, e]
    simp only [upv]
    have hp : ((256 ^ (k + 1) : Nat) : Int) = 256 * (256 ^ k : Nat) := by rw [Nat.pow_succ]; simp [Int.mul_comm]
    rw [hp]
    generalize ((256 ^ k : Nat) : Int) = P
    rw [Int.add_mul, Int.mul_assoc 256 _ P, Int.mul_left_comm 256 _ P]
    omega
theorem upv_zero (q : Nat → Int) (n : Nat) : upv q 0 n = val q n := by
  have h := upv_val q n 0
  simp [val] at h
  exact h
theorem upv_bd {q : Nat → Int} (h : ∀ j, 0 ≤ q j ∧ q j ≤ 255) : ∀ m k, 0 ≤ upv q k m ∧ upv q k m ≤ (256 ^ m : Nat) - 1
  | 0, k => by simp [upv]
  | m + 1, k => by
    obtain ⟨h1, h2⟩ := upv_bd h m (k + 1)
    obtain ⟨h3, h4⟩ := h k
    simp only [upv]
    rw [Nat.pow_succ]
    omega
theorem value_any (s : ByteArray) (hs : s.size ≤ 4) (w : World) :
    Calls Tryd.prog 18 #[.string s] w fun e w' => e = .returned (.int .u32 (val (bt s) s.size)) ∧ w = w' := by
  have HB := hide (bt_bd s)
  go_enter Tryd.func18, Tryd.ntmps18
  go_wp2_with fail
  go_loop [3, 7] (fun x i => ∃ k : Nat, k ≤ s.size ∧ i = .int .i64 k ∧ x = .int .u32 (val (bt s) k)) (fun _ i => s.size - (intOf i).toNat)
  case atStart => exact ⟨0, by omega, rfl, rfl⟩
  case round =>
    obtain ⟨k, hk, rfl, rfl⟩ := hrel
    by_cases hlt : k < s.size
    · have hk8 : k = 0 ∨ k = 1 ∨ k = 2 ∨ k = 3 := by omega
      have hb := bt_at s hlt
      obtain ⟨q0, q1⟩ := HB.out k
      obtain ⟨v0, v1⟩ := val_bd (q := bt s) (n := s.size) (fun j _ => HB.out j) k hk
      have hlt' : (k : Int) < (s.size : Int) := by omega
      have hval : val (bt s) (k + 1) = val (bt s) k + bt s k * (256 ^ k : Nat) := rfl
      rw [hb] at hval q0 q1
      clear hb
      generalize val (bt s) k = v at *
      rcases hk8 with rfl | rfl | rfl | rfl
      · have hor := u32_or_add v ((s[0]'hlt).toNat : Int) 0 (by omega) v0 v1 q0 q1
        rw [show ((256 ^ 0 : Nat) : Int) = 1 from rfl] at hor hval
        rw [Int.mul_one] at hor hval
        have HV := hide hval
        have HOR := hide hor
        clear hor hval
        go_wp2_with fail
        go_round
        case rel =>
          refine ⟨0 + 1, by omega, by go_num, ?_⟩
          rw [HV.out, ← HOR.out]
        case measure => simp [intOf]; omega
      · have hor := u32_or_add v ((s[1]'hlt).toNat : Int) 1 (by omega) v0 v1 q0 q1
        rw [show ((256 ^ 1 : Nat) : Int) = 256 from rfl] at hor hval
        have HV := hide hval
        have HOR := hide hor
        clear hor hval
        go_wp2_with fail
        go_round
        case rel =>
          refine ⟨1 + 1, by omega, by go_num, ?_⟩
          rw [HV.out, ← HOR.out]
        case measure => simp [intOf]; omega
      · have hor := u32_or_add v ((s[2]'hlt).toNat : Int) 2 (by omega) v0 v1 q0 q1
        rw [show ((256 ^ 2 : Nat) : Int) = 65536 from rfl] at hor hval
        have HV := hide hval
        have HOR := hide hor
        clear hor hval
        go_wp2_with fail
        go_round
        case rel =>
          refine ⟨2 + 1, by omega, by go_num, ?_⟩
          rw [HV.out, ← HOR.out]
        case measure => simp [intOf]; omega
      · have hor := u32_or_add v ((s[3]'hlt).toNat : Int) 3 (by omega) v0 v1 q0 q1
        rw [show ((256 ^ 3 : Nat) : Int) = 16777216 from rfl] at hor hval
        have HV := hide hval
        have HOR := hide hor
        clear hor hval
        go_wp2_with fail
        go_round
        case rel =>
          refine ⟨3 + 1, by omega, by go_num, ?_⟩
          rw [HV.out, ← HOR.out]
        case measure => simp [intOf]; omega
    · obtain rfl : k = s.size := by omega
      have hlt' : ¬ ((s.size : Int) < (s.size : Int)) := by omega
      go_wp2
      go_ret
      exact ⟨rfl, rfl⟩
theorem valueR_any (s : ByteArray) (hs : s.size ≤ 8) (w : World) :
    Calls Tryd.prog 22 #[.string s] w fun e w' => e = .returned (.int .u64 (val (bt s) s.size)) ∧ w = w' := by
  have HB := hide (bt_bd s)
  go_enter Tryd.func22, Tryd.ntmps22
  go_wp2_with fail
  go_loop [3, 4] (fun x i => ∃ k m : Nat, k + m = s.size ∧ i = .int .i64 ((k : Int) - 1) ∧ x = .int .u64 (upv (bt s) k m)) (fun _ i => ((intOf i) + 1).toNat)
  case atStart => exact ⟨s.size, 0, by omega, rfl, rfl⟩
  case round =>
    obtain ⟨k, m, hk, rfl, rfl⟩ := hrel
    rcases Nat.eq_zero_or_pos k with hz | hz
    · subst hz
      obtain rfl : m = s.size := by omega
      have HU := hide (upv_zero (bt s) s.size)
      clear hk
      go_wp2
      go_ret
      rw [HU.out]
      exact ⟨rfl, rfl⟩
    · obtain ⟨k, rfl⟩ : ∃ k', k = k' + 1 := ⟨k - 1, by omega⟩
      have e1 : ((k + 1 : Nat) : Int) - 1 = (k : Int) := by omega
      rw [e1]
      clear e1
      obtain ⟨u0, u1⟩ := upv_bd HB.out m (k + 1)
      have hm7 : 256 ^ m ≤ 256 ^ 7 := Nat.pow_le_pow_right (by omega) (by omega)
      have u2 : upv (bt s) (k + 1) m ≤ 72057594037927935 := by omega
      have hks : k < s.size := by omega
      have hb := bt_at s hks
      have HU : Hid (upv (bt s) k (m + 1) = bt s k + 256 * upv (bt s) (k + 1) m) := hide rfl
      rw [hb] at HU
      clear hb u1 hm7
      generalize upv (bt s) (k + 1) m = x at *
      have hby := (s[k]'hks).toNat_lt
      go_wp2
      go_round
      case rel =>
        refine ⟨k, m + 1, by omega, rfl, ?_⟩
        rw [HU.out]
        go_num
      case measure => simp [intOf]
def bytesB (x : Int) (m : Nat) : List UInt8 := (List.range m).map fun k => UInt8.ofNat (byteN x k).toNat
theorem bytesB_succ (x : Int) (m : Nat) : bytesB x (m + 1) = bytesB x m ++ [UInt8.ofNat (byteN x m).toNat] := by simp [bytesB, List.range_succ]
theorem byteN_bd (x : Int) (k : Nat) : 0 ≤ byteN x k ∧ byteN x k ≤ 255 := by unfold byteN; omega
theorem conv_one (w : World) (b : Int) (h0 : 0 ≤ b) (h1 : b ≤ 255) :
    (convert 34 9 (.slice (some ⟨w.heap.size, 0, none⟩) 1 1)).run Tryd.prog (w.alloc (.cells #[.int .u8 b] 5)) = .ok (.string ⟨#[UInt8.ofNat b.toNat]⟩) (w.alloc (.cells #[.int .u8 b] 5)) := by
  have h := run_convert_bytes_back (P := Tryd.prog) (w.alloc (.cells #[.int .u8 b] 5)) 34 9 5 ⟨w.heap.size, 0, none⟩ 1 [UInt8.ofNat b.toNat] Tryd.underlying34 Tryd.underlying5 Tryd.underlying9 (fun j hj => by
    obtain rfl : j = 0 := by simpa using hj
    have e : (⟨w.heap.size, 0, none⟩ : Addr).add 0 = ⟨w.heap.size, 0, none⟩ := by unfold Addr.add; rfl
    rw [e, (Blk.new w 5 #[.int .u8 b]).cell 0]
    have : b.toNat < 256 := by omega
    simp [UInt8.toNat_ofNat, Nat.mod_eq_of_lt this]
    omega)
  exact h
theorem str_add (a b : Array UInt8) : ((⟨a⟩ : ByteArray) ++ ⟨b⟩) = ⟨a ++ b⟩ := by
  apply ByteArray.ext
  simp [ByteArray.data_append]
theorem div_next (x : Int) (k : Nat) : x / (256 ^ k : Nat) / 256 = x / (256 ^ (k + 1) : Nat) := by
  rw [Int.ediv_ediv, if_neg (fun h => Int.not_lt.mpr (Int.natCast_nonneg _) h.1), Int.sub_zero, Nat.pow_succ, Int.natCast_mul]
  rfl
theorem numberR_any (x : Int) (m : Nat) (hm : m ≤ 8) (x0 : 0 ≤ x) (x1 : x ≤ 18446744073709551615) (w : World) :
    Calls Tryd.prog 20 #[.int .u64 x, .int .i64 (m : Int)] w fun e w' => e = .returned (.string ⟨(bytesB x m).toArray⟩) ∧ Below w.heap.size w w' := by
  go_enter Tryd.func20, Tryd.ntmps20
  go_wp2_with fail
  go_loopw [0, 5, 6] (fun y s i wr => ∃ k : Nat, k ≤ m ∧ y = .int .u64 (x / (256 ^ k : Nat)) ∧ s = .string ⟨(bytesB x k).toArray⟩ ∧ i = .int .i64 k ∧ Hid (Below w.heap.size w wr)) (fun _ _ i _ => m - (intOf i).toNat)
  case atStart => exact ⟨0, by omega, by simp, rfl, rfl, hide (Below.refl _ _)⟩
  case round =>
    obtain ⟨k, hk, rfl, rfl, rfl, hB⟩ := hrel
    by_cases hlt : k < m
    · have hlt' : (k : Int) < (m : Int) := by omega
      have hb := byteN_bd x k
      have HC := conv_one wr (byteN x k) hb.1 hb.2
      have HS := hide (bytesB_succ x k)
      have HD := hide (div_next x k)
      have y0 : 0 ≤ x / (256 ^ k : Nat) := Int.ediv_nonneg x0 (Int.natCast_nonneg _)
      have y1 : x / (256 ^ k : Nat) ≤ 18446744073709551615 := Int.le_trans (Int.ediv_le_self _ x0) x1
      have hbe : byteN x k = x / (256 ^ k : Nat) % 256 := rfl
      have HBE := hide hbe
      rw [hbe] at HC
      have hl : (bytesB x k).length = k := by simp [bytesB]
      clear hb hbe
      generalize x / (256 ^ k : Nat) = y at *
      go_wp2_with fail
      go_roundw
      case rel =>
        refine ⟨k + 1, by omega, by rw [← HD.out], ?_, by go_num, hide (hB.out.alloc hB.out.size _)⟩
        rw [str_add, HS.out, HBE.out]
        simp
      case measure => simp [intOf]; omega
    · obtain rfl : k = m := by omega
      have hlt' : ¬ ((k : Int) < (k : Int)) := by omega
      go_wp2
      go_ret
      exact ⟨rfl, hB.out⟩
end Go.Proofs.YtdaglmoibijdeaaDoor.IVal
