/-
  number of the program on a slice that is full: the first append lays a new row.
-/
import Derived.Test.YtdaglmoibijdeaaDoorITakeT
import Derived.ArgAppend
import Derived.Lib.SlBytesConst
namespace Go.Proofs.YtdaglmoibijdeaaDoor.IFirst
open Go Go.RowKit Base Words INum IVal
set_option linter.unusedVariables false
set_option linter.unusedSimpArgs false

theorem below_of_none {w w' : World} (hg : w.grownBy w' none) : Below w.heap.size w w' := ⟨hg.os, hg.tape, hg.output, hg.size, fun i hi => hg.block i hi (by simp)⟩
theorem own_mono {w : World} {base base' : Nat} {e : TypeId} {size : Nat} {v : Value} {n : Nat} {xs : List Value} (h : w.ownsRow base e size v n xs) (hb : base' ≤ base) : w.ownsRow base' e size v n xs := by
  refine ⟨h.1, ?_⟩
  rcases h.2 with h | ⟨g, cap, cur, h1, h2, h3⟩
  · exact Or.inl h
  · exact Or.inr ⟨g, cap, cur, h1, Nat.le_trans hb h2, h3⟩
theorem add_zero_off (b j : Nat) : (⟨b, 0, none⟩ : Addr).add j = ⟨b, j, none⟩ := by unfold Addr.add; split <;> simp_all
set_option maxHeartbeats 1000000 in
theorem number_first (b n : Nat) (olds : List Value) (hlo : olds.length = n) (x : Int) (x0 : 0 ≤ x) (x1 : x ≤ 65535) (hn : n ≤ 1000) (w : World) (hb : b < w.heap.size) (hc : ∀ j u, olds[j]? = some u → w.cell? ⟨b, j, none⟩ = some u) :
    Calls Tryd.prog 16 #[.slice (some ⟨b, 0, none⟩) n n, .int .u32 x, .int .i64 2] w fun e w' => ∃ v', e = .returned v' ∧ w'.ownsRow w.heap.size 5 1 v' (n + 2) (olds ++ bytesV x 2) ∧ Below w.heap.size w w' := by
  obtain ⟨i0, hi0, hz0, hz1, hz2⟩ := info_parts info5
  have HC := hide hc
  clear hc
  have e0 : x % 256 = byteN x 0 := by simp [byteN]
  have e1 : x / 256 = byteN x 1 := by simp [byteN]; omega
  have HE0 := hide e0
  have HE1 := hide e1
  clear e0 e1
  go_enter Tryd.func16, Tryd.ntmps16
  go_wp2_with fail
  go_loopw [0, 9] (fun s i wr => ∃ (k : Nat) (v' : Value), k ≤ 2 ∧ i = .int .i64 k ∧ v' = s ∧ Hid (k = 0 → v' = .slice (some ⟨b, 0, none⟩) n n ∧ wr = w) ∧ Hid (0 < k → wr.ownsRow w.heap.size 5 1 v' (n + k) (olds ++ bytesV x k)) ∧ Hid (Below w.heap.size w wr)) (fun _ i _ => 2 - (intOf i).toNat)
  case atStart => exact ⟨0, _, by omega, rfl, rfl, hide (fun _ => ⟨rfl, rfl⟩), hide (fun h => absurd h (by omega)), hide (Below.refl _ _)⟩
  case round =>
    obtain ⟨k, v', hk, rfl, rfl, hZ, hO, hG⟩ := hrel
    have hk3 : k = 0 ∨ k = 1 ∨ k = 2 := by omega
    rcases hk3 with rfl | rfl | rfl
    · obtain ⟨rfl, rfl⟩ := hZ.out rfl
      clear hZ hO hG
      have HN : Hid (∀ j u, olds[j]? = some u → (wr.alloc (.cells #[.int .u8 (x % 256)] 5)).cell? ((⟨b, 0, none⟩ : Addr).add j) = some u) := hide (fun j u hj => by
        rw [add_zero_off]
        exact (World.cell?_alloc_lt wr _ ⟨b, j, none⟩ hb).trans (HC.out j u hj))
      have HR := hide (cell_one_new wr (.int .u8 (x % 256)) 5)
      have HO1 := hide (one_int (k := .u8) (x % 256))
      have hm1 : n + 1 ≤ maxLen := by unfold maxLen; omega
      have HB := hide hb
      have HLO := hide (show olds.length = n * 1 by omega)
      clear hlo
      go_wp2_with (first
        | (at_builtin; refine wpList_append_grows _ rfl (.tmp 12) (.tmp 18) 34 rfl 5 i0 _ 1 1 Tryd.underlying34 hi0 hz0 hz1 hz2 rfl (by omega) (some ⟨b, 0, none⟩) n n olds rfl (fun h => by cases h) HLO.out (fun b' e => by cases e; exact HN.out) ⟨wr.heap.size, 0, none⟩ 1 1 [.int .u8 (x % 256)] rfl rfl HR.out HO1.out (by omega) hm1 (by omega) ?_; intro v6 w6 hown6 hg6; have HOWN6 := hide hown6; have HG6 := hide hg6; clear hown6 hg6))
      have HO7 : Hid (w6.ownsRow wr.heap.size 5 1 v6 (n + 1) (olds ++ bytesV x 1)) := hide (by
        have h := own_mono HOWN6.out (base' := wr.heap.size) (by simp)
        rw [HE0.out] at h
        exact h)
      have HG7 : Hid (Below wr.heap.size wr w6) := hide (((Below.refl wr.heap.size wr).alloc (Nat.le_refl _) _).trans ((below_of_none HG6.out).mono (by simp)))
      clear HOWN6 HG6
      go_roundw
      case rel => exact ⟨0 + 1, v6, by omega, by go_num, rfl, hide (fun h => absurd h (by omega)), hide (fun _ => HO7.out), HG7⟩
      case measure => simp [intOf]
    · have hO' := hide (hO.out (by omega))
      have HR := hide (reads_one wr 5 (.int .u8 (x / 256)))
      have HO1 := hide (one_int (k := .u8) (x / 256))
      have hbz := hG.out.size
      have HOWN := hide (hO'.out.alloc (.cells #[.int .u8 (x / 256)] 5))
      have hm1 : n + 1 + 1 ≤ maxLen := by unfold maxLen; omega
      have HZ : Hid (w.heap.size ≤ (wr.alloc (.cells #[.int .u8 (x / 256)] 5)).heap.size) := hide (by simp; omega)
      clear hZ hO hlo
      go_wp2_with (first
        | (at_builtin; refine wpList_append_any _ rfl (.tmp 12) (.tmp 18) 34 rfl w.heap.size 5 i0 _ 1 1 Tryd.underlying34 hi0 hz0 hz1 hz2 rfl (by omega) v' (n + 1) (olds ++ bytesV x 1) rfl HOWN.out (wr.heap.size + 1) (some ⟨wr.heap.size, 0, none⟩) 1 1 [.int .u8 (x / 256)] rfl HR.out HO1.out hm1 (by omega) HZ.out ?_; intro v6 w6 hown6 hg6 hat6; have HOWN6 := hide hown6; have HG6 := hide hg6; clear hown6 hg6 hat6))
      have HO7 : Hid (w6.ownsRow w.heap.size 5 1 v6 (n + 2) (olds ++ bytesV x 2)) := hide (by
        have h := HOWN6.out
        rw [HE1.out, List.append_assoc, ← bytesV_succ] at h
        exact h)
      have HG7 : Hid (Below w.heap.size w w6) := hide ((hG.out.alloc hG.out.size _).grown HG6.out HZ.out (fun g hg => (HOWN.out.lt g hg).1))
      clear HOWN6 HG6 HOWN
      go_roundw
      case rel => exact ⟨1 + 1, v6, by omega, by go_num, rfl, hide (fun h => absurd h (by omega)), hide (fun _ => HO7.out), HG7⟩
      case measure => simp [intOf]
    · have hO' := hide (hO.out (by omega))
      clear hZ hO
      go_wp2_with fail
      go_ret
      exact ⟨_, rfl, hO'.out, hG.out⟩
end Go.Proofs.YtdaglmoibijdeaaDoor.IFirst
