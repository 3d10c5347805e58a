/-
  slices.Equal walked, on slices of words.
-/
import Derived.Test.YtdaglmoibijdeaaDoorITakeT
import Derived.Deep.QuietTactic
import Derived.BigQuiet
namespace Go.Proofs.YtdaglmoibijdeaaDoor.IEq
open Go Go.RowKit Base Words ITake ITakeT
set_option linter.unusedVariables false
set_option linter.unusedSimpArgs false
set_option maxRecDepth 100000

/-- A slice that reads as words, wherever it lies. -/
def WordsAt (w : World) (A : Option Addr) (l : List Int) : Prop := ∃ B, B ≤ w.heap.size ∧ Reads w B 1 A l.length (rowV l)
theorem WordsAt.below {w w' : World} {A : Option Addr} {l : List Int} (h : WordsAt w A l) (hb : Below w.heap.size w w') : WordsAt w' A l := by
  obtain ⟨B, hB, hR⟩ := h
  exact ⟨B, Nat.le_trans hB hb.size, hR.keep (fun p hp => hb.cell (by omega))⟩
theorem WordsAt.drewN {w : World} {A : Option Addr} {l : List Int} (h : WordsAt w A l) (k : Nat) : WordsAt (w.drewN k) A l := h
theorem WordsAt.at_ {w : World} {A : Option Addr} {l : List Int} (h : WordsAt w A l) {k : Nat} (hk : k < l.length) : ∃ ad, A = some ad ∧ w.cell? (ad.add k) = some (.int .u32 l[k]) := by
  obtain ⟨B, hB, hR⟩ := h
  obtain ⟨ad, u, e, _, hu, hc⟩ := hR.at_ hk
  have : u = .int .u32 l[k] := by simp [rowV, hk] at hu; exact hu.symm
  exact ⟨ad, e, by rw [← this]; exact hc⟩
theorem WordsAt.of_own {w : World} {base : Nat} {A : Option Addr} {n cap : Nat} {l : List Int} (h : w.ownsRow base 28 1 (.slice A n cap) n (rowV l)) : n = l.length ∧ WordsAt w A l := by
  have hl : n = l.length := by have := h.1; simp [rowV] at this; omega
  subst hl
  exact ⟨rfl, w.heap.size, Nat.le_refl _, Reads.of_own h⟩
theorem equal_len (A B : Option Addr) (n m c d : Nat) (h : n ≠ m) (w : World) :
    Calls Tryd.prog 15 #[.slice A n c, .slice B m d] w fun e w' => e = .returned (.bool false) ∧ w = w' := by
  have h1 : ((n : Int) != (m : Int)) = true := by rw [bne_iff_ne]; omega
  go_enter Tryd.func15, Tryd.ntmps15
  go_wp2
  go_ret
  exact ⟨rfl, rfl⟩
theorem equal_same (A B : Option Addr) (c d : Nat) (l : List Int) (hl : l.length ≤ 1000000) (w : World) (hA : WordsAt w A l) (hB : WordsAt w B l) :
    Calls Tryd.prog 15 #[.slice A l.length c, .slice B l.length d] w fun e w' => e = .returned (.bool true) ∧ Below w.heap.size w w' := by
  have HA := hide hA
  have HB := hide hB
  clear hA hB
  go_enter Tryd.func15, Tryd.ntmps15
  go_wp2_with fail
  go_loopw [13] (fun i wr => ∃ k n : Nat, k ≤ l.length ∧ i = .int .i64 k ∧ Hid (wr = w.drewN n)) (fun i _ => l.length - (intOf i).toNat)
  case atStart => exact ⟨0, 0, by omega, rfl, hide rfl⟩
  case round =>
    obtain ⟨k, n, hk, rfl, hW⟩ := hrel
    by_cases hlt : k < l.length
    · obtain ⟨a1, hA1, c1⟩ := HA.out.at_ hlt
      obtain ⟨a2, hA2, c2⟩ := HB.out.at_ hlt
      have d1 : wr.cell? (a1.add k) = some (.int .u32 l[k]) := by rw [hW.out]; exact c1
      have d2 : wr.cell? (a2.add k) = some (.int .u32 l[k]) := by rw [hW.out]; exact c2
      subst hA1 hA2
      have hlt' : (k : Int) < (l.length : Int) := by omega
      clear c1 c2
      generalize l[k] = x at *
      go_wp2_with fail
      go_quiet (fail)
      have HW : Hid (wr.drewN nq = w.drewN (n + nq)) := hide (by rw [hW.out]; exact World.drewN_drewN _ _ _)
      clear hW d1 d2
      go_wp2_with fail
      go_roundw
      case rel => exact ⟨k + 1, n + nq, by omega, by go_num, HW⟩
      case measure => simp [intOf]; omega
    · obtain rfl : k = l.length := by omega
      have hlt' : ¬ ((l.length : Int) < (l.length : Int)) := by omega
      have HB2 : Hid (Below w.heap.size w wr) := hide (by rw [hW.out]; exact bdrewN (Below.refl _ _) n)
      clear hW
      go_wp2_with fail
      go_ret
      exact ⟨rfl, HB2.out⟩
end Go.Proofs.YtdaglmoibijdeaaDoor.IEq
