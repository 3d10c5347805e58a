/-
  The program's iterator over words walked.
-/
import Derived.Test.YtdaglmoibijdeaaDoorIRange
import Derived.Shelf.Abstract
import Derived.WalkKit
import Derived.OwnWalkIn
import Derived.TacticsInMore
import Derived.LoopNIn
import Derived.LoopIn
namespace Go.Proofs.YtdaglmoibijdeaaDoor.IIter
open Go Go.RowKit Go.Shelf Base Words INum IVal ISum IRange
set_option linter.unusedVariables false
set_option linter.unusedSimpArgs false
attribute [local go_sem] Oper.semAt_some

/-- The words of a string: so many as go in. -/
def wordAt (s : ByteArray) (k : Nat) : Int := val (fun j => bt s (4 * k + j)) 4
def wordsL (s : ByteArray) : List Int := (List.range (s.size / 4)).map (wordAt s)
theorem wordsL_len (s : ByteArray) : (wordsL s).length = s.size / 4 := by simp [wordsL]
theorem wordsL_at (s : ByteArray) (k : Nat) (h : k < (wordsL s).length) : (wordsL s)[k] = wordAt s k := by simp [wordsL]
theorem bt_extract (s : ByteArray) (a b j : Nat) (hb : b ≤ s.size) (h : a + j < b) : bt (s.extract a b) j = bt s (a + j) := by
  rw [bt_at _ (j := j) (by rw [ByteArray.size_extract]; omega), bt_at _ (j := a + j) (by omega)]
  congr 2
  simp [ByteArray.getElem_eq_getElem_data, ByteArray.data_extract]
theorem val_congr {p q : Nat → Int} : ∀ n, (∀ j, j < n → p j = q j) → val p n = val q n
  | 0, _ => rfl
  | n + 1, h => by simp only [val]; rw [val_congr n (fun j hj => h j (by omega)), h n (by omega)]
theorem ext_all (s : ByteArray) : s.extract 0 s.size = s := by
  apply ByteArray.ext
  simp [ByteArray.data_extract]
theorem ext_next (s : ByteArray) (k : Nat) (h : 4 * k + 4 ≤ s.size) : (s.extract (4 * (k + 1)) s.size).size < (s.extract (4 * k) s.size).size := by
  simp only [ByteArray.size_extract]
  omega
/-- How much is left, read off the world. -/
def leftIn (B : Nat) (w : World) : Nat := match w.cell? ⟨B, 0, none⟩ with
  | some (.string s) => s.size
  | _ => 0
theorem left_of {B : Nat} {w : World} {t : ByteArray} (h : Blk w B 9 #[.string t]) : leftIn B w = t.size := by
  unfold leftIn
  rw [h.cell 0]
  rfl
theorem value_at (t : ByteArray) (h : 4 ≤ t.size) (w : World) :
    Calls Tryd.prog 18 #[.string (t.extract 0 4)] w fun e w' => e = .returned (.int .u32 (val (fun j => bt t j) 4)) ∧ w = w' := by
  have hs : (t.extract 0 4).size = 4 := by rw [ByteArray.size_extract]; omega
  have := value_any (t.extract 0 4) (by omega) w
  rw [hs, val_congr (q := fun j => bt t j) 4 (fun j hj => by rw [bt_extract t 0 4 j h (by omega), Nat.zero_add])] at this
  exact this
theorem words_iter (B : Nat) (s : ByteArray) (hs : s.size ≤ maxLen) (w : World) (hB : Blk w B 9 #[.string s]) : Iter Tryd.prog 26 B (wordsL s) w := by
  intro l J Jx W hW sJ sJx hY h0
  have HB0 := hide (hB.below hW hB.lt)
  clear hB hW
  unfold maxLen at hs
  refine callsIn_of_wp Tryd.func26 rfl trivial ?_ rfl
  simp only [Tryd.ntmps26, List.size_toArray, List.length_cons, List.length_nil, Nat.reduceAdd, Nat.reduceSub, Array.replicate_succ, Array.replicate_zero, List.push_toArray, List.append_toArray, List.nil_append, List.cons_append]
  gi_wp2
  gi_loopw [] (fun wr => ∃ k : Nat, k ≤ (wordsL s).length ∧ J k wr ∧ Hid (Blk wr B 9 #[.string (s.extract (4 * k) s.size)])) (fun wr => leftIn B wr)
  case atStart => exact ⟨0, by omega, h0, by rw [Nat.mul_zero, ext_all]; exact HB0⟩
  case round =>
    clear HB0
    obtain ⟨k, hk, hJ, hB⟩ := hrel
    have hc := Blk.cell hB.out 0
    have hf := Blk.frozen hB.out 0
    have hleft : leftIn B wr = (s.extract (4 * k) s.size).size := by unfold leftIn; rw [hc]; rfl
    have HLF := hide hleft
    have hlen := wordsL_len s
    have hsz : (s.extract (4 * k) s.size).size = s.size - 4 * k := by rw [ByteArray.size_extract]; omega
    by_cases hlt : k < (wordsL s).length
    · have hge : 4 ≤ (s.extract (4 * k) s.size).size := by omega
      have hgi : (4 : Int) ≤ ((s.extract (4 * k) s.size).size : Int) := by omega
      have V := hide (fun w => value_at (s.extract (4 * k) s.size) hge w)
      have ew : val (fun j => bt (s.extract (4 * k) s.size) j) 4 = (wordsL s)[k] := by
        rw [wordsL_at]
        exact val_congr 4 (fun j hj => bt_extract s (4 * k) s.size j (Nat.le_refl _) (by omega))
      rw [ew] at V
      have e2 : (s.extract (4 * k) s.size).extract 4 (s.extract (4 * k) s.size).size = s.extract (4 * (k + 1)) s.size := by
        apply ByteArray.ext
        simp only [ByteArray.data_extract, ByteArray.size_extract, Array.extract_extract]
        congr 1 <;> omega
      have h2 := hide (ext_next s k (by omega))
      obtain ⟨fn, tmps, assign, body, hy, hR⟩ := hY k hlt wr hJ
      have HE2 := hide e2
      have HSZ := hide hsz
      have hs1 : ∀ W, (Instr.slice 9 (.string (s.extract (4 * k) s.size)) none (some (.int .i64 4)) none).run Tryd.prog W = .ok (.string ((s.extract (4 * k) s.size).extract 0 4)) W := fun W =>
        run_slice_string_h (P := Tryd.prog) W _ _ Tryd.underlying9 .i64 4 (by omega) (by omega)
      clear ew e2 hsz hlen hleft
      generalize hx : (wordsL s)[k] = x at *
      clear hx
      generalize s.extract (4 * k) s.size = t at *
      gi_wp2_with fail
      refine ⟨trivial, rfl, (callsIn_wide.2 (V.out _)).mono ?_⟩
      rintro e w1 ⟨rfl, rfl⟩
      gi_wp2_with fail
      refine ⟨rfl, hR.mono ?_⟩
      rintro e W3 (⟨rfl, hJ3, hk3⟩ | ⟨rfl, hJx3⟩)
      · have hB3 : Blk W3 B 9 #[.string t] := hk3.trans hB.out
        have HJ4 := hide (sJ _ _ _ (some B) hJ3 (only_setCell (World.grownBy.refl W3 (some B)) (p := ⟨B, 0, none⟩) (Or.inl rfl) (.string (t.extract 4 t.size))) (fun r e => by cases e; rfl))
        have HB4 := hide (hB3.set_ 0 (.string (t.extract 4 t.size)))
        clear hc hf hs1 hR hy
        have hc := hB3.cell 0
        have hf := hB3.frozen 0
        have hs1 : ∀ W, (Instr.slice 9 (.string t) (some (.int .i64 4)) none none).run Tryd.prog W = .ok (.string (t.extract 4 t.size)) W := fun W =>
          run_slice_string_l (P := Tryd.prog) W _ _ Tryd.underlying9 .i64 4 (by omega) (by omega)
        gi_wp2_with fail
        go_roundw
        case rel => exact ⟨k + 1, hlt, HJ4.out, by rw [← HE2.out]; exact HB4⟩
        case measure =>
          rw [HLF.out, left_of (t := t.extract 4 t.size) HB4.out, HE2.out]
          exact h2.out
      · gi_wp2_with fail
        refine bodyPost_ret (results_none rfl _ _ _) rfl ?_
        exact ⟨⟨_, rfl⟩, Or.inr ⟨k, hlt, hJx3⟩⟩
    · obtain rfl : k = (wordsL s).length := by omega
      have hge : ¬ (4 : Int) ≤ ((s.extract (4 * (wordsL s).length) s.size).size : Int) := by omega
      clear hlen hsz hleft hlt hk hY HLF hc hf
      have hc := Blk.cell hB.out 0
      have hf := Blk.frozen hB.out 0
      generalize s.extract (4 * (wordsL s).length) s.size = t at *
      gi_wp2_with fail
      go_end0
      exact ⟨⟨_, rfl⟩, Or.inl hJ⟩
end Go.Proofs.YtdaglmoibijdeaaDoor.IIter
