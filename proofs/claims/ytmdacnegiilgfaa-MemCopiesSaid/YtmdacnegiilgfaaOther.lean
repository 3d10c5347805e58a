/-
  MemOther walked: what is set is told again, and no other word is otherwise; at any script, any block, word and number. It returns true.
-/
import Derived.Test.YtmdacnegiilgfaaMem
import Derived.Test.YtmdacnegiilgfaaOpens
namespace Go.Proofs.Ytmdacnegiilgfaa.Other
open Go.RowKit Base Mem Opens
set_option linter.unusedVariables false

theorem get_upd_same (f : Nat → Int) (nb : Nat) (b k x : Int) (h : inr nb b k = true) : getOf (upd f nb b k x) nb b k = x := by simp [getOf, upd, h]
theorem get_upd_other (f : Nat → Int) (nb : Nat) (b k x b' k' : Int) (h : ¬ (inr nb b k = true ∧ b' = b ∧ k' = k)) : getOf (upd f nb b k x) nb b' k' = getOf f nb b' k' := by
  unfold getOf
  by_cases h' : inr nb b' k' = true
  · rw [if_pos h', if_pos h']
    unfold upd
    rw [if_neg]
    rintro ⟨hi, he⟩
    apply h
    have g := inr_iff.1 hi
    have g' := inr_iff.1 h'
    unfold idx at he
    exact ⟨hi, by omega, by omega⟩
  · rw [if_neg h', if_neg h']

theorem Rows4.below {w w' : World} {B : Nat} {k0 k1 k2 k3 : IntKind} {A : Option Addr} {n : Nat} {s0 s1 s2 s3 : Nat → Int} (h : Rows4 w B k0 k1 k2 k3 A n s0 s1 s2 s3) (hb : Below B w w') : Rows4 w' B k0 k1 k2 k3 A n s0 s1 s2 s3 := by
  refine ⟨fun hn => ?_, h.2⟩
  obtain ⟨b, off, hA, hB, hc⟩ := h.1 hn
  refine ⟨b, off, hA, hB, fun i hi => ?_⟩
  obtain ⟨c0, c1, c2, c3⟩ := hc i hi
  exact ⟨(hb.cell (p := ⟨b, _, none⟩) hB).trans c0, (hb.cell (p := ⟨b, _, none⟩) hB).trans c1, (hb.cell (p := ⟨b, _, none⟩) hB).trans c2, (hb.cell (p := ⟨b, _, none⟩) hB).trans c3⟩

theorem long (A : Option Addr) (n c : Nat) (block word x b k : Int) (hn : n ≤ maxLen) (h : 400 < n) (w : World) :
    Calls Try.prog 3 #[.slice A n c, .int .i64 block, .int .i64 word, .int .u32 x, .int .i64 b, .int .i64 k] w fun e w' => e = .returned (.bool true) ∧ Below w.heap.size w w' := by
  unfold maxLen at hn
  go_enter Try.func3, Try.ntmps3
  go_wp2_with fail
  refine (works_any _).mono ?_
  rintro e w1 ⟨rfl, hb1⟩
  go_wp2
  go_ret
  exact ⟨rfl, hb1⟩

set_option maxHeartbeats 1000000 in
theorem short (A : Option Addr) (n c : Nat) (block word x b k : Int) (h : n ≤ 400) (s0 s1 s2 s3 : Nat → Int) (w : World) (hR : Rows4 w w.heap.size .i64 .i64 .i64 .u32 A n s0 s1 s2 s3) :
    Calls Try.prog 3 #[.slice A n c, .int .i64 block, .int .i64 word, .int .u32 x, .int .i64 b, .int .i64 k] w fun e w' => e = .returned (.bool true) ∧ Below w.heap.size w w' := by
  have HR := hide hR
  clear hR
  go_enter Try.func3, Try.ntmps3
  go_wp2_with fail
  refine (New_ok 8 (by omega) (by omega) w).mono ?_
  rintro e w1 ⟨rfl, hM1, hb1⟩
  have HM1 := hide hM1
  have HB1 := hide hb1
  clear hM1 hb1
  obtain ⟨D, hD⟩ : ∃ D, D = w.heap.size := ⟨_, rfl⟩
  obtain ⟨p, hp⟩ : ∃ p, p = w.heap.size + 1 := ⟨_, rfl⟩
  rw [← hp, ← hD] at HM1
  have HD := hide hD
  have HP := hide hp
  go_wp2_with fail
  rw [← hp]
  clear hp hD
  go_loopw [33] (fun i wr => ∃ (j : Nat) (f : Nat → Int), j ≤ n ∧ i = .int .i64 j ∧ Hid (MemAt wr p D 8 f) ∧ Hid (Below w.heap.size w wr)) (fun i _ => n - (intOf i).toNat)
  case atStart => exact ⟨0, fun _ => 0, by omega, rfl, HM1, HB1⟩
  case round =>
    obtain ⟨j, f, hj, rfl, hM, hB⟩ := hrel
    by_cases hlt : j < n
    · obtain ⟨bb, off, rfl, hbb, hcs⟩ := (Rows4.below HR.out hB.out).1 (by omega)
      obtain ⟨q0, q1, q2, q3⟩ := hcs j hlt
      clear hcs
      have hsz := hB.out.size
      go_wp2_with fail
      refine (SetWord_any p D 8 f _ _ _ _ (hM.out.below ((Below.refl _ _).alloc (Nat.le_refl _) _))).mono ?_
      rintro e w2 ⟨rfl, hM2, hg2⟩
      have hB2 := hide ((hB.out.alloc hsz _).grown hg2 (by simp; omega) (by intro g hg; cases hg; have := HD.out; omega))
      have hM2 := hide hM2
      clear hg2
      go_wp2_with fail
      go_roundw
      case rel => exact ⟨j + 1, _, by omega, by go_num, hM2, hB2⟩
      case measure => simp [intOf]; omega
    · have HW := hide (Word_any p D 8 f b k wr hM.out)
      have HS := hide (SetWord_any p D 8 f block word x wr hM.out)
      have hd : decide ((j : Int) < (n : Int)) = false := by simp; omega
      go_wp2_with fail
      refine HW.out.mono ?_
      rintro e wx ⟨rfl, rfl⟩
      go_wp2_with fail
      refine HS.out.mono ?_
      rintro e w2 ⟨rfl, hM2, hg2⟩
      have HW2 := Word_any p D 8 (upd f 8 block word x) b k w2 hM2
      have hB2 := hide (hB.out.grown hg2 hB.out.size (by intro g hg; cases hg; have := HD.out; omega))
      clear hg2 hM2
      by_cases hin : inr 8 block word = true
      · have hi := inr_iff.1 hin
        obtain ⟨i0, i1, i2, i3⟩ := hi
        have he : errOf 8 block word = 0 := by simp [errOf, hin]
        by_cases hs : b = block ∧ k = word
        · obtain ⟨rfl, rfl⟩ := hs
          rw [get_upd_same f 8 b k x hin, he] at HW2
          rw [he]
          generalize getOf f 8 b k = v at *
          have HW2 := hide HW2
          clear hin he
          go_wp2_with fail
          refine HW2.out.mono ?_
          rintro e wx ⟨rfl, rfl⟩
          go_wp2_with fail
          refine (works_any _).mono ?_
          rintro e w3 ⟨rfl, hb3⟩
          go_wp2
          go_ret
          exact ⟨rfl, hB2.out.trans (hb3.mono hB2.out.size)⟩
        · rw [get_upd_other f 8 block word x b k (fun h => hs ⟨h.2.1, h.2.2⟩)] at HW2
          rw [he]
          generalize getOf f 8 b k = v at *
          generalize errOf 8 b k = er at *
          have HW2 := hide HW2
          clear hin he
          by_cases hs1 : b = block
          · have hs2 : ¬ k = word := fun e => hs ⟨hs1, e⟩
            have k1 : (b == block) = true := by rw [beq_iff_eq]; exact hs1
            have k2 : (k == word) = false := by rw [beq_eq_false_iff_ne]; exact hs2
            clear hs hs1 hs2
            go_wp2_with fail
            refine HW2.out.mono ?_
            rintro e wx ⟨rfl, rfl⟩
            go_wp2_with fail
            refine (works_any _).mono ?_
            rintro e w3 ⟨rfl, hb3⟩
            go_wp2
            go_ret
            exact ⟨rfl, hB2.out.trans (hb3.mono hB2.out.size)⟩
          · have k1 : (b == block) = false := by rw [beq_eq_false_iff_ne]; exact hs1
            clear hs hs1
            go_wp2_with fail
            refine HW2.out.mono ?_
            rintro e wx ⟨rfl, rfl⟩
            go_wp2_with fail
            refine (works_any _).mono ?_
            rintro e w3 ⟨rfl, hb3⟩
            go_wp2
            go_ret
            exact ⟨rfl, hB2.out.trans (hb3.mono hB2.out.size)⟩
      · have he : errOf 8 block word = 5 := by simp [errOf, hin]
        rw [get_upd_other f 8 block word x b k (fun h => hin h.1)] at HW2
        rw [he]
        have hno : ¬ (0 ≤ block ∧ block < 8 ∧ 0 ≤ word ∧ word < 16) := fun h => hin (inr_iff.2 (by simpa using h))
        generalize getOf f 8 b k = v at *
        generalize errOf 8 b k = er at *
        have HW2 := hide HW2
        clear hin he
        by_cases t0 : block < 0
        · clear hno
          go_wp2_with fail
          refine HW2.out.mono ?_
          rintro e wx ⟨rfl, rfl⟩
          go_wp2_with fail
          refine (works_any _).mono ?_
          rintro e w3 ⟨rfl, hb3⟩
          go_wp2
          go_ret
          exact ⟨rfl, hB2.out.trans (hb3.mono hB2.out.size)⟩
        by_cases t1 : 8 ≤ block
        · clear hno
          go_wp2_with fail
          refine HW2.out.mono ?_
          rintro e wx ⟨rfl, rfl⟩
          go_wp2_with fail
          refine (works_any _).mono ?_
          rintro e w3 ⟨rfl, hb3⟩
          go_wp2
          go_ret
          exact ⟨rfl, hB2.out.trans (hb3.mono hB2.out.size)⟩
        by_cases t2 : word < 0
        · clear hno
          go_wp2_with fail
          refine HW2.out.mono ?_
          rintro e wx ⟨rfl, rfl⟩
          go_wp2_with fail
          refine (works_any _).mono ?_
          rintro e w3 ⟨rfl, hb3⟩
          go_wp2
          go_ret
          exact ⟨rfl, hB2.out.trans (hb3.mono hB2.out.size)⟩
        have t3 : 16 ≤ word := by omega
        clear hno
        go_wp2_with fail
        refine HW2.out.mono ?_
        rintro e wx ⟨rfl, rfl⟩
        go_wp2_with fail
        refine (works_any _).mono ?_
        rintro e w3 ⟨rfl, hb3⟩
        go_wp2
        go_ret
        exact ⟨rfl, hB2.out.trans (hb3.mono hB2.out.size)⟩

theorem other (A : Option Addr) (n c : Nat) (block word x b k : Int) (hn : n ≤ maxLen) (s0 s1 s2 s3 : Nat → Int) (w : World) (hR : Rows4 w w.heap.size .i64 .i64 .i64 .u32 A n s0 s1 s2 s3) :
    Calls Try.prog 3 #[.slice A n c, .int .i64 block, .int .i64 word, .int .u32 x, .int .i64 b, .int .i64 k] w fun e w' => e = .returned (.bool true) ∧ Below w.heap.size w w' := by
  by_cases h : n ≤ 400
  · exact short A n c block word x b k h s0 s1 s2 s3 w hR
  · exact long A n c block word x b k hn (by omega) w
end Go.Proofs.Ytmdacnegiilgfaa.Other
