/-
  Put and Take of the document walked.
-/
import Derived.Test.YtdaglmoibijdeaaDoorIPut
import Derived.Test.YtdaglmoibijdeaaDoorIEq
import Derived.Test.YtdaglmoibijdeaaDoorCodeRefT
import Derived.Deep.RegionHeld3
namespace Go.Proofs.YtdaglmoibijdeaaDoor.IRef
open Go Go.RowKit Base Words INum IVal ISum ITake ITakeT IIter IPut IEq CodePlain CodeTab
set_option linter.unusedVariables false
set_option linter.unusedSimpArgs false
set_option maxRecDepth 100000

theorem block_lt_of_cell' {w : World} {p : Addr} {v : Value} (h : w.cell? p = some v) : p.block < w.heap.size := World.block_lt_of_cell? w p h
theorem PutR_long (A : Option Addr) (n c : Nat) (hn : 1024 < n) (w : World) :
    Calls Tryd.prog 12 #[.slice A n c] w fun e w' => e = .returned (.tuple #[.string ⟨#[]⟩, .int .i64 2]) ∧ w = w' := by
  have hi : (1024 : Int) < (n : Int) := by omega
  go_enter Tryd.func12, Tryd.ntmps12
  go_wp2
  go_ret2
  exact ⟨rfl, rfl⟩
theorem bytes_at (x : Int) (m : Nat) (hm : m ≤ 8) (x0 : 0 ≤ x) (x1 : x ≤ 18446744073709551615) (w : World) : Calls Tryd.prog 20 #[.int .u64 x, .int .i64 (m : Int)] w fun e w' => e = .returned (.string ⟨(bytesB x m).toArray⟩) ∧ Below w.heap.size w w' := numberR_any x m hm x0 x1 w
theorem sumR_list (bs : List UInt8) (h : bs.length ≤ 1000000) (w : World) : Calls Tryd.prog 13 #[.string ⟨bs.toArray⟩] w fun e w' => e = .returned (.int .u32 (sumL bs)) ∧ w = w' := by
  have hz : (⟨bs.toArray⟩ : ByteArray).size = bs.length := by simp [ByteArray.size]
  have := SumR_any ⟨bs.toArray⟩ (by rw [hz]; unfold maxLen; omega) w
  rw [hz] at this
  exact this
theorem PutR_short (l : List Int) (hl : l.length ≤ 1024) (hin : ∀ x ∈ l, 0 ≤ x ∧ x < 4294967296) (A : Option Addr) (c : Nat) (w : World) (hR : WordsAt w A l) :
    Calls Tryd.prog 12 #[.slice A l.length c] w fun e w' => e = .returned (.tuple #[.string (putS l), .int .i64 (putE l)]) ∧ Below w.heap.size w w' := by
  have P0 := hide (fun w => bytes_at (l.length : Int) 2 (by omega) (by omega) (by omega) w)
  have HR := hide hR
  have hi : ¬ (1024 : Int) < (l.length : Int) := by omega
  have hi2 : (0 : Int) ≤ (l.length : Int) := by omega
  have hcat0 : ¬ 9223372036854775807 < 3 + (bytesB (l.length : Int) 2).length := by rw [bytesB_len]; omega
  clear hR
  go_enter Tryd.func12, Tryd.ntmps12
  go_wp2_with fail
  refine (P0.out _).mono ?_
  rintro e w1 ⟨rfl, hb1⟩
  have HB1 := hide hb1
  clear hb1
  go_wp2_with fail
  go_loopw [4, 5] (fun b i wr => ∃ k : Nat, k ≤ l.length ∧ i = .int .i64 k ∧ b = .string ⟨([85, 84, 1] ++ bytesB (l.length : Int) 2 ++ bodyB (l.take k)).toArray⟩ ∧ Hid ((l.take k).all isB = true) ∧ Hid (Below w.heap.size w wr)) (fun _ i _ => l.length - (intOf i).toNat)
  case atStart =>
    refine ⟨0, by omega, rfl, ?_, hide rfl, HB1⟩
    rw [str_add]
    simp [bodyB]
  case round =>
    clear HB1 P0
    obtain ⟨k, hk, rfl, rfl, hA, hB⟩ := hrel
    by_cases hlt : k < l.length
    · obtain ⟨ad, hAd, hcell⟩ := (HR.out.below hB.out).at_ hlt
      subst hAd
      obtain ⟨x0, x1⟩ := hin l[k] (List.getElem_mem hlt)
      have hlt' : (k : Int) < (l.length : Int) := by omega
      have TK := hide (CodeRefT.take_any l[k] x0 x1 wr)
      have BY := hide (fun w => bytes_at l[k] 4 (by omega) x0 (by omega) w)
      have HALL := hide (fun (h : isB l[k] = false) => all_no hlt h)
      have HANY := hide (fun (h : isB l[k] = true) => all_yes hlt hA.out h)
      have HTK := hide (List.take_succ_eq_append_getElem hlt)
      have HCL := hide (fun w1 (h : Below wr.heap.size wr w1) => ((HR.out.below hB.out).below h).at_ hlt)
      have hcat : ¬ 9223372036854775807 < ([85, 84, 1] ++ bytesB (l.length : Int) 2 ++ bodyB (l.take k)).length + (bytesB l[k] 4).length := by
        rw [List.length_append, List.length_append, bytesB_len, bytesB_len, bodyB_len, List.length_take]
        simp only [List.length_cons, List.length_nil]
        omega
      clear hA
      generalize l[k] = x at *
      generalize hbs : [85, 84, 1] ++ bytesB (l.length : Int) 2 ++ bodyB (l.take k) = bs at *
      have HBS := hide hbs
      clear hbs
      obtain ⟨co, ca, cb, cc, cn, hv⟩ := takeV_form x
      rw [hv] at TK
      clear hv
      rcases Bool.eq_false_or_eq_true (isB x) with hb | hb
      · rw [takeE_yes hb] at TK
        have HG := hide (HANY.out hb)
        clear hb HANY HALL
        go_wp2_with fail
        refine TK.out.mono ?_
        rintro e w6 ⟨rfl, hb6⟩
        have HB6 := hide (hb6.alloc hb6.size (.cells #[.int .u8 co, .int .i64 ca, .int .i64 cb, .int .i64 cc, .int .i64 cn] 38))
        have hc6 : (w6.alloc (.cells #[.int .u8 co, .int .i64 ca, .int .i64 cb, .int .i64 cc, .int .i64 cn] 38)).cell? (ad.add k) = some (.int .u32 x) := (World.cell?_alloc_lt w6 _ _ (Nat.lt_of_lt_of_le (block_lt_of_cell' hcell) hb6.size)).trans ((hb6.cell (p := ad.add k) (block_lt_of_cell' hcell)).trans hcell)
        clear hb6 hcell
        go_wp2_with fail
        refine (BY.out _).mono ?_
        rintro e w7 ⟨rfl, hb7⟩
        have HB7 := hide (below_then HB6.out hb7)
        clear hb7
        go_wp2_with fail
        go_roundw
        case rel =>
          refine ⟨k + 1, by omega, by go_num, ?_, HG, ?_⟩
          · rw [str_add, HTK.out, bodyB_snoc, ← List.append_assoc, HBS.out]
            simp
          · exact hide (below_then hB.out HB7.out)
        case measure => simp [intOf]; omega
      · rw [takeE_no hb] at TK
        have hg : goodL l = false := by unfold goodL; rw [HALL.out hb]; simp
        have HQ := hide (put_no hg)
        clear hb HANY HALL hg
        go_wp2_with fail
        refine TK.out.mono ?_
        rintro e w6 ⟨rfl, hb6⟩
        have HB6 := hide (below_then hB.out (hb6.alloc hb6.size (.cells #[.int .u8 co, .int .i64 ca, .int .i64 cb, .int .i64 cc, .int .i64 cn] 38)))
        clear hb6 hcell
        go_wp2_with fail
        go_ret2
        exact ⟨by rw [HQ.out.1, HQ.out.2]; rfl, HB6.out⟩
    · obtain rfl : k = l.length := by omega
      have hlt' : ¬ ((l.length : Int) < (l.length : Int)) := by omega
      rw [List.take_length] at hA ⊢
      have hg : goodL l = true := by unfold goodL; rw [hA.out, decide_eq_true hl]; rfl
      have HQ := hide (put_yes hg)
      have hil : (imgB l).length = 5 + 4 * l.length := imgB_len l
      have HIM := hide (show img l = imgB l ++ bytesB (sumL (imgB l)) 4 from rfl)
      have heq : [85, 84, 1] ++ bytesB (l.length : Int) 2 ++ bodyB l = imgB l := rfl
      rw [heq]
      clear hA hg heq
      generalize imgB l = bs at *
      have SM := hide (fun w => sumR_list bs (by omega) w)
      obtain ⟨u0, u1⟩ := sumL_bd bs
      have BY := hide (fun w => bytes_at (sumL bs) 4 (by omega) u0 (by omega) w)
      have hcat : ¬ 9223372036854775807 < bs.length + (bytesB (sumL bs) 4).length := by rw [bytesB_len]; omega
      clear hil
      generalize sumL bs = su at *
      go_wp2_with fail
      refine (SM.out _).mono ?_
      rintro e w6 ⟨rfl, rfl⟩
      go_wp2_with fail
      refine (BY.out _).mono ?_
      rintro e w7 ⟨rfl, hb7⟩
      have HB7 := hide (below_then hB.out hb7)
      clear hb7
      go_wp2_with fail
      go_ret2
      have e1 : (⟨bs.toArray⟩ : ByteArray) ++ ⟨(bytesB su 4).toArray⟩ = ⟨(bs ++ bytesB su 4).toArray⟩ := by rw [str_add]; simp
      exact ⟨by rw [HQ.out.1, HQ.out.2, HIM.out, ← e1]; rfl, HB7.out⟩
theorem PutR_any (l : List Int) (hin : ∀ x ∈ l, 0 ≤ x ∧ x < 4294967296) (A : Option Addr) (c : Nat) (w : World) (hR : WordsAt w A l) :
    Calls Tryd.prog 12 #[.slice A l.length c] w fun e w' => e = .returned (.tuple #[.string (putS l), .int .i64 (putE l)]) ∧ Below w.heap.size w w' := by
  by_cases h : l.length ≤ 1024
  · exact PutR_short l h hin A c w hR
  · have hg : goodL l = false := by unfold goodL; rw [decide_eq_false h]; rfl
    rw [(put_no hg).1, (put_no hg).2]
    refine (PutR_long A l.length c (by omega) w).mono ?_
    rintro e w' ⟨rfl, rfl⟩
    exact ⟨rfl, Below.refl _ _⟩
end Go.Proofs.YtdaglmoibijdeaaDoor.IRef
