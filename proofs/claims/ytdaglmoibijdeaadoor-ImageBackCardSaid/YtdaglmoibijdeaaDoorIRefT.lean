/-
  Take of the document walked.
-/
import Derived.Test.YtdaglmoibijdeaaDoorIRef
namespace Go.Proofs.YtdaglmoibijdeaaDoor.IRefT
open Go Go.RowKit Base Words INum IVal ISum ITake ITakeT IIter IPut IEq IRef CodePlain CodeTab
set_option linter.unusedVariables false
set_option linter.unusedSimpArgs false
set_option maxRecDepth 100000

theorem valueR_35 (s : ByteArray) (h : 9 ≤ s.size) (w : World) :
    Calls Tryd.prog 22 #[.string (s.extract 3 5)] w fun e w' => e = .returned (.int .u64 (manyS s)) ∧ w = w' := by
  have hs : (s.extract 3 5).size = 2 := by rw [ByteArray.size_extract]; omega
  have := valueR_any (s.extract 3 5) (by omega) w
  rw [hs, val_congr (q := fun j => bt s (3 + j)) 2 (fun j hj => bt_extract s 3 5 j (by omega) (by omega))] at this
  exact this
theorem valueR_tail (s : ByteArray) (h : (s.size : Int) = 9 + 4 * manyS s) (h0 : 0 ≤ manyS s) (w : World) :
    Calls Tryd.prog 22 #[.string (s.extract (5 + 4 * manyS s).toNat s.size)] w fun e w' => e = .returned (.int .u64 (sumS s)) ∧ w = w' := by
  have hz : (s.extract (5 + 4 * manyS s).toNat s.size).size = 4 := by rw [ByteArray.size_extract]; omega
  have := valueR_any (s.extract (5 + 4 * manyS s).toNat s.size) (by omega) w
  rw [hz, val_congr (q := fun j => bt s ((5 + 4 * manyS s).toNat + j)) 4 (fun j hj => bt_extract s _ s.size j (Nat.le_refl _) (by omega))] at this
  exact this
theorem valueR_word (s : ByteArray) (k : Nat) (h : 5 + 4 * k + 4 ≤ s.size) (w : World) :
    Calls Tryd.prog 22 #[.string (s.extract (5 + 4 * k) (9 + 4 * k))] w fun e w' => e = .returned (.int .u64 (wordS s k)) ∧ w = w' := by
  have hz : (s.extract (5 + 4 * k) (9 + 4 * k)).size = 4 := by rw [ByteArray.size_extract]; omega
  have := valueR_any (s.extract (5 + 4 * k) (9 + 4 * k)) (by omega) w
  rw [hz, val_congr (q := fun j => bt s (5 + 4 * k + j)) 4 (fun j hj => bt_extract s _ (9 + 4 * k) j (by omega) (by omega))] at this
  exact this
theorem sumR_at (s : ByteArray) (h : (5 + 4 * manyS s).toNat ≤ s.size) (hs : s.size ≤ 9223372036854775807) (w : World) :
    Calls Tryd.prog 13 #[.string (s.extract 0 (5 + 4 * manyS s).toNat)] w fun e w' => e = .returned (.int .u32 (calcS s)) ∧ w = w' := by
  have hz : (s.extract 0 (5 + 4 * manyS s).toNat).size = (5 + 4 * manyS s).toNat := by rw [ByteArray.size_extract]; omega
  have := SumR_any (s.extract 0 (5 + 4 * manyS s).toNat) (by rw [hz]; unfold maxLen; omega) w
  rw [hz, sumF_congr (q := bt s) _ (fun j hj => by rw [bt_extract s 0 _ j h (by omega), Nat.zero_add])] at this
  exact this
theorem TakeR_6 (s : ByteArray) (hs : s.size ≤ maxLen) (hh : headB s = false) (w : World) :
    Calls Tryd.prog 14 #[.string s] w fun e w' => e = .returned (.tuple #[.slice none 0 0, .int .i64 6]) ∧ w = w' := by
  unfold maxLen at hs
  by_cases h1 : s.size < 9
  · have h1' : (s.size : Int) < 9 := by omega
    clear hh
    go_enter Tryd.func14, Tryd.ntmps14
    go_wp2_with fail
    go_ret2
    exact ⟨rfl, rfl⟩
  · have h1' : ¬ (s.size : Int) < 9 := by omega
    have hs1 : ∀ W, (Instr.slice 9 (.string s) none (some (.int .i64 3)) none).run Tryd.prog W = .ok (.string (s.extract 0 3)) W := fun W =>
      run_slice_string_h (P := Tryd.prog) W _ _ Tryd.underlying9 .i64 3 (by omega) (by omega)
    by_cases h2 : s.extract 0 3 = magic
    · have h2' : ((s.extract 0 3).toList == [85, 84, 1]) = true := tl_eq h2
      have hsl : ∀ W, (Instr.slice 9 (.string s) (some (.int .i64 3)) (some (.int .i64 5)) none).run Tryd.prog W = .ok (.string (s.extract 3 5)) W := fun W =>
        run_slice_string (P := Tryd.prog) W _ _ .i64 .i64 3 5 Tryd.underlying9 (by omega) (by omega) (by omega)
      obtain ⟨m0, m1⟩ := manyS_bd s
      have V := hide (fun w => valueR_35 s (by omega) w)
      by_cases h3 : manyS s ≤ 1024
      · have h4 : (s.size : Int) ≠ 9 + 4 * manyS s := by
          intro h4
          rw [headB, decide_eq_true h3, decide_eq_true h2, decide_eq_true h4, decide_eq_true (by omega : 9 ≤ s.size)] at hh
          cases hh
        have h5 : ((s.size : Int) != 9 + 4 * manyS s) = true := by rw [bne_iff_ne]; omega
        have h6 : ¬ (1024 : Int) < manyS s := by omega
        clear hh h2 h3
        generalize manyS s = m at *
        go_enter Tryd.func14, Tryd.ntmps14
        go_wp2_with fail
        refine (V.out _).mono ?_
        rintro e w2 ⟨rfl, rfl⟩
        go_wp2_with fail
        go_ret2
        exact ⟨rfl, rfl⟩
      · have h5 : (1024 : Int) < manyS s := by omega
        clear hh h2
        generalize manyS s = m at *
        go_enter Tryd.func14, Tryd.ntmps14
        go_wp2_with fail
        refine (V.out _).mono ?_
        rintro e w2 ⟨rfl, rfl⟩
        go_wp2_with fail
        go_ret2
        exact ⟨rfl, rfl⟩
    · have h2' : ((s.extract 0 3).toList == [85, 84, 1]) = false := tl_ne h2
      clear hh h2
      go_enter Tryd.func14, Tryd.ntmps14
      go_wp2_with fail
      go_ret2
      exact ⟨rfl, rfl⟩
/-- What the loop over the words carries. -/
structure WS (w0 w : World) (v : Value) (l : List Int) : Prop where
  own : w.ownsRow w0.heap.size 28 1 v l.length (rowV l)
  bel : Below w0.heap.size w0 w
theorem WS.below {w0 w w' : World} {v : Value} {l : List Int} (h : WS w0 w v l) (hb : Below w.heap.size w w') : WS w0 w' v l := ⟨own_below h.own hb, below_then h.bel hb⟩
theorem WS.alloc {w0 w : World} {v : Value} {l : List Int} (h : WS w0 w v l) (o : Obj) : WS w0 (w.alloc o) v l := h.below ((Below.refl _ _).alloc (Nat.le_refl _) _)
theorem WS.next {w0 w w6 : World} {v v6 : Value} {l : List Int} {x : Int} (h : WS w0 w v l) (hown : w6.ownsRow w0.heap.size 28 1 v6 (l.length + 1) (rowV l ++ [.int .u32 x])) (hg : w.grownBy w6 v.ownBlock) : WS w0 w6 v6 (l ++ [x]) := by
  refine ⟨?_, h.bel.grown hg h.bel.size (fun k hk => (h.own.lt k hk).1)⟩
  have e1 : rowV (l ++ [x]) = rowV l ++ [.int .u32 x] := by simp [rowV]
  rw [e1, List.length_append]
  exact hown
theorem TakeR_fit (s : ByteArray) (hs : s.size ≤ maxLen) (hh : headB s = true) (w : World) :
    Calls Tryd.prog 14 #[.string s] w fun e w' => ∃ v, e = .returned (.tuple #[v, .int .i64 (eT s)]) ∧ w'.ownsRow w.heap.size 28 1 v (outL s).length (rowV (outL s)) ∧ Below w.heap.size w w' := by
  unfold maxLen at hs
  have hh' := hh
  have HH := hide hh
  simp only [headB, Bool.and_eq_true, decide_eq_true_eq] at hh'
  obtain ⟨⟨⟨h1, h2⟩, h3⟩, h4⟩ := hh'
  have h1' : ¬ (s.size : Int) < 9 := by omega
  have hs1 : ∀ W, (Instr.slice 9 (.string s) none (some (.int .i64 3)) none).run Tryd.prog W = .ok (.string (s.extract 0 3)) W := fun W =>
    run_slice_string_h (P := Tryd.prog) W _ _ Tryd.underlying9 .i64 3 (by omega) (by omega)
  have h2' : ((s.extract 0 3).toList == [85, 84, 1]) = true := tl_eq h2
  have hsl : ∀ W, (Instr.slice 9 (.string s) (some (.int .i64 3)) (some (.int .i64 5)) none).run Tryd.prog W = .ok (.string (s.extract 3 5)) W := fun W =>
    run_slice_string (P := Tryd.prog) W _ _ .i64 .i64 3 5 Tryd.underlying9 (by omega) (by omega) (by omega)
  obtain ⟨m0, m1⟩ := manyS_bd s
  have V := hide (fun w => valueR_35 s (by omega) w)
  have h5 : ((s.size : Int) != 9 + 4 * manyS s) = false := by rw [bne_eq_false_iff_eq]; omega
  have h6 : ¬ (1024 : Int) < manyS s := by omega
  have hs2 : ∀ W, (Instr.slice 9 (.string s) (some (.int .i64 (5 + 4 * manyS s))) none none).run Tryd.prog W = .ok (.string (s.extract (5 + 4 * manyS s).toNat s.size)) W := fun W =>
    run_slice_string_l (P := Tryd.prog) W _ _ Tryd.underlying9 .i64 _ (by omega) (by omega)
  have hs3 : ∀ W, (Instr.slice 9 (.string s) none (some (.int .i64 (5 + 4 * manyS s))) none).run Tryd.prog W = .ok (.string (s.extract 0 (5 + 4 * manyS s).toNat)) W := fun W =>
    run_slice_string_h (P := Tryd.prog) W _ _ Tryd.underlying9 .i64 _ (by omega) (by omega)
  have VT := hide (fun w => valueR_tail s h4 m0 w)
  have SM := hide (fun w => sumR_at s (by omega) (by omega) w)
  have cs0 := sumF_bd (bt s) (5 + 4 * manyS s).toNat
  have csd : 0 ≤ calcS s ∧ calcS s ≤ 4294967295 := cs0
  clear hh h2 h3 cs0
  have HS4 := hide h4
  clear h4
  by_cases he : sumS s = calcS s
  · have hne : (sumS s != calcS s) = false := by rw [bne_eq_false_iff_eq]; exact he
    have HE := hide he
    have HML := hide (wordsS_len s)
    clear he
    go_enter Tryd.func14, Tryd.ntmps14
    go_wp2_with fail
    refine (V.out _).mono ?_
    rintro e w2 ⟨rfl, rfl⟩
    go_wp2_with fail
    generalize hcs : calcS s = cs at *
    generalize hss : sumS s = su at *
    go_quiet (first | (go_at_call 22; exact Calls.quiet_of_same ((VT.out _).mono (fun e w' h => ⟨h.1, h.2.symm⟩))) | (go_at_call 13; exact Calls.quiet_of_same ((SM.out _).mono (fun e w' h => ⟨h.1, h.2.symm⟩))))
    have HW0 : Hid (WS w (w.drewN nq) (.slice none 0 0) []) := hide ⟨World.ownsRow_nil _ _ _ _, bdrewN (Below.refl _ _) nq⟩
    have HE2 : Hid (sumS s = calcS s) := hide (by rw [hcs, hss, HE.out])
    generalize w.drewN nq = wq at *
    clear VT SM hs2 hs3 hsl hs1 hcs hss HE csd V
    go_wp2_with fail
    go_loopw [5, 6] (fun b i wr => ∃ (k : Nat) (v : Value), k ≤ (manyS s).toNat ∧ i = .int .i64 k ∧ v = b ∧ Hid (((wordsS s).take k).all isB = true) ∧ Hid (WS w wr v ((wordsS s).take k))) (fun _ i _ => (manyS s).toNat - (intOf i).toNat)
    case atStart => exact ⟨0, _, by omega, rfl, rfl, hide rfl, HW0⟩
    case round =>
      clear HW0
      obtain ⟨k, v, hk, rfl, rfl, hA, hB⟩ := hrel
      by_cases hlt : k < (manyS s).toNat
      · have hlt' : (k : Int) < manyS s := by omega
        have hlw : k < (wordsS s).length := by rw [HML.out]; exact hlt
        have hx : (wordsS s)[k] = wordS s k := wordsS_at s k hlw
        obtain ⟨x0, x1⟩ := word_bd s k
        have hs5 : ∀ W, (Instr.slice 9 (.string s) (some (.int .i64 (5 + 4 * (k : Int)))) (some (.int .i64 (9 + 4 * (k : Int)))) none).run Tryd.prog W = .ok (.string (s.extract (5 + 4 * k) (9 + 4 * k))) W := fun W => by
          have h := run_slice_string (P := Tryd.prog) W 9 s .i64 .i64 (5 + 4 * (k : Int)) (9 + 4 * (k : Int)) Tryd.underlying9 (by omega) (by omega) (by have := HS4.out; omega)
          rw [show (5 + 4 * (k : Int)).toNat = 5 + 4 * k by omega, show (9 + 4 * (k : Int)).toNat = 9 + 4 * k by omega] at h
          exact h
        have VW := hide (fun w => valueR_word s k (by have := HS4.out; omega) w)
        rw [← hx] at x0 x1 VW
        have TK := hide (fun w => CodeRefT.take_any (wordsS s)[k] x0 x1 w)
        have HALL := hide (fun (h : isB (wordsS s)[k] = false) => all_no hlw h)
        have HANY := hide (fun (h : isB (wordsS s)[k] = true) => all_yes hlw hA.out h)
        have HTK := hide (List.take_succ_eq_append_getElem hlw)
        have hlen : ((wordsS s).take k).length = k := by rw [List.length_take]; omega
        clear hA hx
        generalize (wordsS s)[k] = x at *
        clear hlw
        generalize (wordsS s).take k = lk at *
        obtain ⟨co, ca, cb, cc, cn, hv⟩ := takeV_form x
        rw [hv] at TK
        clear hv
        rcases Bool.eq_false_or_eq_true (isB x) with hb | hb
        · rw [takeE_yes hb] at TK
          have HG := hide (HANY.out hb)
          clear hb HANY HALL
          go_wp2_with fail
          refine (VW.out _).mono ?_
          rintro e w5 ⟨rfl, rfl⟩
          go_wp2_with fail
          refine (TK.out _).mono ?_
          rintro e w6 ⟨rfl, hb6⟩
          have HW6 := hide ((hB.out.below hb6).alloc (.cells #[.int .u8 co, .int .i64 ca, .int .i64 cb, .int .i64 cc, .int .i64 cn] 38))
          clear hb6
          generalize hw6 : w6.alloc (.cells #[.int .u8 co, .int .i64 ca, .int .i64 cb, .int .i64 cc, .int .i64 cn] 38) = w7 at *
          have HR := hide (reads_one w7 28 (.int .u32 x))
          have HW7 := hide (HW6.out.alloc (.cells #[.int .u32 x] 28))
          have HONE := hide (one_int (k := .u32) x)
          have HZ := hide (show w.heap.size ≤ (w7.alloc (.cells #[.int .u32 x] 28)).heap.size from HW7.out.bel.size)
          obtain ⟨i0, hi, hz0, hz1, hz2⟩ := info_parts infoW
          have hm1 : lk.length + 1 ≤ maxLen := by unfold maxLen; omega
          have HY := hide (show (lk.length + 1) * 4 ≤ 140737488355328 by omega)
          go_wp2_with (first
            | (at_builtin; refine wpList_append_any _ rfl (.tmp 68) (.tmp 70) 25 rfl w.heap.size 28 i0 _ 1 4 Tryd.underlying25 hi hz0 hz1 hz2 rfl (by omega) v lk.length (rowV lk) rfl HW7.out.own (w7.heap.size + 1) (some ⟨w7.heap.size, 0, none⟩) 1 1 [.int .u32 x] rfl HR.out HONE.out hm1 HY.out HZ.out ?_; intro v8 w8 hown8 hg8 hat8; have HW8 := hide (HW7.out.next hown8 hg8); clear hown8 hg8 hat8))
          go_roundw
          case rel => exact ⟨k + 1, v8, by omega, by go_num, rfl, HG, by rw [HTK.out]; exact HW8⟩
          case measure => simp [intOf]; omega
        · rw [takeE_no hb] at TK
          have HN := hide (eT_231 HH.out HE2.out (HALL.out hb))
          clear hb HANY HALL
          go_wp2_with fail
          refine (VW.out _).mono ?_
          rintro e w5 ⟨rfl, rfl⟩
          go_wp2_with fail
          refine (TK.out _).mono ?_
          rintro e w6 ⟨rfl, hb6⟩
          have HW6 := hide ((hB.out.below hb6).alloc (.cells #[.int .u8 co, .int .i64 ca, .int .i64 cb, .int .i64 cc, .int .i64 cn] 38))
          clear hb6
          go_wp2_with fail
          go_ret2
          exact ⟨_, by rw [HN.out.1]; rfl, by rw [HN.out.2]; exact World.ownsRow_nil _ _ _ _, HW6.out.bel⟩
      · obtain rfl : k = (manyS s).toNat := by omega
        have hlt' : ¬ (((manyS s).toNat : Int) < manyS s) := by omega
        rw [← HML.out, List.take_length] at hA hB
        have HN := hide (eT_0 HH.out HE2.out hA.out)
        clear hA
        go_wp2_with fail
        go_ret2
        exact ⟨_, by rw [HN.out.1]; rfl, by rw [HN.out.2]; exact hB.out.own, hB.out.bel⟩
  · have hne : (sumS s != calcS s) = true := by rw [bne_iff_ne]; exact he
    have HN := hide (eT_230 HH.out he)
    clear he
    go_enter Tryd.func14, Tryd.ntmps14
    go_wp2_with fail
    refine (V.out _).mono ?_
    rintro e w2 ⟨rfl, rfl⟩
    go_wp2_with fail
    generalize hcs : calcS s = cs at *
    generalize hss : sumS s = su at *
    go_quiet (first | (go_at_call 22; exact Calls.quiet_of_same ((VT.out _).mono (fun e w' h => ⟨h.1, h.2.symm⟩))) | (go_at_call 13; exact Calls.quiet_of_same ((SM.out _).mono (fun e w' h => ⟨h.1, h.2.symm⟩))))
    have HB := hide (bdrewN (Below.refl w.heap.size w) nq)
    go_wp2_with fail
    go_ret2
    exact ⟨_, by rw [HN.out.1]; rfl, by rw [HN.out.2]; exact World.ownsRow_nil _ _ _ _, HB.out⟩
/-- Take of the document, of any string. -/
theorem TakeR_any (s : ByteArray) (hs : s.size ≤ maxLen) (w : World) :
    Calls Tryd.prog 14 #[.string s] w fun e w' => ∃ v, e = .returned (.tuple #[v, .int .i64 (eT s)]) ∧ w'.ownsRow w.heap.size 28 1 v (outL s).length (rowV (outL s)) ∧ Below w.heap.size w w' := by
  rcases Bool.eq_false_or_eq_true (headB s) with h | h
  · exact TakeR_fit s hs h w
  · have e : eT s = 6 := by unfold eT; rw [if_neg (by rw [h]; decide)]
    have e2 : outL s = [] := by unfold outL; rw [e]; rfl
    refine (TakeR_6 s hs h w).mono ?_
    rintro e' w' ⟨rfl, rfl⟩
    exact ⟨_, by rw [e], by rw [e2]; exact World.ownsRow_nil _ _ _ _, Below.refl _ _⟩
end Go.Proofs.YtdaglmoibijdeaaDoor.IRefT
