/-
  Take of the program walked, where the head fits: the loop over the sum, the loop over the words.
-/
import Derived.Test.YtdaglmoibijdeaaDoorITakeT
namespace Go.Proofs.YtdaglmoibijdeaaDoor.ITakeF
open Go Go.RowKit Go.Shelf Base Words INum IVal ISum IRange IIter ITake ITakeT CodePlain CodeTab CodeTake
set_option linter.unusedVariables false
set_option linter.unusedSimpArgs false
set_option maxRecDepth 100000
attribute [local go_sem] Oper.semAt_some

theorem Take_fit (s : ByteArray) (hs : s.size ≤ maxLen) (hh : headB s = true) (w : World) (hT : Tab w) :
    Calls Tryd.prog 9 #[.string s] w fun e w' => ∃ v, e = .returned (.tuple #[v, .int .i64 (eT s)]) ∧ w'.ownsRow w.heap.size 28 1 v (outL s).length (rowV (outL s)) ∧ Below w.heap.size w w' := by
  unfold maxLen at hs
  have S0 := hide (TSt.new w s)
  have hR := hide (show Tryd.f9.results = #[.cell 2 25, .cell 3 22] by kernel_rfl)
  have hh' := hh
  have HH := hide hh
  simp only [headB, Bool.and_eq_true, decide_eq_true_eq] at hh'
  obtain ⟨⟨⟨h1, h2⟩, h3⟩, h4⟩ := hh'
  have h1' : ¬ (s.size : Int) < 9 := by omega
  have hs1 : ∀ W, (Instr.slice 9 (.string s) none (some (.int .i64 3)) none).run Tryd.prog W = .ok (.string (s.extract 0 3)) W := fun W =>
    run_slice_string_h (P := Tryd.prog) W _ _ Tryd.underlying9 .i64 3 (by omega) (by omega)
  have h2' : ((s.extract 0 3).toList == [85, 84, 1]) = true := tl_eq h2
  have hsl : ∀ W, (Instr.slice 9 (.string s) (some (.int .i64 3)) (some (.int .i64 5)) none).run Tryd.prog W = .ok (.string (s.extract 3 5)) W := fun W =>
    run_slice_string (P := Tryd.prog) W _ _ .i64 .i64 3 5 Tryd.underlying9 (by omega) (by omega) (by omega)
  obtain ⟨m0, m1⟩ := manyS_bd s
  have V := hide (fun w => value_35 s (by omega) w)
  have h5 : ((s.size : Int) != 5 + 4 * manyS s + 4) = false := by rw [bne_eq_false_iff_eq]; omega
  have hs2 : ∀ W, (Instr.slice 9 (.string s) (some (.int .i64 (5 + 4 * manyS s))) none none).run Tryd.prog W = .ok (.string (s.extract (5 + 4 * manyS s).toNat s.size)) W := fun W =>
    run_slice_string_l (P := Tryd.prog) W _ _ Tryd.underlying9 .i64 _ (by omega) (by omega)
  clear hh h2
  have HS4 := hide h4
  clear h4
  refine callsIn_wide.1 (callsIn_of_wp_marks (n := 0) Tryd.func9 rfl trivial (wpIn_wide.2 ?_) rfl)
  simp only [Tryd.ntmps9, List.size_toArray, List.length_cons, List.length_nil, Nat.reduceAdd, Nat.reduceSub, Array.replicate_succ, Array.replicate_zero, List.push_toArray, List.append_toArray, List.nil_append, List.cons_append]
  go_upto_region 1 with fail
  generalize ((w.alloc (.cells #[.string s] 9)).alloc (.cells #[.slice none 0 0] 25)).alloc (.cells #[.int .i64 0] 22) = w1 at *
  obtain ⟨c0, c1, c2, f1, f2⟩ := S0.out.cells
  go_wp2_with fail
  refine (V.out _).mono ?_
  rintro e w2 ⟨rfl, rfl⟩
  have S2 := hide (S0.out.alloc (.cells #[.int .i64 (5 + 4 * manyS s)] 3))
  have B2 := hide (Blk.new w1 3 #[.int .i64 (5 + 4 * manyS s)])
  have HNE : Hid (w1.heap.size ≠ w.heap.size + 1 ∧ w1.heap.size ≠ w.heap.size + 1 + 1) := hide (by have := S0.out.E.lt; omega)
  go_upto_region 5 with fail
  generalize w1.alloc (.cells #[.int .i64 (5 + 4 * manyS s)] 3) = w2 at *
  generalize w1.heap.size = E at *
  clear c0 c1 c2 f1 f2 S0
  have cE := B2.out.cell 0
  obtain ⟨c0, c1, c2, f1, f2⟩ := S2.out.cells
  go_wp2_with fail
  refine (words_any _ _).mono ?_
  rintro e w3 ⟨rfl, rfl⟩
  have T3 : Hid (T1 w s E (manyS s) 0 (w2.alloc (.cells #[.string (s.extract (5 + 4 * manyS s).toNat s.size)] 9))) := hide ⟨S2.out.alloc _, B2.out.alloc _⟩
  have B3 := hide (Blk.new w2 9 #[.string (s.extract (5 + 4 * manyS s).toNat s.size)])
  have E2 := hide B2.out.lt
  go_wp2_with fail
  have IT := words_iter w2.heap.size (s.extract (5 + 4 * manyS s).toNat s.size) (by rw [ByteArray.size_extract]; unfold maxLen; omega) _ B3.out
  rw [tail_list s HS4.out m0] at IT
  have hBlt : w2.heap.size < (w2.alloc (.cells #[.string (s.extract (5 + 4 * manyS s).toNat s.size)] 9)).heap.size := by simp
  have hDge : w.heap.size + 3 ≤ w2.heap.size := by have := S2.out.E.lt; omega
  generalize hw3 : w2.alloc (.cells #[.string (s.extract (5 + 4 * manyS s).toNat s.size)] 9) = w3 at *
  generalize w2.heap.size = Bx at *
  refine range_at 6 rfl (enters_of Tryd.func26 (by kernel_rfl) rfl) IT hBlt
    (fun k W => T1 w s E (manyS s) 0 W ∧ (k = 0 ∨ sumS s = calcS s)) (fun k W => T1 w s E (manyS s) 230 W ∧ sumS s ≠ calcS s)
    (fun k W W' row h hg hr => ⟨h.1.stay hg hr (by omega) hDge (by have := E2.out; omega) (by have := E2.out; omega), h.2⟩)
    (fun k W W' row h hg hr => ⟨h.1.stay hg hr (by omega) hDge (by have := E2.out; omega) (by have := E2.out; omega), h.2⟩)
    ⟨T3.out, Or.inl rfl⟩ ?assign ?body ?done ?stop
  case assign =>
    intro l x W K hK
    gi_wp2
    exact hK
  case body =>
    rintro l k hk W ⟨hT1, hq⟩
    obtain rfl : k = 0 := by simpa using hk
    have c0' := hT1.T.cells
    obtain ⟨d0, d1, d2, g1, g2⟩ := c0'
    have dE := hT1.B.cell 0
    clear c0 c1 c2 f1 f2 cE
    have hs3 : ∀ W, (Instr.slice 9 (.string s) none (some (.int .i64 (5 + 4 * manyS s))) none).run Tryd.prog W = .ok (.string (s.extract 0 (5 + 4 * manyS s).toNat)) W := fun W =>
      run_slice_string_h (P := Tryd.prog) W _ _ Tryd.underlying9 .i64 _ (by omega) (by have := HS4.out; omega)
    have SM := hide (fun w => sum_at s (by have := HS4.out; omega) hs w)
    have HT1 := hide hT1
    clear hT1 hq
    simp only [List.getElem_cons_zero, List.setIfInBounds_toArray, List.set_cons_zero, List.set_cons_succ]
    clear hk
    by_cases he : sumS s = calcS s
    · have hne : (sumS s != calcS s) = false := by rw [bne_eq_false_iff_eq]; exact he
      have HE := hide he
      clear he
      generalize sumS s = su at *
      gi_wp2_with fail
      refine ⟨trivial, rfl, (CallsIn.inRound l (callsIn_wide.2 (SM.out _))).mono ?_⟩
      rintro e w4 ⟨rfl, rfl⟩
      gi_wp2_with fail
      exact ⟨KeepsFrom.refl _ _, rfl, HT1.out, Or.inr HE.out⟩
    · have hne : (sumS s != calcS s) = true := by rw [bne_iff_ne]; exact he
      have HE := hide he
      clear he
      generalize sumS s = su at *
      gi_wp2_with fail
      refine ⟨trivial, rfl, (CallsIn.inRound l (callsIn_wide.2 (SM.out _))).mono ?_⟩
      rintro e w4 ⟨rfl, rfl⟩
      gi_wp2_with fail
      exact ⟨((KeepsOthers.setCell _ _ _).trans (KeepsOthers.setCell _ _ _)).from _, ⟨HT1.out.T.set (.slice none 0 0) 230, (HT1.out.B.far (p := ⟨w.heap.size + 1, 0, none⟩) HNE.out.1 _).far (p := ⟨w.heap.size + 1 + 1, 0, none⟩) HNE.out.2 _⟩, HE.out⟩
  case done =>
    rintro D W hD ⟨hT1, hq⟩ hd
    have he : sumS s = calcS s := by rcases hq with h | h; (· cases h); (· exact h)
    have HE := hide he
    clear he hq
    have HT1 := hide hT1
    have HD1 := hide hd
    have HDG : Hid (w.heap.size + 3 ≤ D) := hide (by omega)
    clear hT1 hd c0 c1 c2 f1 f2 cE hBlt hDge hD
    have O4 := hide (Blk.new W 25 #[.slice none 0 0])
    have HT4 : Hid (T1 w s E (manyS s) 0 (W.alloc (.cells #[.slice none 0 0] 25))) := hide ⟨HT1.out.T.alloc _, HT1.out.B.alloc _⟩
    have HD4 : Hid ((W.alloc (.cells #[.slice none 0 0] 25)).heap[D]? = some (.deferred (some []))) := hide ((Below.heap_alloc _ _ _ (Array.getElem?_eq_some_iff.1 HD1.out).1).trans HD1.out)
    have HEO : Hid (W.heap.size ≠ E ∧ w.heap.size + 3 ≤ W.heap.size) := hide (by have h1 := HT1.out.B.lt; have h2 := HT1.out.T.E.lt; omega)
    go_upto_region 12 with fail
    generalize W.alloc (.cells #[.slice none 0 0] 25) = w4 at *
    generalize W.heap.size = O at *
    clear HT1 HD1
    obtain ⟨c0, c1, c2, f1, f2⟩ := HT4.out.T.cells
    have cE := HT4.out.B.cell 0
    have hs5 : ∀ W, (Instr.slice 9 (.string s) (some (.int .i64 5)) (some (.int .i64 (5 + 4 * manyS s))) none).run Tryd.prog W = .ok (.string (s.extract 5 (5 + 4 * manyS s).toNat)) W := fun W =>
      run_slice_string (P := Tryd.prog) W _ _ .i64 .i64 5 _ Tryd.underlying9 (by omega) (by omega) (by have := HS4.out; omega)
    go_wp2_with fail
    refine (words_any _ _).mono ?_
    rintro e w5 ⟨rfl, rfl⟩
    have IT2 := words_iter w4.heap.size (s.extract 5 (5 + 4 * manyS s).toNat) (by rw [ByteArray.size_extract]; unfold maxLen; omega) _ (Blk.new w4 9 #[.string (s.extract 5 (5 + 4 * manyS s).toNat)])
    rw [body_list s HS4.out m0] at IT2
    have HLT : Hid (E < w4.heap.size ∧ O < w4.heap.size ∧ D < w4.heap.size ∧ w.heap.size + 3 ≤ w4.heap.size) := hide ⟨HT4.out.B.lt, O4.out.lt, (Array.getElem?_eq_some_iff.1 HD4.out).1, by have := HT4.out.T.E.lt; omega⟩
    have HOB : Hid (O ≠ w4.heap.size) := hide (by have := HLT.out; omega)
    have HNE2 : Hid (E ≠ w.heap.size + 1 ∧ E ≠ w.heap.size + 1 + 1) := HNE
    have HOD : Hid (D ≠ O) := hide (fun e => by
      have h1 := HD4.out
      have h2 := O4.out
      unfold Blk at h2
      rw [e, h2] at h1
      cases h1)
    have hBlt : w4.heap.size < (w4.alloc (.cells #[.string (s.extract 5 (5 + 4 * manyS s).toNat)] 9)).heap.size := by simp
    have I0 : Hid (T2 w s E (manyS s) O D w4.heap.size [] (.slice none 0 0) (w4.alloc (.cells #[.string (s.extract 5 (5 + 4 * manyS s).toNat)] 9))) := hide
      ⟨⟨HT4.out.T.alloc _, HT4.out.B.alloc _⟩, O4.out.alloc _, World.ownsRow_nil _ _ _ _, by simp [Value.ownBlock], (Below.heap_alloc _ _ _ HLT.out.2.2.1).trans HD4.out, hBlt⟩
    go_wp2_with fail
    generalize w4.alloc (.cells #[.string (s.extract 5 (5 + 4 * manyS s).toNat)] 9) = w5 at *
    clear c0 c1 c2 f1 f2 cE HT4 O4 HD4
    generalize w4.heap.size = By at *
    refine range_at 8 rfl (enters_of Tryd.func26 (by kernel_rfl) rfl) IT2 hBlt
      (fun k W => (∃ v, T2 w s E (manyS s) O D By ((wordsS s).take k) v W) ∧ ((wordsS s).take k).all isB = true)
      (fun k W => (T1 w s E (manyS s) 231 W ∧ W.heap[D]? = some (.deferred (some []))) ∧ (wordsS s).all isB = false)
      (fun k W W' row h hg hr => ⟨by
        obtain ⟨⟨v, hv⟩, _⟩ := h
        have hL := HLT.out
        exact ⟨v, hv.stay (w0s := 0) hg hr (by omega) (by omega) (by omega) (by omega) (by omega) (by omega) (by omega) (by omega)⟩, h.2⟩)
      (fun k W W' row h hg hr => ⟨by
        have hL := HLT.out
        exact ⟨h.1.1.stay hg hr (by omega) (by omega) (by omega) (by omega), obj_stay h.1.2 hg hr (by omega) (by omega)⟩, h.2⟩)
      ⟨⟨_, I0.out⟩, rfl⟩ ?assign2 ?body2 ?done2 ?stop2
    case assign2 =>
      intro l x W K hK
      gi_wp2
      exact hK
    case body2 =>
      rintro l k hk W2 ⟨⟨v, hT2⟩, hg⟩
      obtain ⟨i0, hi, hz0, hz1, hz2⟩ := info_parts infoW
      have HTK := hide (List.take_succ_eq_append_getElem hk)
      have hx : (wordsS s)[k] = wordS s k := wordsS_at s k hk
      obtain ⟨x0, x1⟩ := word_bd s k
      rw [← hx] at x0 x1
      have hlen : ((wordsS s).take k).length = k := by rw [List.length_take]; omega
      have hmany : k < 1024 := by have := wordsS_len s; omega
      have TK := hide (CodeTake.take_any (wordsS s)[k] x0 x1 W2 (hT.below hT2.T.T.bel))
      have HALL := hide (fun (h : isB (wordsS s)[k] = false) => all_no hk h)
      have HANY := hide (fun (h : isB (wordsS s)[k] = true) => all_yes hk hg h)
      have HT2 := hide hT2
      obtain ⟨A, cap, rfl⟩ := own_slice hT2.own
      have HOWN := hide hT2.own
      obtain ⟨d0, d1, d2, g1, g2⟩ := hT2.T.T.cells
      have dO := hT2.O.cell 0
      have gO := hT2.O.frozen 0
      simp only [List.setIfInBounds_toArray, List.set_cons_zero, List.set_cons_succ]
      clear hx hT2 hg
      generalize (wordsS s)[k] = x at *
      clear hk
      generalize (wordsS s).take k = lk at *
      obtain ⟨co, ca, cb, cc, cn, hv⟩ := takeV_form x
      rw [hv] at TK
      clear hv
      rcases Bool.eq_false_or_eq_true (isB x) with hb | hb
      · rw [takeE_yes hb] at TK
        have HG := hide (HANY.out hb)
        clear hb HANY HALL
        gi_wp2_with fail
        refine ⟨trivial, rfl, (CallsIn.inRound l (callsIn_wide.2 TK.out)).mono ?_⟩
        rintro e w6 ⟨rfl, hb6⟩
        have HB6 := hide hb6
        have HO6 : O < w6.heap.size := Nat.lt_of_lt_of_le HT2.out.O.lt hb6.size
        have cO6 : w6.cell? ⟨O, 0, none⟩ = some (.slice A lk.length cap) := (hb6.cell (p := ⟨O, 0, none⟩) HT2.out.O.lt).trans dO
        have HB7 := hide ((hb6.alloc hb6.size (.cells #[.int .u8 co, .int .i64 ca, .int .i64 cb, .int .i64 cc, .int .i64 cn] 38)).alloc (by have := hb6.size; simp; omega) (.cells #[.int .u32 x] 28))
        have HOWN7 := hide (own_below HOWN.out HB7.out)
        have HNEW := hide (new_one w6 (.cells #[.int .u8 co, .int .i64 ca, .int .i64 cb, .int .i64 cc, .int .i64 cn] 38) (.int .u32 x) 28)
        have HSZ7 : Hid (w.heap.size ≤ ((w6.alloc (.cells #[.int .u8 co, .int .i64 ca, .int .i64 cb, .int .i64 cc, .int .i64 cn] 38)).alloc (.cells #[.int .u32 x] 28)).heap.size) := hide (by have h1 := hb6.size; have h2 := HT2.out.T.T.bel.size; simp; omega)
        have HM1 := hide (show lk.length + 1 ≤ maxLen by unfold maxLen; omega)
        have HM2 := hide (show (lk.length + 1) * 4 ≤ 140737488355328 by omega)
        have HONE := hide (one_int (k := .u32) x)
        have HLEN := hide hlen
        clear hb6 d0 d1 d2 g1 g2 dO gO hlen
        gi_wp2_with (gi_at_builtin; refine wpListIn_append_own_at _ rfl (.tmp 58) (.tmp 60) 25 rfl w.heap.size 28 i0 (.int .u32 0) 1 4 Tryd.underlying25 hi hz0 hz1 hz2 rfl (by decide) _ lk.length (rowV lk) rfl HOWN7.out ⟨w6.heap.size + 1, 0, none⟩ 1 1 [.int .u32 x] rfl rfl HNEW.out HONE.out HM1.out HM2.out HSZ7.out ?_; intro v8 w8 hown8 hg8 _ hat8; obtain ⟨A8, cap8, rfl⟩ := own_slice hown8; obtain ⟨cO8, fO8⟩ := HT2.out.keptO HB7.out hg8; have HN8 := hide (HT2.out.next HB7.out hown8 hg8 hat8 HEO.out HOD.out HOB.out); clear hown8 hg8 hat8)
        exact ⟨HN8.out.2.1 _, HN8.out.2.2, ⟨_, by rw [HTK.out]; exact HN8.out.1⟩, HG.out⟩
      · rw [takeE_no hb] at TK
        have HG := hide (HALL.out hb)
        clear hb HANY HALL
        gi_wp2_with fail
        refine ⟨trivial, rfl, (CallsIn.inRound l (callsIn_wide.2 TK.out)).mono ?_⟩
        rintro e w6 ⟨rfl, hb6⟩
        have HF := hide (HT2.out.fail hb6 (.cells #[.int .u8 co, .int .i64 ca, .int .i64 cb, .int .i64 cc, .int .i64 cn] 38) HNE2.out HDG.out)
        have TS := hide ((HT2.out.T.T.below hb6).alloc (.cells #[.int .u8 co, .int .i64 ca, .int .i64 cb, .int .i64 cc, .int .i64 cn] 38))
        clear hb6 d0 d1 d2 g1 g2 dO gO hlen
        obtain ⟨d0, d1, d2, g1, g2⟩ := TS.out.cells
        gi_wp2_with fail
        exact ⟨HF.out.1 _, HF.out.2, HG.out⟩
    case done2 =>
      rintro D2 W2 hD2 ⟨⟨v, hT2⟩, hg⟩ hd2
      rw [List.take_length] at hT2 hg
      have HN := hide (eT_0 HH.out HE.out hg)
      have hDD : D ≠ D2 := by have := HLT.out; omega
      obtain ⟨A, cap, rfl⟩ := own_slice hT2.own
      obtain ⟨W3, hW3, FD2, FD, FT, FO⟩ := hT2.fin hd2 HDG.out (by have := HLT.out; omega) (.deferred none) hDD
      have HF := hide (And.intro FD2 (And.intro FD (And.intro FT FO)))
      have HW3 := hide hW3
      obtain ⟨c0, c1, c2, f1, f2⟩ := hT2.T.T.cells
      have cO := hT2.O.cell 0
      clear hg hd2 hT2 FD2 FD FT FO hW3 hDD hD2 hBlt
      go_wp2_with fail
      rw [← HW3.out]
      obtain ⟨FD2, FD, FT, FO⟩ := HF.out
      refine ⟨by simp, .inl ⟨_, _, rfl, run_takeDeferred FD2, by simp, .inl ⟨_, _, rfl, run_takeDeferred FD, ?_⟩⟩⟩
      exact ⟨_, results_two hR.out rfl rfl (load_s FT.V) (load_e FT.E), _, by rw [HN.out.1], by rw [HN.out.2]; exact FO, FT.bel⟩
    case stop2 =>
      rintro D2 k W2 hD2 hk ⟨⟨hT1, hd1⟩, hg⟩ hd2
      have HN := hide (eT_231 HH.out HE.out hg)
      clear hg
      go_wp2
      have hDD : D ≠ D2 := by have := HLT.out; omega
      have hd1' : (W2.putObj D2 (.deferred none)).heap[D]? = some (.deferred (some [])) := (World.putObj_heap_other hDD).trans hd1
      refine ⟨by simp, .inl ⟨_, _, rfl, run_takeDeferred hd2, by simp, .inl ⟨_, _, rfl, run_takeDeferred hd1', ?_⟩⟩⟩
      have S7 := (hT1.T.put (D := D2) (by have := HLT.out; omega) (.deferred none)).put (D := D) HDG.out (.deferred none)
      exact ⟨_, results_two hR.out rfl rfl (load_s S7.V) (load_e S7.E), _, by rw [HN.out.1], by rw [HN.out.2]; exact World.ownsRow_nil _ _ _ _, S7.bel⟩
  case stop =>
    rintro D k W hD hk ⟨hT, hne⟩ hd
    have HN := hide (eT_230 HH.out hne)
    go_wp2
    refine ⟨by simp, .inl ⟨_, _, rfl, run_takeDeferred hd, ?_⟩⟩
    have S7 := hT.T.put (D := D) (by omega) (.deferred none)
    refine ⟨_, results_two hR.out rfl rfl (load_s S7.V) (load_e S7.E), _, by rw [HN.out.1], by rw [HN.out.2]; exact World.ownsRow_nil _ _ _ _, S7.bel⟩
/-- Take of the program, of any string. -/
theorem Take_any (s : ByteArray) (hs : s.size ≤ maxLen) (w : World) (hT : Tab w) :
    Calls Tryd.prog 9 #[.string s] w fun e w' => ∃ v, e = .returned (.tuple #[v, .int .i64 (eT s)]) ∧ w'.ownsRow w.heap.size 28 1 v (outL s).length (rowV (outL s)) ∧ Below w.heap.size w w' := by
  rcases Bool.eq_false_or_eq_true (headB s) with h | h
  · exact Take_fit s hs h w hT
  · have e : eT s = 6 := by unfold eT; rw [if_neg (by rw [h]; decide)]
    have e2 : outL s = [] := by unfold outL; rw [e]; rfl
    refine (Take_6 s hs h w).mono ?_
    rintro e' w' ⟨rfl, hb⟩
    exact ⟨_, by rw [e], by rw [e2]; exact World.ownsRow_nil _ _ _ _, hb⟩
end Go.Proofs.YtdaglmoibijdeaaDoor.ITakeF
