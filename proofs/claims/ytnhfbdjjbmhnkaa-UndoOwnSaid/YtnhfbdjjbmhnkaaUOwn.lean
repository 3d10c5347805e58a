/-
  UndoOwn walked: a log writes its own core's blocks alone, and has room for eight entries a block. It returns true.
-/
import Derived.Test.YtnhfbdjjbmhnkaaUOwnP
import Derived.Deep.RegionHeld3
namespace Go.Proofs.Ytnhfbdjjbmhnkaa.UOwn
open Go.RowKit PPlain Base PMay PRefMay PWalk MMem UPlain UWalk UAdd UAt UNew MRef URef ULog UPair Opens Blks MBlock UOwnP
set_option linter.unusedVariables false
set_option linter.unusedSimpArgs false
set_option maxRecDepth 100000

section
variable (c0 c1 c2 c3 c4 c5 c6 c7 core : Int) (As : Option Addr) (ns cs : Nat) (w : World)
theorem long (hn : ns ≤ maxLen) (h : 300 < ns) :
    Calls Try.prog 5 #[.agg #[.int .i64 c0, .int .i64 c1, .int .i64 c2, .int .i64 c3, .int .i64 c4, .int .i64 c5, .int .i64 c6, .int .i64 c7], .int .i64 core, .slice As ns cs] w fun e w' => e = .returned (.bool true) ∧ Below w.heap.size w w' := by
  unfold maxLen at hn
  have HB := hide ((Below.refl w.heap.size w).alloc (Nat.le_refl _) (.cells #[.int .i64 c0, .int .i64 c1, .int .i64 c2, .int .i64 c3, .int .i64 c4, .int .i64 c5, .int .i64 c6, .int .i64 c7] 23))
  go_enter Try.func5, Try.ntmps5
  go_wp2_with fail
  refine (works_any _).mono ?_
  rintro e w1 ⟨rfl, hb1⟩
  go_wp2
  go_ret
  exact ⟨rfl, below_then HB.out hb1⟩
theorem nomem (hn : ns ≤ 300) (hb : c3 < 1 ∨ 256 < c3) :
    Calls Try.prog 5 #[.agg #[.int .i64 c0, .int .i64 c1, .int .i64 c2, .int .i64 c3, .int .i64 c4, .int .i64 c5, .int .i64 c6, .int .i64 c7], .int .i64 core, .slice As ns cs] w fun e w' => e = .returned (.bool true) ∧ Below w.heap.size w w' := by
  have HB := hide ((Below.refl w.heap.size w).alloc (Nat.le_refl _) (.cells #[.int .i64 c0, .int .i64 c1, .int .i64 c2, .int .i64 c3, .int .i64 c4, .int .i64 c5, .int .i64 c6, .int .i64 c7] 23))
  have HN := hide hb
  clear hb
  go_enter Try.func5, Try.ntmps5
  go_wp2_with fail
  refine (MMem.New_no c3 HN.out _).mono ?_
  rintro e w1 ⟨rfl, rfl⟩
  go_wp2_with fail
  refine (works_any _).mono ?_
  rintro e w1 ⟨rfl, hb1⟩
  go_wp2
  go_ret
  exact ⟨rfl, below_then HB.out hb1⟩
theorem nolog (nb : Nat) (hn : ns ≤ 300) (n1 : 1 ≤ nb) (n2 : nb ≤ 256) (h : ¬ (mayB c0 c1 c2 nb c4 c5 c6 c7 = true ∧ 0 ≤ core ∧ core < c0)) :
    Calls Try.prog 5 #[.agg #[.int .i64 c0, .int .i64 c1, .int .i64 c2, .int .i64 (nb : Int), .int .i64 c4, .int .i64 c5, .int .i64 c6, .int .i64 c7], .int .i64 core, .slice As ns cs] w fun e w' => e = .returned (.bool true) ∧ Below w.heap.size w w' := by
  obtain ⟨er, her, P, R⟩ := New_none c0 c1 c2 nb c4 c5 c6 c7 core nb n1 n2 (fun e => h ⟨e.1, e.2.1⟩)
  have HP := hide P
  clear P R h
  have C0 := hide (cfg_first w c0 c1 c2 nb c4 c5 c6 c7)
  go_enter Try.func5, Try.ntmps5
  go_wp2_with fail
  refine (mnew nb n1 n2 _).mono ?_
  rintro e w1 ⟨p, D, rfl, hM, hs, hb1⟩
  have C1 := hide (cfg_next hb1 C0.out)
  have HM1 := hide hM
  clear hM hs hb1 C0
  obtain ⟨y0, y1, y2, y3, y4, y5, y6, y7, y8⟩ := C1.out
  clear y8
  go_wp2_with fail
  refine (HP.out p D _ _ HM1.out).mono ?_
  rintro e w3 ⟨rfl, hb3⟩
  have C3 := hide (cfg_below (cfg_next hb3 C1.out))
  clear y0 y1 y2 y3 y4 y5 y6 y7 hb3 HM1 C1
  go_wp2_with fail
  refine (works_any _).mono ?_
  rintro e w5 ⟨rfl, hb5⟩
  go_wp2
  go_ret
  exact ⟨rfl, below_then C3.out hb5⟩

set_option maxHeartbeats 8000000 in
theorem main (nb : Nat) (hn : ns ≤ 300) (n1 : 1 ≤ nb) (n2 : nb ≤ 256) (hm : mayB c0 c1 c2 nb c4 c5 c6 c7 = true) (k0 : 0 ≤ core) (k1 : core < c0) (s0 s1 s2 s3 : Nat → Int) (hR : Rows4 w w.heap.size .i64 .i64 .u32 .u32 As ns s0 s1 s2 s3) :
    Calls Try.prog 5 #[.agg #[.int .i64 c0, .int .i64 c1, .int .i64 c2, .int .i64 (nb : Int), .int .i64 c4, .int .i64 c5, .int .i64 c6, .int .i64 c7], .int .i64 core, .slice As ns cs] w fun e w' => e = .returned (.bool true) ∧ Below w.heap.size w w' := by
  have HR := hide hR
  have HMAY := hide hm
  have C0 := hide (cfg_first w c0 c1 c2 nb c4 c5 c6 c7)
  have B0 := hide (Blk.new w 23 #[.int .i64 c0, .int .i64 c1, .int .i64 c2, .int .i64 (nb : Int), .int .i64 c4, .int .i64 c5, .int .i64 c6, .int .i64 c7])
  have fb := first_bd c0 c1 c2 nb c4 c5 c6 c7 core hm k0 k1
  obtain ⟨fN, hfN⟩ := Int.eq_ofNat_of_zero_le (show 0 ≤ firstOf c0 nb c4 core by omega)
  have HF := hide hfN
  have HLOG : Hid (∀ w, Calls Try.prog 11 #[.agg #[.int .i64 c0, .int .i64 c1, .int .i64 c2, .int .i64 (nb : Int), .int .i64 c4, .int .i64 c5, .int .i64 c6, .int .i64 c7], .int .i64 core] w fun e w' => e = .returned (.tuple #[.int .i64 (fN : Int), .int .i64 c4, .int .i64 0]) ∧ Below w.heap.size w w') := by
    have := fun w => Log_true c0 c1 c2 nb c4 c5 c6 c7 core hm k0 k1 w
    rw [show (nb : Int) - c0 * c4 + core * c4 = (fN : Int) from hfN] at this
    exact this
  clear hR hm fb hfN
  go_enter Try.func5, Try.ntmps5
  go_wp2_with fail
  refine (mnew nb n1 n2 _).mono ?_
  rintro e w1 ⟨p, D, rfl, hM, hs, hb1⟩
  have C1 := hide (cfg_next hb1 C0.out)
  have B1 := hide (B0.out.below hb1 (by simp))
  have HM1 := hide hM
  have HS1 := hide hs
  have hpD : Hid (w.heap.size ≤ p ∧ w.heap.size ≤ D) := hide (by have := HS1.out; simp at this; omega)
  clear hM hs hb1 C0 B0
  obtain ⟨y0, y1, y2, y3, y4, y5, y6, y7, y8⟩ := C1.out
  clear y8
  go_wp2_with fail
  refine (New_yes c0 c1 c2 c4 c5 c6 c7 core nb HMAY.out k0 k1 p D _ w w1 HM1.out (cfg_below C1.out) hpD.out.2).mono ?_
  rintro e w3 ⟨l, rfl, hl, hS, hb3⟩
  rw [HF.out] at hS
  have C3 := hide (cfg_next hb3 C1.out)
  have B3 := hide (B1.out.below hb3 B1.out.lt)
  have HL3 := hide hS
  clear y0 y1 y2 y3 y4 y5 y6 y7 hb3 HM1 C1 B1 hl hS hpD HS1
  obtain ⟨y0, y1, y2, y3, y4, y5, y6, y7, y8⟩ := C3.out
  clear y8
  go_wp2_with fail
  refine (HLOG.out _).mono ?_
  rintro e w4 ⟨rfl, hb4⟩
  have S4 : Hid (LB w w4 l c0 c1 c2 nb c4 c5 c6 c7 p (fN : Int) 0 D nb (fun _ => 0) w.heap.size #[.int .i64 c0, .int .i64 c1, .int .i64 c2, .int .i64 (nb : Int), .int .i64 c4, .int .i64 c5, .int .i64 c6, .int .i64 c7]) := hide ⟨HL3.out.below hb4, B3.out.below hb4 B3.out.lt⟩
  clear y0 y1 y2 y3 y4 y5 y6 y7 hb4 C3 B3 HL3 HF HMAY HLOG
  go_wp2_with fail
  go_loopw [50] (fun i wr => ∃ (j : Nat) (many : Int) (F : Nat → Int), j ≤ ns ∧ i = .int .i64 j ∧ Hid (Own F fN c4) ∧ Hid (LB w wr l c0 c1 c2 nb c4 c5 c6 c7 p (fN : Int) many D nb F w.heap.size #[.int .i64 c0, .int .i64 c1, .int .i64 c2, .int .i64 (nb : Int), .int .i64 c4, .int .i64 c5, .int .i64 c6, .int .i64 c7])) (fun i _ => ns - (intOf i).toNat)
  case atStart => exact ⟨0, 0, fun _ => 0, by omega, rfl, hide (fun _ _ => rfl), S4⟩
  case round =>
    clear S4
    obtain ⟨j, many, F, hj, rfl, hO, hS⟩ := hrel
    by_cases hlt : j < ns
    · obtain ⟨bb, off, rfl, hbb, hcs⟩ := (Rows4.below HR.out hS.out.L.bel).1 (by omega)
      obtain ⟨q0, q1, q2, q3⟩ := hcs j hlt
      have HW := hide (u32_bd (HR.out.2 j hlt).2.2.1)
      clear hcs
      have S0 := hide (hS.out.below ((Below.refl wr.heap.size wr).alloc (Nat.le_refl _) (.cells #[.int .i64 (s0 j), .int .i64 (s1 j), .int .u32 (s2 j), .int .u32 (s3 j)] 38)))
      generalize s0 j = o0 at *
      generalize s1 j = o1 at *
      generalize s2 j = o2 at *
      generalize s3 j = o3 at *
      have hn1 : (j : Int) < (ns : Int) := by omega
      clear hS
      by_cases k0 : o0 = 0
      · subst k0
        have q7 : (0 : Int) = 0 := rfl
        clear q7
        go_wp2_with fail
        refine (S0.out.L.Add_any o2 _ HW.out.1 HW.out.2).mono ?_
        rintro e w5 ⟨rfl, hL5, ht5⟩
        have HO := hide (hO.out.add (a := o2) (o := bits .or .u32 o3 1) (e := addE c0 nb c4 o2 c4 many) S0.out.L.m0 S0.out.L.m1 addE_zero)
        have S := hide (S0.out.move hL5 ht5)
        clear hL5 ht5 S0 hO
        generalize addF F fN many o2 (bits .or .u32 o3 1) (addE c0 nb c4 o2 c4 many) = FF at *
        generalize addN (addE c0 nb c4 o2 c4 many) many = mm at *
        generalize addE c0 nb c4 o2 c4 many = er at *
        have m0 := S.out.L.m0
        have m1 := S.out.L.m1
        have lg := S.out.L.lg
        obtain ⟨lg0, lg1⟩ := lg
        have ew1 : IntKind.i64.wrap (mm + (8 * c4 - mm)) = 8 * c4 := by rw [IntWalk.i64_in _ (by omega)]; omega
        have ew2 : IntKind.i64.wrap (8 * c4) = 8 * c4 := IntWalk.i64_in _ (by omega)
        have ew3 : decide (8 * c4 - mm < 0) = false := by rw [decide_eq_false_iff_not]; omega
        obtain ⟨y0, y1, y2, y3, y4, y5, y6, y7⟩ := S.out.cells
        clear m0 m1 lg0 lg1
        go_wp2_with fail
        go_quiet ((first | (go_at_call 14; exact quiet_left (S.out.L.drewN _).Len_all) | (go_at_call 20; exact Calls.quiet_of ((S.out.L.drewN _).Room_all))))
        clear ew1 ew2 ew3 y0 y1 y2 y3 y4 y5 y6 y7
        go_wp2_with fail
        go_roundw
        case rel => exact ⟨j + 1, mm, FF, by omega, by go_num, HO, hide (S.out.drewN _)⟩
        case measure => simp [intOf]; omega
      by_cases k1 : o0 = 1
      · subst k1
        go_wp2_with fail
        refine (S0.out.L.Pop_any).mono ?_
        rintro e w5 ⟨rfl, hL5, ht5⟩
        have S := hide (S0.out.move hL5 ht5)
        have HO := hO
        clear hL5 ht5 S0 hO
        generalize popN many = mm at *
        generalize popE many = er at *
        have m0 := S.out.L.m0
        have m1 := S.out.L.m1
        have lg := S.out.L.lg
        obtain ⟨lg0, lg1⟩ := lg
        have ew1 : IntKind.i64.wrap (mm + (8 * c4 - mm)) = 8 * c4 := by rw [IntWalk.i64_in _ (by omega)]; omega
        have ew2 : IntKind.i64.wrap (8 * c4) = 8 * c4 := IntWalk.i64_in _ (by omega)
        have ew3 : decide (8 * c4 - mm < 0) = false := by rw [decide_eq_false_iff_not]; omega
        obtain ⟨y0, y1, y2, y3, y4, y5, y6, y7⟩ := S.out.cells
        clear m0 m1 lg0 lg1
        go_wp2_with fail
        go_quiet ((first | (go_at_call 14; exact quiet_left (S.out.L.drewN _).Len_all) | (go_at_call 20; exact Calls.quiet_of ((S.out.L.drewN _).Room_all))))
        clear ew1 ew2 ew3 y0 y1 y2 y3 y4 y5 y6 y7
        go_wp2_with fail
        go_roundw
        case rel => exact ⟨j + 1, mm, F, by omega, by go_num, HO, hide (S.out.drewN _)⟩
        case measure => simp [intOf]; omega
      · have f0 : (o0 == 0) = false := by rw [beq_eq_false_iff_ne]; exact k0
        have f1 : (o0 == 1) = false := by rw [beq_eq_false_iff_ne]; exact k1
        have S := S0
        have HO := hO
        clear S0 hO k0 k1
        have m0 := S.out.L.m0
        have m1 := S.out.L.m1
        have lg := S.out.L.lg
        obtain ⟨lg0, lg1⟩ := lg
        have ew1 : IntKind.i64.wrap (many + (8 * c4 - many)) = 8 * c4 := by rw [IntWalk.i64_in _ (by omega)]; omega
        have ew2 : IntKind.i64.wrap (8 * c4) = 8 * c4 := IntWalk.i64_in _ (by omega)
        have ew3 : decide (8 * c4 - many < 0) = false := by rw [decide_eq_false_iff_not]; omega
        obtain ⟨y0, y1, y2, y3, y4, y5, y6, y7⟩ := S.out.cells
        clear m0 m1 lg0 lg1
        go_wp2_with fail
        go_quiet ((first | (go_at_call 14; exact quiet_left (S.out.L.drewN _).Len_all) | (go_at_call 20; exact Calls.quiet_of ((S.out.L.drewN _).Room_all))))
        clear ew1 ew2 ew3 y0 y1 y2 y3 y4 y5 y6 y7
        go_wp2_with fail
        go_roundw
        case rel => exact ⟨j + 1, many, F, by omega, by go_num, HO, hide (S.out.drewN _)⟩
        case measure => simp [intOf]; omega
    · obtain ⟨wo, rfl⟩ : ∃ wo : World, wo = wr := ⟨_, rfl⟩
      have hge : ¬ ((j : Int) < (ns : Int)) := by omega
      obtain ⟨y0, y1, y2, y3, y4, y5, y6, y7⟩ := hS.out.cells
      have hM0 := hide hS.out.L.mem
      have hB0 := hide hS.out.L.bel
      have lg := hS.out.L.lg
      have hlg := hS.out.L.hlg
      obtain ⟨lg0, lg1⟩ := lg
      clear hS
      go_wp2_with fail
      clear y0 y1 y2 y3 y4 y5 y6 y7
      go_loopw [86] (fun i wr => ∃ b : Nat, b ≤ nb ∧ i = .int .i64 b ∧ Hid (MemAt wr p D nb F) ∧ Hid (Below w.heap.size w wr)) (fun i _ => nb - (intOf i).toNat)
      case atStart => exact ⟨0, by omega, rfl, hM0, hB0⟩
      case round =>
        clear hM0 hB0
        obtain ⟨b, hb, rfl, hM, hB⟩ := hrel
        by_cases hlt : b < nb
        · have hi : inr nb (b : Int) 0 = true := inr_iff.2 ⟨by omega, by omega, by omega, by omega⟩
          have hW1 := MBlock.block_any p D nb F (b : Int) _ hM.out
          rw [show errOf nb (b : Int) 0 = 0 by simp [errOf, hi]] at hW1
          have hu := Try.underlying51
          have HI := hide (zero_of_info (P := Try.prog) info36').2
          have hq : ∀ w, (Op.equalIn 10000 51 (.agg (blk (fun _ => 0)).toArray) (.agg #[.int .u32 0, .int .u32 0, .int .u32 0, .int .u32 0, .int .u32 0, .int .u32 0, .int .u32 0, .int .u32 0, .int .u32 0, .int .u32 0, .int .u32 0, .int .u32 0, .int .u32 0, .int .u32 0, .int .u32 0, .int .u32 0])).run Try.prog w = .ok true w := fun w => (eq36 (fun _ => 0) (fun _ => 0) w).trans (by rw [eqB_true (fun _ _ => rfl)])
          have hblt : (b : Int) < (nb : Int) := by omega
          have hin : (fN : Int) ≤ b ∧ (b : Int) < fN + c4 ∨ (¬ ((fN : Int) ≤ b ∧ (b : Int) < fN + c4)) ∧ blk (getBlk F nb (b : Int)) = blk (fun _ => 0) := by
            by_cases h : (fN : Int) ≤ b ∧ (b : Int) < fN + c4
            · exact .inl h
            · refine .inr ⟨h, blk_congr fun j hj => ?_⟩
              simp only [getBlk, hi, if_true, part16]
              exact hO.out _ (by simp only [Int.toNat_natCast]; omega)
          clear hi
          rcases hin with ⟨hin1, hin2⟩ | ⟨hout, hz⟩
          · have hW1 := hide hW1
            generalize getBlk F nb (b : Int) = v at *
            have ei1 : ¬ ((b : Int) < (fN : Int)) := by omega
            have ei2 : ¬ ((fN : Int) + c4 ≤ (b : Int)) := by omega
            go_wp2_with fail
            refine hW1.out.mono ?_
            rintro e w3 ⟨rfl, hb3⟩
            have M3 := hide ((hM.out.below hb3).below ((Below.refl w3.heap.size w3).alloc (Nat.le_refl _) (.cells (blk v).toArray 51)))
            have B3 := hide (below_then (below_then hB.out hb3) ((Below.refl w3.heap.size w3).alloc (Nat.le_refl _) (.cells (blk v).toArray 51)))
            clear hb3
            go_wp2_with (first
              | ((with_reducible refine Arr.wpList_alloc_zero rfl 51 (by rfl) _ _ info36' w3.heap.size rfl ?_))
              | ((with_reducible refine Arr.wpList_store_last rfl 51 _ _ rfl _ _ w3.heap.size rfl rfl rfl HI.out ?_ ?_ ?_ ?_); (· simp [blk_len]); (· simp [blk_len]); (· simpa using blk_one v)))
            go_roundw
            case rel => exact ⟨b + 1, by omega, by go_num, M3, B3⟩
            case measure => simp [intOf]; omega
          · rw [hz] at hW1
            have hW1 := hide hW1
            clear hz
            by_cases hlow : (b : Int) < (fN : Int)
            · clear hout
              go_wp2_with fail
              refine hW1.out.mono ?_
              rintro e w3 ⟨rfl, hb3⟩
              have M3 := hide ((hM.out.below hb3).below ((Below.refl w3.heap.size w3).alloc (Nat.le_refl _) (.cells (blk (fun _ => 0)).toArray 51)))
              have B3 := hide (below_then (below_then hB.out hb3) ((Below.refl w3.heap.size w3).alloc (Nat.le_refl _) (.cells (blk (fun _ => 0)).toArray 51)))
              have C3 := hide (blk_new w3 51 (fun _ => 0))
              clear hb3
              go_wp2_with (first
                | ((with_reducible refine Arr.wpList_alloc_zero rfl 51 (by rfl) _ _ info36' w3.heap.size rfl ?_))
                | ((with_reducible refine Arr.wpList_store_last rfl 51 _ _ rfl _ _ w3.heap.size rfl rfl rfl HI.out ?_ ?_ ?_ ?_); (· simp [blk_len]); (· simp [blk_len]); (· simpa using blk_one (fun _ => 0)))
                | ((refine load_blk_g (by rfl) 51 (.tmp 16) rfl w3.heap.size rfl C3.out hu HI.out ?_)))
              go_roundw
              case rel => exact ⟨b + 1, by omega, by go_num, M3, B3⟩
              case measure => simp [intOf]; omega
            · have ei2 : (fN : Int) + c4 ≤ (b : Int) := by omega
              clear hout
              go_wp2_with fail
              refine hW1.out.mono ?_
              rintro e w3 ⟨rfl, hb3⟩
              have M3 := hide ((hM.out.below hb3).below ((Below.refl w3.heap.size w3).alloc (Nat.le_refl _) (.cells (blk (fun _ => 0)).toArray 51)))
              have B3 := hide (below_then (below_then hB.out hb3) ((Below.refl w3.heap.size w3).alloc (Nat.le_refl _) (.cells (blk (fun _ => 0)).toArray 51)))
              have C3 := hide (blk_new w3 51 (fun _ => 0))
              clear hb3
              go_wp2_with (first
                | ((with_reducible refine Arr.wpList_alloc_zero rfl 51 (by rfl) _ _ info36' w3.heap.size rfl ?_))
                | ((with_reducible refine Arr.wpList_store_last rfl 51 _ _ rfl _ _ w3.heap.size rfl rfl rfl HI.out ?_ ?_ ?_ ?_); (· simp [blk_len]); (· simp [blk_len]); (· simpa using blk_one (fun _ => 0)))
                | ((refine load_blk_g (by rfl) 51 (.tmp 16) rfl w3.heap.size rfl C3.out hu HI.out ?_)))
              go_roundw
              case rel => exact ⟨b + 1, by omega, by go_num, M3, B3⟩
              case measure => simp [intOf]; omega
        · have hblt : ¬ ((b : Int) < (nb : Int)) := by omega
          go_wp2_with fail
          refine (works_any _).mono ?_
          rintro e w7 ⟨rfl, hb7⟩
          go_wp2
          go_ret
          exact ⟨rfl, below_then hB.out hb7⟩
theorem whole (hn : ns ≤ maxLen) (s0 s1 s2 s3 : Nat → Int) (hR : Rows4 w w.heap.size .i64 .i64 .u32 .u32 As ns s0 s1 s2 s3) :
    Calls Try.prog 5 #[.agg #[.int .i64 c0, .int .i64 c1, .int .i64 c2, .int .i64 c3, .int .i64 c4, .int .i64 c5, .int .i64 c6, .int .i64 c7], .int .i64 core, .slice As ns cs] w fun e w' => e = .returned (.bool true) ∧ Below w.heap.size w w' := by
  by_cases h : ns ≤ 300
  · by_cases hb : c3 < 1 ∨ 256 < c3
    · exact nomem c0 c1 c2 c3 c4 c5 c6 c7 core As ns cs w h hb
    · obtain ⟨nb, rfl⟩ := Int.eq_ofNat_of_zero_le (show 0 ≤ c3 by omega)
      by_cases hm : mayB c0 c1 c2 nb c4 c5 c6 c7 = true ∧ 0 ≤ core ∧ core < c0
      · exact main c0 c1 c2 c4 c5 c6 c7 core As ns cs w nb h (by omega) (by omega) hm.1 hm.2.1 hm.2.2 s0 s1 s2 s3 hR
      · exact nolog c0 c1 c2 c4 c5 c6 c7 core As ns cs w nb h (by omega) (by omega) hm
  · exact long c0 c1 c2 c3 c4 c5 c6 c7 core As ns cs w hn (by omega)
end
end Go.Proofs.Ytnhfbdjjbmhnkaa.UOwn
