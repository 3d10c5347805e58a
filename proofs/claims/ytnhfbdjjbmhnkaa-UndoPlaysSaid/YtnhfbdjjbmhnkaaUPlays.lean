/-
  UndoPlays walked: any plan, any core, any calls: each answer of the program's log is the document's, and the memory behind it. It returns true.
-/
import Derived.Test.YtnhfbdjjbmhnkaaUPair
import Derived.Test.YtnhfbdjjbmhnkaaOpens
import Derived.Deep.RegionHeld3
namespace Go.Proofs.Ytnhfbdjjbmhnkaa.UPlays
open Go.RowKit PPlain Base PMay PRefMay PWalk MMem UPlain UWalk UAdd UAt UNew MRef URef ULog UPair Opens Blks MBlock
set_option linter.unusedVariables false
set_option linter.unusedSimpArgs false
set_option maxRecDepth 100000

theorem Rows4.below {w w' : World} {B : Nat} {k0 k1 k2 k3 : IntKind} {A : Option Addr} {n : Nat} {s0 s1 s2 s3 : Nat → Int} (h : Rows4 w B k0 k1 k2 k3 A n s0 s1 s2 s3) (hb : Below B w w') : Rows4 w' B k0 k1 k2 k3 A n s0 s1 s2 s3 := by
  refine ⟨fun hn => ?_, h.2⟩
  obtain ⟨b, off, rfl, hB, hc⟩ := h.1 hn
  refine ⟨b, off, rfl, hB, fun i hi => ?_⟩
  obtain ⟨a0, a1, a2, a3⟩ := hc i hi
  exact ⟨(hb.cell hB).trans a0, (hb.cell hB).trans a1, (hb.cell hB).trans a2, (hb.cell hB).trans a3⟩
theorem u32_bd {a : Int} (h : (Lit.int .u32 a).wf = true) : 0 ≤ a ∧ a ≤ 4294967295 := by
  simpa [Lit.wf, IntKind.min, IntKind.max, IntKind.signed, IntKind.bits] using h

section
variable (c0 c1 c2 c3 c4 c5 c6 c7 core blocks : Int) (As : Option Addr) (ns cs : Nat) (w : World)
theorem long (hn : ns ≤ maxLen) (h : 300 < ns) :
    Calls Try.prog 6 #[.agg #[.int .i64 c0, .int .i64 c1, .int .i64 c2, .int .i64 c3, .int .i64 c4, .int .i64 c5, .int .i64 c6, .int .i64 c7], .int .i64 blocks, .int .i64 core, .slice As ns cs] w fun e w' => e = .returned (.bool true) ∧ Below w.heap.size w w' := by
  unfold maxLen at hn
  have HB := hide ((Below.refl w.heap.size w).alloc (Nat.le_refl _) (.cells #[.int .i64 c0, .int .i64 c1, .int .i64 c2, .int .i64 c3, .int .i64 c4, .int .i64 c5, .int .i64 c6, .int .i64 c7] 23))
  go_enter Try.func6, Try.ntmps6
  go_wp2_with fail
  refine (works_any _).mono ?_
  rintro e w1 ⟨rfl, hb1⟩
  go_wp2
  go_ret
  exact ⟨rfl, below_then HB.out hb1⟩
theorem nomem (hn : ns ≤ 300) (hb : blocks < 1 ∨ 256 < blocks) :
    Calls Try.prog 6 #[.agg #[.int .i64 c0, .int .i64 c1, .int .i64 c2, .int .i64 c3, .int .i64 c4, .int .i64 c5, .int .i64 c6, .int .i64 c7], .int .i64 blocks, .int .i64 core, .slice As ns cs] w fun e w' => e = .returned (.bool true) ∧ Below w.heap.size w w' := by
  have HB := hide ((Below.refl w.heap.size w).alloc (Nat.le_refl _) (.cells #[.int .i64 c0, .int .i64 c1, .int .i64 c2, .int .i64 c3, .int .i64 c4, .int .i64 c5, .int .i64 c6, .int .i64 c7] 23))
  have HN := hide hb
  clear hb
  go_enter Try.func6, Try.ntmps6
  go_wp2_with fail
  refine (MMem.New_no blocks HN.out _).mono ?_
  rintro e w1 ⟨rfl, rfl⟩
  go_wp2_with fail
  refine (MRef.New_no blocks HN.out _).mono ?_
  rintro e w1 ⟨rfl, rfl⟩
  go_wp2_with fail
  refine (works_any _).mono ?_
  rintro e w1 ⟨rfl, hb1⟩
  go_wp2
  go_ret
  exact ⟨rfl, below_then HB.out hb1⟩
theorem nolog (nb : Nat) (hn : ns ≤ 300) (n1 : 1 ≤ nb) (n2 : nb ≤ 256) (h : ¬ (mayB c0 c1 c2 c3 c4 c5 c6 c7 = true ∧ (0 ≤ core ∧ core < c0) ∧ c3 = nb)) :
    Calls Try.prog 6 #[.agg #[.int .i64 c0, .int .i64 c1, .int .i64 c2, .int .i64 c3, .int .i64 c4, .int .i64 c5, .int .i64 c6, .int .i64 c7], .int .i64 (nb : Int), .int .i64 core, .slice As ns cs] w fun e w' => e = .returned (.bool true) ∧ Below w.heap.size w w' := by
  obtain ⟨er, her, P, R⟩ := New_none c0 c1 c2 c3 c4 c5 c6 c7 core nb n1 n2 h
  have HP := hide P
  have HR := hide R
  clear P R h
  have C0 := hide (cfg_first w c0 c1 c2 c3 c4 c5 c6 c7)
  go_enter Try.func6, Try.ntmps6
  go_wp2_with fail
  refine (mnew nb n1 n2 _).mono ?_
  rintro e w1 ⟨p, D, rfl, hM, hs, hb1⟩
  have C1 := hide (cfg_next hb1 C0.out)
  have HM1 := hide hM
  clear hM hs hb1 C0
  go_wp2_with fail
  refine (rnew nb n1 n2 _).mono ?_
  rintro e w2 ⟨r, RD, rfl, hQ, hs, hb2⟩
  have C2 := hide (cfg_next hb2 C1.out)
  have HM2 := hide (HM1.out.below hb2)
  have HQ2 := hide hQ
  clear hQ hs hb2 C1 HM1
  obtain ⟨y0, y1, y2, y3, y4, y5, y6, y7, y8⟩ := C2.out
  clear y8
  go_wp2_with fail
  refine (HP.out p D _ _ HM2.out).mono ?_
  rintro e w3 ⟨rfl, hb3⟩
  have C3 := hide (cfg_next hb3 C2.out)
  have HQ3 := hide (HQ2.out.below hb3)
  clear y0 y1 y2 y3 y4 y5 y6 y7 hb3 HM2 HQ2 C2
  obtain ⟨y0, y1, y2, y3, y4, y5, y6, y7, y8⟩ := C3.out
  clear y8
  go_wp2_with fail
  refine (HR.out r RD _ _ HQ3.out).mono ?_
  rintro e w4 ⟨rfl, hb4⟩
  have C4 := hide (cfg_below (cfg_next hb4 C3.out))
  clear y0 y1 y2 y3 y4 y5 y6 y7 hb4 HQ3 C3
  go_wp2_with fail
  refine (works_any _).mono ?_
  rintro e w5 ⟨rfl, hb5⟩
  go_wp2
  go_ret
  exact ⟨rfl, below_then C4.out hb5⟩

set_option maxHeartbeats 8000000 in
theorem main (nb : Nat) (hn : ns ≤ 300) (n1 : 1 ≤ nb) (n2 : nb ≤ 256) (hm : mayB c0 c1 c2 nb c4 c5 c6 c7 = true) (k0 : 0 ≤ core) (k1 : core < c0) (s0 s1 s2 s3 : Nat → Int) (hR : Rows4 w w.heap.size .i64 .i64 .u32 .u32 As ns s0 s1 s2 s3) :
    Calls Try.prog 6 #[.agg #[.int .i64 c0, .int .i64 c1, .int .i64 c2, .int .i64 (nb : Int), .int .i64 c4, .int .i64 c5, .int .i64 c6, .int .i64 c7], .int .i64 (nb : Int), .int .i64 core, .slice As ns cs] w fun e w' => e = .returned (.bool true) ∧ Below w.heap.size w w' := by
  have HR := hide hR
  have HMAY := hide hm
  have C0 := hide (cfg_first w c0 c1 c2 nb c4 c5 c6 c7)
  have fb := first_bd c0 c1 c2 nb c4 c5 c6 c7 core hm k0 k1
  obtain ⟨fN, hfN⟩ := Int.eq_ofNat_of_zero_le (show 0 ≤ firstOf c0 nb c4 core by omega)
  have HF := hide hfN
  clear hR hm fb hfN
  go_enter Try.func6, Try.ntmps6
  go_wp2_with fail
  refine (mnew nb n1 n2 _).mono ?_
  rintro e w1 ⟨p, D, rfl, hM, hs, hb1⟩
  have C1 := hide (cfg_next hb1 C0.out)
  have HM1 := hide hM
  have HS1 := hide hs
  clear hM hs hb1 C0
  go_wp2_with fail
  refine (rnew nb n1 n2 _).mono ?_
  rintro e w2 ⟨r, RD, rfl, hQ, hs, hb2⟩
  have C2 := hide (cfg_next hb2 C1.out)
  have HM2 := hide (HM1.out.below hb2)
  have HQ2 := hide hQ
  have HS2 := hide hs
  have HB2 := hide (cfg_below C2.out)
  have hpD : Hid (w.heap.size ≤ p ∧ w.heap.size ≤ D) := hide (by have := HS1.out; simp at this; omega)
  have hrR : Hid (w.heap.size ≤ r ∧ w.heap.size ≤ RD) := hide (by have := HS2.out; have := (cfg_below C1.out).size; omega)
  clear hQ hs hb2 HM1
  obtain ⟨y0, y1, y2, y3, y4, y5, y6, y7, y8⟩ := C2.out
  clear y8
  go_wp2_with fail
  refine (New_yes c0 c1 c2 c4 c5 c6 c7 core nb HMAY.out k0 k1 p D _ w w2 HM2.out HB2.out hpD.out.2).mono ?_
  rintro e w3 ⟨l, rfl, hl, hS, hb3⟩
  have C3 := hide (cfg_next hb3 C2.out)
  have HQ3 := hide (HQ2.out.below hb3)
  have HS3 := hide (And.intro hl hb3.size)
  rw [HF.out] at hS
  have HL3 := hide hS
  clear y0 y1 y2 y3 y4 y5 y6 y7 hb3 HM2 HQ2 C2 hl hS
  obtain ⟨y0, y1, y2, y3, y4, y5, y6, y7, y8⟩ := C3.out
  clear y8
  go_wp2_with fail
  refine (RNew_ok r RD nb _ c0 c1 c2 c4 c5 c6 c7 core w3 _ _ n1 n2 HQ3.out (hide (fun w => LogR_true c0 c1 c2 nb c4 c5 c6 c7 core HMAY.out k0 k1 w))).mono ?_
  rintro e w4 ⟨q, rfl, hq, hRL, hb4⟩
  have S4 : Hid (PSt w w4 l c0 c1 c2 nb c4 c5 c6 c7 p fN 0 D nb (fun _ => 0) q r RD core none 0 0 (fun _ => 0) (fun _ => 0)) := by
    have z1 := HS1.out
    have z2 := HS2.out
    have z3 := HS3.out
    have z4 := hpD.out
    have z5 := hrR.out
    have z6 := Row.lt HL3.out.log
    have z7 := (cfg_below C3.out).size
    have lg := HL3.out.lg
    refine hide ⟨HL3.out.below hb4, hRL, HQ3.out.below hb4, .inl rfl, fun j hj => by omega, Nat.le_refl _, by omega, ⟨⟨k0, k1⟩, HF.out⟩, ⟨by omega, by omega⟩, ⟨by omega, by omega, by omega, by omega, by omega⟩, ⟨by omega, by omega, by omega⟩, by omega, by omega⟩
  clear y0 y1 y2 y3 y4 y5 y6 y7 hb4 HQ3 C3 HL3 hq hRL HS1 HS2 HS3 HB2 hpD hrR C1 HF HMAY
  go_wp2_with fail
  go_loopw [10, 12, 80] (fun e f i wr => ∃ (j n c : Nat) (A : Option Addr) (E F : Nat → Int) (x : Int), j ≤ ns ∧ e = .int .i64 x ∧ f = .int .i64 x ∧ i = .int .i64 j ∧ Hid (PSt w wr l c0 c1 c2 nb c4 c5 c6 c7 p fN n D nb F q r RD core A n c E F)) (fun _ _ i _ => ns - (intOf i).toNat)
  case atStart => exact ⟨0, 0, 0, none, fun _ => 0, fun _ => 0, 0, by omega, rfl, rfl, rfl, S4⟩
  case round =>
    clear S4
    obtain ⟨j, n, c, A, E, F, x, hj, rfl, rfl, rfl, hS⟩ := hrel
    by_cases hlt : j < ns
    · obtain ⟨bb, off, rfl, hbb, hcs⟩ := (Rows4.below HR.out hS.out.L.bel).1 (by omega)
      obtain ⟨q0, q1, q2, q3⟩ := hcs j hlt
      have HW := hide (u32_bd (HR.out.2 j hlt).2.2.1)
      clear hcs
      have S0 : Hid (OSt w (wr.alloc (.cells #[.int .i64 (s0 j), .int .i64 (s1 j), .int .u32 (s2 j), .int .u32 (s3 j)] 38)) l c0 c1 c2 nb c4 c5 c6 c7 p fN n D nb F q r RD core A n c E F wr.heap.size #[.int .i64 (s0 j), .int .i64 (s1 j), .int .u32 (s2 j), .int .u32 (s3 j)]) :=
        hide ⟨hS.out.below ((Below.refl wr.heap.size wr).alloc (Nat.le_refl _) _), Blk.new wr _ _⟩
      have n31 := hS.out.n31
      clear hS
      generalize s0 j = o0 at *
      generalize s1 j = o1 at *
      generalize s2 j = o2 at *
      generalize s3 j = o3 at *
      have hn1 : (j : Int) < (ns : Int) := by omega
      by_cases k0 : o0 = 0
      · subst k0
        have S1 := hide S0.out.drew
        have hc := S1.out.cells
        go_wp2_with fail
        go_region_held3 (fun w' => (w'.cell? ⟨wr.heap.size, 0, none⟩ = some (.int .i64 0) ∧ w'.cell? ⟨wr.heap.size, 1, none⟩ = some (.int .i64 o1) ∧ w'.cell? ⟨wr.heap.size, 2, none⟩ = some (.int .u32 o2) ∧ w'.cell? ⟨wr.heap.size, 3, none⟩ = some (.int .u32 o3))) (first | exact hc | exact OSt.cells (Hid.out (by assumption)))
          (first | (go_at_call 12; refine (LSt.Add_any (PSt.L (OSt.P (Hid.out (by assumption)))) o2 o3 HW.out.1 HW.out.2).mono ?_; rintro e wm ⟨rfl, hLm, htm⟩; have Sm := hide (OSt.setL (Hid.out (by assumption)) hLm htm); clear hLm htm) | (go_at_call 24; refine (PSt.RAdd_any (OSt.P (Hid.out (by assumption))) o2 o3 HW.out.1 HW.out.2).mono ?_; rintro e wm ⟨rfl, A', c', E', hPm, htm⟩; have Sm := hide (OSt.setR (Hid.out (by assumption)) hPm htm); clear hPm htm))
        all_goals
          have S := hide Sm.out.P
          rw [addM_N] at S
          clear hc S0 S1 Sm
          generalize addE c0 nb c4 o2 c4 n = er at *
          have n31' := S.out.n31
          generalize addM er n = n' at *
          generalize addF F fN n o2 o3 er = F' at *
          go_wp2_with fail
          refine (S.out.L.Last_all).mono ?_
          rintro e wa ⟨rfl, hba⟩
          have Sa := hide (S.out.below hba)
          obtain ⟨z0, z1⟩ := Sa.out.cells
          clear hba S
          go_wp2_with fail
          refine (Sa.out.RAt_any _).mono ?_
          rintro e wb ⟨rfl, k, rfl⟩
          have Sb := hide (Sa.out.drewN k)
          clear z0 z1 Sa
          generalize wa.drewN k = wb at *
          obtain ⟨z0, z1⟩ := Sb.out.cells
          go_wp2_with fail
          go_quiet ((first | (go_at_call 14; exact quiet_left (Sb.out.drewN _).L.Len_all) | (go_at_call 20; exact Calls.quiet_of ((Sb.out.drewN _).L.Room_all)) | (go_at_call 27; exact Calls.quiet_of ((Sb.out.drewN _).RRoom_all))))
          go_wp2_with fail
          go_roundw
          case rel => exact ⟨j + 1, n', _, _, _, F', _, by omega, rfl, rfl, by go_num, hide (Sb.out.drewN _)⟩
          case measure => simp [intOf]; omega
      by_cases k1 : o0 = 1
      · subst k1
        go_wp2_with fail
        refine (S0.out.P.L.Pop_any).mono ?_
        rintro e w5 ⟨rfl, hL5, ht5⟩
        have S5 := hide (S0.out.P.setL hL5 ht5)
        clear hL5 ht5
        go_wp2_with fail
        refine (S5.out.RPop_any).mono ?_
        rintro e w6 ⟨rfl, hP6⟩
        have S := hide hP6
        rw [popM_N] at S
        clear S5 hP6 S0
        generalize popE n = er at *
        have n31' := S.out.n31
        generalize popM n = n' at *
        go_wp2_with fail
        refine (S.out.L.Last_all).mono ?_
        rintro e wa ⟨rfl, hba⟩
        have Sa := hide (S.out.below hba)
        obtain ⟨z0, z1⟩ := Sa.out.cells
        clear hba S
        go_wp2_with fail
        refine (Sa.out.RAt_any _).mono ?_
        rintro e wb ⟨rfl, k, rfl⟩
        have Sb := hide (Sa.out.drewN k)
        clear z0 z1 Sa
        generalize wa.drewN k = wb at *
        obtain ⟨z0, z1⟩ := Sb.out.cells
        go_wp2_with fail
        go_quiet ((first | (go_at_call 14; exact quiet_left (Sb.out.drewN _).L.Len_all) | (go_at_call 20; exact Calls.quiet_of ((Sb.out.drewN _).L.Room_all)) | (go_at_call 27; exact Calls.quiet_of ((Sb.out.drewN _).RRoom_all))))
        go_wp2_with fail
        go_roundw
        case rel => exact ⟨j + 1, n', _, _, _, F, _, by omega, rfl, rfl, by go_num, hide (Sb.out.drewN _)⟩
        case measure => simp [intOf]; omega
      by_cases k2 : o0 = 2
      · subst k2
        go_wp2_with fail
        refine (S0.out.P.L.Clear_all).mono ?_
        rintro e w5 ⟨rfl, hL5, ht5⟩
        have S5 := hide (S0.out.P.setL hL5 ht5)
        obtain ⟨z0, z1⟩ := S5.out.cells
        have S : Hid (PSt w (w5.setCell ⟨q, 9, none⟩ (.slice none 0 0)) l c0 c1 c2 nb c4 c5 c6 c7 p fN ((0 : Nat) : Int) D nb F q r RD core none 0 0 E F) := by
          have lg := S5.out.L.lg
          exact hide (S5.out.setQ (S5.out.rlog.setL (.slice none 0 0)) (only_setCell (g := q) (World.grownBy.refl w5 _) (p := ⟨q, 9, none⟩) (.inl rfl) _) (.inl rfl) (fun j hj => by omega) (Nat.le_refl _) (by omega))
        clear hL5 ht5 S5 S0
        go_wp2_with fail
        clear z0 z1
        refine (S.out.L.Last_all).mono ?_
        rintro e wa ⟨rfl, hba⟩
        have Sa := hide (S.out.below hba)
        obtain ⟨z0, z1⟩ := Sa.out.cells
        clear hba S
        go_wp2_with fail
        refine (Sa.out.RAt_any _).mono ?_
        rintro e wb ⟨rfl, k, rfl⟩
        have Sb := hide (Sa.out.drewN k)
        clear z0 z1 Sa
        generalize wa.drewN k = wb at *
        obtain ⟨z0, z1⟩ := Sb.out.cells
        go_wp2_with fail
        go_quiet ((first | (go_at_call 14; exact quiet_left (Sb.out.drewN _).L.Len_all) | (go_at_call 20; exact Calls.quiet_of ((Sb.out.drewN _).L.Room_all)) | (go_at_call 27; exact Calls.quiet_of ((Sb.out.drewN _).RRoom_all))))
        go_wp2_with fail
        go_roundw
        case rel => exact ⟨j + 1, 0, _, _, _, F, _, by omega, rfl, rfl, by go_num, hide (Sb.out.drewN _)⟩
        case measure => simp [intOf]; omega
      by_cases k3 : o0 = 3
      · subst k3
        obtain ⟨u0, u1, u2, u3⟩ := S0.out.cells
        go_wp2_with fail
        refine (S0.out.P.L.At_all o1).mono ?_
        rintro e w5 ⟨rfl, hb5⟩
        have S5 := hide (S0.out.P.below hb5)
        have ub := (hb5.cell (p := ⟨wr.heap.size, 1, none⟩) (by simp)).trans u1
        clear u0 u1 u2 u3 hb5 S0
        go_wp2_with fail
        refine (S5.out.RAt_any o1).mono ?_
        rintro e w6 ⟨rfl, k, rfl⟩
        have S := hide (S5.out.drewN k)
        clear ub S5
        generalize w5.drewN k = w6 at *
        generalize atE n o1 = er at *
        generalize atA F fN n o1 = va at *
        generalize atB F fN n o1 = vb at *
        go_wp2_with fail
        refine (S.out.L.Last_all).mono ?_
        rintro e wa ⟨rfl, hba⟩
        have Sa := hide (S.out.below hba)
        obtain ⟨z0, z1⟩ := Sa.out.cells
        clear hba S
        go_wp2_with fail
        refine (Sa.out.RAt_any _).mono ?_
        rintro e wb ⟨rfl, k, rfl⟩
        have Sb := hide (Sa.out.drewN k)
        clear z0 z1 Sa
        generalize wa.drewN k = wb at *
        obtain ⟨z0, z1⟩ := Sb.out.cells
        go_wp2_with fail
        go_quiet ((first | (go_at_call 14; exact quiet_left (Sb.out.drewN _).L.Len_all) | (go_at_call 20; exact Calls.quiet_of ((Sb.out.drewN _).L.Room_all)) | (go_at_call 27; exact Calls.quiet_of ((Sb.out.drewN _).RRoom_all))))
        go_wp2_with fail
        go_roundw
        case rel => exact ⟨j + 1, n, _, _, _, F, _, by omega, rfl, rfl, by go_num, hide (Sb.out.drewN _)⟩
        case measure => simp [intOf]; omega
      · have S := hide S0.out.P
        clear S0
        go_wp2_with fail
        refine (S.out.L.Last_all).mono ?_
        rintro e wa ⟨rfl, hba⟩
        have Sa := hide (S.out.below hba)
        obtain ⟨z0, z1⟩ := Sa.out.cells
        clear hba S
        go_wp2_with fail
        refine (Sa.out.RAt_any _).mono ?_
        rintro e wb ⟨rfl, k, rfl⟩
        have Sb := hide (Sa.out.drewN k)
        clear z0 z1 Sa
        generalize wa.drewN k = wb at *
        obtain ⟨z0, z1⟩ := Sb.out.cells
        go_wp2_with fail
        go_quiet ((first | (go_at_call 14; exact quiet_left (Sb.out.drewN _).L.Len_all) | (go_at_call 20; exact Calls.quiet_of ((Sb.out.drewN _).L.Room_all)) | (go_at_call 27; exact Calls.quiet_of ((Sb.out.drewN _).RRoom_all))))
        go_wp2_with fail
        go_roundw
        case rel => exact ⟨j + 1, n, _, _, _, F, _, by omega, rfl, rfl, by go_num, hide (Sb.out.drewN _)⟩
        case measure => simp [intOf]; omega
    · obtain ⟨wo, rfl⟩ : ∃ wo : World, wo = wr := ⟨_, rfl⟩
      have hge : ¬ ((j : Int) < (ns : Int)) := by omega
      have hM0 := hide hS.out.L.mem
      have hQ0 := hide hS.out.ref
      have hB0 := hide hS.out.L.bel
      clear hS
      go_wp2_with fail
      go_loopw [192] (fun i wr => ∃ b : Nat, b ≤ nb ∧ i = .int .i64 b ∧ Hid (MemAt wr p D nb F) ∧ Hid (RefAt wr r RD nb F) ∧ Hid (Below w.heap.size w wr)) (fun i _ => nb - (intOf i).toNat)
      case atStart => exact ⟨0, by omega, rfl, hM0, hQ0, hB0⟩
      case round =>
        clear hM0 hQ0 hB0
        obtain ⟨b, hb, rfl, hM, hQ, hB⟩ := hrel
        by_cases hlt : b < nb
        · have hi : inr nb (b : Int) 0 = true := inr_iff.2 ⟨by omega, by omega, by omega, by omega⟩
          have hW1 := MBlock.block_any p D nb F (b : Int) _ hM.out
          have hW2 := fun w (h : RefAt w r RD nb F) => MRef.block_any r RD nb F (b : Int) w h
          rw [show errOf nb (b : Int) 0 = 0 by simp [errOf, hi]] at hW1 hW2
          have hW1 := hide hW1
          have hW2 := hide hW2
          have hu := Try.underlying51
          have HI := hide (zero_of_info (P := Try.prog) info36').2
          have hq : ∀ w, (Op.equalIn 10000 51 (.agg (blk (getBlk F nb b)).toArray) (.agg (blk (getBlk F nb b)).toArray)).run Try.prog w = .ok true w := fun w => by rw [eq36, eqB_true (fun _ _ => rfl)]
          generalize getBlk F nb (b : Int) = v at *
          clear hi
          have hblt : (b : Int) < (nb : Int) := by omega
          go_wp2_with fail
          refine hW1.out.mono ?_
          rintro e w3 ⟨rfl, hb3⟩
          have M3 := hide ((hM.out.below hb3).below ((Below.refl w3.heap.size w3).alloc (Nat.le_refl _) (.cells (blk v).toArray 51)))
          have Q3 := hide ((hQ.out.below hb3).below ((Below.refl w3.heap.size w3).alloc (Nat.le_refl _) (.cells (blk v).toArray 51)))
          have B3 := hide (below_then (below_then hB.out hb3) ((Below.refl w3.heap.size w3).alloc (Nat.le_refl _) (.cells (blk v).toArray 51)))
          have C3 := hide (blk_new w3 51 v)
          clear hb3
          go_wp2_with (first
            | ((with_reducible refine Arr.wpList_alloc_zero rfl 51 (by rfl) _ _ info36' w3.heap.size rfl ?_))
            | ((with_reducible refine Arr.wpList_store_last rfl 51 _ _ rfl _ _ w3.heap.size rfl rfl rfl HI.out ?_ ?_ ?_ ?_); (· simp [blk_len]); (· simp [blk_len]); (· simpa using blk_one v)))
          refine (hW2.out _ Q3.out).mono ?_
          rintro e w5 ⟨rfl, hb5⟩
          have M5 := hide ((M3.out.below hb5).below ((Below.refl w5.heap.size w5).alloc (Nat.le_refl _) (.cells (blk v).toArray 51)))
          have Q5 := hide ((Q3.out.below hb5).below ((Below.refl w5.heap.size w5).alloc (Nat.le_refl _) (.cells (blk v).toArray 51)))
          have B5 := hide (below_then (below_then B3.out hb5) ((Below.refl w5.heap.size w5).alloc (Nat.le_refl _) (.cells (blk v).toArray 51)))
          have C5 := hide (blk_new w5 51 v)
          have C4 := hide ((C3.out.of_block (hb5.block _ C3.out.lt)).alloc (.cells (blk v).toArray 51))
          clear hb5
          go_wp2_with (first
            | ((with_reducible refine Arr.wpList_alloc_zero rfl 51 (by rfl) _ _ info36' w5.heap.size rfl ?_))
            | ((with_reducible refine Arr.wpList_store_last rfl 51 _ _ rfl _ _ w5.heap.size rfl rfl rfl HI.out ?_ ?_ ?_ ?_); (· simp [blk_len]); (· simp [blk_len]); (· simpa using blk_one v))
            | ((refine load_blk rfl 51 (.tmp 30) rfl w3.heap.size rfl C4.out hu HI.out ?_))
            | ((refine load_blk rfl 51 (.tmp 32) rfl w5.heap.size rfl C5.out hu HI.out ?_)))
          go_roundw
          case rel => exact ⟨b + 1, by omega, by go_num, M5, Q5, B5⟩
          case measure => simp [intOf]; omega
        · have hblt : ¬ ((b : Int) < (nb : Int)) := by omega
          go_wp2_with fail
          refine (works_any _).mono ?_
          rintro e w7 ⟨rfl, hb7⟩
          go_wp2
          go_ret
          exact ⟨rfl, below_then hB.out hb7⟩
theorem plays (hn : ns ≤ maxLen) (s0 s1 s2 s3 : Nat → Int) (hR : Rows4 w w.heap.size .i64 .i64 .u32 .u32 As ns s0 s1 s2 s3) :
    Calls Try.prog 6 #[.agg #[.int .i64 c0, .int .i64 c1, .int .i64 c2, .int .i64 c3, .int .i64 c4, .int .i64 c5, .int .i64 c6, .int .i64 c7], .int .i64 blocks, .int .i64 core, .slice As ns cs] w fun e w' => e = .returned (.bool true) ∧ Below w.heap.size w w' := by
  by_cases h : ns ≤ 300
  · by_cases hb : blocks < 1 ∨ 256 < blocks
    · exact nomem c0 c1 c2 c3 c4 c5 c6 c7 core blocks As ns cs w h hb
    · obtain ⟨nb, rfl⟩ := Int.eq_ofNat_of_zero_le (show 0 ≤ blocks by omega)
      by_cases hm : mayB c0 c1 c2 c3 c4 c5 c6 c7 = true ∧ (0 ≤ core ∧ core < c0) ∧ c3 = nb
      · obtain ⟨hm, hc, rfl⟩ := hm
        exact main c0 c1 c2 c4 c5 c6 c7 core As ns cs w nb h (by omega) (by omega) hm hc.1 hc.2 s0 s1 s2 s3 hR
      · exact nolog c0 c1 c2 c3 c4 c5 c6 c7 core As ns cs w nb h (by omega) (by omega) hm
  · exact long c0 c1 c2 c3 c4 c5 c6 c7 core blocks As ns cs w hn (by omega)
end
end Go.Proofs.Ytnhfbdjjbmhnkaa.UPlays
