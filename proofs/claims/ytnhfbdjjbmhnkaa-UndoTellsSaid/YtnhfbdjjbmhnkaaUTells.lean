/-
  UndoTells walked: entries are told as they were added, and stand in memory so. It returns true.
-/
import Derived.Test.YtnhfbdjjbmhnkaaUTellsP
import Derived.Deep.RegionHeld3
namespace Go.Proofs.Ytnhfbdjjbmhnkaa.UTells
open Go.RowKit PPlain Base PMay PRefMay PWalk MMem UPlain UWalk UAdd UAt UNew MRef MCopy URef ULog UPair Opens Blks MBlock UOwnP UTellsP Words
set_option linter.unusedVariables false
set_option linter.unusedSimpArgs false
set_option maxRecDepth 100000

theorem add_zero_iff {c0 c3 c4 addr logs many : Int} (h : addE c0 c3 c4 addr logs many ≠ 0) : (addE c0 c3 c4 addr logs many == 0) = false := by rw [beq_eq_false_iff_ne]; exact h
section
variable (c0 c1 c2 c3 c4 c5 c6 c7 core : Int) (As : Option Addr) (ns cs : Nat) (w : World)
theorem long (hn : ns ≤ maxLen) (h : 300 < ns) :
    Calls Try.prog 3 #[.agg #[.int .i64 c0, .int .i64 c1, .int .i64 c2, .int .i64 c3, .int .i64 c4, .int .i64 c5, .int .i64 c6, .int .i64 c7], .int .i64 core, .slice As ns cs] w fun e w' => e = .returned (.bool true) ∧ Below w.heap.size w w' := by
  unfold maxLen at hn
  have HB := hide ((Below.refl w.heap.size w).alloc (Nat.le_refl _) (.cells #[.int .i64 c0, .int .i64 c1, .int .i64 c2, .int .i64 c3, .int .i64 c4, .int .i64 c5, .int .i64 c6, .int .i64 c7] 23))
  go_enter Try.func3, Try.ntmps3
  go_wp2_with fail
  refine (works_any _).mono ?_
  rintro e w1 ⟨rfl, hb1⟩
  go_wp2
  go_ret
  exact ⟨rfl, below_then HB.out hb1⟩
theorem nomem (hn : ns ≤ 300) (hb : c3 < 1 ∨ 256 < c3) :
    Calls Try.prog 3 #[.agg #[.int .i64 c0, .int .i64 c1, .int .i64 c2, .int .i64 c3, .int .i64 c4, .int .i64 c5, .int .i64 c6, .int .i64 c7], .int .i64 core, .slice As ns cs] w fun e w' => e = .returned (.bool true) ∧ Below w.heap.size w w' := by
  have HB := hide ((Below.refl w.heap.size w).alloc (Nat.le_refl _) (.cells #[.int .i64 c0, .int .i64 c1, .int .i64 c2, .int .i64 c3, .int .i64 c4, .int .i64 c5, .int .i64 c6, .int .i64 c7] 23))
  have HN := hide hb
  clear hb
  go_enter Try.func3, Try.ntmps3
  go_wp2_with fail
  refine (MMem.New_no c3 HN.out _).mono ?_
  rintro e w1 ⟨rfl, rfl⟩
  go_wp2_with fail
  refine (works_any _).mono ?_
  rintro e w1 ⟨rfl, hb1⟩
  go_wp2
  go_ret
  exact ⟨rfl, below_then HB.out hb1⟩
theorem nolog (nb : Nat) (hn : ns ≤ 300) (n1 : 1 ≤ nb) (n2 : nb ≤ 256) (h : ¬ (mayB c0 c1 c2 nb c4 c5 c6 c7 = true ∧ 0 ≤ core ∧ core < c0)) :
    Calls Try.prog 3 #[.agg #[.int .i64 c0, .int .i64 c1, .int .i64 c2, .int .i64 (nb : Int), .int .i64 c4, .int .i64 c5, .int .i64 c6, .int .i64 c7], .int .i64 core, .slice As ns cs] w fun e w' => e = .returned (.bool true) ∧ Below w.heap.size w w' := by
  obtain ⟨er, her, P, R⟩ := New_none c0 c1 c2 nb c4 c5 c6 c7 core nb n1 n2 (fun e => h ⟨e.1, e.2.1⟩)
  have HP := hide P
  clear P R h
  have C0 := hide (cfg_first w c0 c1 c2 nb c4 c5 c6 c7)
  go_enter Try.func3, Try.ntmps3
  go_wp2_with fail
  refine (mnew nb n1 n2 _).mono ?_
  rintro e w1 ⟨p, D, rfl, hM, hs, hb1⟩
  have C1 := hide (cfg_next hb1 C0.out)
  have HM1 := hide hM
  clear hM hs hb1 C0
  obtain ⟨y0, y1, y2, y3, y4, y5, y6, y7, y8⟩ := C1.out
  clear y8
  go_wp2_with fail
  refine (HP.out p D _ _ HM1.out).mono ?_
  rintro e w3 ⟨rfl, hb3⟩
  have C3 := hide (cfg_below (cfg_next hb3 C1.out))
  clear y0 y1 y2 y3 y4 y5 y6 y7 hb3 HM1 C1
  go_wp2_with fail
  refine (works_any _).mono ?_
  rintro e w5 ⟨rfl, hb5⟩
  go_wp2
  go_ret
  exact ⟨rfl, below_then C3.out hb5⟩

set_option maxHeartbeats 8000000 in
theorem main (nb : Nat) (hn : ns ≤ 300) (n1 : 1 ≤ nb) (n2 : nb ≤ 256) (hm : mayB c0 c1 c2 nb c4 c5 c6 c7 = true) (k0 : 0 ≤ core) (k1 : core < c0) (s0 s1 s2 s3 : Nat → Int) (hR : Rows4 w w.heap.size .i64 .i64 .u32 .u32 As ns s0 s1 s2 s3) :
    Calls Try.prog 3 #[.agg #[.int .i64 c0, .int .i64 c1, .int .i64 c2, .int .i64 (nb : Int), .int .i64 c4, .int .i64 c5, .int .i64 c6, .int .i64 c7], .int .i64 core, .slice As ns cs] w fun e w' => e = .returned (.bool true) ∧ Below w.heap.size w w' := by
  have HR := hide hR
  have HMAY := hide hm
  have C0 := hide (cfg_first w c0 c1 c2 nb c4 c5 c6 c7)
  have B0 := hide (Blk.new w 23 #[.int .i64 c0, .int .i64 c1, .int .i64 c2, .int .i64 (nb : Int), .int .i64 c4, .int .i64 c5, .int .i64 c6, .int .i64 c7])
  have fb := first_bd c0 c1 c2 nb c4 c5 c6 c7 core hm k0 k1
  obtain ⟨fN, hfN⟩ := Int.eq_ofNat_of_zero_le (show 0 ≤ firstOf c0 nb c4 core by omega)
  have HF := hide hfN
  have HLOG : Hid (∀ w, Calls Try.prog 11 #[.agg #[.int .i64 c0, .int .i64 c1, .int .i64 c2, .int .i64 (nb : Int), .int .i64 c4, .int .i64 c5, .int .i64 c6, .int .i64 c7], .int .i64 core] w fun e w' => e = .returned (.tuple #[.int .i64 (fN : Int), .int .i64 c4, .int .i64 0]) ∧ Below w.heap.size w w') := by
    have := fun w => Log_true c0 c1 c2 nb c4 c5 c6 c7 core hm k0 k1 w
    rw [show (nb : Int) - c0 * c4 + core * c4 = (fN : Int) from hfN] at this
    exact this
  clear hR hm fb hfN
  go_enter Try.func3, Try.ntmps3
  go_wp2_with fail
  refine (mnew nb n1 n2 _).mono ?_
  rintro e w1 ⟨p, D, rfl, hM, hs, hb1⟩
  have C1 := hide (cfg_next hb1 C0.out)
  have B1 := hide (B0.out.below hb1 (by simp))
  have HM1 := hide hM
  have HS1 := hide hs
  have hpD : Hid (w.heap.size ≤ p ∧ w.heap.size ≤ D) := hide (by have := HS1.out; simp at this; omega)
  clear hM hs hb1 C0 B0
  obtain ⟨y0, y1, y2, y3, y4, y5, y6, y7, y8⟩ := C1.out
  clear y8
  go_wp2_with fail
  refine (New_yes c0 c1 c2 c4 c5 c6 c7 core nb HMAY.out k0 k1 p D _ w w1 HM1.out (cfg_below C1.out) hpD.out.2).mono ?_
  rintro e w3 ⟨l, rfl, hl, hS, hb3⟩
  rw [HF.out] at hS
  have C3 := hide (cfg_next hb3 C1.out)
  have B3 := hide (B1.out.below hb3 B1.out.lt)
  have HL3 := hide hS
  clear y0 y1 y2 y3 y4 y5 y6 y7 hb3 HM1 C1 B1 hl hS hpD HS1
  obtain ⟨y0, y1, y2, y3, y4, y5, y6, y7, y8⟩ := C3.out
  clear y8
  go_wp2_with fail
  refine (HLOG.out _).mono ?_
  rintro e w4 ⟨rfl, hb4⟩
  have S4 : Hid (LB w w4 l c0 c1 c2 nb c4 c5 c6 c7 p (fN : Int) 0 D nb (fun _ => 0) w.heap.size #[.int .i64 c0, .int .i64 c1, .int .i64 c2, .int .i64 (nb : Int), .int .i64 c4, .int .i64 c5, .int .i64 c6, .int .i64 c7]) := hide ⟨HL3.out.below hb4, B3.out.below hb4 B3.out.lt⟩
  clear y0 y1 y2 y3 y4 y5 y6 y7 hb4 C3 B3 HL3 HF HMAY HLOG
  obtain ⟨i0, hi0, hz0, hz1, hz2⟩ := info_parts infoT
  go_wp2_with fail
  go_loopw [13, 57] (fun v i wr => ∃ (j n c : Nat) (A : Option Addr) (E F : Nat → Int), j ≤ ns ∧ v = .slice A n c ∧ i = .int .i64 j ∧ Hid (LB w wr l c0 c1 c2 nb c4 c5 c6 c7 p (fN : Int) n D nb F w.heap.size #[.int .i64 c0, .int .i64 c1, .int .i64 c2, .int .i64 (nb : Int), .int .i64 c4, .int .i64 c5, .int .i64 c6, .int .i64 c7]) ∧ Hid (Has w wr A n c E p) ∧ Hid (∀ k, k < n * 2 → E k = F (fN * 16 + k))) (fun _ i _ => ns - (intOf i).toNat)
  case atStart => exact ⟨0, 0, 0, none, fun _ => 0, fun _ => 0, by omega, rfl, rfl, S4, hide (Has.none_ _ _ _ _), hide (fun k hk => by omega)⟩
  case round =>
    clear S4
    obtain ⟨j, n, c, A, E, F, hj, rfl, rfl, hS, hH, hE⟩ := hrel
    by_cases hlt : j < ns
    · obtain ⟨bb, off, rfl, hbb, hcs⟩ := (Rows4.below HR.out hS.out.L.bel).1 (by omega)
      obtain ⟨q0, q1, q2, q3⟩ := hcs j hlt
      have HW := hide (u32_bd (HR.out.2 j hlt).2.2.1)
      clear hcs
      have S0 := hide (hS.out.below ((Below.refl wr.heap.size wr).alloc (Nat.le_refl _) (.cells #[.int .i64 (s0 j), .int .i64 (s1 j), .int .u32 (s2 j), .int .u32 (s3 j)] 38)))
      generalize s0 j = o0 at *
      generalize s1 j = o1 at *
      generalize s2 j = o2 at *
      generalize s3 j = o3 at *
      have hn1 : (j : Int) < (ns : Int) := by omega
      have H0 := hide (hH.out.below ((Below.refl wr.heap.size wr).alloc (Nat.le_refl _) (.cells #[.int .i64 o0, .int .i64 o1, .int .u32 o2, .int .u32 o3] 38)))
      have B0 := hide (Blk.new wr 38 #[.int .i64 o0, .int .i64 o1, .int .u32 o2, .int .u32 o3])
      have n32 : n ≤ 32 := by have := S0.out.L.m1; have := S0.out.L.lg; omega
      clear hS hH
      by_cases k0 : o0 = 0
      · subst k0
        by_cases he : addE c0 nb c4 o2 c4 n = 0
        · go_wp2_with fail
          refine (S0.out.L.Add_any o2 o3 HW.out.1 HW.out.2).mono ?_
          rintro e w5 ⟨rfl, hL5, ht5⟩
          have hn8 := addE_zero he
          have m1 := S0.out.L.m1
          rw [he] at hL5
          simp only [addN, if_true] at hL5
          have S5 := hide (S0.out.move hL5 ht5)
          have H5 := hide (H0.out.two ht5 S0.out.L.mem.2.2.2 S0.out.L.log (by decide) (by decide))
          have B5 : Hid (Blk w5 wr.heap.size 38 #[.int .i64 0, .int .i64 o1, .int .u32 o2, .int .u32 o3]) := hide ((ht5.block _ B0.out.lt (blk_ne B0.out S0.out.L.mem.2.2.2 (by decide)) (blk_ne B0.out S0.out.L.log (by decide))).trans B0.out)
          have HE : Hid (∀ k, k < (n + 1) * 2 → addEnt E n o2 o3 k = addF F fN n o2 o3 0 (fN * 16 + k)) := hide fun k hk => by
            have e2 := base_nat fN n
            simp only [addEnt, addF, if_true, putE, e2]
            by_cases e1 : k = n * 2
            · simp [e1]
            · by_cases e3 : k = n * 2 + 1
              · simp [e3, ← Nat.add_assoc]
              · have := hE.out k (by omega)
                simp [e1, e3, this, show fN * 16 + k ≠ fN * 16 + n * 2 + 1 by omega]
          rw [he]
          clear hL5 ht5 S0 H0 B0 he hn8 m1 hE
          generalize addF F fN n o2 o3 0 = F' at *
          have u0 := B5.out.cell 2
          have u1 := B5.out.cell 3
          simp at u0 u1
          have HOWN := hide (H5.out.own.alloc (.cells #[.int .u32 o2, .int .u32 o3] 40))
          have HR5 := hide (reads_pair w5 40 o2 o3)
          have HP := hide (pair_one o2 o3)
          have hm32 : n + 1 ≤ maxLen := by unfold maxLen; omega
          have hz5 : w.heap.size ≤ (w5.alloc (.cells #[.int .u32 o2, .int .u32 o3] 40)).heap.size := by have := S5.out.L.bel.size; simp; omega
          have HZ5 := hide hz5
          have HPL := hide (block_lt_of_cell S5.out.L.mem.2.2.1.choose_spec.2)
          have hby : (n + 1) * 8 ≤ 140737488355328 := by omega
          have HBY := hide hby
          clear hz5 B5 hby
          go_wp2_with (first
            | (at_builtin; refine wpList_append_any _ rfl (.tmp 72) (.tmp 78) 35 rfl w.heap.size 40 i0 _ 2 8 Try.underlying35 hi0 hz0 hz1 hz2 rfl (by omega) (.slice A n c) n (wordsL E (n * 2)) rfl HOWN.out (w5.heap.size + 1) (some ⟨w5.heap.size, 0, none⟩) 1 1 [.int .u32 o2, .int .u32 o3] rfl HR5.out HP.out hm32 HBY.out HZ5.out ?_; intro v6 w6 hown6 hg6 hat6; obtain ⟨g6, cap6, rfl, hbg6, hlt6⟩ := hown6.form (Nat.succ_pos n); have HOWN6 := hide hown6; have HG6 := hide hg6; have HAT6 := hide hat6; clear hown6 hg6 hat6))
          have S : Hid (LB w w6 l c0 c1 c2 nb c4 c5 c6 c7 p (fN : Int) ((n : Int) + 1) D nb F' w.heap.size #[.int .i64 c0, .int .i64 c1, .int .i64 c2, .int .i64 (nb : Int), .int .i64 c4, .int .i64 c5, .int .i64 c6, .int .i64 c7]) := by
            refine hide (LB.grow (S5.out.below ((Below.refl w5.heap.size w5).alloc (Nat.le_refl _) _)) HG6.out fun g hg => ⟨(HOWN.out.lt g hg).1, H5.out.ne g hg, own_type HOWN.out hg⟩)
          have HH : Hid (Has w w6 (some ⟨g6, 0, none⟩) (n + 1) cap6 (addEnt E n o2 o3) p) := by
            refine hide (H5.out.after HPL.out ?_ HOWN6.out ?_)
            · have := HG6.out.size; simp at this; omega
            · rcases HAT6.out with e | e
              · exact .inl e
              · exact .inr ⟨_, by simp, e⟩
          clear S5 H5 HOWN HR5 HP HZ5 HPL HOWN6 HG6 HAT6 u0 u1
          have hc1 : ((n + 1 : Nat) : Int) = (n : Int) + 1 := by omega
          rw [← hc1] at S
          clear hc1
          go_wp2_with fail
          refine (S.out.L.Len_all).mono ?_
          rintro e wz ⟨rfl, rfl⟩
          go_wp2_with fail
          go_roundw
          case rel => exact ⟨j + 1, n + 1, _, _, _, _, by omega, rfl, by go_num, S, HH, HE⟩
          case measure => simp [intOf]; omega
        · have he2 := add_zero_iff he
          go_wp2_with fail
          refine (S0.out.L.Add_any o2 o3 HW.out.1 HW.out.2).mono ?_
          rintro e w5 ⟨rfl, hL5, ht5⟩
          simp only [addN, addF, if_neg he] at hL5
          have S := hide (S0.out.move hL5 ht5)
          have HH := hide (H0.out.two ht5 S0.out.L.mem.2.2.2 S0.out.L.log (by decide) (by decide))
          clear hL5 ht5 S0 H0 B0 he
          generalize addE c0 nb c4 o2 c4 n = er at *
          go_wp2_with fail
          refine (S.out.L.Len_all).mono ?_
          rintro e wz ⟨rfl, rfl⟩
          go_wp2_with fail
          go_roundw
          case rel => exact ⟨j + 1, n, _, _, _, _, by omega, rfl, by go_num, S, HH, hE⟩
          case measure => simp [intOf]; omega
      by_cases k1 : o0 = 1
      · subst k1
        rcases Nat.eq_zero_or_pos n with hz | hz
        · subst hz
          go_wp2_with fail
          refine (S0.out.L.Pop_any).mono ?_
          rintro e w5 ⟨rfl, hL5, ht5⟩
          have S := hide (S0.out.move hL5 ht5)
          have HH := hide (H0.out.two ht5 S0.out.L.mem.2.2.2 S0.out.L.log (by decide) (by decide))
          rw [show popN ((0 : Nat) : Int) = ((0 : Nat) : Int) from rfl] at S
          rw [show popE ((0 : Nat) : Int) = 4 from rfl]
          clear hL5 ht5 S0 H0 B0
          go_wp2_with fail
          refine (S.out.L.Len_all).mono ?_
          rintro e wz ⟨rfl, rfl⟩
          go_wp2_with fail
          go_roundw
          case rel => exact ⟨j + 1, 0, _, _, _, _, by omega, rfl, by go_num, S, HH, hE⟩
          case measure => simp [intOf]; omega
        · obtain ⟨m, rfl⟩ : ∃ m, n = m + 1 := ⟨n - 1, by omega⟩
          go_wp2_with fail
          refine (S0.out.L.Pop_any).mono ?_
          rintro e w5 ⟨rfl, hL5, ht5⟩
          have S := hide (S0.out.move hL5 ht5)
          have HH := hide ((H0.out.two ht5 S0.out.L.mem.2.2.2 S0.out.L.log (by decide) (by decide)).less (Nat.le_succ m))
          have hcap := H0.out.cap
          rw [popM_N, show popM (m + 1) = m from rfl] at S
          have hpe : popE ((m + 1 : Nat) : Int) = 0 := by unfold popE; rw [if_neg (by omega)]
          rw [hpe]
          have HE : Hid (∀ k, k < m * 2 → E k = F (fN * 16 + k)) := hide fun k hk => hE.out k (by omega)
          clear hL5 ht5 S0 H0 B0 hpe hE
          have ew1 : max ((m : Int)) 0 = (m : Int) := by omega
          have ew2 : (m : Int) + 1 - 1 = (m : Int) := by omega
          go_wp2_with fail
          refine (S.out.L.Len_all).mono ?_
          rintro e wz ⟨rfl, rfl⟩
          go_wp2_with fail
          go_roundw
          case rel => exact ⟨j + 1, m, _, _, _, _, by omega, rfl, by go_num, S, HH, HE⟩
          case measure => simp [intOf]; omega
      · have f0 : (o0 == 0) = false := by rw [beq_eq_false_iff_ne]; exact k0
        have f1 : (o0 == 1) = false := by rw [beq_eq_false_iff_ne]; exact k1
        have S := S0
        have HH := H0
        clear S0 H0 k0 k1
        go_wp2_with fail
        refine (S.out.L.Len_all).mono ?_
        rintro e wz ⟨rfl, rfl⟩
        go_wp2_with fail
        go_roundw
        case rel => exact ⟨j + 1, n, _, _, _, _, by omega, rfl, by go_num, S, HH, hE⟩
        case measure => simp [intOf]; omega
    · have hge : ¬ ((j : Int) < (ns : Int)) := by omega
      obtain ⟨wo, rfl⟩ : ∃ wo : World, wo = wr := ⟨_, rfl⟩
      have hT0 : Hid (Ent wo A n (fun j => F (fN * 16 + j))) := by
        rcases Nat.eq_zero_or_pos n with hz | hz
        · exact .inl hz
        · obtain ⟨g, hA, hrow⟩ := hH.out.row hz
          exact .inr ⟨g, hA, hrow.congr fun i hi => by rw [hE.out i hi]⟩
      clear hH hE
      go_wp2_with fail
      go_loopw [103] (fun i wr => ∃ k : Nat, k ≤ n ∧ i = .int .i64 k ∧ Hid (LB w wr l c0 c1 c2 nb c4 c5 c6 c7 p (fN : Int) n D nb F w.heap.size #[.int .i64 c0, .int .i64 c1, .int .i64 c2, .int .i64 (nb : Int), .int .i64 c4, .int .i64 c5, .int .i64 c6, .int .i64 c7]) ∧ Hid (Ent wr A n (fun j => F (fN * 16 + j)))) (fun i _ => n - (intOf i).toNat)
      case atStart => exact ⟨0, by omega, rfl, hS, hT0⟩
      case round =>
        clear hS hT0
        obtain ⟨k, hk, rfl, hS, hT⟩ := hrel
        by_cases hlt : k < n
        · have lg := hS.out.L.lg
          have m1 := hS.out.L.m1
          have hlg := hS.out.L.hlg
          rcases hT.out with h0 | ⟨g, rfl, hrow⟩
          · omega
          have y0 : wr.cell? ⟨g, k * 2, none⟩ = some (.int .u32 (F (fN * 16 + k * 2))) := hrow.cell (show k * 2 < n * 2 by omega)
          have y1 : wr.cell? ⟨g, k * 2 + 1, none⟩ = some (.int .u32 (F (fN * 16 + (k * 2 + 1)))) := hrow.cell (show k * 2 + 1 < n * 2 by omega)
          have eA : atA F (fN : Int) (n : Int) (k : Int) = F (fN * 16 + k * 2) := by simp only [atA]; rw [if_pos ⟨by omega, by omega⟩, base_nat]
          have eB : atB F (fN : Int) (n : Int) (k : Int) = F (fN * 16 + (k * 2 + 1)) := by simp only [atB]; rw [if_pos ⟨by omega, by omega⟩, base_nat]; rfl
          have eE : atE (n : Int) (k : Int) = 0 := by simp only [atE]; rw [if_pos ⟨by omega, by omega⟩]
          have i0' : inr nb ((fN : Int) + (k : Int) / 8) ((k : Int) % 8 * 2) = true := inr_iff.2 ⟨by omega, by omega, by omega, by omega⟩
          have i1' : inr nb ((fN : Int) + (k : Int) / 8) ((k : Int) % 8 * 2 + 1) = true := inr_iff.2 ⟨by omega, by omega, by omega, by omega⟩
          have x0 : idx ((fN : Int) + (k : Int) / 8) ((k : Int) % 8 * 2) = fN * 16 + k * 2 := by unfold idx; omega
          have x1 : idx ((fN : Int) + (k : Int) / 8) ((k : Int) % 8 * 2 + 1) = fN * 16 + (k * 2 + 1) := by unfold idx; omega
          have W0 : Hid (∀ wx, MemAt wx p D nb F → Calls Try.prog 16 #[.pointer (some ⟨p, 0, none⟩), .int .i64 ((fN : Int) + (k : Int) / 8), .int .i64 ((k : Int) % 8 * 2)] wx fun e w' => e = .returned (.tuple #[.int .u32 (F (fN * 16 + k * 2)), .int .i64 0]) ∧ wx = w') := hide fun wx h => by
            have := Word_any p D nb F ((fN : Int) + (k : Int) / 8) ((k : Int) % 8 * 2) wx h
            simpa only [getOf, errOf, i0', if_true, x0] using this
          have W1 : Hid (∀ wx, MemAt wx p D nb F → Calls Try.prog 16 #[.pointer (some ⟨p, 0, none⟩), .int .i64 ((fN : Int) + (k : Int) / 8), .int .i64 ((k : Int) % 8 * 2 + 1)] wx fun e w' => e = .returned (.tuple #[.int .u32 (F (fN * 16 + (k * 2 + 1))), .int .i64 0]) ∧ wx = w') := hide fun wx h => by
            have := Word_any p D nb F ((fN : Int) + (k : Int) / 8) ((k : Int) % 8 * 2 + 1) wx h
            simpa only [getOf, errOf, i1', if_true, x1] using this
          have AT := hide (fun wx (h : LSt w wx l c0 c1 c2 nb c4 c5 c6 c7 p (fN : Int) c4 n D nb F) => h.At_all (k : Int))
          rw [eA, eB, eE] at AT
          have f31 : fN ≤ 256 := by have := hS.out.L.mem.1; omega
          have k31 : k ≤ 32 := by omega
          have hb0 := (Below.refl wr.heap.size wr).alloc (Nat.le_refl _) (.cells #[.int .u32 (F (fN * 16 + k * 2)), .int .u32 (F (fN * 16 + (k * 2 + 1)))] 40)
          have S1 := hide (hS.out.below hb0)
          have T1 := hide (hT.out.below hb0)
          have X1 := hide (Blk.new wr 40 #[.int .u32 (F (fN * 16 + k * 2)), .int .u32 (F (fN * 16 + (k * 2 + 1)))])
          clear eA eB eE i0' i1' x0 x1 hb0 hS hT hrow m1 hlg lg
          generalize F (fN * 16 + k * 2) = va at *
          generalize F (fN * 16 + (k * 2 + 1)) = vb at *
          have hkn : (k : Int) < (n : Int) := by omega
          have HI := hide (zero_of_info (P := Try.prog) info2).2
          go_wp2_with (first
            | ((with_reducible refine Arr.wpList_alloc_zero rfl 40 (by rfl) _ _ info2 wr.heap.size (by simp) ?_))
            | ((with_reducible refine Arr.wpList_store_last rfl 40 _ _ rfl _ _ wr.heap.size (by simp) rfl rfl HI.out rfl rfl rfl ?_)))
          refine (AT.out _ S1.out.L).mono ?_
          rintro e w5 ⟨rfl, hb5⟩
          have S5 := hide (S1.out.below hb5)
          have T5 := hide (T1.out.below hb5)
          have X5 := hide (X1.out.below hb5 X1.out.lt)
          have z0 := X5.out.cell 0
          have z1 := X5.out.cell 1
          simp at z0 z1
          clear hb5 S1 T1 X1 X5 y0 y1
          go_wp2_with fail
          refine (W0.out _ S5.out.L.mem).mono ?_
          rintro e wx ⟨rfl, rfl⟩
          go_wp2_with fail
          refine (W1.out _ S5.out.L.mem).mono ?_
          rintro e wx ⟨rfl, rfl⟩
          go_wp2_with fail
          go_roundw
          case rel => exact ⟨k + 1, by omega, by go_num, S5, T5⟩
          case measure => simp [intOf]; omega
        · have hkn : ¬ ((k : Int) < (n : Int)) := by omega
          go_wp2_with fail
          refine (works_any _).mono ?_
          rintro e w7 ⟨rfl, hb7⟩
          go_wp2
          go_ret
          exact ⟨rfl, below_then hS.out.L.bel hb7⟩
theorem whole (hn : ns ≤ maxLen) (s0 s1 s2 s3 : Nat → Int) (hR : Rows4 w w.heap.size .i64 .i64 .u32 .u32 As ns s0 s1 s2 s3) :
    Calls Try.prog 3 #[.agg #[.int .i64 c0, .int .i64 c1, .int .i64 c2, .int .i64 c3, .int .i64 c4, .int .i64 c5, .int .i64 c6, .int .i64 c7], .int .i64 core, .slice As ns cs] w fun e w' => e = .returned (.bool true) ∧ Below w.heap.size w w' := by
  by_cases h : ns ≤ 300
  · by_cases hb : c3 < 1 ∨ 256 < c3
    · exact nomem c0 c1 c2 c3 c4 c5 c6 c7 core As ns cs w h hb
    · obtain ⟨nb, rfl⟩ := Int.eq_ofNat_of_zero_le (show 0 ≤ c3 by omega)
      by_cases hm : mayB c0 c1 c2 nb c4 c5 c6 c7 = true ∧ 0 ≤ core ∧ core < c0
      · exact main c0 c1 c2 c4 c5 c6 c7 core As ns cs w nb h (by omega) (by omega) hm.1 hm.2.1 hm.2.2 s0 s1 s2 s3 hR
      · exact nolog c0 c1 c2 c4 c5 c6 c7 core As ns cs w nb h (by omega) (by omega) hm
  · exact long c0 c1 c2 c3 c4 c5 c6 c7 core As ns cs w hn (by omega)
end
end Go.Proofs.Ytnhfbdjjbmhnkaa.UTells
