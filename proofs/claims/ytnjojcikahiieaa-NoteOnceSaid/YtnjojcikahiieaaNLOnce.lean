/-
  NoteOnce walked: any note. It returns true.
-/
import Derived.Test.YtnjojcikahiieaaNLTakes
namespace Go.Proofs.Ytnjojcikahiieaa.NLOnce
open Go.RowKit Base Blks Words NRec NSmall NLaw NPlain NNum NVal NNumR NMaySt NMayAll NPut NTakeP NTake NTakeR NTruth NWorks NLTakes
set_option linter.unusedVariables false
set_option linter.unusedSimpArgs false
set_option maxRecDepth 100000

def turnN (n : NT) : NT := { n with Fr := n.To, To := n.Fr }
theorem mayN_facts {n : NT} (h : mayN n = true) : (1 ≤ n.K ∧ n.K ≤ 11) ∧ (n.Fr = -1 ∧ (0 ≤ n.To ∧ n.To < 16) ∨ n.To = -1 ∧ (0 ≤ n.Fr ∧ n.Fr < 16)) ∧ mayN (turnN n) = false := by
  unfold mayN at h
  simp only [Bool.and_eq_true, decide_eq_true_eq, beq_iff_eq] at h
  obtain ⟨⟨⟨⟨h1, h2⟩, h3⟩, h4⟩, h5⟩ := h
  simp only [coreB, decide_eq_true_eq] at h3
  refine ⟨h1, ?_, mayN_core ?_⟩
  · unfold whoN at h3
    unfold atN at h4
    split at h3 <;> rename_i hc
    · rw [if_pos hc] at h4; exact Or.inr ⟨h4, h3⟩
    · rw [if_neg hc] at h4; exact Or.inl ⟨h4, h3⟩
  · have : whoN (turnN n) = atN n := by unfold whoN atN turnN; rfl
    rw [this, h4]
    rfl
theorem MSt.drew {w0 w : World} {B W : Nat} {n m : NT} (h : MSt w0 w B W n m) : MSt w0 w.drew B W n m := ⟨h.N, h.M, h.bel.drew, h.ge, h.ne⟩
theorem MSt.turned {w0 w : World} {B W : Nat} {n : NT} (h : MSt w0 w B W n n) : MSt w0 ((w.setCell ⟨W, 1, none⟩ (.int .i64 n.To)).setCell ⟨W, 2, none⟩ (.int .i64 n.Fr)) B W n (turnN n) :=
  ⟨(h.N.far (p := ⟨W, 1, none⟩) h.ne _).far (p := ⟨W, 2, none⟩) h.ne _, (h.M.set 1 (.int .i64 n.To) { n with Fr := n.To } rfl).set 2 (.int .i64 n.Fr) (turnN n) rfl, (h.bel.setCell (p := ⟨W, 1, none⟩) h.ge _).setCell (p := ⟨W, 2, none⟩) h.ge _, h.ge, h.ne⟩
theorem once_no (n : NT) (MA : Hid (∀ w, Calls Try.prog 13 #[.agg (ntL n).toArray] w fun e w' => e = .returned (.int .i64 2) ∧ Below w.heap.size w w')) (w : World) :
    Calls Try.prog 8 #[.agg (ntL n).toArray] w fun e w' => e = .returned (.bool true) ∧ Below w.heap.size w w' := by
  have S0 : Hid (WSt w (w.alloc (.cells (ntL n).toArray 29)) w.heap.size n) := hide ⟨NAt.new w n, (Below.refl w.heap.size w).alloc (Nat.le_refl _) _⟩
  go_enter Try.func8, Try.ntmps8
  go_upto_region 1 with fail
  generalize w.alloc (.cells (ntL n).toArray 29) = w0 at *
  generalize w.heap.size = B at *
  go_wp2_with (first
    | ((with_reducible refine load_note rfl (.tmp 1) rfl B rfl S0.out.N ?_)))
  refine (MA.out _).mono ?_
  rintro e w1 ⟨rfl, hb1⟩
  have S1 := hide (S0.out.below hb1)
  clear hb1 S0 MA
  go_wp2_with fail
  refine (works_any _).mono ?_
  rintro e w2 ⟨rfl, hb2⟩
  have HB := hide (below_then S1.out.bel hb2)
  clear hb2 S1
  go_wp2_with fail
  go_ret
  exact ⟨rfl, HB.out⟩
set_option maxHeartbeats 4000000 in
theorem once_yes (n : NT) (m : Int) (m0 : 0 ≤ m) (m1 : m < 3) (K : Int) (hK : n.K = K) (q : Bool) (hq1 : (n.Fr == -1) = q) (hq2 : (n.To == -1) = !q)
    (MN : Hid (∀ w, Calls Try.prog 13 #[.agg (ntL n).toArray] w fun e w' => e = .returned (.int .i64 0) ∧ Below w.heap.size w w'))
    (MA : Hid (∀ w, Calls Try.prog 13 #[.agg (ntL (turnN n)).toArray] w fun e w' => e = .returned (.int .i64 2) ∧ Below w.heap.size w w'))
    (NE : Hid (∀ w, Calls Try.prog 15 #[.int .u8 K] w fun e w' => e = .returned (.int .i64 m) ∧ w = w')) (w : World) :
    Calls Try.prog 8 #[.agg (ntL n).toArray] w fun e w' => e = .returned (.bool true) ∧ Below w.heap.size w w' := by
  have S0 : Hid (WSt w (w.alloc (.cells (ntL n).toArray 29)) w.heap.size n) := hide ⟨NAt.new w n, (Below.refl w.heap.size w).alloc (Nat.le_refl _) _⟩
  have HS := hide (Nat.le_refl w.heap.size)
  go_enter Try.func8, Try.ntmps8
  go_upto_region 1 with fail
  generalize w.alloc (.cells (ntL n).toArray 29) = w0 at *
  generalize w.heap.size = B at *
  go_wp2_with (first
    | ((with_reducible refine load_note rfl (.tmp 1) rfl B rfl S0.out.N ?_)))
  refine (MN.out _).mono ?_
  rintro e w1 ⟨rfl, hb1⟩
  have S1 := hide (S0.out.below hb1)
  clear hb1 S0 MN
  have S3 : Hid (MSt w (w1.alloc (.cells (ntL n).toArray 29)) B w1.heap.size n n) := hide ⟨S1.out.N.alloc _, NAt.new w1 n, S1.out.bel.alloc S1.out.bel.size _, S1.out.bel.size, fun e => by have := S1.out.N.lt; omega⟩
  go_upto_region 4 with (first
    | ((with_reducible refine load_note rfl (.tmp 1) rfl B rfl S1.out.N ?_))
    | ((with_reducible refine alloc_note rfl rfl w1.heap.size rfl ?_))
    | ((with_reducible refine store_note_last rfl _ _ rfl _ w1.heap.size rfl rfl rfl ?_)))
  generalize w1.alloc (.cells (ntL n).toArray 29) = w3 at *
  generalize w1.heap.size = W at *
  clear S1 HS
  have HNE := hide S3.out.ne
  obtain ⟨d0, d1, d2, d3, d4, d5, d6, d7⟩ := S3.out.M.cells
  have f1 := S3.out.M.frozen 1
  have f2 := S3.out.M.frozen 2
  refine wp_region_held_drew (S := (fun w' => NAt w' B n)) (by kernel_rfl) S3.out.N.drew (fun hH0 => ?_)
  refine wpAnyH_take (i := 0) (v := ?_) rfl (by kernel_rfl) (by kernel_rfl) (by kernel_rfl) (fun _ _ _ h => h) (Or.inl ⟨by rfl, fun w hSw => ?_⟩) hH0 ?_
  rotate_left
  · clear hSw
    go_simp
    try with_reducible rfl
  try simp only [Act.put, List.getElem_toArray, List.getElem_cons_zero, List.getElem_cons_succ, List.setIfInBounds_toArray, List.set_cons_zero, List.set_cons_succ]
  refine wpAnyH_take (i := 1) (v := ?_) rfl (by kernel_rfl) (by kernel_rfl) (by kernel_rfl) (fun _ _ _ h => h) (Or.inl ⟨by rfl, fun w hSw => ?_⟩) hH0 ?_
  rotate_left
  · obtain ⟨c0, c1, c2, c3, c4, c5, c6, c7⟩ := hSw.cells
    clear hSw
    go_simp
    try with_reducible rfl
  try simp only [Act.put, List.getElem_toArray, List.getElem_cons_zero, List.getElem_cons_succ, List.setIfInBounds_toArray, List.set_cons_zero, List.set_cons_succ]
  refine wpAnyH_take (i := 2) (v := ?_) rfl (by kernel_rfl) (by kernel_rfl) (by kernel_rfl) (fun _ _ _ h => h) (Or.inl ⟨by rfl, fun w hSw => ?_⟩) hH0 ?_
  rotate_left
  · clear hSw
    go_simp
    try with_reducible rfl
  try simp only [Act.put, List.getElem_toArray, List.getElem_cons_zero, List.getElem_cons_succ, List.setIfInBounds_toArray, List.set_cons_zero, List.set_cons_succ]
  refine wpAnyH_take (i := 3) (v := ?_) rfl (by kernel_rfl) (by kernel_rfl) (by kernel_rfl) (fun _ _ _ h => h) (Or.inl ⟨by rfl, fun w hSw => ?_⟩) hH0 ?_
  rotate_left
  · obtain ⟨c0, c1, c2, c3, c4, c5, c6, c7⟩ := hSw.cells
    clear hSw
    go_simp
    try with_reducible rfl
  try simp only [Act.put, List.getElem_toArray, List.getElem_cons_zero, List.getElem_cons_succ, List.setIfInBounds_toArray, List.set_cons_zero, List.set_cons_succ]
  refine wpAnyH_take (i := 4) (v := ?_) rfl (by kernel_rfl) (by kernel_rfl) (by kernel_rfl) (fun _ _ _ h => h) (Or.inl ⟨by rfl, fun w hSw => ?_⟩) hH0 ?_
  rotate_left
  · clear hSw
    go_simp
    try with_reducible rfl
  try simp only [Act.put, List.getElem_toArray, List.getElem_cons_zero, List.getElem_cons_succ, List.setIfInBounds_toArray, List.set_cons_zero, List.set_cons_succ]
  refine wpAnyH_ready (rs := [5]) (by kernel_rfl) (by simp) ?_
  refine AllReadyH.cons (o := _) rfl (fun K hK => ?_) AllReadyH.nil
  go_simp
  refine hK.out _ _ (NAt.far hH0 (p := ⟨W, 1, none⟩) HNE.out _) (fun hH1 => ?_)
  clear hK K
  try simp only [Act.put, List.getElem_toArray, List.getElem_cons_zero, List.getElem_cons_succ, List.setIfInBounds_toArray, List.set_cons_zero, List.set_cons_succ]
  refine wpAnyH_take (i := 6) (v := ?_) rfl (by kernel_rfl) (by kernel_rfl) (by kernel_rfl) (fun _ _ _ h => h) (Or.inl ⟨by rfl, fun w hSw => ?_⟩) hH1 ?_
  rotate_left
  · clear hSw
    go_simp
    try with_reducible rfl
  try simp only [Act.put, List.getElem_toArray, List.getElem_cons_zero, List.getElem_cons_succ, List.setIfInBounds_toArray, List.set_cons_zero, List.set_cons_succ]
  refine wpAnyH_ready (rs := [7]) (by kernel_rfl) (by simp) ?_
  refine AllReadyH.cons (o := _) rfl (fun K hK => ?_) AllReadyH.nil
  go_simp
  refine hK.out _ _ (NAt.far hH1 (p := ⟨W, 2, none⟩) HNE.out _) (fun hH2 => ?_)
  clear hK K
  try simp only [Act.put, List.getElem_toArray, List.getElem_cons_zero, List.getElem_cons_succ, List.setIfInBounds_toArray, List.set_cons_zero, List.set_cons_succ]
  refine wpAnyH_done (by kernel_rfl) ?_ _
  have S5 := hide (MSt.drew (MSt.turned S3.out))
  go_upto_region 5 with fail
  clear S3 hH0 hH1 hH2 d0 d1 d2 d3 d4 d5 d6 d7 f1 f2 HNE
  generalize ((w3.setCell ⟨W, 1, none⟩ (.int .i64 n.To)).setCell ⟨W, 2, none⟩ (.int .i64 n.Fr)).drew = w5 at *
  have c0 := S5.out.N.cells.1
  go_wp2_with fail
  refine (NE.out _).mono ?_
  rintro e w6 ⟨rfl, rfl⟩
  clear c0
  go_upto_region 6 with fail
  go_wp2_with (first
    | ((with_reducible refine load_note rfl (.tmp 3) rfl W rfl S5.out.M ?_)))
  refine (MA.out _).mono ?_
  rintro e w7 ⟨rfl, hb7⟩
  have S7 := hide (MSt.below S5.out hb7)
  clear hb7 S5 MA NE
  obtain ⟨c0, c1, c2, c3, c4, c5, c6, c7⟩ := S7.out.N.cells
  go_wp2_with fail
  refine (works_any _).mono ?_
  rintro e w8 ⟨rfl, hb8⟩
  have HB := hide (below_then S7.out.bel hb8)
  clear hb8
  go_wp2_with fail
  go_ret
  exact ⟨rfl, HB.out⟩
theorem netN_bd {K : Int} (h : 1 ≤ K ∧ K ≤ 11) : 0 ≤ netN K ∧ netN K < 3 := by
  unfold netN
  rw [if_neg (by omega)]
  split
  · omega
  · split <;> omega
theorem once (n : NT) (hi : Ins n) (w : World) : Calls Try.prog 8 #[.agg (ntL n).toArray] w fun e w' => e = .returned (.bool true) ∧ Below w.heap.size w w' := by
  have MA := May_any n hi.K0 hi.K1
  rcases Bool.eq_false_or_eq_true (mayN n) with h | h
  · obtain ⟨hk, hf, ht⟩ := mayN_facts h
    have MT := May_any (turnN n) hi.K0 hi.K1
    rw [mayE_ok h] at MA
    rw [mayE_no ht] at MT
    have hb := netN_bd hk
    refine once_yes n (netN n.K) hb.1 hb.2 n.K rfl _ rfl ?_ (hide MA) (hide MT) (hide (fun w => net_any (K := n.K) (w := w) hi.K0 hi.K1)) w
    rcases hf with ⟨e, h1⟩ | ⟨e, h1⟩
    · have : (n.To == -1) = false := by rw [beq_eq_false_iff_ne]; omega
      rw [e, this]; rfl
    · have : (n.Fr == -1) = false := by rw [beq_eq_false_iff_ne]; omega
      rw [e, this]; rfl
  · rw [mayE_no h] at MA
    exact once_no n (hide MA) w
end Go.Proofs.Ytnjojcikahiieaa.NLOnce
