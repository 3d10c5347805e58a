/-
  May's answer as an error's number; the note that is asked of; it works.
-/
import Derived.Test.YtnjojcikahiieaaNTruth
namespace Go.Proofs.Ytnjojcikahiieaa.NWorks
open Go.RowKit Base Blks Words NRec NSmall NLaw NPlain NNum NVal NNumR NMayAll NPut NTakeP NTake NTakeR NTruth
set_option linter.unusedVariables false
set_option linter.unusedSimpArgs false
set_option maxRecDepth 100000

theorem NAt.whole {w : World} {b : Nat} {n : NT} (h : NAt w b n) : w.rangeAt b 0 (ntL n) := fun j v hv => by
  have hj : j < 24 := by have := (List.getElem?_eq_some_iff.1 hv).1; rwa [ntL_len] at this
  rw [Nat.zero_add]
  have := (NAt.rows h).cell hj
  rw [this]
  simp [List.getD_eq_getElem?_getD, hv]
def mayE (n : NT) : Int := if mayN n = true then 0 else 2
theorem mayE_ok {n : NT} (h : mayN n = true) : mayE n = 0 := by simp [mayE, h]
theorem mayE_no {n : NT} (h : mayN n = false) : mayE n = 2 := by simp [mayE, h]
theorem May_any (n : NT) (h0 : 0 ≤ n.K) (h1 : n.K ≤ 255) (w : World) :
    Calls Try.prog 13 #[.agg (ntL n).toArray] w fun e w' => e = .returned (.int .i64 (mayE n)) ∧ Below w.heap.size w w' := by
  have N0 := hide (NAt.new w n)
  have HB := hide ((Below.refl w.heap.size w).alloc (Nat.le_refl _) (.cells (ntL n).toArray 29))
  have M := hide (fun w => may_any n h0 h1 w)
  clear h0 h1
  rcases Bool.eq_false_or_eq_true (mayN n) with hm | hm
  all_goals
    first
      | have hE := hide (mayE_ok hm)
      | have hE := hide (mayE_no hm)
    rw [hm] at M
    clear hm
    go_enter Try.func13, Try.ntmps13
    go_wp2_with (first
      | ((with_reducible refine load_note rfl (.tmp 1) rfl w.heap.size rfl N0.out ?_)))
    refine (M.out _).mono ?_
    rintro e w2 ⟨rfl, hb2⟩
    have HB2 := hide (HB.out.trans (hb2.mono HB.out.size))
    go_wp2
    go_ret
    exact ⟨by rw [hE.out]; rfl, HB2.out⟩
theorem May_zero (w : World) :
    Calls Try.prog 13 #[.agg (ntL zeroN).toArray] w fun e w' => e = .returned (.int .i64 2) ∧ Below w.heap.size w w' :=
  May_any zeroN (by decide) (by decide) w
def askN : NT := ⟨1, 2, -1, 5, 3, 0, false, false, fun _ => 0⟩
theorem ask_may : mayN askN = true := by decide +kernel
theorem ask_ins : Ins askN := ⟨by decide, by decide, by decide, by decide, by decide, by decide, fun j _ => ⟨show (0 : Int) ≤ 0 by decide, show (0 : Int) ≤ 4294967295 by decide⟩⟩
theorem asks_any (w : World) : Calls Try.prog 14 #[] w fun e w' => e = .returned (.agg (ntL askN).toArray) ∧ Below w.heap.size w w' := by
  have N0 := hide (NAt.new w askN)
  have HB := hide ((Below.refl w.heap.size w).alloc (Nat.le_refl _) (.cells (ntL askN).toArray 29))
  go_enter Try.func14, Try.ntmps14
  go_wp2_with (first
    | ((with_reducible refine alloc_note rfl rfl w.heap.size rfl ?_))
    | ((with_reducible refine Great.wpList_readTo rfl (some 1) rfl (.agg (ntL askN).toArray) ?_ ?_); (· as_aux_lemma => kernel_rfl))
    | ((with_reducible refine store_note_last rfl _ _ rfl _ w.heap.size rfl rfl rfl ?_)))
  exact bodyPost_ret (v := .agg (ntL askN).toArray) (ret_note1 (b := w.heap.size) Try.results14 rfl N0.out Try.underlying29 (zero_of_info (P := Try.prog) infoN).2) rfl ⟨rfl, HB.out⟩
/-- Taken back. -/
theorem Take_put {n : NT} (hi : Ins n) (hm : mayN n = true) (w : World) :
    Calls Try.prog 10 #[.string ⟨(putB n).toArray⟩] w fun e w' => e = .returned (.tuple #[.agg (ntL n).toArray, .int .i64 0]) ∧ Below w.heap.size w w' := by
  have hl := take_put hi hm
  have hm2 := hl.may.trans hm
  have T := Take_78 ⟨(putB n).toArray⟩ (by have := putB_len n; simp [ByteArray.size, this]) w
  rw [(take_ok hm2).1, (take_ok hm2).2, hl.cells] at T
  exact T
structure WSt (w0 w : World) (B : Nat) (n : NT) : Prop where
  N : NAt w B n
  bel : Below w0.heap.size w0 w
theorem WSt.below {w0 w w' : World} {B : Nat} {n : NT} (h : WSt w0 w B n) (hb : Below w.heap.size w w') : WSt w0 w' B n := ⟨h.N.below hb h.N.lt, below_then h.bel hb⟩
theorem WSt.drew {w0 w : World} {B : Nat} {n : NT} (h : WSt w0 w B n) : WSt w0 w.drew B n := ⟨h.N, h.bel.drew⟩
set_option maxHeartbeats 4000000 in
theorem works_any (w : World) : Calls Try.prog 9 #[] w fun e w' => e = .returned (.bool true) ∧ Below w.heap.size w w' := by
  have EQ : ∀ w, (Op.equalIn 10000 29 (.agg (ntL askN).toArray) (.agg (ntL askN).toArray)).run Try.prog w = .ok true w := fun w => by
    rw [eq_note askN askN w]
    rw [show eqN askN askN = true by decide +kernel]
  have PU := hide (fun w => Put_ok askN ask_ins ask_may w)
  have TA := hide (fun w => Take_put ask_ins ask_may w)
  have hsz : ((ByteArray.mk (putB askN).toArray).size : Int) = 78 := by have := putB_len askN; simp [ByteArray.size, this]
  generalize (ByteArray.mk (putB askN).toArray) = S at *
  go_enter Try.func9, Try.ntmps9
  go_wp2_with fail
  refine (asks_any _).mono ?_
  rintro e w1 ⟨rfl, hb1⟩
  have HB1 := hide hb1
  clear hb1
  go_wp2_with fail
  refine (PU.out _).mono ?_
  rintro e w2 ⟨rfl, hb2⟩
  have HB2 := hide (below_then HB1.out hb2)
  clear hb2 HB1
  go_wp2_with fail
  refine (TA.out _).mono ?_
  rintro e w3 ⟨rfl, hb3⟩
  have HB3 := hide (below_then HB2.out hb3)
  clear hb3 HB2
  go_upto_region 3 with (first
    | ((with_reducible refine alloc_note rfl rfl w3.heap.size rfl ?_))
    | ((with_reducible refine store_note_last rfl _ _ rfl _ w3.heap.size rfl rfl rfl ?_)))
  have S3 : Hid (WSt w (w3.alloc (.cells (ntL askN).toArray 29)) w3.heap.size askN) := hide ⟨NAt.new w3 askN, HB3.out.alloc HB3.out.size _⟩
  clear HB3
  generalize w3.alloc (.cells (ntL askN).toArray 29) = w4 at *
  generalize w3.heap.size = B at *
  clear PU TA
  refine wp_region_held_drew (S := (fun w' => WSt w w' B askN)) (by kernel_rfl) S3.out.drew (fun hH0 => ?_)
  refine wpAnyH_take (i := 0) (v := ?_) rfl (by kernel_rfl) (by kernel_rfl) (by kernel_rfl) (fun _ _ _ h => h) (Or.inl ⟨by rfl, fun w hSw => ?_⟩) hH0 ?_
  rotate_left
  · clear hSw
    go_simp
    try with_reducible rfl
  try simp only [Act.put, List.getElem_toArray, List.getElem_cons_zero, List.getElem_cons_succ, List.setIfInBounds_toArray, List.set_cons_zero, List.set_cons_succ]
  refine wpAnyH_take (i := 1) (v := ?_) rfl (by kernel_rfl) (by kernel_rfl) (by kernel_rfl) (fun _ _ _ h => h) (Or.inl ⟨by rfl, fun w hSw => ?_⟩) hH0 ?_
  rotate_left
  · clear hSw
    go_simp
    try with_reducible rfl
  try simp only [Act.put, List.getElem_toArray, List.getElem_cons_zero, List.getElem_cons_succ, List.setIfInBounds_toArray, List.set_cons_zero, List.set_cons_succ]
  refine wpAnyH_take (i := 2) (v := ?_) rfl (by kernel_rfl) (by kernel_rfl) (by kernel_rfl) (fun _ _ _ h => h) (Or.inl ⟨by rfl, fun w hSw => ?_⟩) hH0 ?_
  rotate_left
  · clear hSw
    go_simp
    try with_reducible rfl
  try simp only [Act.put, List.getElem_toArray, List.getElem_cons_zero, List.getElem_cons_succ, List.setIfInBounds_toArray, List.set_cons_zero, List.set_cons_succ]
  refine wpAnyH_take (i := 3) (v := ?_) rfl (by kernel_rfl) (by kernel_rfl) (by kernel_rfl) (fun _ _ _ h => h) (Or.inl ⟨by rfl, fun w hSw => ?_⟩) hH0 ?_
  rotate_left
  · clear hSw
    go_simp
    try with_reducible rfl
  try simp only [Act.put, List.getElem_toArray, List.getElem_cons_zero, List.getElem_cons_succ, List.setIfInBounds_toArray, List.set_cons_zero, List.set_cons_succ]
  refine wpAnyH_take (i := 4) (v := ?_) rfl (by kernel_rfl) (by kernel_rfl) (by kernel_rfl) (fun _ _ _ h => h) (Or.inl ⟨by rfl, fun w hSw => ?_⟩) hH0 ?_
  rotate_left
  · clear hSw
    go_simp
    try with_reducible rfl
  try simp only [Act.put, List.getElem_toArray, List.getElem_cons_zero, List.getElem_cons_succ, List.setIfInBounds_toArray, List.set_cons_zero, List.set_cons_succ]
  refine wpAnyH_take (i := 5) (v := ?_) rfl (by kernel_rfl) (by kernel_rfl) (by kernel_rfl) (fun _ _ _ h => h) (Or.inl ⟨by rfl, fun w hSw => ?_⟩) hH0 ?_
  rotate_left
  · clear hSw
    go_simp
    try with_reducible rfl
  try simp only [Act.put, List.getElem_toArray, List.getElem_cons_zero, List.getElem_cons_succ, List.setIfInBounds_toArray, List.set_cons_zero, List.set_cons_succ]
  refine wpAnyH_take (i := 6) (v := ?_) rfl (by kernel_rfl) (by kernel_rfl) (by kernel_rfl) (fun _ _ _ h => h) (Or.inl ⟨by rfl, fun w hSw => ?_⟩) hH0 ?_
  rotate_left
  · clear hSw
    go_simp
    try with_reducible rfl
  try simp only [Act.put, List.getElem_toArray, List.getElem_cons_zero, List.getElem_cons_succ, List.setIfInBounds_toArray, List.set_cons_zero, List.set_cons_succ]
  refine wpAnyH_take (i := 7) (v := ?_) rfl (by kernel_rfl) (by kernel_rfl) (by kernel_rfl) (fun _ _ _ h => h) (Or.inl ⟨by rfl, fun w hSw => ?_⟩) hH0 ?_
  rotate_left
  · clear hSw
    go_simp
    try with_reducible rfl
  try simp only [Act.put, List.getElem_toArray, List.getElem_cons_zero, List.getElem_cons_succ, List.setIfInBounds_toArray, List.set_cons_zero, List.set_cons_succ]
  refine wpAnyH_take (i := 8) (v := _) rfl (by kernel_rfl) (by kernel_rfl) (by kernel_rfl) (fun _ _ _ h => h) (yieldsIf_load_mid (by rfl) _ _ rfl _ _ rfl _ _ (fun w h => NAt.whole (WSt.N h)) Try.underlying29 rfl (by rw [(zero_of_info (P := Try.prog) infoN).2, ntL_len])) hH0 ?_
  try simp only [Act.put, List.getElem_toArray, List.getElem_cons_zero, List.getElem_cons_succ, List.setIfInBounds_toArray, List.set_cons_zero, List.set_cons_succ]
  refine wpAnyH_ready (rs := [9]) (by kernel_rfl) (by simp) ?_
  refine AllReadyH.cons (o := _) rfl (fun K hK => ?_) AllReadyH.nil
  go_simp
  refine (asks_any _).mono ?_
  rintro e wa ⟨rfl, hba⟩
  refine hK.out _ _ (WSt.below hH0 hba) (fun hH1 => ?_)
  clear hK K
  try simp only [Act.put, List.getElem_toArray, List.getElem_cons_zero, List.getElem_cons_succ, List.setIfInBounds_toArray, List.set_cons_zero, List.set_cons_succ]
  refine wpAnyH_take (i := 10) (v := ?_) rfl (by kernel_rfl) (by kernel_rfl) (by kernel_rfl) (fun _ _ _ h => h) (Or.inl ⟨by rfl, fun w hSw => ?_⟩) hH1 ?_
  rotate_left
  · clear hSw
    go_simp
    try with_reducible rfl
  try simp only [Act.put, List.getElem_toArray, List.getElem_cons_zero, List.getElem_cons_succ, List.setIfInBounds_toArray, List.set_cons_zero, List.set_cons_succ]
  refine wpAnyH_take (i := 11) (v := ?_) rfl (by kernel_rfl) (by kernel_rfl) (by kernel_rfl) (fun _ _ _ h => h) (Or.inl ⟨by rfl, fun w hSw => ?_⟩) hH1 ?_
  rotate_left
  · clear hSw
    go_simp
    try with_reducible rfl
  try simp only [Act.put, List.getElem_toArray, List.getElem_cons_zero, List.getElem_cons_succ, List.setIfInBounds_toArray, List.set_cons_zero, List.set_cons_succ]
  refine wpAnyH_take (i := 12) (v := ?_) rfl (by kernel_rfl) (by kernel_rfl) (by kernel_rfl) (fun _ _ _ h => h) (Or.inl ⟨by rfl, fun w hSw => ?_⟩) hH1 ?_
  rotate_left
  · clear hSw
    go_simp
    try with_reducible rfl
  try simp only [Act.put, List.getElem_toArray, List.getElem_cons_zero, List.getElem_cons_succ, List.setIfInBounds_toArray, List.set_cons_zero, List.set_cons_succ]
  refine wpAnyH_take (i := 13) (v := ?_) rfl (by kernel_rfl) (by kernel_rfl) (by kernel_rfl) (fun _ _ _ h => h) (Or.inl ⟨by rfl, fun w hSw => ?_⟩) hH1 ?_
  rotate_left
  · clear hSw
    go_simp
    try with_reducible rfl
  try simp only [Act.put, List.getElem_toArray, List.getElem_cons_zero, List.getElem_cons_succ, List.setIfInBounds_toArray, List.set_cons_zero, List.set_cons_succ]
  refine wpAnyH_take (i := 14) (v := ?_) rfl (by kernel_rfl) (by kernel_rfl) (by kernel_rfl) (fun _ _ _ h => h) (Or.inl ⟨by rfl, fun w hSw => ?_⟩) hH1 ?_
  rotate_left
  · clear hSw
    go_simp
    try with_reducible rfl
  try simp only [Act.put, List.getElem_toArray, List.getElem_cons_zero, List.getElem_cons_succ, List.setIfInBounds_toArray, List.set_cons_zero, List.set_cons_succ]
  refine wpAnyH_take (i := 15) (v := ?_) rfl (by kernel_rfl) (by kernel_rfl) (by kernel_rfl) (fun _ _ _ h => h) (Or.inl ⟨by rfl, fun w hSw => ?_⟩) hH1 ?_
  rotate_left
  · clear hSw
    go_simp
    try with_reducible rfl
  try simp only [Act.put, List.getElem_toArray, List.getElem_cons_zero, List.getElem_cons_succ, List.setIfInBounds_toArray, List.set_cons_zero, List.set_cons_succ]
  refine wpAnyH_take (i := 16) (v := ?_) rfl (by kernel_rfl) (by kernel_rfl) (by kernel_rfl) (fun _ _ _ h => h) (Or.inl ⟨by rfl, fun w hSw => ?_⟩) hH1 ?_
  rotate_left
  · clear hSw
    go_simp
    try with_reducible rfl
  try simp only [Act.put, List.getElem_toArray, List.getElem_cons_zero, List.getElem_cons_succ, List.setIfInBounds_toArray, List.set_cons_zero, List.set_cons_succ]
  refine wpAnyH_take (i := 17) (v := .agg (ntL zeroN).toArray) rfl (by kernel_rfl) (by kernel_rfl) (by kernel_rfl) (fun _ _ _ h => h) (Or.inl ⟨by rfl, fun w hSw => by as_aux_lemma => kernel_rfl⟩) hH1 ?_
  try simp only [Act.put, List.getElem_toArray, List.getElem_cons_zero, List.getElem_cons_succ, List.setIfInBounds_toArray, List.set_cons_zero, List.set_cons_succ]
  refine wpAnyH_ready (rs := [18]) (by kernel_rfl) (by simp) ?_
  refine AllReadyH.cons (o := _) rfl (fun K hK => ?_) AllReadyH.nil
  go_simp
  refine (May_zero _).mono ?_
  rintro e wb ⟨rfl, hbb⟩
  refine hK.out _ _ (WSt.below hH1 hbb) (fun hH2 => ?_)
  clear hK K
  try simp only [Act.put, List.getElem_toArray, List.getElem_cons_zero, List.getElem_cons_succ, List.setIfInBounds_toArray, List.set_cons_zero, List.set_cons_succ]
  refine wpAnyH_take (i := 19) (v := ?_) rfl (by kernel_rfl) (by kernel_rfl) (by kernel_rfl) (fun _ _ _ h => h) (Or.inl ⟨by rfl, fun w hSw => ?_⟩) hH2 ?_
  rotate_left
  · clear hSw
    go_simp
    try with_reducible rfl
  try simp only [Act.put, List.getElem_toArray, List.getElem_cons_zero, List.getElem_cons_succ, List.setIfInBounds_toArray, List.set_cons_zero, List.set_cons_succ]
  refine wpAnyH_take (i := 20) (v := ?_) rfl (by kernel_rfl) (by kernel_rfl) (by kernel_rfl) (fun _ _ _ h => h) (Or.inl ⟨by rfl, fun w hSw => ?_⟩) hH2 ?_
  rotate_left
  · clear hSw
    go_simp
    try with_reducible rfl
  try simp only [Act.put, List.getElem_toArray, List.getElem_cons_zero, List.getElem_cons_succ, List.setIfInBounds_toArray, List.set_cons_zero, List.set_cons_succ]
  refine wpAnyH_take (i := 21) (v := ?_) rfl (by kernel_rfl) (by kernel_rfl) (by kernel_rfl) (fun _ _ _ h => h) (Or.inl ⟨by rfl, fun w hSw => ?_⟩) hH2 ?_
  rotate_left
  · clear hSw
    go_simp
    try with_reducible rfl
  try simp only [Act.put, List.getElem_toArray, List.getElem_cons_zero, List.getElem_cons_succ, List.setIfInBounds_toArray, List.set_cons_zero, List.set_cons_succ]
  refine wpAnyH_done (by kernel_rfl) ?_ _
  go_wp2_with fail
  go_ret
  exact ⟨rfl, hH2.bel⟩
end Go.Proofs.Ytnjojcikahiieaa.NWorks
