/-
  NoteKinds walked: any kind, any numbers. It returns true.
-/
import Derived.Test.YtnjojcikahiieaaNLTakes
import Derived.Deep.DeepCutAuto
namespace Go.Proofs.Ytnjojcikahiieaa.NLKinds
open Go.RowKit Base Blks Words NRec NSmall NLaw NPlain NNum NVal NNumR NMaySt NMayAll NPut NTakeP NTake NTakeR NTruth NWorks NLTakes
set_option linter.unusedVariables false
set_option linter.unusedSimpArgs false
set_option maxRecDepth 100000

def goodB (K c b : Int) : Bool := decide (1 ≤ K ∧ K ≤ 11 ∧ 0 ≤ c ∧ c < 16 ∧ 0 ≤ b ∧ b < 256)
theorem beq_no {a b : Int} (h : a ≠ b) : (a == b) = false := by rw [beq_eq_false_iff_ne]; exact h
theorem goodB_far {K c b : Int} (h : 12 ≤ K) : goodB K c b = false := by simp [goodB]; omega
theorem split5 (c b : Int) : (0 ≤ c ∧ c < 16 ∧ 0 ≤ b ∧ b < 256) ∨ (¬ 0 ≤ c) ∨ (0 ≤ c ∧ ¬ c < 16) ∨ (0 ≤ c ∧ c < 16 ∧ ¬ 0 ≤ b) ∨ (0 ≤ c ∧ c < 16 ∧ 0 ≤ b ∧ ¬ b < 256) := by omega
theorem good_eq {K c b : Int} {g q : Bool} (h : goodB K c b = g) (e : goodB K c b = q) : Value.bool q = .bool g := by rw [← h, ← e]
theorem setW {w0 w : World} {T : Nat} {n : NT} (h : WSt w0 w T n) (hT : w0.heap.size = T) (i : Nat) (v : Value) (m : NT) (e : (ntL n).set i v = ntL m) : WSt w0 (w.setCell ⟨T, i, none⟩ v) T m :=
  ⟨h.N.set i v m e, h.bel.setCell (p := ⟨T, i, none⟩) (by show w0.heap.size ≤ T; omega) _⟩
theorem kinds_0 (c b s : Int) (g : Bool) (hg : goodB 0 c b = g) (x y : Int) (hx : (x == 0) = g) (hy : (y == 0) = g)
    (MA : Hid (∀ w, Calls Try.prog 13 #[.agg (ntL ⟨0, c, -1, b, s, 0, false, false, fun _ => 0⟩).toArray] w fun e w' => e = .returned (.int .i64 x) ∧ Below w.heap.size w w'))
    (MB : Hid (∀ w, Calls Try.prog 13 #[.agg (ntL ⟨0, c, -1, b, s, 0, false, false, fun _ => 0⟩).toArray] w fun e w' => e = .returned (.int .i64 y) ∧ Below w.heap.size w w')) (w : World) :
    Calls Try.prog 5 #[.int .u8 0, .int .i64 c, .int .i64 b, .int .u64 s] w fun e w' => e = .returned (.bool true) ∧ Below w.heap.size w w' := by
  have S0 : Hid (WSt w (w.alloc (.cells (ntL ⟨0, -1, c, b, s, 0, false, false, fun _ => 0⟩).toArray 29)) w.heap.size ⟨0, -1, c, b, s, 0, false, false, fun _ => 0⟩) := hide ⟨NAt.new w _, (Below.refl w.heap.size w).alloc (Nat.le_refl _) _⟩
  have HG := hide hg
  clear hg
  go_enter Try.func5, Try.ntmps5
  go_upto_region 2 with (first
    | ((with_reducible refine alloc_note rfl rfl w.heap.size rfl ?_))
    | ((with_reducible refine Great.wpList_readTo rfl (some 17) rfl (.agg (ntL ⟨0, -1, c, b, s, 0, false, false, fun _ => 0⟩).toArray) ?_ ?_); (· as_aux_lemma => kernel_rfl))
    | ((with_reducible refine store_note_last rfl _ _ rfl _ w.heap.size rfl rfl rfl ?_)))
  generalize w.alloc (.cells (ntL ⟨0, -1, c, b, s, 0, false, false, fun _ => 0⟩).toArray 29) = w0 at *
  generalize hT : w.heap.size = T at *
  have HT := hide hT
  clear hT
  obtain ⟨d0, d1, d2, d3, d4, d5, d6, d7⟩ := S0.out.N.cells
  have f1 := S0.out.N.frozen 1
  have f2 := S0.out.N.frozen 2
  go_upto_region 4 with fail
  have S1 := hide (setW (setW S0.out HT.out 1 (.int .i64 c) ⟨0, c, c, b, s, 0, false, false, fun _ => 0⟩ rfl) HT.out 2 (.int .i64 (-1)) ⟨0, c, -1, b, s, 0, false, false, fun _ => 0⟩ rfl)
  generalize ((w0.setCell ⟨T, 1, none⟩ (.int .i64 c)).setCell ⟨T, 2, none⟩ (.int .i64 (-1))) = w1 at *
  clear d0 d1 d2 d3 d4 d5 d6 d7 f1 f2 S0
  go_upto_region 13 with fail
  go_cut [10] (fun s10 wx => s10 = .bool g ∧ wx = w1)
  case first =>
    rcases split5 c b with ⟨q1, q2, q3, q4⟩ | q1 | ⟨q1, q2⟩ | ⟨q1, q2, q3⟩ | ⟨q1, q2, q3, q4⟩
    all_goals
      go_wp2_with fail
      go_meet
      exact ⟨good_eq (HG.out) (by simp [goodB] <;> omega), rfl⟩
  case rest =>
    obtain ⟨rfl, rfl⟩ := hcut
    go_wp2_with (first
      | ((with_reducible refine load_note rfl (.tmp 9) rfl T rfl S1.out.N ?_)))
    refine (MA.out _).mono ?_
    rintro e w3 ⟨rfl, hb3⟩
    have S3 := hide (S1.out.below hb3)
    clear hb3 S1 MA
    have S4 : Hid (MSt w (w3.alloc (.cells (ntL ⟨0, c, -1, b, s, 0, false, false, fun _ => 0⟩).toArray 29)) T w3.heap.size ⟨0, c, -1, b, s, 0, false, false, fun _ => 0⟩ ⟨0, c, -1, b, s, 0, false, false, fun _ => 0⟩) := hide ⟨S3.out.N.alloc _, NAt.new w3 _, S3.out.bel.alloc S3.out.bel.size _, S3.out.bel.size, fun e => by have := S3.out.N.lt; omega⟩
    go_upto_region 17 with (first
      | ((with_reducible refine load_note rfl (.tmp 9) rfl T rfl S3.out.N ?_))
      | ((with_reducible refine alloc_note rfl rfl w3.heap.size rfl ?_))
      | ((with_reducible refine store_note_last rfl _ _ rfl _ w3.heap.size rfl rfl rfl ?_)))
    clear S3
    generalize w3.alloc (.cells (ntL ⟨0, c, -1, b, s, 0, false, false, fun _ => 0⟩).toArray 29) = w4 at *
    generalize w3.heap.size = V at *
    obtain ⟨d0, d1, d2, d3, d4, d5, d6, d7⟩ := S4.out.M.cells
    have f6 := S4.out.M.frozen 6
    have f5 := S4.out.M.frozen 5
    go_upto_region 18 with fail
    have S5 := hide (MSt.setS (MSt.setHa S4.out false) 0)
    generalize ((w4.setCell ⟨V, 6, none⟩ (.bool false)).setCell ⟨V, 5, none⟩ (.int .u8 0)) = w5 at *
    clear d0 d1 d2 d3 d4 d5 d6 d7 f5 f6 S4
    go_wp2_with (first
      | ((with_reducible refine load_note rfl (.tmp 11) rfl V rfl S5.out.M ?_)))
    refine (MB.out _).mono ?_
    rintro e w6 ⟨rfl, hb6⟩
    have S6 := hide (MSt.below S5.out hb6)
    clear hb6 S5 MB
    cases g
    all_goals
      go_wp2_with fail
      refine (works_any _).mono ?_
      rintro e w8 ⟨rfl, hb8⟩
      have HB := hide (below_then S6.out.bel hb8)
      clear hb8
      go_wp2_with fail
      go_ret
      exact ⟨rfl, HT.out ▸ HB.out⟩
theorem kinds_1 (c b s : Int) (g : Bool) (hg : goodB 1 c b = g) (x y : Int) (hx : (x == 0) = g) (hy : (y == 0) = g)
    (MA : Hid (∀ w, Calls Try.prog 13 #[.agg (ntL ⟨1, c, -1, b, s, 0, false, false, fun _ => 0⟩).toArray] w fun e w' => e = .returned (.int .i64 x) ∧ Below w.heap.size w w'))
    (MB : Hid (∀ w, Calls Try.prog 13 #[.agg (ntL ⟨1, c, -1, b, s, 0, false, false, fun _ => 0⟩).toArray] w fun e w' => e = .returned (.int .i64 y) ∧ Below w.heap.size w w')) (w : World) :
    Calls Try.prog 5 #[.int .u8 1, .int .i64 c, .int .i64 b, .int .u64 s] w fun e w' => e = .returned (.bool true) ∧ Below w.heap.size w w' := by
  have S0 : Hid (WSt w (w.alloc (.cells (ntL ⟨1, -1, c, b, s, 0, false, false, fun _ => 0⟩).toArray 29)) w.heap.size ⟨1, -1, c, b, s, 0, false, false, fun _ => 0⟩) := hide ⟨NAt.new w _, (Below.refl w.heap.size w).alloc (Nat.le_refl _) _⟩
  have HG := hide hg
  clear hg
  go_enter Try.func5, Try.ntmps5
  go_upto_region 2 with (first
    | ((with_reducible refine alloc_note rfl rfl w.heap.size rfl ?_))
    | ((with_reducible refine Great.wpList_readTo rfl (some 17) rfl (.agg (ntL ⟨1, -1, c, b, s, 0, false, false, fun _ => 0⟩).toArray) ?_ ?_); (· as_aux_lemma => kernel_rfl))
    | ((with_reducible refine store_note_last rfl _ _ rfl _ w.heap.size rfl rfl rfl ?_)))
  generalize w.alloc (.cells (ntL ⟨1, -1, c, b, s, 0, false, false, fun _ => 0⟩).toArray 29) = w0 at *
  generalize hT : w.heap.size = T at *
  have HT := hide hT
  clear hT
  obtain ⟨d0, d1, d2, d3, d4, d5, d6, d7⟩ := S0.out.N.cells
  have f1 := S0.out.N.frozen 1
  have f2 := S0.out.N.frozen 2
  go_upto_region 4 with fail
  have S1 := hide (setW (setW S0.out HT.out 1 (.int .i64 c) ⟨1, c, c, b, s, 0, false, false, fun _ => 0⟩ rfl) HT.out 2 (.int .i64 (-1)) ⟨1, c, -1, b, s, 0, false, false, fun _ => 0⟩ rfl)
  generalize ((w0.setCell ⟨T, 1, none⟩ (.int .i64 c)).setCell ⟨T, 2, none⟩ (.int .i64 (-1))) = w1 at *
  clear d0 d1 d2 d3 d4 d5 d6 d7 f1 f2 S0
  go_upto_region 13 with fail
  go_cut [10] (fun s10 wx => s10 = .bool g ∧ wx = w1)
  case first =>
    rcases split5 c b with ⟨q1, q2, q3, q4⟩ | q1 | ⟨q1, q2⟩ | ⟨q1, q2, q3⟩ | ⟨q1, q2, q3, q4⟩
    all_goals
      go_wp2_with fail
      go_meet
      exact ⟨good_eq (HG.out) (by simp [goodB] <;> omega), rfl⟩
  case rest =>
    obtain ⟨rfl, rfl⟩ := hcut
    go_wp2_with (first
      | ((with_reducible refine load_note rfl (.tmp 9) rfl T rfl S1.out.N ?_)))
    refine (MA.out _).mono ?_
    rintro e w3 ⟨rfl, hb3⟩
    have S3 := hide (S1.out.below hb3)
    clear hb3 S1 MA
    have S4 : Hid (MSt w (w3.alloc (.cells (ntL ⟨1, c, -1, b, s, 0, false, false, fun _ => 0⟩).toArray 29)) T w3.heap.size ⟨1, c, -1, b, s, 0, false, false, fun _ => 0⟩ ⟨1, c, -1, b, s, 0, false, false, fun _ => 0⟩) := hide ⟨S3.out.N.alloc _, NAt.new w3 _, S3.out.bel.alloc S3.out.bel.size _, S3.out.bel.size, fun e => by have := S3.out.N.lt; omega⟩
    go_upto_region 17 with (first
      | ((with_reducible refine load_note rfl (.tmp 9) rfl T rfl S3.out.N ?_))
      | ((with_reducible refine alloc_note rfl rfl w3.heap.size rfl ?_))
      | ((with_reducible refine store_note_last rfl _ _ rfl _ w3.heap.size rfl rfl rfl ?_)))
    clear S3
    generalize w3.alloc (.cells (ntL ⟨1, c, -1, b, s, 0, false, false, fun _ => 0⟩).toArray 29) = w4 at *
    generalize w3.heap.size = V at *
    obtain ⟨d0, d1, d2, d3, d4, d5, d6, d7⟩ := S4.out.M.cells
    have f6 := S4.out.M.frozen 6
    have f5 := S4.out.M.frozen 5
    go_upto_region 18 with fail
    have S5 := hide (MSt.setS (MSt.setHa S4.out false) 0)
    generalize ((w4.setCell ⟨V, 6, none⟩ (.bool false)).setCell ⟨V, 5, none⟩ (.int .u8 0)) = w5 at *
    clear d0 d1 d2 d3 d4 d5 d6 d7 f5 f6 S4
    go_wp2_with (first
      | ((with_reducible refine load_note rfl (.tmp 11) rfl V rfl S5.out.M ?_)))
    refine (MB.out _).mono ?_
    rintro e w6 ⟨rfl, hb6⟩
    have S6 := hide (MSt.below S5.out hb6)
    clear hb6 S5 MB
    cases g
    all_goals
      go_wp2_with fail
      refine (works_any _).mono ?_
      rintro e w8 ⟨rfl, hb8⟩
      have HB := hide (below_then S6.out.bel hb8)
      clear hb8
      go_wp2_with fail
      go_ret
      exact ⟨rfl, HT.out ▸ HB.out⟩
theorem kinds_2 (c b s : Int) (g : Bool) (hg : goodB 2 c b = g) (x y : Int) (hx : (x == 0) = g) (hy : (y == 0) = g)
    (MA : Hid (∀ w, Calls Try.prog 13 #[.agg (ntL ⟨2, c, -1, b, s, 0, false, false, fun _ => 0⟩).toArray] w fun e w' => e = .returned (.int .i64 x) ∧ Below w.heap.size w w'))
    (MB : Hid (∀ w, Calls Try.prog 13 #[.agg (ntL ⟨2, c, -1, b, s, 0, false, false, fun _ => 0⟩).toArray] w fun e w' => e = .returned (.int .i64 y) ∧ Below w.heap.size w w')) (w : World) :
    Calls Try.prog 5 #[.int .u8 2, .int .i64 c, .int .i64 b, .int .u64 s] w fun e w' => e = .returned (.bool true) ∧ Below w.heap.size w w' := by
  have S0 : Hid (WSt w (w.alloc (.cells (ntL ⟨2, -1, c, b, s, 0, false, false, fun _ => 0⟩).toArray 29)) w.heap.size ⟨2, -1, c, b, s, 0, false, false, fun _ => 0⟩) := hide ⟨NAt.new w _, (Below.refl w.heap.size w).alloc (Nat.le_refl _) _⟩
  have HG := hide hg
  clear hg
  go_enter Try.func5, Try.ntmps5
  go_upto_region 2 with (first
    | ((with_reducible refine alloc_note rfl rfl w.heap.size rfl ?_))
    | ((with_reducible refine Great.wpList_readTo rfl (some 17) rfl (.agg (ntL ⟨2, -1, c, b, s, 0, false, false, fun _ => 0⟩).toArray) ?_ ?_); (· as_aux_lemma => kernel_rfl))
    | ((with_reducible refine store_note_last rfl _ _ rfl _ w.heap.size rfl rfl rfl ?_)))
  generalize w.alloc (.cells (ntL ⟨2, -1, c, b, s, 0, false, false, fun _ => 0⟩).toArray 29) = w0 at *
  generalize hT : w.heap.size = T at *
  have HT := hide hT
  clear hT
  obtain ⟨d0, d1, d2, d3, d4, d5, d6, d7⟩ := S0.out.N.cells
  have f1 := S0.out.N.frozen 1
  have f2 := S0.out.N.frozen 2
  go_upto_region 4 with fail
  have S1 := hide (setW (setW S0.out HT.out 1 (.int .i64 c) ⟨2, c, c, b, s, 0, false, false, fun _ => 0⟩ rfl) HT.out 2 (.int .i64 (-1)) ⟨2, c, -1, b, s, 0, false, false, fun _ => 0⟩ rfl)
  generalize ((w0.setCell ⟨T, 1, none⟩ (.int .i64 c)).setCell ⟨T, 2, none⟩ (.int .i64 (-1))) = w1 at *
  clear d0 d1 d2 d3 d4 d5 d6 d7 f1 f2 S0
  go_upto_region 13 with fail
  go_cut [10] (fun s10 wx => s10 = .bool g ∧ wx = w1)
  case first =>
    rcases split5 c b with ⟨q1, q2, q3, q4⟩ | q1 | ⟨q1, q2⟩ | ⟨q1, q2, q3⟩ | ⟨q1, q2, q3, q4⟩
    all_goals
      go_wp2_with fail
      go_meet
      exact ⟨good_eq (HG.out) (by simp [goodB] <;> omega), rfl⟩
  case rest =>
    obtain ⟨rfl, rfl⟩ := hcut
    go_wp2_with (first
      | ((with_reducible refine load_note rfl (.tmp 9) rfl T rfl S1.out.N ?_)))
    refine (MA.out _).mono ?_
    rintro e w3 ⟨rfl, hb3⟩
    have S3 := hide (S1.out.below hb3)
    clear hb3 S1 MA
    have S4 : Hid (MSt w (w3.alloc (.cells (ntL ⟨2, c, -1, b, s, 0, false, false, fun _ => 0⟩).toArray 29)) T w3.heap.size ⟨2, c, -1, b, s, 0, false, false, fun _ => 0⟩ ⟨2, c, -1, b, s, 0, false, false, fun _ => 0⟩) := hide ⟨S3.out.N.alloc _, NAt.new w3 _, S3.out.bel.alloc S3.out.bel.size _, S3.out.bel.size, fun e => by have := S3.out.N.lt; omega⟩
    go_upto_region 17 with (first
      | ((with_reducible refine load_note rfl (.tmp 9) rfl T rfl S3.out.N ?_))
      | ((with_reducible refine alloc_note rfl rfl w3.heap.size rfl ?_))
      | ((with_reducible refine store_note_last rfl _ _ rfl _ w3.heap.size rfl rfl rfl ?_)))
    clear S3
    generalize w3.alloc (.cells (ntL ⟨2, c, -1, b, s, 0, false, false, fun _ => 0⟩).toArray 29) = w4 at *
    generalize w3.heap.size = V at *
    obtain ⟨d0, d1, d2, d3, d4, d5, d6, d7⟩ := S4.out.M.cells
    have f6 := S4.out.M.frozen 6
    have f5 := S4.out.M.frozen 5
    go_upto_region 18 with fail
    have S5 := hide (MSt.setS (MSt.setHa S4.out false) 0)
    generalize ((w4.setCell ⟨V, 6, none⟩ (.bool false)).setCell ⟨V, 5, none⟩ (.int .u8 0)) = w5 at *
    clear d0 d1 d2 d3 d4 d5 d6 d7 f5 f6 S4
    go_wp2_with (first
      | ((with_reducible refine load_note rfl (.tmp 11) rfl V rfl S5.out.M ?_)))
    refine (MB.out _).mono ?_
    rintro e w6 ⟨rfl, hb6⟩
    have S6 := hide (MSt.below S5.out hb6)
    clear hb6 S5 MB
    cases g
    all_goals
      go_wp2_with fail
      refine (works_any _).mono ?_
      rintro e w8 ⟨rfl, hb8⟩
      have HB := hide (below_then S6.out.bel hb8)
      clear hb8
      go_wp2_with fail
      go_ret
      exact ⟨rfl, HT.out ▸ HB.out⟩
theorem kinds_3 (c b s : Int) (g : Bool) (hg : goodB 3 c b = g) (x y : Int) (hx : (x == 0) = g) (hy : (y == 0) = false)
    (MA : Hid (∀ w, Calls Try.prog 13 #[.agg (ntL ⟨3, c, -1, b, 0, 0, true, false, fun _ => 0⟩).toArray] w fun e w' => e = .returned (.int .i64 x) ∧ Below w.heap.size w w'))
    (MB : Hid (∀ w, Calls Try.prog 13 #[.agg (ntL ⟨3, c, -1, b, 0, 0, false, false, fun _ => 0⟩).toArray] w fun e w' => e = .returned (.int .i64 y) ∧ Below w.heap.size w w')) (w : World) :
    Calls Try.prog 5 #[.int .u8 3, .int .i64 c, .int .i64 b, .int .u64 s] w fun e w' => e = .returned (.bool true) ∧ Below w.heap.size w w' := by
  have S0 : Hid (WSt w (w.alloc (.cells (ntL ⟨3, -1, c, b, s, 0, false, false, fun _ => 0⟩).toArray 29)) w.heap.size ⟨3, -1, c, b, s, 0, false, false, fun _ => 0⟩) := hide ⟨NAt.new w _, (Below.refl w.heap.size w).alloc (Nat.le_refl _) _⟩
  have HG := hide hg
  clear hg
  go_enter Try.func5, Try.ntmps5
  go_upto_region 2 with (first
    | ((with_reducible refine alloc_note rfl rfl w.heap.size rfl ?_))
    | ((with_reducible refine Great.wpList_readTo rfl (some 17) rfl (.agg (ntL ⟨3, -1, c, b, s, 0, false, false, fun _ => 0⟩).toArray) ?_ ?_); (· as_aux_lemma => kernel_rfl))
    | ((with_reducible refine store_note_last rfl _ _ rfl _ w.heap.size rfl rfl rfl ?_)))
  generalize w.alloc (.cells (ntL ⟨3, -1, c, b, s, 0, false, false, fun _ => 0⟩).toArray 29) = w0 at *
  generalize hT : w.heap.size = T at *
  have HT := hide hT
  clear hT
  obtain ⟨d0, d1, d2, d3, d4, d5, d6, d7⟩ := S0.out.N.cells
  have f1 := S0.out.N.frozen 1
  have f2 := S0.out.N.frozen 2
  go_upto_region 4 with fail
  have S1 := hide (setW (setW S0.out HT.out 1 (.int .i64 c) ⟨3, c, c, b, s, 0, false, false, fun _ => 0⟩ rfl) HT.out 2 (.int .i64 (-1)) ⟨3, c, -1, b, s, 0, false, false, fun _ => 0⟩ rfl)
  generalize ((w0.setCell ⟨T, 1, none⟩ (.int .i64 c)).setCell ⟨T, 2, none⟩ (.int .i64 (-1))) = w1 at *
  clear d0 d1 d2 d3 d4 d5 d6 d7 f1 f2 S0
  obtain ⟨d0, d1, d2, d3, d4, d5, d6, d7⟩ := S1.out.N.cells
  have f6 := S1.out.N.frozen 6
  have f4 := S1.out.N.frozen 4
  go_upto_region 13 with fail
  have S2 := hide (setW (setW S1.out HT.out 6 (.bool true) ⟨3, c, -1, b, s, 0, true, false, fun _ => 0⟩ rfl) HT.out 4 (.int .u64 0) ⟨3, c, -1, b, 0, 0, true, false, fun _ => 0⟩ rfl)
  generalize ((w1.setCell ⟨T, 6, none⟩ (.bool true)).setCell ⟨T, 4, none⟩ (.int .u64 0)) = w2 at *
  clear d0 d1 d2 d3 d4 d5 d6 d7 f6 f4 S1
  go_cut [10] (fun s10 wx => s10 = .bool g ∧ wx = w2)
  case first =>
    rcases split5 c b with ⟨q1, q2, q3, q4⟩ | q1 | ⟨q1, q2⟩ | ⟨q1, q2, q3⟩ | ⟨q1, q2, q3, q4⟩
    all_goals
      go_wp2_with fail
      go_meet
      exact ⟨good_eq (HG.out) (by simp [goodB] <;> omega), rfl⟩
  case rest =>
    obtain ⟨rfl, rfl⟩ := hcut
    go_wp2_with (first
      | ((with_reducible refine load_note rfl (.tmp 9) rfl T rfl S2.out.N ?_)))
    refine (MA.out _).mono ?_
    rintro e w3 ⟨rfl, hb3⟩
    have S3 := hide (S2.out.below hb3)
    clear hb3 S2 MA
    have S4 : Hid (MSt w (w3.alloc (.cells (ntL ⟨3, c, -1, b, 0, 0, true, false, fun _ => 0⟩).toArray 29)) T w3.heap.size ⟨3, c, -1, b, 0, 0, true, false, fun _ => 0⟩ ⟨3, c, -1, b, 0, 0, true, false, fun _ => 0⟩) := hide ⟨S3.out.N.alloc _, NAt.new w3 _, S3.out.bel.alloc S3.out.bel.size _, S3.out.bel.size, fun e => by have := S3.out.N.lt; omega⟩
    go_upto_region 17 with (first
      | ((with_reducible refine load_note rfl (.tmp 9) rfl T rfl S3.out.N ?_))
      | ((with_reducible refine alloc_note rfl rfl w3.heap.size rfl ?_))
      | ((with_reducible refine store_note_last rfl _ _ rfl _ w3.heap.size rfl rfl rfl ?_)))
    clear S3
    generalize w3.alloc (.cells (ntL ⟨3, c, -1, b, 0, 0, true, false, fun _ => 0⟩).toArray 29) = w4 at *
    generalize w3.heap.size = V at *
    obtain ⟨d0, d1, d2, d3, d4, d5, d6, d7⟩ := S4.out.M.cells
    have f6 := S4.out.M.frozen 6
    have f5 := S4.out.M.frozen 5
    go_upto_region 18 with fail
    have S5 := hide (MSt.setS (MSt.setHa S4.out false) 0)
    generalize ((w4.setCell ⟨V, 6, none⟩ (.bool false)).setCell ⟨V, 5, none⟩ (.int .u8 0)) = w5 at *
    clear d0 d1 d2 d3 d4 d5 d6 d7 f5 f6 S4
    go_wp2_with (first
      | ((with_reducible refine load_note rfl (.tmp 11) rfl V rfl S5.out.M ?_)))
    refine (MB.out _).mono ?_
    rintro e w6 ⟨rfl, hb6⟩
    have S6 := hide (MSt.below S5.out hb6)
    clear hb6 S5 MB
    cases g
    all_goals
      go_wp2_with fail
      refine (works_any _).mono ?_
      rintro e w8 ⟨rfl, hb8⟩
      have HB := hide (below_then S6.out.bel hb8)
      clear hb8
      go_wp2_with fail
      go_ret
      exact ⟨rfl, HT.out ▸ HB.out⟩
theorem kinds_4 (c b s : Int) (g : Bool) (hg : goodB 4 c b = g) (x y : Int) (hx : (x == 0) = g) (hy : (y == 0) = g)
    (MA : Hid (∀ w, Calls Try.prog 13 #[.agg (ntL ⟨4, -1, c, b, s, 0, false, false, fun _ => 0⟩).toArray] w fun e w' => e = .returned (.int .i64 x) ∧ Below w.heap.size w w'))
    (MB : Hid (∀ w, Calls Try.prog 13 #[.agg (ntL ⟨4, -1, c, b, s, 0, false, false, fun _ => 0⟩).toArray] w fun e w' => e = .returned (.int .i64 y) ∧ Below w.heap.size w w')) (w : World) :
    Calls Try.prog 5 #[.int .u8 4, .int .i64 c, .int .i64 b, .int .u64 s] w fun e w' => e = .returned (.bool true) ∧ Below w.heap.size w w' := by
  have S0 : Hid (WSt w (w.alloc (.cells (ntL ⟨4, -1, c, b, s, 0, false, false, fun _ => 0⟩).toArray 29)) w.heap.size ⟨4, -1, c, b, s, 0, false, false, fun _ => 0⟩) := hide ⟨NAt.new w _, (Below.refl w.heap.size w).alloc (Nat.le_refl _) _⟩
  have HG := hide hg
  clear hg
  go_enter Try.func5, Try.ntmps5
  go_upto_region 2 with (first
    | ((with_reducible refine alloc_note rfl rfl w.heap.size rfl ?_))
    | ((with_reducible refine Great.wpList_readTo rfl (some 17) rfl (.agg (ntL ⟨4, -1, c, b, s, 0, false, false, fun _ => 0⟩).toArray) ?_ ?_); (· as_aux_lemma => kernel_rfl))
    | ((with_reducible refine store_note_last rfl _ _ rfl _ w.heap.size rfl rfl rfl ?_)))
  generalize w.alloc (.cells (ntL ⟨4, -1, c, b, s, 0, false, false, fun _ => 0⟩).toArray 29) = w0 at *
  generalize hT : w.heap.size = T at *
  have HT := hide hT
  clear hT
  go_upto_region 13 with fail
  go_cut [10] (fun s10 wx => s10 = .bool g ∧ wx = w0)
  case first =>
    rcases split5 c b with ⟨q1, q2, q3, q4⟩ | q1 | ⟨q1, q2⟩ | ⟨q1, q2, q3⟩ | ⟨q1, q2, q3, q4⟩
    all_goals
      go_wp2_with fail
      go_meet
      exact ⟨good_eq (HG.out) (by simp [goodB] <;> omega), rfl⟩
  case rest =>
    obtain ⟨rfl, rfl⟩ := hcut
    go_wp2_with (first
      | ((with_reducible refine load_note rfl (.tmp 9) rfl T rfl S0.out.N ?_)))
    refine (MA.out _).mono ?_
    rintro e w3 ⟨rfl, hb3⟩
    have S3 := hide (S0.out.below hb3)
    clear hb3 S0 MA
    have S4 : Hid (MSt w (w3.alloc (.cells (ntL ⟨4, -1, c, b, s, 0, false, false, fun _ => 0⟩).toArray 29)) T w3.heap.size ⟨4, -1, c, b, s, 0, false, false, fun _ => 0⟩ ⟨4, -1, c, b, s, 0, false, false, fun _ => 0⟩) := hide ⟨S3.out.N.alloc _, NAt.new w3 _, S3.out.bel.alloc S3.out.bel.size _, S3.out.bel.size, fun e => by have := S3.out.N.lt; omega⟩
    go_upto_region 17 with (first
      | ((with_reducible refine load_note rfl (.tmp 9) rfl T rfl S3.out.N ?_))
      | ((with_reducible refine alloc_note rfl rfl w3.heap.size rfl ?_))
      | ((with_reducible refine store_note_last rfl _ _ rfl _ w3.heap.size rfl rfl rfl ?_)))
    clear S3
    generalize w3.alloc (.cells (ntL ⟨4, -1, c, b, s, 0, false, false, fun _ => 0⟩).toArray 29) = w4 at *
    generalize w3.heap.size = V at *
    obtain ⟨d0, d1, d2, d3, d4, d5, d6, d7⟩ := S4.out.M.cells
    have f6 := S4.out.M.frozen 6
    have f5 := S4.out.M.frozen 5
    go_upto_region 18 with fail
    have S5 := hide (MSt.setS (MSt.setHa S4.out false) 0)
    generalize ((w4.setCell ⟨V, 6, none⟩ (.bool false)).setCell ⟨V, 5, none⟩ (.int .u8 0)) = w5 at *
    clear d0 d1 d2 d3 d4 d5 d6 d7 f5 f6 S4
    go_wp2_with (first
      | ((with_reducible refine load_note rfl (.tmp 11) rfl V rfl S5.out.M ?_)))
    refine (MB.out _).mono ?_
    rintro e w6 ⟨rfl, hb6⟩
    have S6 := hide (MSt.below S5.out hb6)
    clear hb6 S5 MB
    cases g
    all_goals
      go_wp2_with fail
      refine (works_any _).mono ?_
      rintro e w8 ⟨rfl, hb8⟩
      have HB := hide (below_then S6.out.bel hb8)
      clear hb8
      go_wp2_with fail
      go_ret
      exact ⟨rfl, HT.out ▸ HB.out⟩
theorem kinds_5 (c b s : Int) (g : Bool) (hg : goodB 5 c b = g) (x y : Int) (hx : (x == 0) = g) (hy : (y == 0) = g)
    (MA : Hid (∀ w, Calls Try.prog 13 #[.agg (ntL ⟨5, -1, c, b, s, 0, false, false, fun _ => 0⟩).toArray] w fun e w' => e = .returned (.int .i64 x) ∧ Below w.heap.size w w'))
    (MB : Hid (∀ w, Calls Try.prog 13 #[.agg (ntL ⟨5, -1, c, b, s, 0, false, false, fun _ => 0⟩).toArray] w fun e w' => e = .returned (.int .i64 y) ∧ Below w.heap.size w w')) (w : World) :
    Calls Try.prog 5 #[.int .u8 5, .int .i64 c, .int .i64 b, .int .u64 s] w fun e w' => e = .returned (.bool true) ∧ Below w.heap.size w w' := by
  have S0 : Hid (WSt w (w.alloc (.cells (ntL ⟨5, -1, c, b, s, 0, false, false, fun _ => 0⟩).toArray 29)) w.heap.size ⟨5, -1, c, b, s, 0, false, false, fun _ => 0⟩) := hide ⟨NAt.new w _, (Below.refl w.heap.size w).alloc (Nat.le_refl _) _⟩
  have HG := hide hg
  clear hg
  go_enter Try.func5, Try.ntmps5
  go_upto_region 2 with (first
    | ((with_reducible refine alloc_note rfl rfl w.heap.size rfl ?_))
    | ((with_reducible refine Great.wpList_readTo rfl (some 17) rfl (.agg (ntL ⟨5, -1, c, b, s, 0, false, false, fun _ => 0⟩).toArray) ?_ ?_); (· as_aux_lemma => kernel_rfl))
    | ((with_reducible refine store_note_last rfl _ _ rfl _ w.heap.size rfl rfl rfl ?_)))
  generalize w.alloc (.cells (ntL ⟨5, -1, c, b, s, 0, false, false, fun _ => 0⟩).toArray 29) = w0 at *
  generalize hT : w.heap.size = T at *
  have HT := hide hT
  clear hT
  go_upto_region 13 with fail
  go_cut [10] (fun s10 wx => s10 = .bool g ∧ wx = w0)
  case first =>
    rcases split5 c b with ⟨q1, q2, q3, q4⟩ | q1 | ⟨q1, q2⟩ | ⟨q1, q2, q3⟩ | ⟨q1, q2, q3, q4⟩
    all_goals
      go_wp2_with fail
      go_meet
      exact ⟨good_eq (HG.out) (by simp [goodB] <;> omega), rfl⟩
  case rest =>
    obtain ⟨rfl, rfl⟩ := hcut
    go_wp2_with (first
      | ((with_reducible refine load_note rfl (.tmp 9) rfl T rfl S0.out.N ?_)))
    refine (MA.out _).mono ?_
    rintro e w3 ⟨rfl, hb3⟩
    have S3 := hide (S0.out.below hb3)
    clear hb3 S0 MA
    have S4 : Hid (MSt w (w3.alloc (.cells (ntL ⟨5, -1, c, b, s, 0, false, false, fun _ => 0⟩).toArray 29)) T w3.heap.size ⟨5, -1, c, b, s, 0, false, false, fun _ => 0⟩ ⟨5, -1, c, b, s, 0, false, false, fun _ => 0⟩) := hide ⟨S3.out.N.alloc _, NAt.new w3 _, S3.out.bel.alloc S3.out.bel.size _, S3.out.bel.size, fun e => by have := S3.out.N.lt; omega⟩
    go_upto_region 17 with (first
      | ((with_reducible refine load_note rfl (.tmp 9) rfl T rfl S3.out.N ?_))
      | ((with_reducible refine alloc_note rfl rfl w3.heap.size rfl ?_))
      | ((with_reducible refine store_note_last rfl _ _ rfl _ w3.heap.size rfl rfl rfl ?_)))
    clear S3
    generalize w3.alloc (.cells (ntL ⟨5, -1, c, b, s, 0, false, false, fun _ => 0⟩).toArray 29) = w4 at *
    generalize w3.heap.size = V at *
    obtain ⟨d0, d1, d2, d3, d4, d5, d6, d7⟩ := S4.out.M.cells
    have f6 := S4.out.M.frozen 6
    have f5 := S4.out.M.frozen 5
    go_upto_region 18 with fail
    have S5 := hide (MSt.setS (MSt.setHa S4.out false) 0)
    generalize ((w4.setCell ⟨V, 6, none⟩ (.bool false)).setCell ⟨V, 5, none⟩ (.int .u8 0)) = w5 at *
    clear d0 d1 d2 d3 d4 d5 d6 d7 f5 f6 S4
    go_wp2_with (first
      | ((with_reducible refine load_note rfl (.tmp 11) rfl V rfl S5.out.M ?_)))
    refine (MB.out _).mono ?_
    rintro e w6 ⟨rfl, hb6⟩
    have S6 := hide (MSt.below S5.out hb6)
    clear hb6 S5 MB
    cases g
    all_goals
      go_wp2_with fail
      refine (works_any _).mono ?_
      rintro e w8 ⟨rfl, hb8⟩
      have HB := hide (below_then S6.out.bel hb8)
      clear hb8
      go_wp2_with fail
      go_ret
      exact ⟨rfl, HT.out ▸ HB.out⟩
theorem kinds_6 (c b s : Int) (g : Bool) (hg : goodB 6 c b = g) (x y : Int) (hx : (x == 0) = g) (hy : (y == 0) = false)
    (MA : Hid (∀ w, Calls Try.prog 13 #[.agg (ntL ⟨6, -1, c, b, 0, 2, true, false, fun _ => 0⟩).toArray] w fun e w' => e = .returned (.int .i64 x) ∧ Below w.heap.size w w'))
    (MB : Hid (∀ w, Calls Try.prog 13 #[.agg (ntL ⟨6, -1, c, b, 0, 0, false, false, fun _ => 0⟩).toArray] w fun e w' => e = .returned (.int .i64 y) ∧ Below w.heap.size w w')) (w : World) :
    Calls Try.prog 5 #[.int .u8 6, .int .i64 c, .int .i64 b, .int .u64 s] w fun e w' => e = .returned (.bool true) ∧ Below w.heap.size w w' := by
  have S0 : Hid (WSt w (w.alloc (.cells (ntL ⟨6, -1, c, b, s, 0, false, false, fun _ => 0⟩).toArray 29)) w.heap.size ⟨6, -1, c, b, s, 0, false, false, fun _ => 0⟩) := hide ⟨NAt.new w _, (Below.refl w.heap.size w).alloc (Nat.le_refl _) _⟩
  have HG := hide hg
  clear hg
  go_enter Try.func5, Try.ntmps5
  go_upto_region 2 with (first
    | ((with_reducible refine alloc_note rfl rfl w.heap.size rfl ?_))
    | ((with_reducible refine Great.wpList_readTo rfl (some 17) rfl (.agg (ntL ⟨6, -1, c, b, s, 0, false, false, fun _ => 0⟩).toArray) ?_ ?_); (· as_aux_lemma => kernel_rfl))
    | ((with_reducible refine store_note_last rfl _ _ rfl _ w.heap.size rfl rfl rfl ?_)))
  generalize w.alloc (.cells (ntL ⟨6, -1, c, b, s, 0, false, false, fun _ => 0⟩).toArray 29) = w0 at *
  generalize hT : w.heap.size = T at *
  have HT := hide hT
  clear hT
  obtain ⟨d0, d1, d2, d3, d4, d5, d6, d7⟩ := S0.out.N.cells
  have f6 := S0.out.N.frozen 6
  have f5 := S0.out.N.frozen 5
  have f4 := S0.out.N.frozen 4
  go_upto_region 13 with fail
  have S2 := hide (setW (setW (setW S0.out HT.out 6 (.bool true) ⟨6, -1, c, b, s, 0, true, false, fun _ => 0⟩ rfl) HT.out 5 (.int .u8 2) ⟨6, -1, c, b, s, 2, true, false, fun _ => 0⟩ rfl) HT.out 4 (.int .u64 0) ⟨6, -1, c, b, 0, 2, true, false, fun _ => 0⟩ rfl)
  generalize (((w0.setCell ⟨T, 6, none⟩ (.bool true)).setCell ⟨T, 5, none⟩ (.int .u8 2)).setCell ⟨T, 4, none⟩ (.int .u64 0)) = w2 at *
  clear d0 d1 d2 d3 d4 d5 d6 d7 f6 f5 f4 S0
  go_cut [10] (fun s10 wx => s10 = .bool g ∧ wx = w2)
  case first =>
    rcases split5 c b with ⟨q1, q2, q3, q4⟩ | q1 | ⟨q1, q2⟩ | ⟨q1, q2, q3⟩ | ⟨q1, q2, q3, q4⟩
    all_goals
      go_wp2_with fail
      go_meet
      exact ⟨good_eq (HG.out) (by simp [goodB] <;> omega), rfl⟩
  case rest =>
    obtain ⟨rfl, rfl⟩ := hcut
    go_wp2_with (first
      | ((with_reducible refine load_note rfl (.tmp 9) rfl T rfl S2.out.N ?_)))
    refine (MA.out _).mono ?_
    rintro e w3 ⟨rfl, hb3⟩
    have S3 := hide (S2.out.below hb3)
    clear hb3 S2 MA
    have S4 : Hid (MSt w (w3.alloc (.cells (ntL ⟨6, -1, c, b, 0, 2, true, false, fun _ => 0⟩).toArray 29)) T w3.heap.size ⟨6, -1, c, b, 0, 2, true, false, fun _ => 0⟩ ⟨6, -1, c, b, 0, 2, true, false, fun _ => 0⟩) := hide ⟨S3.out.N.alloc _, NAt.new w3 _, S3.out.bel.alloc S3.out.bel.size _, S3.out.bel.size, fun e => by have := S3.out.N.lt; omega⟩
    go_upto_region 17 with (first
      | ((with_reducible refine load_note rfl (.tmp 9) rfl T rfl S3.out.N ?_))
      | ((with_reducible refine alloc_note rfl rfl w3.heap.size rfl ?_))
      | ((with_reducible refine store_note_last rfl _ _ rfl _ w3.heap.size rfl rfl rfl ?_)))
    clear S3
    generalize w3.alloc (.cells (ntL ⟨6, -1, c, b, 0, 2, true, false, fun _ => 0⟩).toArray 29) = w4 at *
    generalize w3.heap.size = V at *
    obtain ⟨d0, d1, d2, d3, d4, d5, d6, d7⟩ := S4.out.M.cells
    have f6 := S4.out.M.frozen 6
    have f5 := S4.out.M.frozen 5
    go_upto_region 18 with fail
    have S5 := hide (MSt.setS (MSt.setHa S4.out false) 0)
    generalize ((w4.setCell ⟨V, 6, none⟩ (.bool false)).setCell ⟨V, 5, none⟩ (.int .u8 0)) = w5 at *
    clear d0 d1 d2 d3 d4 d5 d6 d7 f5 f6 S4
    go_wp2_with (first
      | ((with_reducible refine load_note rfl (.tmp 11) rfl V rfl S5.out.M ?_)))
    refine (MB.out _).mono ?_
    rintro e w6 ⟨rfl, hb6⟩
    have S6 := hide (MSt.below S5.out hb6)
    clear hb6 S5 MB
    cases g
    all_goals
      go_wp2_with fail
      refine (works_any _).mono ?_
      rintro e w8 ⟨rfl, hb8⟩
      have HB := hide (below_then S6.out.bel hb8)
      clear hb8
      go_wp2_with fail
      go_ret
      exact ⟨rfl, HT.out ▸ HB.out⟩
theorem kinds_7 (c b s : Int) (g : Bool) (hg : goodB 7 c b = g) (x y : Int) (hx : (x == 0) = g) (hy : (y == 0) = g)
    (MA : Hid (∀ w, Calls Try.prog 13 #[.agg (ntL ⟨7, -1, c, b, s, 0, false, false, fun _ => 0⟩).toArray] w fun e w' => e = .returned (.int .i64 x) ∧ Below w.heap.size w w'))
    (MB : Hid (∀ w, Calls Try.prog 13 #[.agg (ntL ⟨7, -1, c, b, s, 0, false, false, fun _ => 0⟩).toArray] w fun e w' => e = .returned (.int .i64 y) ∧ Below w.heap.size w w')) (w : World) :
    Calls Try.prog 5 #[.int .u8 7, .int .i64 c, .int .i64 b, .int .u64 s] w fun e w' => e = .returned (.bool true) ∧ Below w.heap.size w w' := by
  have S0 : Hid (WSt w (w.alloc (.cells (ntL ⟨7, -1, c, b, s, 0, false, false, fun _ => 0⟩).toArray 29)) w.heap.size ⟨7, -1, c, b, s, 0, false, false, fun _ => 0⟩) := hide ⟨NAt.new w _, (Below.refl w.heap.size w).alloc (Nat.le_refl _) _⟩
  have HG := hide hg
  clear hg
  go_enter Try.func5, Try.ntmps5
  go_upto_region 2 with (first
    | ((with_reducible refine alloc_note rfl rfl w.heap.size rfl ?_))
    | ((with_reducible refine Great.wpList_readTo rfl (some 17) rfl (.agg (ntL ⟨7, -1, c, b, s, 0, false, false, fun _ => 0⟩).toArray) ?_ ?_); (· as_aux_lemma => kernel_rfl))
    | ((with_reducible refine store_note_last rfl _ _ rfl _ w.heap.size rfl rfl rfl ?_)))
  generalize w.alloc (.cells (ntL ⟨7, -1, c, b, s, 0, false, false, fun _ => 0⟩).toArray 29) = w0 at *
  generalize hT : w.heap.size = T at *
  have HT := hide hT
  clear hT
  go_upto_region 13 with fail
  go_cut [10] (fun s10 wx => s10 = .bool g ∧ wx = w0)
  case first =>
    rcases split5 c b with ⟨q1, q2, q3, q4⟩ | q1 | ⟨q1, q2⟩ | ⟨q1, q2, q3⟩ | ⟨q1, q2, q3, q4⟩
    all_goals
      go_wp2_with fail
      go_meet
      exact ⟨good_eq (HG.out) (by simp [goodB] <;> omega), rfl⟩
  case rest =>
    obtain ⟨rfl, rfl⟩ := hcut
    go_wp2_with (first
      | ((with_reducible refine load_note rfl (.tmp 9) rfl T rfl S0.out.N ?_)))
    refine (MA.out _).mono ?_
    rintro e w3 ⟨rfl, hb3⟩
    have S3 := hide (S0.out.below hb3)
    clear hb3 S0 MA
    have S4 : Hid (MSt w (w3.alloc (.cells (ntL ⟨7, -1, c, b, s, 0, false, false, fun _ => 0⟩).toArray 29)) T w3.heap.size ⟨7, -1, c, b, s, 0, false, false, fun _ => 0⟩ ⟨7, -1, c, b, s, 0, false, false, fun _ => 0⟩) := hide ⟨S3.out.N.alloc _, NAt.new w3 _, S3.out.bel.alloc S3.out.bel.size _, S3.out.bel.size, fun e => by have := S3.out.N.lt; omega⟩
    go_upto_region 17 with (first
      | ((with_reducible refine load_note rfl (.tmp 9) rfl T rfl S3.out.N ?_))
      | ((with_reducible refine alloc_note rfl rfl w3.heap.size rfl ?_))
      | ((with_reducible refine store_note_last rfl _ _ rfl _ w3.heap.size rfl rfl rfl ?_)))
    clear S3
    generalize w3.alloc (.cells (ntL ⟨7, -1, c, b, s, 0, false, false, fun _ => 0⟩).toArray 29) = w4 at *
    generalize w3.heap.size = V at *
    obtain ⟨d0, d1, d2, d3, d4, d5, d6, d7⟩ := S4.out.M.cells
    have f6 := S4.out.M.frozen 6
    have f5 := S4.out.M.frozen 5
    go_upto_region 18 with fail
    have S5 := hide (MSt.setS (MSt.setHa S4.out false) 0)
    generalize ((w4.setCell ⟨V, 6, none⟩ (.bool false)).setCell ⟨V, 5, none⟩ (.int .u8 0)) = w5 at *
    clear d0 d1 d2 d3 d4 d5 d6 d7 f5 f6 S4
    go_wp2_with (first
      | ((with_reducible refine load_note rfl (.tmp 11) rfl V rfl S5.out.M ?_)))
    refine (MB.out _).mono ?_
    rintro e w6 ⟨rfl, hb6⟩
    have S6 := hide (MSt.below S5.out hb6)
    clear hb6 S5 MB
    cases g
    all_goals
      go_wp2_with fail
      refine (works_any _).mono ?_
      rintro e w8 ⟨rfl, hb8⟩
      have HB := hide (below_then S6.out.bel hb8)
      clear hb8
      go_wp2_with fail
      go_ret
      exact ⟨rfl, HT.out ▸ HB.out⟩
theorem kinds_8 (c b s : Int) (g : Bool) (hg : goodB 8 c b = g) (x y : Int) (hx : (x == 0) = g) (hy : (y == 0) = g)
    (MA : Hid (∀ w, Calls Try.prog 13 #[.agg (ntL ⟨8, -1, c, b, 0, 0, false, false, fun _ => 0⟩).toArray] w fun e w' => e = .returned (.int .i64 x) ∧ Below w.heap.size w w'))
    (MB : Hid (∀ w, Calls Try.prog 13 #[.agg (ntL ⟨8, -1, c, b, 0, 0, false, false, fun _ => 0⟩).toArray] w fun e w' => e = .returned (.int .i64 y) ∧ Below w.heap.size w w')) (w : World) :
    Calls Try.prog 5 #[.int .u8 8, .int .i64 c, .int .i64 b, .int .u64 s] w fun e w' => e = .returned (.bool true) ∧ Below w.heap.size w w' := by
  have S0 : Hid (WSt w (w.alloc (.cells (ntL ⟨8, -1, c, b, s, 0, false, false, fun _ => 0⟩).toArray 29)) w.heap.size ⟨8, -1, c, b, s, 0, false, false, fun _ => 0⟩) := hide ⟨NAt.new w _, (Below.refl w.heap.size w).alloc (Nat.le_refl _) _⟩
  have HG := hide hg
  clear hg
  go_enter Try.func5, Try.ntmps5
  go_upto_region 2 with (first
    | ((with_reducible refine alloc_note rfl rfl w.heap.size rfl ?_))
    | ((with_reducible refine Great.wpList_readTo rfl (some 17) rfl (.agg (ntL ⟨8, -1, c, b, s, 0, false, false, fun _ => 0⟩).toArray) ?_ ?_); (· as_aux_lemma => kernel_rfl))
    | ((with_reducible refine store_note_last rfl _ _ rfl _ w.heap.size rfl rfl rfl ?_)))
  generalize w.alloc (.cells (ntL ⟨8, -1, c, b, s, 0, false, false, fun _ => 0⟩).toArray 29) = w0 at *
  generalize hT : w.heap.size = T at *
  have HT := hide hT
  clear hT
  obtain ⟨d0, d1, d2, d3, d4, d5, d6, d7⟩ := S0.out.N.cells
  have f4 := S0.out.N.frozen 4
  go_upto_region 13 with fail
  have S2 := hide (setW S0.out HT.out 4 (.int .u64 0) ⟨8, -1, c, b, 0, 0, false, false, fun _ => 0⟩ rfl)
  generalize (w0.setCell ⟨T, 4, none⟩ (.int .u64 0)) = w2 at *
  clear d0 d1 d2 d3 d4 d5 d6 d7 f4 S0
  go_cut [10] (fun s10 wx => s10 = .bool g ∧ wx = w2)
  case first =>
    rcases split5 c b with ⟨q1, q2, q3, q4⟩ | q1 | ⟨q1, q2⟩ | ⟨q1, q2, q3⟩ | ⟨q1, q2, q3, q4⟩
    all_goals
      go_wp2_with fail
      go_meet
      exact ⟨good_eq (HG.out) (by simp [goodB] <;> omega), rfl⟩
  case rest =>
    obtain ⟨rfl, rfl⟩ := hcut
    go_wp2_with (first
      | ((with_reducible refine load_note rfl (.tmp 9) rfl T rfl S2.out.N ?_)))
    refine (MA.out _).mono ?_
    rintro e w3 ⟨rfl, hb3⟩
    have S3 := hide (S2.out.below hb3)
    clear hb3 S2 MA
    have S4 : Hid (MSt w (w3.alloc (.cells (ntL ⟨8, -1, c, b, 0, 0, false, false, fun _ => 0⟩).toArray 29)) T w3.heap.size ⟨8, -1, c, b, 0, 0, false, false, fun _ => 0⟩ ⟨8, -1, c, b, 0, 0, false, false, fun _ => 0⟩) := hide ⟨S3.out.N.alloc _, NAt.new w3 _, S3.out.bel.alloc S3.out.bel.size _, S3.out.bel.size, fun e => by have := S3.out.N.lt; omega⟩
    go_upto_region 17 with (first
      | ((with_reducible refine load_note rfl (.tmp 9) rfl T rfl S3.out.N ?_))
      | ((with_reducible refine alloc_note rfl rfl w3.heap.size rfl ?_))
      | ((with_reducible refine store_note_last rfl _ _ rfl _ w3.heap.size rfl rfl rfl ?_)))
    clear S3
    generalize w3.alloc (.cells (ntL ⟨8, -1, c, b, 0, 0, false, false, fun _ => 0⟩).toArray 29) = w4 at *
    generalize w3.heap.size = V at *
    obtain ⟨d0, d1, d2, d3, d4, d5, d6, d7⟩ := S4.out.M.cells
    have f6 := S4.out.M.frozen 6
    have f5 := S4.out.M.frozen 5
    go_upto_region 18 with fail
    have S5 := hide (MSt.setS (MSt.setHa S4.out false) 0)
    generalize ((w4.setCell ⟨V, 6, none⟩ (.bool false)).setCell ⟨V, 5, none⟩ (.int .u8 0)) = w5 at *
    clear d0 d1 d2 d3 d4 d5 d6 d7 f5 f6 S4
    go_wp2_with (first
      | ((with_reducible refine load_note rfl (.tmp 11) rfl V rfl S5.out.M ?_)))
    refine (MB.out _).mono ?_
    rintro e w6 ⟨rfl, hb6⟩
    have S6 := hide (MSt.below S5.out hb6)
    clear hb6 S5 MB
    cases g
    all_goals
      go_wp2_with fail
      refine (works_any _).mono ?_
      rintro e w8 ⟨rfl, hb8⟩
      have HB := hide (below_then S6.out.bel hb8)
      clear hb8
      go_wp2_with fail
      go_ret
      exact ⟨rfl, HT.out ▸ HB.out⟩
theorem kinds_9 (c b s : Int) (g : Bool) (hg : goodB 9 c b = g) (x y : Int) (hx : (x == 0) = g) (hy : (y == 0) = g)
    (MA : Hid (∀ w, Calls Try.prog 13 #[.agg (ntL ⟨9, c, -1, b, 0, 0, false, false, fun _ => 0⟩).toArray] w fun e w' => e = .returned (.int .i64 x) ∧ Below w.heap.size w w'))
    (MB : Hid (∀ w, Calls Try.prog 13 #[.agg (ntL ⟨9, c, -1, b, 0, 0, false, false, fun _ => 0⟩).toArray] w fun e w' => e = .returned (.int .i64 y) ∧ Below w.heap.size w w')) (w : World) :
    Calls Try.prog 5 #[.int .u8 9, .int .i64 c, .int .i64 b, .int .u64 s] w fun e w' => e = .returned (.bool true) ∧ Below w.heap.size w w' := by
  have S0 : Hid (WSt w (w.alloc (.cells (ntL ⟨9, -1, c, b, s, 0, false, false, fun _ => 0⟩).toArray 29)) w.heap.size ⟨9, -1, c, b, s, 0, false, false, fun _ => 0⟩) := hide ⟨NAt.new w _, (Below.refl w.heap.size w).alloc (Nat.le_refl _) _⟩
  have HG := hide hg
  clear hg
  go_enter Try.func5, Try.ntmps5
  go_upto_region 2 with (first
    | ((with_reducible refine alloc_note rfl rfl w.heap.size rfl ?_))
    | ((with_reducible refine Great.wpList_readTo rfl (some 17) rfl (.agg (ntL ⟨9, -1, c, b, s, 0, false, false, fun _ => 0⟩).toArray) ?_ ?_); (· as_aux_lemma => kernel_rfl))
    | ((with_reducible refine store_note_last rfl _ _ rfl _ w.heap.size rfl rfl rfl ?_)))
  generalize w.alloc (.cells (ntL ⟨9, -1, c, b, s, 0, false, false, fun _ => 0⟩).toArray 29) = w0 at *
  generalize hT : w.heap.size = T at *
  have HT := hide hT
  clear hT
  obtain ⟨d0, d1, d2, d3, d4, d5, d6, d7⟩ := S0.out.N.cells
  have f1 := S0.out.N.frozen 1
  have f2 := S0.out.N.frozen 2
  go_upto_region 4 with fail
  have S1 := hide (setW (setW S0.out HT.out 1 (.int .i64 c) ⟨9, c, c, b, s, 0, false, false, fun _ => 0⟩ rfl) HT.out 2 (.int .i64 (-1)) ⟨9, c, -1, b, s, 0, false, false, fun _ => 0⟩ rfl)
  generalize ((w0.setCell ⟨T, 1, none⟩ (.int .i64 c)).setCell ⟨T, 2, none⟩ (.int .i64 (-1))) = w1 at *
  clear d0 d1 d2 d3 d4 d5 d6 d7 f1 f2 S0
  obtain ⟨d0, d1, d2, d3, d4, d5, d6, d7⟩ := S1.out.N.cells
  have f4 := S1.out.N.frozen 4
  go_upto_region 13 with fail
  have S2 := hide (setW S1.out HT.out 4 (.int .u64 0) ⟨9, c, -1, b, 0, 0, false, false, fun _ => 0⟩ rfl)
  generalize (w1.setCell ⟨T, 4, none⟩ (.int .u64 0)) = w2 at *
  clear d0 d1 d2 d3 d4 d5 d6 d7 f4 S1
  go_cut [10] (fun s10 wx => s10 = .bool g ∧ wx = w2)
  case first =>
    rcases split5 c b with ⟨q1, q2, q3, q4⟩ | q1 | ⟨q1, q2⟩ | ⟨q1, q2, q3⟩ | ⟨q1, q2, q3, q4⟩
    all_goals
      go_wp2_with fail
      go_meet
      exact ⟨good_eq (HG.out) (by simp [goodB] <;> omega), rfl⟩
  case rest =>
    obtain ⟨rfl, rfl⟩ := hcut
    go_wp2_with (first
      | ((with_reducible refine load_note rfl (.tmp 9) rfl T rfl S2.out.N ?_)))
    refine (MA.out _).mono ?_
    rintro e w3 ⟨rfl, hb3⟩
    have S3 := hide (S2.out.below hb3)
    clear hb3 S2 MA
    have S4 : Hid (MSt w (w3.alloc (.cells (ntL ⟨9, c, -1, b, 0, 0, false, false, fun _ => 0⟩).toArray 29)) T w3.heap.size ⟨9, c, -1, b, 0, 0, false, false, fun _ => 0⟩ ⟨9, c, -1, b, 0, 0, false, false, fun _ => 0⟩) := hide ⟨S3.out.N.alloc _, NAt.new w3 _, S3.out.bel.alloc S3.out.bel.size _, S3.out.bel.size, fun e => by have := S3.out.N.lt; omega⟩
    go_upto_region 17 with (first
      | ((with_reducible refine load_note rfl (.tmp 9) rfl T rfl S3.out.N ?_))
      | ((with_reducible refine alloc_note rfl rfl w3.heap.size rfl ?_))
      | ((with_reducible refine store_note_last rfl _ _ rfl _ w3.heap.size rfl rfl rfl ?_)))
    clear S3
    generalize w3.alloc (.cells (ntL ⟨9, c, -1, b, 0, 0, false, false, fun _ => 0⟩).toArray 29) = w4 at *
    generalize w3.heap.size = V at *
    obtain ⟨d0, d1, d2, d3, d4, d5, d6, d7⟩ := S4.out.M.cells
    have f6 := S4.out.M.frozen 6
    have f5 := S4.out.M.frozen 5
    go_upto_region 18 with fail
    have S5 := hide (MSt.setS (MSt.setHa S4.out false) 0)
    generalize ((w4.setCell ⟨V, 6, none⟩ (.bool false)).setCell ⟨V, 5, none⟩ (.int .u8 0)) = w5 at *
    clear d0 d1 d2 d3 d4 d5 d6 d7 f5 f6 S4
    go_wp2_with (first
      | ((with_reducible refine load_note rfl (.tmp 11) rfl V rfl S5.out.M ?_)))
    refine (MB.out _).mono ?_
    rintro e w6 ⟨rfl, hb6⟩
    have S6 := hide (MSt.below S5.out hb6)
    clear hb6 S5 MB
    cases g
    all_goals
      go_wp2_with fail
      refine (works_any _).mono ?_
      rintro e w8 ⟨rfl, hb8⟩
      have HB := hide (below_then S6.out.bel hb8)
      clear hb8
      go_wp2_with fail
      go_ret
      exact ⟨rfl, HT.out ▸ HB.out⟩
theorem kinds_10 (c b s : Int) (g : Bool) (hg : goodB 10 c b = g) (x y : Int) (hx : (x == 0) = g) (hy : (y == 0) = g)
    (MA : Hid (∀ w, Calls Try.prog 13 #[.agg (ntL ⟨10, c, -1, b, s, 0, false, false, fun _ => 0⟩).toArray] w fun e w' => e = .returned (.int .i64 x) ∧ Below w.heap.size w w'))
    (MB : Hid (∀ w, Calls Try.prog 13 #[.agg (ntL ⟨10, c, -1, b, s, 0, false, false, fun _ => 0⟩).toArray] w fun e w' => e = .returned (.int .i64 y) ∧ Below w.heap.size w w')) (w : World) :
    Calls Try.prog 5 #[.int .u8 10, .int .i64 c, .int .i64 b, .int .u64 s] w fun e w' => e = .returned (.bool true) ∧ Below w.heap.size w w' := by
  have S0 : Hid (WSt w (w.alloc (.cells (ntL ⟨10, -1, c, b, s, 0, false, false, fun _ => 0⟩).toArray 29)) w.heap.size ⟨10, -1, c, b, s, 0, false, false, fun _ => 0⟩) := hide ⟨NAt.new w _, (Below.refl w.heap.size w).alloc (Nat.le_refl _) _⟩
  have HG := hide hg
  clear hg
  go_enter Try.func5, Try.ntmps5
  go_upto_region 2 with (first
    | ((with_reducible refine alloc_note rfl rfl w.heap.size rfl ?_))
    | ((with_reducible refine Great.wpList_readTo rfl (some 17) rfl (.agg (ntL ⟨10, -1, c, b, s, 0, false, false, fun _ => 0⟩).toArray) ?_ ?_); (· as_aux_lemma => kernel_rfl))
    | ((with_reducible refine store_note_last rfl _ _ rfl _ w.heap.size rfl rfl rfl ?_)))
  generalize w.alloc (.cells (ntL ⟨10, -1, c, b, s, 0, false, false, fun _ => 0⟩).toArray 29) = w0 at *
  generalize hT : w.heap.size = T at *
  have HT := hide hT
  clear hT
  obtain ⟨d0, d1, d2, d3, d4, d5, d6, d7⟩ := S0.out.N.cells
  have f1 := S0.out.N.frozen 1
  have f2 := S0.out.N.frozen 2
  go_upto_region 4 with fail
  have S1 := hide (setW (setW S0.out HT.out 1 (.int .i64 c) ⟨10, c, c, b, s, 0, false, false, fun _ => 0⟩ rfl) HT.out 2 (.int .i64 (-1)) ⟨10, c, -1, b, s, 0, false, false, fun _ => 0⟩ rfl)
  generalize ((w0.setCell ⟨T, 1, none⟩ (.int .i64 c)).setCell ⟨T, 2, none⟩ (.int .i64 (-1))) = w1 at *
  clear d0 d1 d2 d3 d4 d5 d6 d7 f1 f2 S0
  go_upto_region 13 with fail
  go_cut [10] (fun s10 wx => s10 = .bool g ∧ wx = w1)
  case first =>
    rcases split5 c b with ⟨q1, q2, q3, q4⟩ | q1 | ⟨q1, q2⟩ | ⟨q1, q2, q3⟩ | ⟨q1, q2, q3, q4⟩
    all_goals
      go_wp2_with fail
      go_meet
      exact ⟨good_eq (HG.out) (by simp [goodB] <;> omega), rfl⟩
  case rest =>
    obtain ⟨rfl, rfl⟩ := hcut
    go_wp2_with (first
      | ((with_reducible refine load_note rfl (.tmp 9) rfl T rfl S1.out.N ?_)))
    refine (MA.out _).mono ?_
    rintro e w3 ⟨rfl, hb3⟩
    have S3 := hide (S1.out.below hb3)
    clear hb3 S1 MA
    have S4 : Hid (MSt w (w3.alloc (.cells (ntL ⟨10, c, -1, b, s, 0, false, false, fun _ => 0⟩).toArray 29)) T w3.heap.size ⟨10, c, -1, b, s, 0, false, false, fun _ => 0⟩ ⟨10, c, -1, b, s, 0, false, false, fun _ => 0⟩) := hide ⟨S3.out.N.alloc _, NAt.new w3 _, S3.out.bel.alloc S3.out.bel.size _, S3.out.bel.size, fun e => by have := S3.out.N.lt; omega⟩
    go_upto_region 17 with (first
      | ((with_reducible refine load_note rfl (.tmp 9) rfl T rfl S3.out.N ?_))
      | ((with_reducible refine alloc_note rfl rfl w3.heap.size rfl ?_))
      | ((with_reducible refine store_note_last rfl _ _ rfl _ w3.heap.size rfl rfl rfl ?_)))
    clear S3
    generalize w3.alloc (.cells (ntL ⟨10, c, -1, b, s, 0, false, false, fun _ => 0⟩).toArray 29) = w4 at *
    generalize w3.heap.size = V at *
    obtain ⟨d0, d1, d2, d3, d4, d5, d6, d7⟩ := S4.out.M.cells
    have f6 := S4.out.M.frozen 6
    have f5 := S4.out.M.frozen 5
    go_upto_region 18 with fail
    have S5 := hide (MSt.setS (MSt.setHa S4.out false) 0)
    generalize ((w4.setCell ⟨V, 6, none⟩ (.bool false)).setCell ⟨V, 5, none⟩ (.int .u8 0)) = w5 at *
    clear d0 d1 d2 d3 d4 d5 d6 d7 f5 f6 S4
    go_wp2_with (first
      | ((with_reducible refine load_note rfl (.tmp 11) rfl V rfl S5.out.M ?_)))
    refine (MB.out _).mono ?_
    rintro e w6 ⟨rfl, hb6⟩
    have S6 := hide (MSt.below S5.out hb6)
    clear hb6 S5 MB
    cases g
    all_goals
      go_wp2_with fail
      refine (works_any _).mono ?_
      rintro e w8 ⟨rfl, hb8⟩
      have HB := hide (below_then S6.out.bel hb8)
      clear hb8
      go_wp2_with fail
      go_ret
      exact ⟨rfl, HT.out ▸ HB.out⟩
theorem kinds_11 (c b s : Int) (g : Bool) (hg : goodB 11 c b = g) (x y : Int) (hx : (x == 0) = g) (hy : (y == 0) = g)
    (MA : Hid (∀ w, Calls Try.prog 13 #[.agg (ntL ⟨11, c, -1, b, 0, 0, false, false, fun _ => 0⟩).toArray] w fun e w' => e = .returned (.int .i64 x) ∧ Below w.heap.size w w'))
    (MB : Hid (∀ w, Calls Try.prog 13 #[.agg (ntL ⟨11, c, -1, b, 0, 0, false, false, fun _ => 0⟩).toArray] w fun e w' => e = .returned (.int .i64 y) ∧ Below w.heap.size w w')) (w : World) :
    Calls Try.prog 5 #[.int .u8 11, .int .i64 c, .int .i64 b, .int .u64 s] w fun e w' => e = .returned (.bool true) ∧ Below w.heap.size w w' := by
  have S0 : Hid (WSt w (w.alloc (.cells (ntL ⟨11, -1, c, b, s, 0, false, false, fun _ => 0⟩).toArray 29)) w.heap.size ⟨11, -1, c, b, s, 0, false, false, fun _ => 0⟩) := hide ⟨NAt.new w _, (Below.refl w.heap.size w).alloc (Nat.le_refl _) _⟩
  have HG := hide hg
  clear hg
  go_enter Try.func5, Try.ntmps5
  go_upto_region 2 with (first
    | ((with_reducible refine alloc_note rfl rfl w.heap.size rfl ?_))
    | ((with_reducible refine Great.wpList_readTo rfl (some 17) rfl (.agg (ntL ⟨11, -1, c, b, s, 0, false, false, fun _ => 0⟩).toArray) ?_ ?_); (· as_aux_lemma => kernel_rfl))
    | ((with_reducible refine store_note_last rfl _ _ rfl _ w.heap.size rfl rfl rfl ?_)))
  generalize w.alloc (.cells (ntL ⟨11, -1, c, b, s, 0, false, false, fun _ => 0⟩).toArray 29) = w0 at *
  generalize hT : w.heap.size = T at *
  have HT := hide hT
  clear hT
  obtain ⟨d0, d1, d2, d3, d4, d5, d6, d7⟩ := S0.out.N.cells
  have f1 := S0.out.N.frozen 1
  have f2 := S0.out.N.frozen 2
  go_upto_region 4 with fail
  have S1 := hide (setW (setW S0.out HT.out 1 (.int .i64 c) ⟨11, c, c, b, s, 0, false, false, fun _ => 0⟩ rfl) HT.out 2 (.int .i64 (-1)) ⟨11, c, -1, b, s, 0, false, false, fun _ => 0⟩ rfl)
  generalize ((w0.setCell ⟨T, 1, none⟩ (.int .i64 c)).setCell ⟨T, 2, none⟩ (.int .i64 (-1))) = w1 at *
  clear d0 d1 d2 d3 d4 d5 d6 d7 f1 f2 S0
  obtain ⟨d0, d1, d2, d3, d4, d5, d6, d7⟩ := S1.out.N.cells
  have f4 := S1.out.N.frozen 4
  go_upto_region 13 with fail
  have S2 := hide (setW S1.out HT.out 4 (.int .u64 0) ⟨11, c, -1, b, 0, 0, false, false, fun _ => 0⟩ rfl)
  generalize (w1.setCell ⟨T, 4, none⟩ (.int .u64 0)) = w2 at *
  clear d0 d1 d2 d3 d4 d5 d6 d7 f4 S1
  go_cut [10] (fun s10 wx => s10 = .bool g ∧ wx = w2)
  case first =>
    rcases split5 c b with ⟨q1, q2, q3, q4⟩ | q1 | ⟨q1, q2⟩ | ⟨q1, q2, q3⟩ | ⟨q1, q2, q3, q4⟩
    all_goals
      go_wp2_with fail
      go_meet
      exact ⟨good_eq (HG.out) (by simp [goodB] <;> omega), rfl⟩
  case rest =>
    obtain ⟨rfl, rfl⟩ := hcut
    go_wp2_with (first
      | ((with_reducible refine load_note rfl (.tmp 9) rfl T rfl S2.out.N ?_)))
    refine (MA.out _).mono ?_
    rintro e w3 ⟨rfl, hb3⟩
    have S3 := hide (S2.out.below hb3)
    clear hb3 S2 MA
    have S4 : Hid (MSt w (w3.alloc (.cells (ntL ⟨11, c, -1, b, 0, 0, false, false, fun _ => 0⟩).toArray 29)) T w3.heap.size ⟨11, c, -1, b, 0, 0, false, false, fun _ => 0⟩ ⟨11, c, -1, b, 0, 0, false, false, fun _ => 0⟩) := hide ⟨S3.out.N.alloc _, NAt.new w3 _, S3.out.bel.alloc S3.out.bel.size _, S3.out.bel.size, fun e => by have := S3.out.N.lt; omega⟩
    go_upto_region 17 with (first
      | ((with_reducible refine load_note rfl (.tmp 9) rfl T rfl S3.out.N ?_))
      | ((with_reducible refine alloc_note rfl rfl w3.heap.size rfl ?_))
      | ((with_reducible refine store_note_last rfl _ _ rfl _ w3.heap.size rfl rfl rfl ?_)))
    clear S3
    generalize w3.alloc (.cells (ntL ⟨11, c, -1, b, 0, 0, false, false, fun _ => 0⟩).toArray 29) = w4 at *
    generalize w3.heap.size = V at *
    obtain ⟨d0, d1, d2, d3, d4, d5, d6, d7⟩ := S4.out.M.cells
    have f6 := S4.out.M.frozen 6
    have f5 := S4.out.M.frozen 5
    go_upto_region 18 with fail
    have S5 := hide (MSt.setS (MSt.setHa S4.out false) 0)
    generalize ((w4.setCell ⟨V, 6, none⟩ (.bool false)).setCell ⟨V, 5, none⟩ (.int .u8 0)) = w5 at *
    clear d0 d1 d2 d3 d4 d5 d6 d7 f5 f6 S4
    go_wp2_with (first
      | ((with_reducible refine load_note rfl (.tmp 11) rfl V rfl S5.out.M ?_)))
    refine (MB.out _).mono ?_
    rintro e w6 ⟨rfl, hb6⟩
    have S6 := hide (MSt.below S5.out hb6)
    clear hb6 S5 MB
    cases g
    all_goals
      go_wp2_with fail
      refine (works_any _).mono ?_
      rintro e w8 ⟨rfl, hb8⟩
      have HB := hide (below_then S6.out.bel hb8)
      clear hb8
      go_wp2_with fail
      go_ret
      exact ⟨rfl, HT.out ▸ HB.out⟩
theorem kinds_far (K : Int) (hk12 : 12 ≤ K) (hk255 : K ≤ 255) (c b s : Int) (g : Bool) (hg : goodB K c b = g) (x y : Int) (hx : (x == 0) = g) (hy : (y == 0) = g)
    (MA : Hid (∀ w, Calls Try.prog 13 #[.agg (ntL ⟨K, c, -1, b, s, 0, false, false, fun _ => 0⟩).toArray] w fun e w' => e = .returned (.int .i64 x) ∧ Below w.heap.size w w'))
    (MB : Hid (∀ w, Calls Try.prog 13 #[.agg (ntL ⟨K, c, -1, b, s, 0, false, false, fun _ => 0⟩).toArray] w fun e w' => e = .returned (.int .i64 y) ∧ Below w.heap.size w w')) (w : World) :
    Calls Try.prog 5 #[.int .u8 K, .int .i64 c, .int .i64 b, .int .u64 s] w fun e w' => e = .returned (.bool true) ∧ Below w.heap.size w w' := by
  have e3 : (K == 3) = false := beq_no (by omega)
  have e6 : (K == 6) = false := beq_no (by omega)
  have e8 : (K == 8) = false := beq_no (by omega)
  have e9 : (K == 9) = false := beq_no (by omega)
  have e11 : (K == 11) = false := beq_no (by omega)
  have l3 : ¬ K ≤ 3 := by omega
  have l9 : 9 ≤ K := by omega
  have l1 : 1 ≤ K := by omega
  have l11 : ¬ K ≤ 11 := by omega
  have hg' := hide (hg ▸ goodB_far (c := c) (b := b) hk12)
  have HG := hide hg
  clear hk12 hk255 hg
  have S0 : Hid (WSt w (w.alloc (.cells (ntL ⟨K, -1, c, b, s, 0, false, false, fun _ => 0⟩).toArray 29)) w.heap.size ⟨K, -1, c, b, s, 0, false, false, fun _ => 0⟩) := hide ⟨NAt.new w _, (Below.refl w.heap.size w).alloc (Nat.le_refl _) _⟩
  go_enter Try.func5, Try.ntmps5
  go_upto_region 2 with (first
    | ((with_reducible refine alloc_note rfl rfl w.heap.size rfl ?_))
    | ((with_reducible refine Great.wpList_readTo rfl (some 17) rfl (.agg (ntL ⟨K, -1, c, b, s, 0, false, false, fun _ => 0⟩).toArray) ?_ ?_); (· as_aux_lemma => kernel_rfl))
    | ((with_reducible refine store_note_last rfl _ _ rfl _ w.heap.size rfl rfl rfl ?_)))
  generalize w.alloc (.cells (ntL ⟨K, -1, c, b, s, 0, false, false, fun _ => 0⟩).toArray 29) = w0 at *
  generalize hT : w.heap.size = T at *
  have HT := hide hT
  clear hT
  obtain ⟨d0, d1, d2, d3, d4, d5, d6, d7⟩ := S0.out.N.cells
  have f1 := S0.out.N.frozen 1
  have f2 := S0.out.N.frozen 2
  go_upto_region 4 with fail
  have S1 := hide (setW (setW S0.out HT.out 1 (.int .i64 c) ⟨K, c, c, b, s, 0, false, false, fun _ => 0⟩ rfl) HT.out 2 (.int .i64 (-1)) ⟨K, c, -1, b, s, 0, false, false, fun _ => 0⟩ rfl)
  generalize ((w0.setCell ⟨T, 1, none⟩ (.int .i64 c)).setCell ⟨T, 2, none⟩ (.int .i64 (-1))) = w1 at *
  clear d0 d1 d2 d3 d4 d5 d6 d7 f1 f2 S0
  go_upto_region 13 with fail
  go_cut [10] (fun s10 wx => s10 = .bool g ∧ wx = w1)
  case first =>
    rcases split5 c b with ⟨q1, q2, q3, q4⟩ | q1 | ⟨q1, q2⟩ | ⟨q1, q2, q3⟩ | ⟨q1, q2, q3, q4⟩
    all_goals
      go_wp2_with fail
      go_meet
      exact ⟨good_eq (HG.out) (by simp [goodB] <;> omega), rfl⟩
  case rest =>
    obtain ⟨rfl, rfl⟩ := hcut
    go_wp2_with (first
      | ((with_reducible refine load_note rfl (.tmp 9) rfl T rfl S1.out.N ?_)))
    refine (MA.out _).mono ?_
    rintro e w3 ⟨rfl, hb3⟩
    have S3 := hide (S1.out.below hb3)
    clear hb3 S1 MA
    have S4 : Hid (MSt w (w3.alloc (.cells (ntL ⟨K, c, -1, b, s, 0, false, false, fun _ => 0⟩).toArray 29)) T w3.heap.size ⟨K, c, -1, b, s, 0, false, false, fun _ => 0⟩ ⟨K, c, -1, b, s, 0, false, false, fun _ => 0⟩) := hide ⟨S3.out.N.alloc _, NAt.new w3 _, S3.out.bel.alloc S3.out.bel.size _, S3.out.bel.size, fun e => by have := S3.out.N.lt; omega⟩
    go_upto_region 17 with (first
      | ((with_reducible refine load_note rfl (.tmp 9) rfl T rfl S3.out.N ?_))
      | ((with_reducible refine alloc_note rfl rfl w3.heap.size rfl ?_))
      | ((with_reducible refine store_note_last rfl _ _ rfl _ w3.heap.size rfl rfl rfl ?_)))
    clear S3
    generalize w3.alloc (.cells (ntL ⟨K, c, -1, b, s, 0, false, false, fun _ => 0⟩).toArray 29) = w4 at *
    generalize w3.heap.size = V at *
    obtain ⟨d0, d1, d2, d3, d4, d5, d6, d7⟩ := S4.out.M.cells
    have f6 := S4.out.M.frozen 6
    have f5 := S4.out.M.frozen 5
    go_upto_region 18 with fail
    have S5 := hide (MSt.setS (MSt.setHa S4.out false) 0)
    generalize ((w4.setCell ⟨V, 6, none⟩ (.bool false)).setCell ⟨V, 5, none⟩ (.int .u8 0)) = w5 at *
    clear d0 d1 d2 d3 d4 d5 d6 d7 f5 f6 S4
    go_wp2_with (first
      | ((with_reducible refine load_note rfl (.tmp 11) rfl V rfl S5.out.M ?_)))
    refine (MB.out _).mono ?_
    rintro e w6 ⟨rfl, hb6⟩
    have S6 := hide (MSt.below S5.out hb6)
    clear hb6 S5 MB
    cases g
    all_goals
      go_wp2_with fail
      refine (works_any _).mono ?_
      rintro e w8 ⟨rfl, hb8⟩
      have HB := hide (below_then S6.out.bel hb8)
      clear hb8
      go_wp2_with fail
      go_ret
      exact ⟨rfl, HT.out ▸ HB.out⟩
theorem beq_mayE (n : NT) : (mayE n == 0) = mayN n := by
  unfold mayE
  cases mayN n <;> rfl
theorem may_0 (c b s : Int) : mayN ⟨0, c, -1, b, s, 0, false, false, fun _ => 0⟩ = goodB 0 c b := by
  rw [Bool.eq_iff_iff]
  simp [mayN, whoN, atN, restN, homeB, coreB, stampB, goodB, eqB_self] <;> omega
theorem bare_0 (c b s : Int) : mayN ⟨0, c, -1, b, s, 0, false, false, fun _ => 0⟩ = goodB 0 c b := by
  rw [Bool.eq_iff_iff]
  simp [mayN, whoN, atN, restN, homeB, coreB, stampB, goodB, eqB_self] <;> omega
theorem may_1 (c b s : Int) : mayN ⟨1, c, -1, b, s, 0, false, false, fun _ => 0⟩ = goodB 1 c b := by
  rw [Bool.eq_iff_iff]
  simp [mayN, whoN, atN, restN, homeB, coreB, stampB, goodB, eqB_self] <;> omega
theorem bare_1 (c b s : Int) : mayN ⟨1, c, -1, b, s, 0, false, false, fun _ => 0⟩ = goodB 1 c b := by
  rw [Bool.eq_iff_iff]
  simp [mayN, whoN, atN, restN, homeB, coreB, stampB, goodB, eqB_self] <;> omega
theorem may_2 (c b s : Int) : mayN ⟨2, c, -1, b, s, 0, false, false, fun _ => 0⟩ = goodB 2 c b := by
  rw [Bool.eq_iff_iff]
  simp [mayN, whoN, atN, restN, homeB, coreB, stampB, goodB, eqB_self] <;> omega
theorem bare_2 (c b s : Int) : mayN ⟨2, c, -1, b, s, 0, false, false, fun _ => 0⟩ = goodB 2 c b := by
  rw [Bool.eq_iff_iff]
  simp [mayN, whoN, atN, restN, homeB, coreB, stampB, goodB, eqB_self] <;> omega
theorem may_3 (c b s : Int) : mayN ⟨3, c, -1, b, 0, 0, true, false, fun _ => 0⟩ = goodB 3 c b := by
  rw [Bool.eq_iff_iff]
  simp [mayN, whoN, atN, restN, homeB, coreB, stampB, goodB, eqB_self] <;> omega
theorem bare_3 (c b s : Int) : mayN ⟨3, c, -1, b, 0, 0, false, false, fun _ => 0⟩ = false := by
  rw [Bool.eq_iff_iff]
  simp [mayN, whoN, atN, restN, homeB, coreB, stampB, goodB, eqB_self] <;> omega
theorem may_4 (c b s : Int) : mayN ⟨4, -1, c, b, s, 0, false, false, fun _ => 0⟩ = goodB 4 c b := by
  rw [Bool.eq_iff_iff]
  simp [mayN, whoN, atN, restN, homeB, coreB, stampB, goodB, eqB_self] <;> omega
theorem bare_4 (c b s : Int) : mayN ⟨4, -1, c, b, s, 0, false, false, fun _ => 0⟩ = goodB 4 c b := by
  rw [Bool.eq_iff_iff]
  simp [mayN, whoN, atN, restN, homeB, coreB, stampB, goodB, eqB_self] <;> omega
theorem may_5 (c b s : Int) : mayN ⟨5, -1, c, b, s, 0, false, false, fun _ => 0⟩ = goodB 5 c b := by
  rw [Bool.eq_iff_iff]
  simp [mayN, whoN, atN, restN, homeB, coreB, stampB, goodB, eqB_self] <;> omega
theorem bare_5 (c b s : Int) : mayN ⟨5, -1, c, b, s, 0, false, false, fun _ => 0⟩ = goodB 5 c b := by
  rw [Bool.eq_iff_iff]
  simp [mayN, whoN, atN, restN, homeB, coreB, stampB, goodB, eqB_self] <;> omega
theorem may_6 (c b s : Int) : mayN ⟨6, -1, c, b, 0, 2, true, false, fun _ => 0⟩ = goodB 6 c b := by
  rw [Bool.eq_iff_iff]
  simp [mayN, whoN, atN, restN, homeB, coreB, stampB, goodB, eqB_self] <;> omega
theorem bare_6 (c b s : Int) : mayN ⟨6, -1, c, b, 0, 0, false, false, fun _ => 0⟩ = false := by
  rw [Bool.eq_iff_iff]
  simp [mayN, whoN, atN, restN, homeB, coreB, stampB, goodB, eqB_self] <;> omega
theorem may_7 (c b s : Int) : mayN ⟨7, -1, c, b, s, 0, false, false, fun _ => 0⟩ = goodB 7 c b := by
  rw [Bool.eq_iff_iff]
  simp [mayN, whoN, atN, restN, homeB, coreB, stampB, goodB, eqB_self] <;> omega
theorem bare_7 (c b s : Int) : mayN ⟨7, -1, c, b, s, 0, false, false, fun _ => 0⟩ = goodB 7 c b := by
  rw [Bool.eq_iff_iff]
  simp [mayN, whoN, atN, restN, homeB, coreB, stampB, goodB, eqB_self] <;> omega
theorem may_8 (c b s : Int) : mayN ⟨8, -1, c, b, 0, 0, false, false, fun _ => 0⟩ = goodB 8 c b := by
  rw [Bool.eq_iff_iff]
  simp [mayN, whoN, atN, restN, homeB, coreB, stampB, goodB, eqB_self] <;> omega
theorem bare_8 (c b s : Int) : mayN ⟨8, -1, c, b, 0, 0, false, false, fun _ => 0⟩ = goodB 8 c b := by
  rw [Bool.eq_iff_iff]
  simp [mayN, whoN, atN, restN, homeB, coreB, stampB, goodB, eqB_self] <;> omega
theorem may_9 (c b s : Int) : mayN ⟨9, c, -1, b, 0, 0, false, false, fun _ => 0⟩ = goodB 9 c b := by
  rw [Bool.eq_iff_iff]
  simp [mayN, whoN, atN, restN, homeB, coreB, stampB, goodB, eqB_self] <;> omega
theorem bare_9 (c b s : Int) : mayN ⟨9, c, -1, b, 0, 0, false, false, fun _ => 0⟩ = goodB 9 c b := by
  rw [Bool.eq_iff_iff]
  simp [mayN, whoN, atN, restN, homeB, coreB, stampB, goodB, eqB_self] <;> omega
theorem may_10 (c b s : Int) : mayN ⟨10, c, -1, b, s, 0, false, false, fun _ => 0⟩ = goodB 10 c b := by
  rw [Bool.eq_iff_iff]
  simp [mayN, whoN, atN, restN, homeB, coreB, stampB, goodB, eqB_self] <;> omega
theorem bare_10 (c b s : Int) : mayN ⟨10, c, -1, b, s, 0, false, false, fun _ => 0⟩ = goodB 10 c b := by
  rw [Bool.eq_iff_iff]
  simp [mayN, whoN, atN, restN, homeB, coreB, stampB, goodB, eqB_self] <;> omega
theorem may_11 (c b s : Int) : mayN ⟨11, c, -1, b, 0, 0, false, false, fun _ => 0⟩ = goodB 11 c b := by
  rw [Bool.eq_iff_iff]
  simp [mayN, whoN, atN, restN, homeB, coreB, stampB, goodB, eqB_self] <;> omega
theorem bare_11 (c b s : Int) : mayN ⟨11, c, -1, b, 0, 0, false, false, fun _ => 0⟩ = goodB 11 c b := by
  rw [Bool.eq_iff_iff]
  simp [mayN, whoN, atN, restN, homeB, coreB, stampB, goodB, eqB_self] <;> omega
theorem kinds (K c b s : Int) (k0 : 0 ≤ K) (k1 : K ≤ 255) (w : World) :
    Calls Try.prog 5 #[.int .u8 K, .int .i64 c, .int .i64 b, .int .u64 s] w fun e w' => e = .returned (.bool true) ∧ Below w.heap.size w w' := by
  by_cases h12 : 12 ≤ K
  · have hm : mayN ⟨K, c, -1, b, s, 0, false, false, fun _ => 0⟩ = goodB K c b := by
      rw [goodB_far h12, mayN_out (Or.inl (by show ¬ (1 ≤ K ∧ K ≤ 11); omega))]
    exact kinds_far K h12 k1 c b s _ rfl _ _ ((beq_mayE _).trans hm) ((beq_mayE _).trans hm) (hide (May_any _ k0 k1)) (hide (May_any _ k0 k1)) w
  · have : K = 0 ∨ K = 1 ∨ K = 2 ∨ K = 3 ∨ K = 4 ∨ K = 5 ∨ K = 6 ∨ K = 7 ∨ K = 8 ∨ K = 9 ∨ K = 10 ∨ K = 11 := by omega
    rcases this with rfl | rfl | rfl | rfl | rfl | rfl | rfl | rfl | rfl | rfl | rfl | rfl
    · exact kinds_0 c b s _ rfl _ _ ((beq_mayE _).trans (may_0 c b s)) ((beq_mayE _).trans (bare_0 c b s)) (hide (May_any _ k0 k1)) (hide (May_any _ k0 k1)) w
    · exact kinds_1 c b s _ rfl _ _ ((beq_mayE _).trans (may_1 c b s)) ((beq_mayE _).trans (bare_1 c b s)) (hide (May_any _ k0 k1)) (hide (May_any _ k0 k1)) w
    · exact kinds_2 c b s _ rfl _ _ ((beq_mayE _).trans (may_2 c b s)) ((beq_mayE _).trans (bare_2 c b s)) (hide (May_any _ k0 k1)) (hide (May_any _ k0 k1)) w
    · exact kinds_3 c b s _ rfl _ _ ((beq_mayE _).trans (may_3 c b s)) ((beq_mayE _).trans (bare_3 c b s)) (hide (May_any _ k0 k1)) (hide (May_any _ k0 k1)) w
    · exact kinds_4 c b s _ rfl _ _ ((beq_mayE _).trans (may_4 c b s)) ((beq_mayE _).trans (bare_4 c b s)) (hide (May_any _ k0 k1)) (hide (May_any _ k0 k1)) w
    · exact kinds_5 c b s _ rfl _ _ ((beq_mayE _).trans (may_5 c b s)) ((beq_mayE _).trans (bare_5 c b s)) (hide (May_any _ k0 k1)) (hide (May_any _ k0 k1)) w
    · exact kinds_6 c b s _ rfl _ _ ((beq_mayE _).trans (may_6 c b s)) ((beq_mayE _).trans (bare_6 c b s)) (hide (May_any _ k0 k1)) (hide (May_any _ k0 k1)) w
    · exact kinds_7 c b s _ rfl _ _ ((beq_mayE _).trans (may_7 c b s)) ((beq_mayE _).trans (bare_7 c b s)) (hide (May_any _ k0 k1)) (hide (May_any _ k0 k1)) w
    · exact kinds_8 c b s _ rfl _ _ ((beq_mayE _).trans (may_8 c b s)) ((beq_mayE _).trans (bare_8 c b s)) (hide (May_any _ k0 k1)) (hide (May_any _ k0 k1)) w
    · exact kinds_9 c b s _ rfl _ _ ((beq_mayE _).trans (may_9 c b s)) ((beq_mayE _).trans (bare_9 c b s)) (hide (May_any _ k0 k1)) (hide (May_any _ k0 k1)) w
    · exact kinds_10 c b s _ rfl _ _ ((beq_mayE _).trans (may_10 c b s)) ((beq_mayE _).trans (bare_10 c b s)) (hide (May_any _ k0 k1)) (hide (May_any _ k0 k1)) w
    · exact kinds_11 c b s _ rfl _ _ ((beq_mayE _).trans (may_11 c b s)) ((beq_mayE _).trans (bare_11 c b s)) (hide (May_any _ k0 k1)) (hide (May_any _ k0 k1)) w
end Go.Proofs.Ytnjojcikahiieaa.NLKinds
