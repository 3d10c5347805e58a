/-
  One leg of a way walked: so many steps, each laid behind the list.
-/
import Derived.Test.YtiedahchpkfmgaaGPlaces
import Derived.Test.YtiedahchpkfmgaaWords
import Derived.Deep.Cut
namespace Go.Proofs.Ytiedahchpkfmgaa.GStep
open Go Ieee Go.RowKit Base Fl GAbs GWalk GPlaces Words
set_option linter.unusedVariables false
set_option linter.unusedSimpArgs false

theorem infoZ : (Try.prog.info? 22).map (fun i => (i.zero, i.size, i.bytes)) = some (some (.complex .f64 0 0), 1, 16) := by kernel_rfl
theorem below_of_grown {B : Nat} {w w' : World} {row : Option Nat} (h : w.grownBy w' row) (hr : ∀ k, row = some k → B ≤ k) (hB : B ≤ w.heap.size) : Below B w w' :=
  ⟨h.os, h.tape, h.output, h.size, fun i hi => h.block i (by omega) (fun e => by have := hr i e.symm; omega)⟩
/-- Where one stands, and what was met. -/
structure SSt (w0 w : World) (A O : Nat) (z v : Value) (n : Nat) (xs : List Value) : Prop where
  a : Blk w A 22 #[z]
  o : Blk w O 33 #[v]
  own : w.ownsRow w0.heap.size 22 1 v n xs
  bel : Below w0.heap.size w0 w
  ge1 : w0.heap.size ≤ A
  ge2 : w0.heap.size ≤ O
  ne : A ≠ O
  na : v.ownBlock ≠ some A
section
variable {w0 w w' : World} {A O : Nat} {z v : Value} {n : Nat} {xs : List Value}
theorem SSt.cells (h : SSt w0 w A O z v n xs) : w.cell? ⟨A, 0, none⟩ = some z ∧ w.frozen? ⟨A, 0, none⟩ = false ∧ w.cell? ⟨O, 0, none⟩ = some v ∧ w.frozen? ⟨O, 0, none⟩ = false :=
  ⟨h.a.cell 0, h.a.frozen 0, h.o.cell 0, h.o.frozen 0⟩
theorem SSt.setA (h : SSt w0 w A O z v n xs) (z' : Value) : SSt w0 (w.setCell ⟨A, 0, none⟩ z') A O z' v n xs :=
  ⟨by have := h.a.set_ 0 z'; simpa using this, h.o.far (p := ⟨A, 0, none⟩) h.ne.symm _, h.own.kept (only_setCell (World.grownBy.refl w (some A)) (p := ⟨A, 0, none⟩) (Or.inl rfl) z') (Or.inr h.na), h.bel.setCell (p := ⟨A, 0, none⟩) h.ge1 _, h.ge1, h.ge2, h.ne, h.na⟩
theorem SSt.alloc (h : SSt w0 w A O z v n xs) (ob : Obj) : SSt w0 (w.alloc ob) A O z v n xs :=
  ⟨h.a.alloc ob, h.o.alloc ob, h.own.alloc ob, h.bel.alloc h.bel.size ob, h.ge1, h.ge2, h.ne, h.na⟩
theorem SSt.keptO (h : SSt w0 w A O z v n xs) (hg : w.grownBy w' v.ownBlock) : w'.cell? ⟨O, 0, none⟩ = some v ∧ w'.frozen? ⟨O, 0, none⟩ = false := by
  have hne : v.ownBlock ≠ some O := own_blk_ne h.own h.o (by decide)
  have ho : Blk w' O 33 #[v] := h.o.grown hg (fun e => hne e.symm)
  exact ⟨ho.cell 0, ho.frozen 0⟩
theorem SSt.appended (h : SSt w0 w A O z v n xs) {v' : Value} {n' : Nat} {xs' : List Value} (hown : w'.ownsRow w0.heap.size 22 1 v' n' xs') (hg : w.grownBy w' v.ownBlock) (hat : v'.ownBlock = v.ownBlock ∨ v'.ownBlock = some w.heap.size) :
    SSt w0 (w'.setCell ⟨O, 0, none⟩ v') A O z v' n' xs' := by
  have hne : v.ownBlock ≠ some O := own_blk_ne h.own h.o (by decide)
  have hne' : v'.ownBlock ≠ some O := by
    rcases hat with e | e
    · rw [e]; exact hne
    · rw [e]; intro e2; injection e2 with e2; have := h.o.lt; omega
  have ho : Blk w' O 33 #[v] := h.o.grown hg (fun e => hne e.symm)
  have ha : Blk w' A 22 #[z] := h.a.grown hg (fun e => h.na e.symm)
  have hb : Below w0.heap.size w0 w' := h.bel.trans (below_of_grown hg (fun k hk => (h.own.lt k hk).1) h.bel.size)
  refine ⟨ha.far (p := ⟨O, 0, none⟩) h.ne _, by have := ho.set_ 0 v'; simpa using this, hown.kept (only_setCell (World.grownBy.refl w' (some O)) (p := ⟨O, 0, none⟩) (Or.inl rfl) v') (Or.inr hne'), hb.setCell (p := ⟨O, 0, none⟩) h.ge2 _, h.ge1, h.ge2, h.ne, ?_⟩
  rcases hat with e | e
  · rw [e]; exact h.na
  · rw [e]; intro e2; injection e2 with e2; have := h.a.lt; omega
end
theorem one_c (p q : Nat) : ∀ u ∈ [Value.complex .f64 p q], u.oneCell' = true := by
  intro u hu
  simp at hu
  subst hu
  rfl
theorem reads_one (w : World) (t : TypeId) (v : Value) : Reads (w.alloc (.cells #[v] t)) (w.heap.size + 1) 1 (some ⟨w.heap.size, 0, none⟩) 1 [v] := by
  have hB := Blk.new w t #[v]
  refine ⟨rfl, fun _ => ⟨⟨w.heap.size, 0, none⟩, rfl, Nat.lt_succ_self _, fun j u hu => ?_⟩⟩
  have e : (⟨w.heap.size, 0, none⟩ : Addr).add j = ⟨w.heap.size, j, none⟩ := by unfold Addr.add; split <;> simp_all
  rw [e, hB.cell j]
  simpa using hu
def legL (X Y : Nat → Int) (k : Nat) : List Value := (List.range k).map fun i => plW (X (i + 1)) (Y (i + 1))
theorem legL_succ (X Y : Nat → Int) (k : Nat) : legL X Y (k + 1) = legL X Y k ++ [plW (X (k + 1)) (Y (k + 1))] := by simp [legL, List.range_succ]
theorem step_pos (w0 : World) (A O : Nat) (v : Value) (n : Nat) (xs : List Value) (X Y : Nat → Int) (m : Nat) (hm : m ≤ 4194304) (hn : n ≤ 4194304) (bx bz : Nat)
    (hs : ∀ k, k < m → double.add (fl (X k)) bx = some (fl (X (k + 1))) ∧ double.add (fl (Y k)) bz = some (fl (Y (k + 1)))) (w : World) (h : SSt w0 w A O (plW (X 0) (Y 0)) v n xs) :
    Calls Try.prog 18 #[.complex .f64 bx bz, .float .f64 (fl (m : Int)), .pointer (some ⟨A, 0, none⟩), .pointer (some ⟨O, 0, none⟩)] w fun e w' => (∃ u, e = .returned u) ∧ ∃ v', SSt w0 w' A O (plW (X m) (Y m)) v' (n + m) (xs ++ legL X Y m) := by
  have o1 : (FloatKind.f64.format.order (fl (m : Int)) 0 == some .lt) = false := by
    have h0 : fl 0 = 0 := by decide +kernel
    rw [fmt, ← h0, order_fl _ _ (by omega) (by decide)]
    cases hc : compare (m : Int) 0 with
    | lt =>
      exfalso
      have : compareOfLessAndEq (m : Int) 0 = .lt := hc
      unfold compareOfLessAndEq at this
      rw [if_neg (by omega)] at this
      split at this <;> cases this
    | eq => rfl
    | gt => rfl
  have hv : ∀ w, (convert 43 3 (.float .f64 (fl (m : Int)))).run Try.prog w = .ok (.int .i64 (m : Int)) w := fun w =>
    run_convert_float_int w _ _ _ _ _ _ (by rw [Try.underlying43]; rfl) Try.underlying3 (toInt_fl _ (by omega))
  have hst : ∀ W a p q mo, (store a (.complex .f64 p q) mo).run Try.prog W = stored Try.prog W a (.complex .f64 p q) mo := fun W a p q mo => run_store _ _ _ _ _ rfl
  obtain ⟨i0, hi0, hz0, hz1, hz2⟩ := info_parts infoZ
  have H := hide h
  have hmm := hm
  clear h
  generalize fl (m : Int) = fm at *
  go_enter Try.func18, Try.ntmps18
  go_wp2_with fail
  go_loopw [14] (fun i wr => ∃ (k : Nat) (v' : Value), k ≤ m ∧ i = .int .i64 k ∧ Hid (SSt w0 wr A O (plW (X k) (Y k)) v' (n + k) (xs ++ legL X Y k))) (fun i _ => m - (intOf i).toNat)
  case atStart => exact ⟨0, v, by omega, rfl, by simpa [legL] using H⟩
  case round =>
    clear H
    obtain ⟨k, v', hk, rfl, hS⟩ := hrel
    by_cases hlt : k < m
    · have hlt' : (k : Int) < (m : Int) := by omega
      obtain ⟨cA, fA, cO, fO⟩ := hS.out.cells
      have hadd : ∀ W, (binOp .add 22 (plW (X k) (Y k)) (.complex .f64 bx bz)).run Try.prog W = .ok (plW (X (k + 1)) (Y (k + 1))) W := fun W =>
        run_complex_sum W .add (Or.inl rfl) _ _ _ _ _ _ _ _ (by
          unfold cSumBits floatBits
          simp only [fmt]
          rw [(hs k hlt).1, (hs k hlt).2]
          rfl)
      unfold plW at cA hadd
      have hS2 := hide (hS.out.setA (plW (X (k + 1)) (Y (k + 1))))
      go_upto_region 5 with fail
      change Hid (SSt w0 (wr.setCell ⟨A, 0, none⟩ (.complex .f64 (fl (X (k + 1))) (fl (Y (k + 1))))) A O (.complex .f64 (fl (X (k + 1))) (fl (Y (k + 1)))) v' (n + k) (xs ++ legL X Y k)) at hS2
      generalize wr.setCell ⟨A, 0, none⟩ (.complex .f64 (fl (X (k + 1))) (fl (Y (k + 1)))) = w5 at *
      clear cA fA cO fO hadd
      obtain ⟨cA, fA, cO, fO⟩ := hS2.out.cells
      have hS3 := hide (hS2.out.alloc (.cells #[.complex .f64 (fl (X (k + 1))) (fl (Y (k + 1)))] 22))
      have HR := hide (reads_one w5 22 (.complex .f64 (fl (X (k + 1))) (fl (Y (k + 1)))))
      have hm1 : n + k + 1 ≤ maxLen := by unfold maxLen; omega
      have HO := hide (one_c (fl (X (k + 1))) (fl (Y (k + 1))))
      have HZ := hide hS3.out.bel.size
      have HY := hide (show (n + k + 1) * 16 ≤ 140737488355328 by omega)
      go_wp2_with (first
          | (at_builtin; refine wpList_append_any _ rfl (.tmp 19) (.tmp 21) 33 rfl w0.heap.size 22 i0 _ 1 16 Try.underlying33 hi0 hz0 hz1 hz2 rfl (by omega) v' (n + k) (xs ++ legL X Y k) rfl hS3.out.own (w5.heap.size + 1) (some ⟨w5.heap.size, 0, none⟩) 1 1 [.complex .f64 (fl (X (k + 1))) (fl (Y (k + 1)))] rfl HR.out HO.out hm1 HY.out HZ.out ?_; intro v6 w6 hown6 hg6 hat6; obtain ⟨g6, c6, rfl, _, _⟩ := hown6.form (by omega); have hc6 := hS3.out.keptO hg6; have HS6 := hide (hS3.out.appended hown6 hg6 hat6); obtain ⟨cO6, fO6⟩ := hc6; clear hown6 hg6 hat6))
      go_roundw
      case rel => exact ⟨k + 1, _, by omega, by go_num, by rw [legL_succ, ← List.append_assoc]; exact HS6⟩
      case measure => simp [intOf]; omega
    · obtain rfl : k = m := by omega
      go_wp2
      go_end0
      exact ⟨⟨_, rfl⟩, v', hS.out⟩
theorem neg_fl (n : Int) (h : n.natAbs < 2 ^ 53) (h0 : n ≠ 0) : Op.negFloat .f64 (fl n) = fl (-n) := by
  have e : flR (-n) = flR n := by unfold flR; rw [Int.natAbs_neg]
  rw [fl_flR n h, fl_flR (-n) (by rw [Int.natAbs_neg]; exact h), e]
  have hr := flR_lt n h
  generalize flR n = r at *
  show double.word (decide (n < 0)) r ^^^ 2 ^ 63 = _
  unfold Format.word
  rw [sgn]
  have key : (9223372036854775808 + r) ^^^ 2 ^ 63 = r := by
    show (2 ^ 63 + r) ^^^ 2 ^ 63 = r
    apply Nat.eq_of_testBit_eq
    intro i
    rw [Nat.testBit_xor, Nat.testBit_two_pow]
    rcases Nat.lt_trichotomy i 63 with h1 | h1 | h1
    · rw [Nat.testBit_two_pow_add_gt h1, show decide (63 = i) = false from decide_eq_false (by omega), Bool.xor_false]
    · subst h1
      rw [Nat.testBit_two_pow_add_eq, Nat.testBit_lt_two_pow (i := 63) (x := r) (by omega)]
      simp
    · rw [Nat.testBit_lt_two_pow (i := i) (x := 2 ^ 63 + r) (Nat.lt_of_lt_of_le (show 2 ^ 63 + r < 2 ^ 64 by omega) (Nat.pow_le_pow_right (by omega) h1)), Nat.testBit_lt_two_pow (i := i) (x := r) (Nat.lt_of_lt_of_le (show r < 2 ^ 64 by omega) (Nat.pow_le_pow_right (by omega) h1)), show decide (63 = i) = false from decide_eq_false (by omega), Bool.xor_false]
  by_cases c : n < 0
  · rw [if_pos (by simpa using c), if_neg (by simp; omega), key]
  · rw [if_neg (by simpa using c), if_pos (by simp; omega)]
    have h2 := congrArg (· ^^^ 2 ^ 63) key
    simp only [Nat.xor_assoc, Nat.xor_self, Nat.xor_zero] at h2
    exact h2.symm
theorem step_neg (w0 : World) (A O : Nat) (v : Value) (n : Nat) (xs : List Value) (X Y : Nat → Int) (m : Nat) (hm : m ≤ 4194304) (hn : n ≤ 4194304) (m0 : 0 < m) (bx0 bz0 bx bz : Nat) (hn1 : Op.unary .neg (.complex .f64 bx0 bz0) = pure (.complex .f64 bx bz))
    (hs : ∀ k, k < m → double.add (fl (X k)) bx = some (fl (X (k + 1))) ∧ double.add (fl (Y k)) bz = some (fl (Y (k + 1)))) (w : World) (h : SSt w0 w A O (plW (X 0) (Y 0)) v n xs) :
    Calls Try.prog 18 #[.complex .f64 bx0 bz0, .float .f64 (fl (-(m : Int))), .pointer (some ⟨A, 0, none⟩), .pointer (some ⟨O, 0, none⟩)] w fun e w' => (∃ u, e = .returned u) ∧ ∃ v', SSt w0 w' A O (plW (X m) (Y m)) v' (n + m) (xs ++ legL X Y m) := by
  have hn2 : Op.unary .neg (.float .f64 (fl (-(m : Int)))) = pure (.float .f64 (fl (m : Int))) := by
    have := neg_fl (-(m : Int)) (by omega) (by omega)
    rw [Int.neg_neg] at this
    rw [← this]
    rfl
  have o1 : (FloatKind.f64.format.order (fl (-(m : Int))) 0 == some .lt) = true := by
    have h0 : fl 0 = 0 := by decide +kernel
    rw [fmt, ← h0, order_fl _ _ (by omega) (by decide)]
    have : compare (-(m : Int)) 0 = .lt := by
      show compareOfLessAndEq _ _ = _
      unfold compareOfLessAndEq
      rw [if_pos (by omega)]
    rw [this]
    rfl
  have hv : ∀ w, (convert 43 3 (.float .f64 (fl (m : Int)))).run Try.prog w = .ok (.int .i64 (m : Int)) w := fun w =>
    run_convert_float_int w _ _ _ _ _ _ (by rw [Try.underlying43]; rfl) Try.underlying3 (toInt_fl _ (by omega))
  have hst : ∀ W a p q mo, (store a (.complex .f64 p q) mo).run Try.prog W = stored Try.prog W a (.complex .f64 p q) mo := fun W a p q mo => run_store _ _ _ _ _ rfl
  obtain ⟨i0, hi0, hz0, hz1, hz2⟩ := info_parts infoZ
  have H := hide h
  have hmm := hm
  clear h
  generalize fl (m : Int) = fm at *
  generalize fl (-(m : Int)) = fm0 at *
  go_enter Try.func18, Try.ntmps18
  go_wp2_with fail
  go_loopw [14] (fun i wr => ∃ (k : Nat) (v' : Value), k ≤ m ∧ i = .int .i64 k ∧ Hid (SSt w0 wr A O (plW (X k) (Y k)) v' (n + k) (xs ++ legL X Y k))) (fun i _ => m - (intOf i).toNat)
  case atStart => exact ⟨0, v, by omega, rfl, by simpa [legL] using H⟩
  case round =>
    clear H
    obtain ⟨k, v', hk, rfl, hS⟩ := hrel
    by_cases hlt : k < m
    · have hlt' : (k : Int) < (m : Int) := by omega
      obtain ⟨cA, fA, cO, fO⟩ := hS.out.cells
      have hadd : ∀ W, (binOp .add 22 (plW (X k) (Y k)) (.complex .f64 bx bz)).run Try.prog W = .ok (plW (X (k + 1)) (Y (k + 1))) W := fun W =>
        run_complex_sum W .add (Or.inl rfl) _ _ _ _ _ _ _ _ (by
          unfold cSumBits floatBits
          simp only [fmt]
          rw [(hs k hlt).1, (hs k hlt).2]
          rfl)
      unfold plW at cA hadd
      have hS2 := hide (hS.out.setA (plW (X (k + 1)) (Y (k + 1))))
      go_upto_region 5 with fail
      change Hid (SSt w0 (wr.setCell ⟨A, 0, none⟩ (.complex .f64 (fl (X (k + 1))) (fl (Y (k + 1))))) A O (.complex .f64 (fl (X (k + 1))) (fl (Y (k + 1)))) v' (n + k) (xs ++ legL X Y k)) at hS2
      generalize wr.setCell ⟨A, 0, none⟩ (.complex .f64 (fl (X (k + 1))) (fl (Y (k + 1)))) = w5 at *
      clear cA fA cO fO hadd
      obtain ⟨cA, fA, cO, fO⟩ := hS2.out.cells
      have hS3 := hide (hS2.out.alloc (.cells #[.complex .f64 (fl (X (k + 1))) (fl (Y (k + 1)))] 22))
      have HR := hide (reads_one w5 22 (.complex .f64 (fl (X (k + 1))) (fl (Y (k + 1)))))
      have hm1 : n + k + 1 ≤ maxLen := by unfold maxLen; omega
      have HO := hide (one_c (fl (X (k + 1))) (fl (Y (k + 1))))
      have HZ := hide hS3.out.bel.size
      have HY := hide (show (n + k + 1) * 16 ≤ 140737488355328 by omega)
      go_wp2_with (first
          | (at_builtin; refine wpList_append_any _ rfl (.tmp 19) (.tmp 21) 33 rfl w0.heap.size 22 i0 _ 1 16 Try.underlying33 hi0 hz0 hz1 hz2 rfl (by omega) v' (n + k) (xs ++ legL X Y k) rfl hS3.out.own (w5.heap.size + 1) (some ⟨w5.heap.size, 0, none⟩) 1 1 [.complex .f64 (fl (X (k + 1))) (fl (Y (k + 1)))] rfl HR.out HO.out hm1 HY.out HZ.out ?_; intro v6 w6 hown6 hg6 hat6; obtain ⟨g6, c6, rfl, _, _⟩ := hown6.form (by omega); have hc6 := hS3.out.keptO hg6; have HS6 := hide (hS3.out.appended hown6 hg6 hat6); obtain ⟨cO6, fO6⟩ := hc6; clear hown6 hg6 hat6))
      go_roundw
      case rel => exact ⟨k + 1, _, by omega, by go_num, by rw [legL_succ, ← List.append_assoc]; exact HS6⟩
      case measure => simp [intOf]; omega
    · obtain rfl : k = m := by omega
      go_wp2
      go_end0
      exact ⟨⟨_, rfl⟩, v', hS.out⟩
end Go.Proofs.Ytiedahchpkfmgaa.GStep
