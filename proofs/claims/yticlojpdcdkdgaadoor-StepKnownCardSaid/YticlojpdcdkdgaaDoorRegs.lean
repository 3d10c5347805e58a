/-
  Put and Get of the layer 'step' walked, the program's and the reference's; less, and the functions of two words.
-/
import Derived.Test.YticlojpdcdkdgaaDoorProg
import Derived.Test.YticlojpdcdkdgaaDoorBase
import Derived.Test.YticlojpdcdkdgaaDoorBlks
import Derived.Test.YticlojpdcdkdgaaDoorArr
namespace Go.Proofs.YticlojpdcdkdgaaDoor.Regs
open Go.RowKit Base Blks
set_option linter.unusedVariables false

def isReg (n : Int) : Bool := decide (1 ≤ n ∧ n ≤ 15)
def putF (f : Nat → Int) (n x : Int) : Nat → Int := if isReg n = true then fun j => if j = n.toNat then x else f j else f
def getF (f : Nat → Int) (n : Int) : Int := if isReg n = true then f n.toNat else 0
theorem isReg_iff {n : Int} : isReg n = true ↔ 1 ≤ n ∧ n ≤ 15 := by simp [isReg]
theorem infoR : (Tryd.prog.info? 23).map (fun i => (i.zero, i.size)) = some (some (.agg (blk (fun _ => 0)).toArray), 16) := by kernel_rfl

theorem blk_set (f : Nat → Int) {i : Nat} (hi : i < 16) (x : Int) : (blk f).set i (.int .u32 x) = blk (fun j => if j = i then x else f j) := by
  apply List.ext_getElem?
  intro j
  by_cases hj : j < 16
  · by_cases e : j = i
    · subst e
      rw [List.getElem?_set_self (by rw [blk_len]; exact hi), blk_get _ hj]
      simp
    · rw [List.getElem?_set_ne (fun h => e h.symm), blk_get _ hj, blk_get _ hj]
      simp [e]
  · rw [List.getElem?_eq_none (by simp [blk_len]; omega), List.getElem?_eq_none (by simp [blk_len]; omega)]
theorem put_any (f : Nat → Int) (n x : Int) (w : World) :
    Calls Tryd.prog 8 #[.agg (blk f).toArray, .int .i64 n, .int .u32 x] w fun e w' => e = .returned (.agg (blk (putF f n x)).toArray) ∧ Below w.heap.size w w' := by
  have hu := Tryd.underlying23
  have HI := hide (zero_of_info (P := Tryd.prog) infoR).2
  have B0 := hide ((blk_new w 23 f).alloc (.cells (blk (fun _ => 0)).toArray 23))
  have B1 : Hid (BlkAt ((w.alloc (.cells (blk f).toArray 23)).alloc (.cells (blk (fun _ => 0)).toArray 23)) (w.heap.size + 1) 23 (fun _ => 0)) := by
    have h := blk_new (w.alloc (.cells (blk f).toArray 23)) 23 (fun _ => 0)
    rw [World.size_alloc] at h
    exact h
  have W0 := hide (((Below.refl w.heap.size w).alloc (Nat.le_refl _) (.cells (blk f).toArray 23)).alloc (by simp) (.cells (blk (fun _ => 0)).toArray 23))
  by_cases h0 : 0 < n
  · by_cases h1 : n < 16
    · have hr : isReg n = true := isReg_iff.2 ⟨by omega, by omega⟩
      have hb : blk (putF f n x) = blk (fun j => if j = n.toNat then x else f j) := blk_congr fun j _ => by simp [putF, hr]
      rw [hb]
      have hlt : n.toNat < 16 := by omega
      obtain ⟨g, hg⟩ : ∃ g : Nat → Int, (fun j => if j = n.toNat then x else f j) = g := ⟨_, rfl⟩
      have hset : (blk f).set n.toNat (.int .u32 x) = blk g := hg ▸ blk_set f hlt x
      rw [hg]
      have c1 := B0.out.cell hlt
      have R0 := hide ((blk_new w 23 g).alloc (.cells (blk (fun _ => 0)).toArray 23))
      have R1 : Hid (BlkAt ((w.alloc (.cells (blk g).toArray 23)).alloc (.cells (blk (fun _ => 0)).toArray 23)) (w.heap.size + 1) 23 (fun _ => 0)) := by
        have h := blk_new (w.alloc (.cells (blk g).toArray 23)) 23 (fun _ => 0)
        rw [World.size_alloc] at h
        exact h
      have W1 := hide (((Below.refl w.heap.size w).alloc (Nat.le_refl _) (.cells (blk g).toArray 23)).alloc (by simp) (.cells (blk (fun _ => 0)).toArray 23))
      have hn0 : 0 ≤ n := by omega
      clear hr hb hg
      go_enter Tryd.func8, Tryd.ntmps8
      go_wp2_with (first
        | ((with_reducible refine Arr.wpList_alloc_zero rfl 23 (by rfl) _ _ infoR (w.heap.size + 1) ?_ ?_); (· simp))
        | ((refine load_blk rfl 23 (.tmp 3) rfl w.heap.size rfl R0.out hu HI.out ?_))
        | ((with_reducible refine store_blk rfl 23 (.tmp 6) (.tmp 16) rfl (w.heap.size + 1) rfl g rfl R1.out HI.out ?_)))
      exact bodyPost_ret (v := .agg (blk g).toArray) (ret_blk (b := w.heap.size + 1) Tryd.results8 rfl (row_setCells R1.out _) hu HI.out) rfl ⟨rfl, below_setCells _ _ _ W1.out (by omega)⟩
    · have hb : putF f n x = f := by simp [putF, isReg]; intros; omega
      rw [hb]
      clear hb
      go_enter Tryd.func8, Tryd.ntmps8
      go_wp2_with (first
        | ((with_reducible refine Arr.wpList_alloc_zero rfl 23 (by rfl) _ _ infoR (w.heap.size + 1) ?_ ?_); (· simp))
        | ((refine load_blk rfl 23 (.tmp 3) rfl w.heap.size rfl B0.out hu HI.out ?_))
        | ((with_reducible refine store_blk rfl 23 (.tmp 6) (.tmp 16) rfl (w.heap.size + 1) rfl f rfl B1.out HI.out ?_)))
      exact bodyPost_ret (v := .agg (blk f).toArray) (ret_blk (b := w.heap.size + 1) Tryd.results8 rfl (row_setCells B1.out _) hu HI.out) rfl ⟨rfl, below_setCells _ _ _ W0.out (by omega)⟩
  · have hb : putF f n x = f := by simp [putF, isReg]; intros; omega
    have hd : decide (0 < n) = false := by simpa using h0
    rw [hb]
    clear hb
    go_enter Tryd.func8, Tryd.ntmps8
    go_wp2_with (first
      | ((with_reducible refine Arr.wpList_alloc_zero rfl 23 (by rfl) _ _ infoR (w.heap.size + 1) ?_ ?_); (· simp))
      | ((refine load_blk rfl 23 (.tmp 3) rfl w.heap.size rfl B0.out hu HI.out ?_))
      | ((with_reducible refine store_blk rfl 23 (.tmp 6) (.tmp 16) rfl (w.heap.size + 1) rfl f rfl B1.out HI.out ?_)))
    exact bodyPost_ret (v := .agg (blk f).toArray) (ret_blk (b := w.heap.size + 1) Tryd.results8 rfl (row_setCells B1.out _) hu HI.out) rfl ⟨rfl, below_setCells _ _ _ W0.out (by omega)⟩
theorem putR_any (f : Nat → Int) (n x : Int) (w : World) :
    Calls Tryd.prog 9 #[.agg (blk f).toArray, .int .i64 n, .int .u32 x] w fun e w' => e = .returned (.agg (blk (putF f n x)).toArray) ∧ Below w.heap.size w w' := by
  have hu := Tryd.underlying23
  have HI := hide (zero_of_info (P := Tryd.prog) infoR).2
  have B0 := hide ((blk_new w 23 f).alloc (.cells (blk (fun _ => 0)).toArray 23))
  have B1 : Hid (BlkAt ((w.alloc (.cells (blk f).toArray 23)).alloc (.cells (blk (fun _ => 0)).toArray 23)) (w.heap.size + 1) 23 (fun _ => 0)) := by
    have h := blk_new (w.alloc (.cells (blk f).toArray 23)) 23 (fun _ => 0)
    rw [World.size_alloc] at h
    exact h
  have W0 := hide (((Below.refl w.heap.size w).alloc (Nat.le_refl _) (.cells (blk f).toArray 23)).alloc (by simp) (.cells (blk (fun _ => 0)).toArray 23))
  by_cases h0 : 1 ≤ n
  · by_cases h1 : n ≤ 15
    · have hr : isReg n = true := isReg_iff.2 ⟨by omega, by omega⟩
      have hb : blk (putF f n x) = blk (fun j => if j = n.toNat then x else f j) := blk_congr fun j _ => by simp [putF, hr]
      rw [hb]
      have hlt : n.toNat < 16 := by omega
      obtain ⟨g, hg⟩ : ∃ g : Nat → Int, (fun j => if j = n.toNat then x else f j) = g := ⟨_, rfl⟩
      have hset : (blk f).set n.toNat (.int .u32 x) = blk g := hg ▸ blk_set f hlt x
      rw [hg]
      have c1 := B0.out.cell hlt
      have R0 := hide ((blk_new w 23 g).alloc (.cells (blk (fun _ => 0)).toArray 23))
      have R1 : Hid (BlkAt ((w.alloc (.cells (blk g).toArray 23)).alloc (.cells (blk (fun _ => 0)).toArray 23)) (w.heap.size + 1) 23 (fun _ => 0)) := by
        have h := blk_new (w.alloc (.cells (blk g).toArray 23)) 23 (fun _ => 0)
        rw [World.size_alloc] at h
        exact h
      have W1 := hide (((Below.refl w.heap.size w).alloc (Nat.le_refl _) (.cells (blk g).toArray 23)).alloc (by simp) (.cells (blk (fun _ => 0)).toArray 23))
      have hn0 : 0 ≤ n := by omega
      clear hr hb hg
      go_enter Tryd.func9, Tryd.ntmps9
      go_wp2_with (first
        | ((with_reducible refine Arr.wpList_alloc_zero rfl 23 (by rfl) _ _ infoR (w.heap.size + 1) ?_ ?_); (· simp))
        | ((refine load_blk rfl 23 (.tmp 3) rfl w.heap.size rfl R0.out hu HI.out ?_))
        | ((with_reducible refine store_blk rfl 23 (.tmp 6) (.tmp 16) rfl (w.heap.size + 1) rfl g rfl R1.out HI.out ?_)))
      exact bodyPost_ret (v := .agg (blk g).toArray) (ret_blk (b := w.heap.size + 1) Tryd.results9 rfl (row_setCells R1.out _) hu HI.out) rfl ⟨rfl, below_setCells _ _ _ W1.out (by omega)⟩
    · have hb : putF f n x = f := by simp [putF, isReg]; intros; omega
      rw [hb]
      clear hb
      go_enter Tryd.func9, Tryd.ntmps9
      go_wp2_with (first
        | ((with_reducible refine Arr.wpList_alloc_zero rfl 23 (by rfl) _ _ infoR (w.heap.size + 1) ?_ ?_); (· simp))
        | ((refine load_blk rfl 23 (.tmp 3) rfl w.heap.size rfl B0.out hu HI.out ?_))
        | ((with_reducible refine store_blk rfl 23 (.tmp 6) (.tmp 16) rfl (w.heap.size + 1) rfl f rfl B1.out HI.out ?_)))
      exact bodyPost_ret (v := .agg (blk f).toArray) (ret_blk (b := w.heap.size + 1) Tryd.results9 rfl (row_setCells B1.out _) hu HI.out) rfl ⟨rfl, below_setCells _ _ _ W0.out (by omega)⟩
  · have hb : putF f n x = f := by simp [putF, isReg]; intros; omega
    have hd : decide (1 ≤ n) = false := by simpa using h0
    rw [hb]
    clear hb
    go_enter Tryd.func9, Tryd.ntmps9
    go_wp2_with (first
      | ((with_reducible refine Arr.wpList_alloc_zero rfl 23 (by rfl) _ _ infoR (w.heap.size + 1) ?_ ?_); (· simp))
      | ((refine load_blk rfl 23 (.tmp 3) rfl w.heap.size rfl B0.out hu HI.out ?_))
      | ((with_reducible refine store_blk rfl 23 (.tmp 6) (.tmp 16) rfl (w.heap.size + 1) rfl f rfl B1.out HI.out ?_)))
    exact bodyPost_ret (v := .agg (blk f).toArray) (ret_blk (b := w.heap.size + 1) Tryd.results9 rfl (row_setCells B1.out _) hu HI.out) rfl ⟨rfl, below_setCells _ _ _ W0.out (by omega)⟩
theorem get_any (f : Nat → Int) (n : Int) (w : World) :
    Calls Tryd.prog 10 #[.agg (blk f).toArray, .int .i64 n] w fun e w' => e = .returned (.int .u32 (getF f n)) ∧ Below w.heap.size w w' := by
  have B0 := hide (blk_new w 23 f)
  by_cases h0 : n ≤ 0
  · have hb : getF f n = 0 := by simp [getF, isReg]; intros; omega
    rw [hb]
    clear hb
    go_enter Tryd.func10, Tryd.ntmps10
    go_wp2
    go_ret
    exact ⟨rfl, (Below.refl _ _).alloc (Nat.le_refl _) _⟩
  · have hd : decide (n ≤ 0) = false := by simpa using h0
    by_cases h1 : n < 16
    · have hr : isReg n = true := isReg_iff.2 ⟨by omega, by omega⟩
      have hb : getF f n = f n.toNat := by simp [getF, hr]
      rw [hb]
      have c1 := B0.out.cell (show n.toNat < 16 by omega)
      have hn0 : 0 ≤ n := by omega
      have hd2 : decide (16 ≤ n) = false := by simpa using h1
      clear hr hb
      go_enter Tryd.func10, Tryd.ntmps10
      go_wp2
      go_ret
      exact ⟨rfl, (Below.refl _ _).alloc (Nat.le_refl _) _⟩
    · have hb : getF f n = 0 := by simp [getF, isReg]; intros; omega
      have h2 : 16 ≤ n := by omega
      rw [hb]
      clear hb
      go_enter Tryd.func10, Tryd.ntmps10
      go_wp2
      go_ret
      exact ⟨rfl, (Below.refl _ _).alloc (Nat.le_refl _) _⟩
theorem getR_any (f : Nat → Int) (n : Int) (w : World) :
    Calls Tryd.prog 11 #[.agg (blk f).toArray, .int .i64 n] w fun e w' => e = .returned (.int .u32 (getF f n)) ∧ Below w.heap.size w w' := by
  have B0 := hide (blk_new w 23 f)
  by_cases h0 : 1 ≤ n
  · by_cases h1 : n ≤ 15
    · have hr : isReg n = true := isReg_iff.2 ⟨by omega, by omega⟩
      have hb : getF f n = f n.toNat := by simp [getF, hr]
      rw [hb]
      have c1 := B0.out.cell (show n.toNat < 16 by omega)
      have hn0 : 0 ≤ n := by omega
      have hn1 : n < 16 := by omega
      clear hr hb
      go_enter Tryd.func11, Tryd.ntmps11
      go_wp2
      go_ret
      exact ⟨rfl, (Below.refl _ _).alloc (Nat.le_refl _) _⟩
    · have hb : getF f n = 0 := by simp [getF, isReg]; intros; omega
      rw [hb]
      clear hb
      go_enter Tryd.func11, Tryd.ntmps11
      go_wp2
      go_ret
      exact ⟨rfl, (Below.refl _ _).alloc (Nat.le_refl _) _⟩
  · have hb : getF f n = 0 := by simp [getF, isReg]; intros; omega
    have hd : decide (1 ≤ n) = false := by simpa using h0
    rw [hb]
    clear hb
    go_enter Tryd.func11, Tryd.ntmps11
    go_wp2
    go_ret
    exact ⟨rfl, (Below.refl _ _).alloc (Nat.le_refl _) _⟩
theorem wordR (n : Int) (w : World) : Calls Tryd.prog 20 #[.int .i64 n] w fun e w' => e = .returned (.int .u32 (n % 4294967296)) ∧ w = w' := by
  go_enter Tryd.func20, Tryd.ntmps20
  go_wp2
  go_ret
  exact ⟨rfl, rfl⟩
theorem add_any (x y : Int) (w : World) : Calls Tryd.prog 22 #[.int .u32 x, .int .u32 y] w fun e w' => e = .returned (.int .u32 ((x + y) % 4294967296)) ∧ w = w' := by
  go_enter Tryd.func22, Tryd.ntmps22
  go_wp2
  go_ret
  exact ⟨rfl, rfl⟩
theorem sub_any (x y : Int) (w : World) : Calls Tryd.prog 23 #[.int .u32 x, .int .u32 y] w fun e w' => e = .returned (.int .u32 ((x - y) % 4294967296)) ∧ w = w' := by
  go_enter Tryd.func23, Tryd.ntmps23
  go_wp2
  go_ret
  exact ⟨rfl, rfl⟩
theorem and_any (x y : Int) (w : World) : Calls Tryd.prog 24 #[.int .u32 x, .int .u32 y] w fun e w' => e = .returned (.int .u32 (bits .and .u32 x y)) ∧ w = w' := by
  go_enter Tryd.func24, Tryd.ntmps24
  go_wp2
  go_ret
  exact ⟨rfl, rfl⟩
theorem or_any (x y : Int) (w : World) : Calls Tryd.prog 25 #[.int .u32 x, .int .u32 y] w fun e w' => e = .returned (.int .u32 (bits .or .u32 x y)) ∧ w = w' := by
  go_enter Tryd.func25, Tryd.ntmps25
  go_wp2
  go_ret
  exact ⟨rfl, rfl⟩
theorem xor_any (x y : Int) (w : World) : Calls Tryd.prog 26 #[.int .u32 x, .int .u32 y] w fun e w' => e = .returned (.int .u32 (bits .xor .u32 x y)) ∧ w = w' := by
  go_enter Tryd.func26, Tryd.ntmps26
  go_wp2
  go_ret
  exact ⟨rfl, rfl⟩
def lessV (x y : Int) : Int := if x < y then 1 else 0
theorem less_any (x y : Int) (w : World) : Calls Tryd.prog 27 #[.int .u32 x, .int .u32 y] w fun e w' => e = .returned (.int .u32 (lessV x y)) ∧ w = w' := by
  by_cases h : x < y
  · rw [show lessV x y = 1 from if_pos h]
    go_enter Tryd.func27, Tryd.ntmps27
    go_wp2
    go_ret
    exact ⟨rfl, rfl⟩
  · rw [show lessV x y = 0 from if_neg h]
    have hd : decide (x < y) = false := by simpa using h
    go_enter Tryd.func27, Tryd.ntmps27
    go_wp2
    go_ret
    exact ⟨rfl, rfl⟩
theorem mul_any (x y : Int) (w : World) : Calls Tryd.prog 28 #[.int .u32 x, .int .u32 y] w fun e w' => e = .returned (.int .u32 (x * y % 4294967296)) ∧ w = w' := by
  go_enter Tryd.func28, Tryd.ntmps28
  go_wp2
  go_ret
  exact ⟨rfl, rfl⟩
end Go.Proofs.YticlojpdcdkdgaaDoor.Regs
