/-
  The small functions of the layer 'note' walked: kind, core, uses, Net; of the document: toHome, stamped, Net.
-/
import Derived.Test.YtnjojcikahiieaaNRec
import Derived.Great.Walk
namespace Go.Proofs.Ytnjojcikahiieaa.NSmall
open Go.RowKit Base Blks NRec
set_option linter.unusedVariables false
set_option linter.unusedSimpArgs false

def kindB (K : Int) : Bool := decide (1 ≤ K ∧ K ≤ 11)
def coreB (c : Int) : Bool := decide (0 ≤ c ∧ c < 16)
def homeB (K : Int) : Bool := decide (K = 1 ∨ K = 2 ∨ K = 3 ∨ K = 9 ∨ K = 10 ∨ K = 11)
def stampB (K : Int) : Bool := decide (K = 1 ∨ K = 2 ∨ K = 4 ∨ K = 5 ∨ K = 7 ∨ K = 10)
def usesN (K : Int) : Int := if K = 1 ∨ K = 2 ∨ K = 10 then 3 else if K = 3 then 41 else if K = 4 ∨ K = 5 ∨ K = 7 then 2 else if K = 6 then 12 else if K = 9 then 17 else if K = 11 then 1 else 0
def netN (K : Int) : Int := if K < 1 ∨ 11 < K then -1 else if K ≤ 3 then 0 else if K ≤ 5 then 1 else 2
theorem ret_b {a b : Bool} (h : a = b) : Ending.returned (.bool a) = .returned (.bool b) := by rw [h]
theorem upto11 {p : Int → Prop} (h : ∀ k : Fin 11, p ((k.val : Int) + 1)) {m : Int} (h0 : 1 ≤ m) (h1 : m ≤ 11) : p m := by
  have := h ⟨(m - 1).toNat, by omega⟩
  have e : (((m - 1).toNat : Nat) : Int) + 1 = m := by omega
  dsimp only at this
  rw [e] at this
  exact this
theorem cases11 {m : Int} (h0 : 1 ≤ m) (h1 : m ≤ 11) : m = 1 ∨ m = 2 ∨ m = 3 ∨ m = 4 ∨ m = 5 ∨ m = 6 ∨ m = 7 ∨ m = 8 ∨ m = 9 ∨ m = 10 ∨ m = 11 := by omega
section
variable (K c : Int) (w : World)
theorem kind_any (h0 : 0 ≤ K) (h1 : K ≤ 255) : Calls Try.prog 23 #[.int .u8 K] w fun e w' => e = .returned (.bool (kindB K)) ∧ w = w' := by
  by_cases a : 1 ≤ K
  · by_cases b : K ≤ 11
    · have e : kindB K = true := by simp [kindB, a, b]
      rw [e]
      go_enter Try.func23, Try.ntmps23
      go_wp2
      go_ret
      exact ⟨rfl, rfl⟩
    · have e : kindB K = false := by simp [kindB, b]
      rw [e]
      go_enter Try.func23, Try.ntmps23
      go_wp2
      go_ret
      exact ⟨rfl, rfl⟩
  · have e : kindB K = false := by simp [kindB, a]
    rw [e]
    go_enter Try.func23, Try.ntmps23
    go_wp2
    go_ret
    exact ⟨rfl, rfl⟩
theorem core_any : Calls Try.prog 28 #[.int .i64 c] w fun e w' => e = .returned (.bool (coreB c)) ∧ w = w' := by
  by_cases a : 0 ≤ c
  · by_cases b : c < 16
    · have e : coreB c = true := by simp [coreB, a, b]
      rw [e]
      go_enter Try.func28, Try.ntmps28
      go_wp2
      go_ret
      exact ⟨rfl, rfl⟩
    · have e : coreB c = false := by simp [coreB, b]
      rw [e]
      go_enter Try.func28, Try.ntmps28
      go_wp2
      go_ret
      exact ⟨rfl, rfl⟩
  · have e : coreB c = false := by simp [coreB, a]
    rw [e]
    go_enter Try.func28, Try.ntmps28
    go_wp2
    go_ret
    exact ⟨rfl, rfl⟩
def tabU : Array Value := #[.int .i64 0, .int .i64 3, .int .i64 3, .int .i64 41, .int .i64 2, .int .i64 2, .int .i64 12, .int .i64 2, .int .i64 0, .int .i64 17, .int .i64 3, .int .i64 1]
theorem infoU : (Try.prog.info? 49).map (fun i => (i.zero, i.size)) = some (some (.agg #[.int .i64 0, .int .i64 0, .int .i64 0, .int .i64 0, .int .i64 0, .int .i64 0, .int .i64 0, .int .i64 0, .int .i64 0, .int .i64 0, .int .i64 0, .int .i64 0]), 12) := by kernel_rfl
theorem tabU_at : ∀ k : Fin 11, tabU[((k.val : Int) + 1).toNat]? = some (.int .i64 (usesN ((k.val : Int) + 1))) := fun k => by
  match k with
  | ⟨0, _⟩ | ⟨1, _⟩ | ⟨2, _⟩ | ⟨3, _⟩ | ⟨4, _⟩ | ⟨5, _⟩ | ⟨6, _⟩ | ⟨7, _⟩ | ⟨8, _⟩ | ⟨9, _⟩ | ⟨10, _⟩ => rfl
  | ⟨n + 11, h⟩ => omega
theorem uses_any (h0 : 1 ≤ K) (h1 : K ≤ 11) : Calls Try.prog 27 #[.int .u8 K] w fun e w' => e = .returned (.int .i64 (usesN K)) ∧ Below w.heap.size w w' := by
  have hB := Blk.new w 49 tabU
  have hc := hB.cell K.toNat
  rw [show tabU[K.toNat]? = some (.int .i64 (usesN K)) from upto11 (p := fun m => tabU[m.toNat]? = some (.int .i64 (usesN m))) tabU_at h0 h1] at hc
  have HB := hide ((Below.refl w.heap.size w).alloc (Nat.le_refl _) (.cells tabU 49))
  have HI := hide (zero_of_info (P := Try.prog) infoU).2
  have ht : tabU = #[.int .i64 0, .int .i64 3, .int .i64 3, .int .i64 41, .int .i64 2, .int .i64 2, .int .i64 12, .int .i64 2, .int .i64 0, .int .i64 17, .int .i64 3, .int .i64 1] := rfl
  rw [ht] at hc HB
  generalize usesN K = u at *
  clear ht hB
  go_enter Try.func27, Try.ntmps27
  go_wp2_with (first
    | ((with_reducible refine Arr.wpList_alloc_zero rfl 49 (by rfl) _ _ infoU w.heap.size (by simp) ?_))
    | ((with_reducible refine Arr.wpList_store_last rfl 49 _ _ rfl _ _ w.heap.size (by simp) rfl rfl HI.out rfl rfl rfl ?_)))
  go_ret
  exact ⟨rfl, HB.out⟩
theorem home_any (h0 : 1 ≤ K) (h1 : K ≤ 11) : Calls Try.prog 25 #[.int .u8 K] w fun e w' => e = .returned (.bool (homeB K)) ∧ w = w' := by
  rcases cases11 h0 h1 with rfl | rfl | rfl | rfl | rfl | rfl | rfl | rfl | rfl | rfl | rfl
  all_goals
    go_enter Try.func25, Try.ntmps25
    go_wp2
    go_ret
    exact ⟨ret_b (by decide), rfl⟩
theorem stamp_any (h0 : 1 ≤ K) (h1 : K ≤ 11) : Calls Try.prog 26 #[.int .u8 K] w fun e w' => e = .returned (.bool (stampB K)) ∧ w = w' := by
  rcases cases11 h0 h1 with rfl | rfl | rfl | rfl | rfl | rfl | rfl | rfl | rfl | rfl | rfl
  all_goals
    go_enter Try.func26, Try.ntmps26
    go_wp2
    go_ret
    exact ⟨ret_b (by decide), rfl⟩
theorem ret_i {a b : Int} (h : a = b) : Ending.returned (.int .i64 a) = .returned (.int .i64 b) := by rw [h]
theorem net_any (h0 : 0 ≤ K) (h1 : K ≤ 255) : Calls Try.prog 15 #[.int .u8 K] w fun e w' => e = .returned (.int .i64 (netN K)) ∧ w = w' := by
  have A := hide (kind_any K w h0 h1)
  by_cases a : 1 ≤ K ∧ K ≤ 11
  · have e : kindB K = true := by simpa [kindB] using a
    rw [e] at A
    rcases cases11 a.1 a.2 with rfl | rfl | rfl | rfl | rfl | rfl | rfl | rfl | rfl | rfl | rfl
    all_goals
      clear e a h0 h1
      go_enter Try.func15, Try.ntmps15
      go_wp2_with fail
      refine A.out.mono ?_
      rintro e wx ⟨rfl, rfl⟩
      go_wp2
      go_ret
      exact ⟨ret_i (by decide), rfl⟩
  · have e : kindB K = false := by simpa [kindB] using a
    rw [e] at A
    have en : netN K = -1 := by
      unfold netN
      rw [if_pos (by omega)]
    rw [en]
    clear e a en
    go_enter Try.func15, Try.ntmps15
    go_wp2_with fail
    refine A.out.mono ?_
    rintro e wx ⟨rfl, rfl⟩
    go_wp2
    go_ret
    exact ⟨rfl, rfl⟩
theorem netR_index (h0 : 1 ≤ K) (h1 : K ≤ 11) (w : World) : (Instr.index 49 (.agg #[.int .i64 0, .int .i64 0, .int .i64 0, .int .i64 0, .int .i64 1, .int .i64 1, .int .i64 2, .int .i64 2, .int .i64 2, .int .i64 2, .int .i64 2, .int .i64 2]) (.int .u8 K)).run Try.prog w = .ok (.int .i64 (netN K)) w := by
  rcases cases11 h0 h1 with rfl | rfl | rfl | rfl | rfl | rfl | rfl | rfl | rfl | rfl | rfl
  all_goals kernel_rfl
theorem netR_any (h0 : 0 ≤ K) (h1 : K ≤ 255) : Calls Try.prog 18 #[.int .u8 K] w fun e w' => e = .returned (.int .i64 (netN K)) ∧ w = w' := by
  by_cases a : 1 ≤ K ∧ K ≤ 11
  · have hix := netR_index K a.1 a.2
    obtain ⟨a0, a1⟩ := a
    generalize netN K = v at *
    go_enter Try.func18, Try.ntmps18
    go_wp2_with (first
      | ((with_reducible refine Great.wpList_readTo rfl (some 9) rfl (.agg #[.int .i64 0, .int .i64 0, .int .i64 0, .int .i64 0, .int .i64 1, .int .i64 1, .int .i64 2, .int .i64 2, .int .i64 2, .int .i64 2, .int .i64 2, .int .i64 2]) ?_ ?_); (· as_aux_lemma => kernel_rfl)))
    go_ret
    exact ⟨rfl, rfl⟩
  · have en : netN K = -1 := by
      unfold netN
      rw [if_pos (by omega)]
    rw [en]
    by_cases b : K < 1
    · clear a en
      go_enter Try.func18, Try.ntmps18
      go_wp2
      go_ret
      exact ⟨rfl, rfl⟩
    · have b2 : 11 < K := by omega
      clear a en
      go_enter Try.func18, Try.ntmps18
      go_wp2
      go_ret
      exact ⟨rfl, rfl⟩
end
end Go.Proofs.Ytnjojcikahiieaa.NSmall
