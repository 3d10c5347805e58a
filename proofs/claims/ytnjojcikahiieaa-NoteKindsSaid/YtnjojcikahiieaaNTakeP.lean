/-
  What bytes tell of a note, in plain words; steps of the walk of Take.
-/
import Derived.Test.YtnjojcikahiieaaNPut
import Derived.Lib.SlBytesRow
import Derived.OrdersHeld
namespace Go.Proofs.Ytnjojcikahiieaa.NTakeP
open Go.RowKit Base Blks Words NRec NSmall NLaw NPlain NNum NVal NNumR NMayAll NPut
set_option linter.unusedVariables false

def haS (s : ByteArray) : Bool := decide (bt s 13 / 2 % 2 = 1)
def skS (s : ByteArray) : Bool := decide (bt s 13 % 2 = 1)
def wordS (s : ByteArray) (i : Nat) : Int := val (fun j => bt s (14 + 4 * i + j)) 4
def headS (s : ByteArray) : NT := ⟨bt s 0, bt s 1 - 1, bt s 2 - 1, val (fun j => bt s (3 + j)) 2, val (fun j => bt s (5 + j)) 8, bt s 13 / 4, haS s, skS s, fun _ => 0⟩
def takeS (s : ByteArray) : NT := { headS s with f := wordS s }
theorem byte_and : ∀ b : Fin 256, (bits .and .u8 ((b.val : Nat) : Int) 2 != 0) = decide (((b.val : Nat) : Int) / 2 % 2 = 1) ∧ (bits .and .u8 ((b.val : Nat) : Int) 1 != 0) = decide (((b.val : Nat) : Int) % 2 = 1) := by decide +kernel
theorem byte_and_int {b : Int} (h0 : 0 ≤ b) (h1 : b ≤ 255) : (bits .and .u8 b 2 != 0) = decide (b / 2 % 2 = 1) ∧ (bits .and .u8 b 1 != 0) = decide (b % 2 = 1) := by
  have := byte_and ⟨b.toNat, by omega⟩
  have e : ((b.toNat : Nat) : Int) = b := by omega
  dsimp only at this
  rw [e] at this
  exact this
/-- The bytes of s in block B. -/
def BytesAt (B : Nat) (s : ByteArray) (w : World) : Prop := ∀ j, j < 78 → w.cell? ⟨B, j, none⟩ = some (.int .u8 (bt s j))
theorem bytesAt_new (w : World) (s : ByteArray) (hs : s.size = 78) : BytesAt w.heap.size s (Lib.bytesWorld w 5 s) := fun j hj => by
  rw [Lib.bytesWorld_cell w 5 s j (by omega), bt_at s (by omega : j < s.size)]
  have : (s.data.toList.getD j 0) = s[j]'(by omega) := by
    rw [List.getD_eq_getElem?_getD, List.getElem?_eq_getElem (by rw [Array.length_toList]; show j < s.size; omega)]
    rfl
  rw [this]
theorem bytes_below {w0 w : World} {s : ByteArray} (h : Below w0.heap.size w0 w) : Below w0.heap.size w0 (Lib.bytesWorld w 5 s) := by
  have hz := Lib.bytesWorld_size w 5 s
  refine ⟨h.os, h.tape, h.output, by have := h.size; omega, fun k hk => ?_⟩
  rw [Lib.bytesWorld_at_old w 5 s k (Nat.lt_of_lt_of_le hk h.size)]
  exact h.block k hk
section
variable {ops : Array Oper} {o : Oper} {a : Act} {w : World} {K : Act → World → Prop} {Q : Exit → Act → World → Prop} {n m : NT}
theorem wp_alloc_note (ho : o.op = .alloc 29) (h : K (a.put o.dst (.pointer (some ⟨w.heap.size, 0, none⟩))) (w.alloc (.cells (ntL zeroN).toArray 29))) : o.wp Try.prog a w K Q := by
  have hr := (zero_of_info (P := Try.prog) infoN).1 w
  unfold Oper.wp execOp
  simp only [ho, Instr.alloc, newVar, newRow, Sem.run_bind, hr, Result.andThen_ok, Sem.run_pure, run_newObj_alloc, Value.cells]
  exact h
theorem wp_store_note (x y : Operand) (ho : o.op = .store 29 x y) (hx : a.eval x = .pointer (some ⟨w.heap.size, 0, none⟩)) (hy : a.eval y = .agg (ntL n).toArray)
    (h : K (a.put o.dst undef) (w.alloc (.cells (ntL n).toArray 29))) : o.wp Try.prog a (w.alloc (.cells (ntL m).toArray 29)) K Q := by
  have hi := (zero_of_info (P := Try.prog) infoN).2
  unfold Oper.wp execOp
  simp only [ho, hx, hy, Sem.run_bind, run_storeAt_new (P := Try.prog) w 29 (ntL m).toArray (ntL n).toArray (by rw [hi, ntL_size]) (by rw [ntL_size, ntL_size]) (by rw [← Array.all_toList]; exact ntL_all n), Result.andThen_ok, Sem.run_pure]
  exact h
end
theorem val_word (s : ByteArray) (o : Nat) (n : Nat) : 0 ≤ val (fun j => bt s (o + j)) n ∧ val (fun j => bt s (o + j)) n < (256 ^ n : Nat) := val_bd (n := n) (fun j _ => bt_bd s _) n (Nat.le_refl _)
theorem slice_at (B cap l h : Nat) (hl : l < h) (hh : h ≤ cap) (W : World) : (Instr.slice 42 (.slice (some ⟨B, 0, none⟩) 78 cap) (some (.int .i64 (l : Int))) (some (.int .i64 (h : Int))) none).run Try.prog W = .ok (.slice (some ⟨B, l, none⟩) (h - l) (cap - l)) W := by
  have hz : ∀ w, (Go.sizeOf 5).run Try.prog w = .ok 1 w := fun w => by
    cases hi : Try.prog.info? 5 with
    | none => have : (Try.prog.info? 5).isSome = true := by kernel_rfl
              rw [hi] at this; cases this
    | some i =>
      have h1 : (Try.prog.info? 5).map (·.size) = some 1 := by kernel_rfl
      rw [hi] at h1
      have : i.size = 1 := by simpa using h1
      simp [sizeOf, typeInfo, hi, this]
  have := Lib.run_slice_window (P := Try.prog) W 42 5 Try.underlying42 hz B 0 78 cap l h hl hh
  rw [Nat.zero_add] at this
  exact this
end Go.Proofs.Ytnjojcikahiieaa.NTakeP
