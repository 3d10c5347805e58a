/-
  Arrays by value, whatever their cells: a new one laid, one stored into the block that was laid last, one loaded, two compared. Each law is one step of the walk: the cells may be a variable.
-/
import Derived.Test.YtnjojcikahiieaaBase
import Derived.Deep.WholeRow
import Derived.ChangeKeysEq
import Derived.Great.Walk
namespace Go.Proofs.Ytnjojcikahiieaa.Arr
open Go.RowKit

section
variable {P : Program} {ops : Array Oper} {rest : List Oper} {o : Oper} {a : Act} {w : World} {Q : Exit → Act → World → Prop}

/-- 'var x T', T an array or a struct: its zero cells in a new block. -/
theorem wpList_alloc_zero (hg : o.guard = none) (T : TypeId) (ho : o.op = .alloc T) (Z : Array Value) (n : Nat) (hz : (P.info? T).map (fun i => (i.zero, i.size)) = some (some (.agg Z), n))
    (N : Nat) (hN : w.heap.size = N) (h : wpList P ops Q rest (a.put o.dst (.pointer (some ⟨N, 0, none⟩))) (w.alloc (.cells Z T))) : wpList P ops Q (o :: rest) a w := by
  subst hN
  refine wpList_plain hg fun K hK => ?_
  have hr := (zero_of_info (P := P) hz).1 w
  unfold Oper.wp execOp
  simp only [ho, Instr.alloc, newVar, newRow, Sem.run_bind, hr, Result.andThen_ok, Sem.run_pure, run_newObj_alloc, Value.cells]
  exact hK _ _ h

/-- A whole array into the block that was laid last. -/
theorem wpList_store_last {w0 : World} (hg : o.guard = none) (T : TypeId) (x y : Operand) (ho : o.op = .store T x y) (c c' : Array Value) (N : Nat) (hN : w0.heap.size = N)
    (hx : a.eval x = .pointer (some ⟨N, 0, none⟩)) (hy : a.eval y = .agg c') {n : Nat} (hi : (P.info? T).map (·.size) = some n) (hn : c'.size = n) (hc : c.size = n) (h1 : c'.toList.all (·.oneCell') = true)
    (h : wpList P ops Q rest (a.put o.dst undef) (w0.alloc (.cells c' T))) : wpList P ops Q (o :: rest) a (w0.alloc (.cells c T)) := by
  subst hN
  refine wpList_plain hg fun K hK => ?_
  unfold Oper.wp execOp
  simp only [ho, hx, hy, Sem.run_bind, run_storeAt_new (P := P) w0 T c c' (by rw [hi, hn]) (by rw [hc, hn]) (by rw [← Array.all_toList]; exact h1), Result.andThen_ok, Sem.run_pure]
  exact hK _ _ h
end
end Go.Proofs.Ytnjojcikahiieaa.Arr
