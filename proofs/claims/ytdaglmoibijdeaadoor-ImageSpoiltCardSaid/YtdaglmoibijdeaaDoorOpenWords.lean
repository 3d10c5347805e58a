/-
  A slice of words among the arguments, opened.
-/
import Derived.Test.YtdaglmoibijdeaaDoorIEq
import Derived.OpenShut
import Derived.ChangeSlices
namespace Go.Proofs.YtdaglmoibijdeaaDoor.OpenWords
open Go Go.ChangeShapes Go.WideShapes Go.RowKit Base Words ITake ITakeT IEq
set_option linter.unusedVariables false

theorem open_words {H : Type} {enc : TypeId × Value → H} {P : Program} {w : World} {base : Nat} {held : Bool} {r : Reach} {b0 : Nat} {t e : TypeId} {v : Value} {d : DataW H} {ps : List MemPlace}
    (ht : P.underlying t = some (.slice e)) (he : P.underlying e = some (.int .u32)) (hc : P.cellsOf e = 1) (hval : Value.okWide P w r b0 t v) (hd : DataW.Trod enc P w base (fun _ => true) held t v d ps) :
    ∃ (l : List Int) (A : Option Addr) (c : Nat), v = .slice A l.length c ∧ WordsAt w A l ∧ (∀ x ∈ l, 0 ≤ x ∧ x < 4294967296) ∧ l.length ≤ maxLen := by
  obtain ⟨a0, len, cap, rfl⟩ := okWide_slice ht hval
  obtain ⟨fuel, hf⟩ := hd
  rcases open_ints ht he hc hf with ⟨hcs, hx⟩ | ⟨a, len', cap', zs, hcs, _, hl, hm, hlen, hx, hcell, hwf⟩
  · simp [Value.cells] at hcs
    obtain ⟨rfl, rfl, rfl⟩ := hcs
    exact ⟨[], none, 0, rfl, ⟨0, Nat.zero_le _, Reads.none_⟩, by simp, by simp [maxLen]⟩
  · simp [Value.cells] at hcs
    obtain ⟨rfl, rfl, rfl⟩ := hcs
    have hz : zs.length = cap := by simpa using hlen
    have hl2 : (zs.take len).length = len := by rw [List.length_take]; omega
    refine ⟨zs.take len, some a, cap, by rw [hl2], ⟨w.heap.size, Nat.le_refl _, ?_⟩, ?_, by omega⟩
    · refine ⟨by simp [rowV], fun hn => ⟨a, rfl, ?_, fun j u hj => ?_⟩⟩
      · have h0 := hcell 0 (by omega)
        have := World.block_lt_of_cell? w (a.add 0) h0
        rwa [block_of_add] at this
      · have hj2 : j < len := by
          have := (List.getElem?_eq_some_iff.1 hj).1
          simp [rowV] at this
          omega
        rw [hcell j (by omega)]
        simp [rowV, hj2] at hj
        obtain ⟨y, hy, rfl⟩ := hj
        rw [List.getD_eq_getElem?_getD, hy]
        rfl
    · intro x hx'
      have := hwf x (List.mem_of_mem_take hx')
      have h2 : 0 ≤ x ∧ x ≤ 4294967295 := by simpa [Lit.wf, IntKind.min, IntKind.max, IntKind.signed, IntKind.bits] using this
      omega
end Go.Proofs.YtdaglmoibijdeaaDoor.OpenWords
