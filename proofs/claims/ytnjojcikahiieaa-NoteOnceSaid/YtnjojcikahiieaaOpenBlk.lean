/-
  An argument that is an array of sixteen words by value, opened: it is a block.
-/
import Derived.Test.YtnjojcikahiieaaBlks
import Derived.OpenShut
namespace Go.Proofs.Ytnjojcikahiieaa.OpenBlk
open Go.ChangeShapes Go.WideShapes Go.RowKit Blks

section
variable {H : Type} {enc : TypeId × Value → H} {P : Program} {w : World} {base : Nat} {spare : Nat → Bool} {held : Bool}
theorem open_blk {r : Reach} {b0 : Nat} {t e : TypeId} {v : Value} {d : DataW H} {p : List MemPlace} (ht : P.underlying t = some (.array 16 e)) (he : P.underlying e = some (.int .u32)) (hC : P.cellsOf e = 1) (hCt : P.cellsOf t = 16)
    (hv : Value.okWide P w r b0 t v) (h : DataW.Trod enc P w base spare held t v d p) :
    ∃ f : Nat → Int, v = .agg (blk f).toArray ∧ ∀ j, j < 16 → (Lit.int .u32 (f j)).wf = true := by
  simp only [Value.okWide, ht] at hv
  obtain ⟨cs, rfl, hsz, _⟩ := hv
  rw [hCt] at hsz
  obtain ⟨fuel, hf⟩ := h
  obtain ⟨xs, n, _, _, _, hlen, hg⟩ := DataW.trod_array ht hf
  have hcell : ∀ j, ∃ x : Int, j < 16 → cs[j]? = some (.int .u32 x) ∧ (Lit.int .u32 x).wf = true := fun j => by
    by_cases hj : j < 16
    · have h1 := hg j hj
      rw [hC, Nat.mul_one] at h1
      have hl : j < cs.toList.length := by simp; omega
      have hdrop : ((Value.agg cs).cells.toList.drop j).take 1 = [cs[j]'(by omega)] := by
        show (cs.toList.drop j).take 1 = _
        rw [List.drop_eq_getElem_cons hl]
        simp
      rw [hdrop] at h1
      have hx : xs[j]? = some (xs[j]'(by omega)) := List.getElem?_eq_getElem (by omega)
      obtain ⟨a, ea, _, wa⟩ := DataW.trod_int he (h1.trans hx)
      simp only [List.cons.injEq, and_true] at ea
      exact ⟨a, fun _ => ⟨by rw [Array.getElem?_eq_getElem (by omega), ea], wa⟩⟩
    · exact ⟨0, fun h => absurd h hj⟩
  refine ⟨fun j => Classical.choose (hcell j), ?_, fun j hj => (Classical.choose_spec (hcell j) hj).2⟩
  congr 1
  apply Array.ext_getElem?
  intro j
  by_cases hj : j < 16
  · rw [(Classical.choose_spec (hcell j) hj).1]
    simp [blk_get _ hj]
  · rw [Array.getElem?_eq_none (by omega), Array.getElem?_eq_none (by simp [blk_len]; omega)]
end
end Go.Proofs.Ytnjojcikahiieaa.OpenBlk
