/-
  A string argument opened.
-/
import Derived.Test.YtdaglmoibijdeaaDoorBase
import Derived.ChangeMaps5
namespace Go.Proofs.YtdaglmoibijdeaaDoor.OpenStr
open Go.ChangeShapes Go.WideShapes Go.RowKit

theorem open_str {H : Type} {enc : TypeId × Value → H} {P : Program} {w : World} {base : Nat} {sp : Nat → Bool} {held : Bool} {r : Reach} {b0 : Nat} {t : TypeId} {v : Value} {d : DataW H} {ps : List MemPlace} (ht : P.underlying t = some .string) (hval : Value.okWide P w r b0 t v) (hd : DataW.Trod enc P w base sp held t v d ps) :
    ∃ s : ByteArray, v = .string s ∧ s.size ≤ maxLen := by
  obtain ⟨s, rfl, _, _, hs⟩ := Go.ChangeMaps.open_string ht hval hd
  exact ⟨s, rfl, hs⟩
end Go.Proofs.YtdaglmoibijdeaaDoor.OpenStr
