/-
  May of the program: the state of its walk; what it asks, in plain words.
-/
import Derived.Test.YtnjojcikahiieaaNSmall
import Derived.Test.YtnjojcikahiieaaNLaw
import Derived.Deep.Cut
import Derived.Deep.QuietTactic
import Derived.BigQuiet
namespace Go.Proofs.Ytnjojcikahiieaa.NMaySt
open Go.RowKit Base Blks NRec NSmall NLaw
set_option linter.unusedVariables false

/-- Two notes, apart: the one that came, the one that is wanted. -/
structure MSt (w0 w : World) (B W : Nat) (n m : NT) : Prop where
  N : NAt w B n
  M : NAt w W m
  bel : Below w0.heap.size w0 w
  ge : w0.heap.size ≤ W
  ne : B ≠ W
section
variable {w0 w w' : World} {B W : Nat} {n m : NT}
theorem MSt.setSt (h : MSt w0 w B W n m) (x : Int) : MSt w0 (w.setCell ⟨W, 4, none⟩ (.int .u64 x)) B W n { m with St := x } := ⟨h.N.far (p := ⟨W, 4, none⟩) h.ne _, h.M.setSt x, h.bel.setCell (p := ⟨W, 4, none⟩) h.ge _, h.ge, h.ne⟩
theorem MSt.setS (h : MSt w0 w B W n m) (x : Int) : MSt w0 (w.setCell ⟨W, 5, none⟩ (.int .u8 x)) B W n { m with S := x } := ⟨h.N.far (p := ⟨W, 5, none⟩) h.ne _, h.M.setS x, h.bel.setCell (p := ⟨W, 5, none⟩) h.ge _, h.ge, h.ne⟩
theorem MSt.setHa (h : MSt w0 w B W n m) (x : Bool) : MSt w0 (w.setCell ⟨W, 6, none⟩ (.bool x)) B W n { m with Ha := x } := ⟨h.N.far (p := ⟨W, 6, none⟩) h.ne _, h.M.setHa x, h.bel.setCell (p := ⟨W, 6, none⟩) h.ge _, h.ge, h.ne⟩
theorem MSt.setSk (h : MSt w0 w B W n m) (x : Bool) : MSt w0 (w.setCell ⟨W, 7, none⟩ (.bool x)) B W n { m with Sk := x } := ⟨h.N.far (p := ⟨W, 7, none⟩) h.ne _, h.M.setSk x, h.bel.setCell (p := ⟨W, 7, none⟩) h.ge _, h.ge, h.ne⟩
theorem setCells_far {b : Nat} : ∀ (vs : List Value) (o : Nat) (w : World), b ≠ W → NAt w b n → NAt (w.setCells W o vs) b n
  | [], _, _, _, h => h
  | v :: r, o, w, hb, h => setCells_far r (o + 1) _ hb (h.far (p := ⟨W, o, none⟩) hb v)
theorem MSt.setData (h : MSt w0 w B W n m) (g : Nat → Int) : MSt w0 (w.setCells W 8 (blk g)) B W n { m with f := g } := ⟨setCells_far _ _ _ h.ne h.N, h.M.setData g, below_setCells _ _ _ h.bel h.ge, h.ge, h.ne⟩
theorem MSt.below (h : MSt w0 w B W n m) (hb : Below w.heap.size w w') : MSt w0 w' B W n m := ⟨h.N.below hb h.N.lt, h.M.below hb h.M.lt, below_then h.bel hb, h.ge, h.ne⟩
end
end Go.Proofs.Ytnjojcikahiieaa.NMaySt
