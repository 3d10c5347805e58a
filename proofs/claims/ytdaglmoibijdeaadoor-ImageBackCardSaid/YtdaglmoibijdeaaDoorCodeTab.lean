/-
  The table of the forms as it lies in memory; an instruction's five cells in a block of the call's own.
-/
import Derived.Test.YtdaglmoibijdeaaDoorCodeBits
import Derived.BigQuiet
import Derived.Deep.RegionHeld3
namespace Go.Proofs.YtdaglmoibijdeaaDoor.CodeTab
open Go.RowKit Base CodePlain CodeBits
set_option linter.unusedVariables false

/-- The table of the forms. -/
def Tab (w : World) : Prop := ∀ k, k < 22 → w.cell? ⟨0, k, none⟩ = some (.int .i64 (formN k))
theorem Tab.cell {w : World} (h : Tab w) {k : Nat} (hk : k < 22) {f : Nat} (hf : formN k = f) : w.cell? ⟨0, k, none⟩ = some (.int .i64 (f : Int)) := by
  rw [h k hk, hf]
theorem Tab.lt {w : World} (h : Tab w) : 0 < w.heap.size := block_lt_of_cell (h 0 (by omega))
theorem Tab.below {w w' : World} (h : Tab w) (hb : Below w.heap.size w w') : Tab w' := fun k hk => (hb.cell h.lt).trans (h k hk)

def code5 (k : Nat) (a b c n : Int) : Value := .agg #[.int .u8 (k : Int), .int .i64 a, .int .i64 b, .int .i64 c, .int .i64 n]

section
variable {W : World} {B : Nat} {v0 v1 v2 v3 v4 : Value}
abbrev C5 (W : World) (B : Nat) (v0 v1 v2 v3 v4 : Value) : Prop := W.cell? ⟨B, 0, none⟩ = some v0 ∧ W.cell? ⟨B, 1, none⟩ = some v1 ∧ W.cell? ⟨B, 2, none⟩ = some v2 ∧ W.cell? ⟨B, 3, none⟩ = some v3 ∧ W.cell? ⟨B, 4, none⟩ = some v4
theorem c5_of {t : TypeId} (hb : Blk W B t #[v0, v1, v2, v3, v4]) : C5 W B v0 v1 v2 v3 v4 := ⟨hb.cell 0, hb.cell 1, hb.cell 2, hb.cell 3, hb.cell 4⟩
theorem cells5x1 (h : W.heap.size = B) : C5 (W.alloc (.cells #[v0, v1, v2, v3, v4] 38)).drew B v0 v1 v2 v3 v4 := c5_of (W := W.alloc _) (Blk.new_at W 38 #[v0, v1, v2, v3, v4] h)
theorem cells5x2 (h : W.heap.size = B) : C5 (W.alloc (.cells #[v0, v1, v2, v3, v4] 38)).drew.drew B v0 v1 v2 v3 v4 := c5_of (W := W.alloc _) (Blk.new_at W 38 #[v0, v1, v2, v3, v4] h)
end
section
variable {W : World} {B : Nat} {v0 v1 v2 v3 v4 u0 u1 u2 u3 u4 : Value} {o : Obj}
theorem and5 {a b c d e R : Prop} (h : a ∧ b ∧ c ∧ d ∧ e) (r : R) : a ∧ b ∧ c ∧ d ∧ e ∧ R := ⟨h.1, h.2.1, h.2.2.1, h.2.2.2.1, h.2.2.2.2, r⟩
theorem cells5x1A (h : ((W.alloc (.cells #[u0, u1, u2, u3, u4] 38)).alloc o).heap.size = B) :
    let X := (((W.alloc (.cells #[u0, u1, u2, u3, u4] 38)).alloc o).alloc (.cells #[v0, v1, v2, v3, v4] 38)).drew
    X.cell? ⟨B, 0, none⟩ = some v0 ∧ X.cell? ⟨B, 1, none⟩ = some v1 ∧ X.cell? ⟨B, 2, none⟩ = some v2 ∧ X.cell? ⟨B, 3, none⟩ = some v3 ∧ X.cell? ⟨B, 4, none⟩ = some v4 ∧
    X.cell? ⟨W.heap.size, 0, none⟩ = some u0 ∧ X.cell? ⟨W.heap.size, 1, none⟩ = some u1 ∧ X.cell? ⟨W.heap.size, 2, none⟩ = some u2 ∧ X.cell? ⟨W.heap.size, 3, none⟩ = some u3 ∧ X.cell? ⟨W.heap.size, 4, none⟩ = some u4 :=
  and5 (cells5x1 h) (c5_of (W := ((W.alloc _).alloc _).alloc _) (((Blk.new W 38 #[u0, u1, u2, u3, u4]).alloc o).alloc _))
theorem cells5x2A (h : ((W.alloc (.cells #[u0, u1, u2, u3, u4] 38)).alloc o).heap.size = B) :
    let X := (((W.alloc (.cells #[u0, u1, u2, u3, u4] 38)).alloc o).alloc (.cells #[v0, v1, v2, v3, v4] 38)).drew.drew
    X.cell? ⟨B, 0, none⟩ = some v0 ∧ X.cell? ⟨B, 1, none⟩ = some v1 ∧ X.cell? ⟨B, 2, none⟩ = some v2 ∧ X.cell? ⟨B, 3, none⟩ = some v3 ∧ X.cell? ⟨B, 4, none⟩ = some v4 ∧
    X.cell? ⟨W.heap.size, 0, none⟩ = some u0 ∧ X.cell? ⟨W.heap.size, 1, none⟩ = some u1 ∧ X.cell? ⟨W.heap.size, 2, none⟩ = some u2 ∧ X.cell? ⟨W.heap.size, 3, none⟩ = some u3 ∧ X.cell? ⟨W.heap.size, 4, none⟩ = some u4 :=
  and5 (cells5x2 h) (c5_of (W := ((W.alloc _).alloc _).alloc _) (((Blk.new W 38 #[u0, u1, u2, u3, u4]).alloc o).alloc _))
end
theorem below3 (w : World) (a b c : Obj) (k : Nat) : Below w.heap.size w ((((w.alloc a).alloc b).alloc c).drewN k) :=
  bdrewN ((((Below.refl _ _).alloc (Nat.le_refl _) a).alloc (by simp) b).alloc (by simp; omega) c) k
theorem below3d1 (w : World) (a b c : Obj) : Below w.heap.size w (((w.alloc a).alloc b).alloc c).drew := below3 w a b c 1
theorem below3d2 (w : World) (a b c : Obj) : Below w.heap.size w (((w.alloc a).alloc b).alloc c).drew.drew := below3 w a b c 2
theorem reg_of {x : Int} {r : Bool} (h : regB x = r) (w : World) : Calls Tryd.prog 33 #[.int .i64 x] w fun e w' => e = .returned (.bool r) ∧ w = w' := h ▸ reg_any x w
theorem within14_of {x : Int} {r : Bool} (h : inB x 8192 = r) (w : World) : Calls Tryd.prog 34 #[.int .i64 x, .int .i64 14] w fun e w' => e = .returned (.bool r) ∧ w = w' := h ▸ within14 x w
theorem within22_of {x : Int} {r : Bool} (h : inB x 2097152 = r) (w : World) : Calls Tryd.prog 34 #[.int .i64 x, .int .i64 22] w fun e w' => e = .returned (.bool r) ∧ w = w' := h ▸ within22 x w
end Go.Proofs.YtdaglmoibijdeaaDoor.CodeTab
