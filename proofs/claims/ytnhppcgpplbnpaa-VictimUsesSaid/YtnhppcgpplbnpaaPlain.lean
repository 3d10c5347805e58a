/-
  The plain law of the layer 'victim': what Use and Victim compute, as functions on integers, and what they satisfy at every memory (0 to 255). No program in sight.
-/
import Derived.WalkKit
namespace Go.Proofs.Ytnhppcgpplbnpaa.Plain
open Go.RowKit

theorem all_u8 {p : Int → Prop} (h : ∀ k : Fin 256, p (k.val : Int)) {m : Int} (h0 : 0 ≤ m) (h1 : m ≤ 255) : p m := by
  have := h ⟨m.toNat, by omega⟩
  rwa [show ((⟨m.toNat, by omega⟩ : Fin 256).val : Int) = m from by simp; omega] at this

/-- The memory behind a use. -/
def usev (m ways way : Int) : Int :=
  if ways = 4 then
    (if way = 0 then m / 8 * 8 + (1 + 2 * 1 + 4 * (m / 4 % 2))
     else if way = 1 then m / 8 * 8 + (1 + 2 * 0 + 4 * (m / 4 % 2))
     else if way = 2 then m / 8 * 8 + (0 + 2 * (m / 2 % 2) + 4 * 1)
     else if way = 3 then m / 8 * 8 + (0 + 2 * (m / 2 % 2) + 4 * 0)
     else 0)
  else if ways = 2 then
    (if way = 0 then m / 8 * 8 + (1 + 2 * (m / 2 % 2) + 4 * (m / 4 % 2))
     else if way = 1 then m / 8 * 8 + (0 + 2 * (m / 2 % 2) + 4 * (m / 4 % 2))
     else 0)
  else if ways = 1 then (if way = 0 then m else 0)
  else 0
/-- Its error's number. -/
def usee (ways way : Int) : Int :=
  if ways = 4 then (if 0 ≤ way ∧ way ≤ 3 then 0 else 5)
  else if ways = 2 then (if 0 ≤ way ∧ way ≤ 1 then 0 else 5)
  else if ways = 1 then (if way = 0 then 0 else 5)
  else 2
/-- The victim. -/
def vicv (m ways : Int) : Int :=
  if ways = 4 then (if m % 2 = 0 then m / 2 % 2 else 2 + m / 4 % 2)
  else if ways = 2 then m % 2
  else 0
def vice (ways : Int) : Int := if ways = 1 ∨ ways = 2 ∨ ways = 4 then 0 else 2

theorem usev_range (m ways way : Int) (h0 : 0 ≤ m) (h1 : m ≤ 255) : 0 ≤ usev m ways way ∧ usev m ways way ≤ 255 := by
  unfold usev
  repeat' split
  all_goals omega

theorem b1 {m : Int} (h0 : 0 ≤ m) (h1 : m ≤ 255) : bits .and .u8 m 1 = m % 2 :=
  all_u8 (p := fun m => bits .and .u8 m 1 = m % 2) (by decide +kernel) h0 h1
end Go.Proofs.Ytnhppcgpplbnpaa.Plain
