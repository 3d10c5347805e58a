/-
  The plain law of the layer 'victim': what Use and Victim compute, as functions on integers, and what they satisfy at every memory (0 to 255). No program in sight.
-/
import Derived.WalkKit
namespace Go.Proofs.Ytnhppcgpplbnpaa.Plain
open Go.RowKit

theorem all_u8 {p : Int → Prop} (h : ∀ k : Fin 256, p (k.val : Int)) {m : Int} (h0 : 0 ≤ m) (h1 : m ≤ 255) : p m := by
  have := h ⟨m.toNat, by omega⟩
  rwa [show ((⟨m.toNat, by omega⟩ : Fin 256).val : Int) = m from by simp; omega] at this

/-- The memory behind a use. -/
def usev (m ways way : Int) : Int :=
  if ways = 4 then
    (if way = 0 then m / 8 * 8 + (1 + 2 * 1 + 4 * (m / 4 % 2))
     else if way = 1 then m / 8 * 8 + (1 + 2 * 0 + 4 * (m / 4 % 2))
     else if way = 2 then m / 8 * 8 + (0 + 2 * (m / 2 % 2) + 4 * 1)
     else if way = 3 then m / 8 * 8 + (0 + 2 * (m / 2 % 2) + 4 * 0)
     else 0)
  else if ways = 2 then
    (if way = 0 then m / 8 * 8 + (1 + 2 * (m / 2 % 2) + 4 * (m / 4 % 2))
     else if way = 1 then m / 8 * 8 + (0 + 2 * (m / 2 % 2) + 4 * (m / 4 % 2))
     else 0)
  else if ways = 1 then (if way = 0 then m else 0)
  else 0
/-- Its error's number. -/
def usee (ways way : Int) : Int :=
  if ways = 4 then (if 0 ≤ way ∧ way ≤ 3 then 0 else 5)
  else if ways = 2 then (if 0 ≤ way ∧ way ≤ 1 then 0 else 5)
  else if ways = 1 then (if way = 0 then 0 else 5)
  else 2
/-- The victim. -/
def vicv (m ways : Int) : Int :=
  if ways = 4 then (if m % 2 = 0 then m / 2 % 2 else 2 + m / 4 % 2)
  else if ways = 2 then m % 2
  else 0
def vice (ways : Int) : Int := if ways = 1 ∨ ways = 2 ∨ ways = 4 then 0 else 2

theorem usev_range (m ways way : Int) (h0 : 0 ≤ m) (h1 : m ≤ 255) : 0 ≤ usev m ways way ∧ usev m ways way ≤ 255 := by
  unfold usev
  repeat' split
  all_goals omega

theorem b1 {m : Int} (h0 : 0 ≤ m) (h1 : m ≤ 255) : bits .and .u8 m 1 = m % 2 :=
  all_u8 (p := fun m => bits .and .u8 m 1 = m % 2) (by decide +kernel) h0 h1

/-- What holds of the victim behind a use. -/
def LastOk (W Y : Int) (m : Int) : Prop :=
  0 ≤ vicv (usev m W Y) W ∧ vicv (usev m W Y) W < W ∧ bits .andNot .u8 (usev m W Y) 7 = bits .andNot .u8 m 7 ∧ (W = 1 ∨ vicv (usev m W Y) W ≠ Y) ∧ (W ≠ 4 ∨ vicv (usev m W Y) W / 2 ≠ Y / 2)
instance (W Y m : Int) : Decidable (LastOk W Y m) := by unfold LastOk; infer_instance
theorem last_40 {m : Int} (h0 : 0 ≤ m) (h1 : m ≤ 255) : LastOk 4 0 m := all_u8 (p := LastOk 4 0) (by decide +kernel) h0 h1
theorem last_41 {m : Int} (h0 : 0 ≤ m) (h1 : m ≤ 255) : LastOk 4 1 m := all_u8 (p := LastOk 4 1) (by decide +kernel) h0 h1
theorem last_42 {m : Int} (h0 : 0 ≤ m) (h1 : m ≤ 255) : LastOk 4 2 m := all_u8 (p := LastOk 4 2) (by decide +kernel) h0 h1
theorem last_43 {m : Int} (h0 : 0 ≤ m) (h1 : m ≤ 255) : LastOk 4 3 m := all_u8 (p := LastOk 4 3) (by decide +kernel) h0 h1
theorem last_20 {m : Int} (h0 : 0 ≤ m) (h1 : m ≤ 255) : LastOk 2 0 m := all_u8 (p := LastOk 2 0) (by decide +kernel) h0 h1
theorem last_21 {m : Int} (h0 : 0 ≤ m) (h1 : m ≤ 255) : LastOk 2 1 m := all_u8 (p := LastOk 2 1) (by decide +kernel) h0 h1
theorem last_10 {m : Int} (h0 : 0 ≤ m) (h1 : m ≤ 255) : LastOk 1 0 m := all_u8 (p := LastOk 1 0) (by decide +kernel) h0 h1

/-- The memory behind k turns of the victim. -/
def mem (W m : Int) : Nat → Int
  | 0 => m
  | k + 1 => usev (mem W m k) W (vicv (mem W m k) W)
/-- How often the way j was the victim in k turns. -/
def cnt (W m : Int) : Nat → Int → Int
  | 0, _ => 0
  | k + 1, j => cnt W m k j + if vicv (mem W m k) W = j then 1 else 0
theorem mem_range {W m : Int} (h0 : 0 ≤ m) (h1 : m ≤ 255) : ∀ k, 0 ≤ mem W m k ∧ mem W m k ≤ 255
  | 0 => ⟨h0, h1⟩
  | k + 1 => usev_range _ _ _ (mem_range h0 h1 k).1 (mem_range h0 h1 k).2
/-- A turn: the victim is one of the ways, no error, and how often it was met before is bounded. -/
def TurnOk (W : Int) (k : Nat) (m : Int) : Prop := 0 ≤ vicv (mem W m k) W ∧ vicv (mem W m k) W < W ∧ vice W = 0 ∧ usee W (vicv (mem W m k) W) = 0 ∧ 0 ≤ cnt W m k (vicv (mem W m k) W) ∧ cnt W m k (vicv (mem W m k) W) ≤ 4
instance (W m : Int) (k : Nat) : Decidable (TurnOk W k m) := by unfold TurnOk; infer_instance
def DoneOk (W m : Int) : Prop := ∀ j : Fin W.toNat, cnt W m W.toNat (j.val : Int) = 1
instance (W m : Int) : Decidable (DoneOk W m) := by unfold DoneOk; infer_instance
theorem turn_ok {W m : Int} {k : Nat} (hW : W = 1 ∨ W = 2 ∨ W = 4) (hk : (k : Int) < W) (h0 : 0 ≤ m) (h1 : m ≤ 255) : TurnOk W k m := by
  have e : k = 0 ∨ k = 1 ∨ k = 2 ∨ k = 3 := by omega
  rcases hW with rfl | rfl | rfl <;> rcases e with rfl | rfl | rfl | rfl
  all_goals first | (exfalso; omega; done) | exact all_u8 (p := TurnOk _ _) (by decide +kernel) h0 h1
theorem done_ok {W m : Int} (hW : W = 1 ∨ W = 2 ∨ W = 4) (h0 : 0 ≤ m) (h1 : m ≤ 255) : DoneOk W m := by
  rcases hW with rfl | rfl | rfl
  all_goals exact all_u8 (p := DoneOk _) (by decide +kernel) h0 h1
theorem done_at {W m j : Int} (hW : W = 1 ∨ W = 2 ∨ W = 4) (h0 : 0 ≤ m) (h1 : m ≤ 255) (hj0 : 0 ≤ j) (hj1 : j < W) : cnt W m W.toNat j = 1 := by
  have h := done_ok hW h0 h1 ⟨j.toNat, by omega⟩
  rwa [show ((⟨j.toNat, by omega⟩ : Fin W.toNat).val : Int) = j from by simp; omega] at h
end Go.Proofs.Ytnhppcgpplbnpaa.Plain
