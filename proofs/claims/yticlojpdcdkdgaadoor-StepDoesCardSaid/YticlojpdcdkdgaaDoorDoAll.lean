/-
  Do of the layer 'step': the parts joined; what it computes.
-/
import Derived.Test.YticlojpdcdkdgaaDoorDoA
import Derived.Test.YticlojpdcdkdgaaDoorDoB
import Derived.Test.YticlojpdcdkdgaaDoorDoC
import Derived.Test.YticlojpdcdkdgaaDoorDoD
import Derived.Test.YticlojpdcdkdgaaDoorDoE
import Derived.Test.YticlojpdcdkdgaaDoorDoF
import Derived.Test.YticlojpdcdkdgaaDoorRefDoA
import Derived.Test.YticlojpdcdkdgaaDoorRefDoB
import Derived.Test.YticlojpdcdkdgaaDoorRefDoC
namespace Go.Proofs.YticlojpdcdkdgaaDoor.DoAll
open Go.RowKit Base Blks CodePlain CodeBits CodeTab Regs DoSt
set_option linter.unusedVariables false

def isDo : Nat → Bool
  | 1 => true | 2 => true | 3 => true | 4 => true | 5 => true | 6 => true | 7 => true | 8 => true | 12 => true | 13 => true | 14 => true | 15 => true | 16 => true | 21 => true | _ => false
def outV (k : Nat) (F : Nat → Int) (a b c n : Int) : Int :=
  match k with
  | 1 => (getF F b + getF F c) % 4294967296
  | 2 => (getF F b - getF F c) % 4294967296
  | 3 => bits .and .u32 (getF F b) (getF F c)
  | 4 => bits .or .u32 (getF F b) (getF F c)
  | 5 => bits .xor .u32 (getF F b) (getF F c)
  | 6 => lessV (getF F b) (getF F c)
  | 7 => getF F b * getF F c % 4294967296
  | 8 => (getF F b + n) % 4294967296
  | 12 => n % 4294967296
  | _ => getF F a
def goesB (k : Nat) (F : Nat → Int) (a b : Int) : Bool :=
  match k with
  | 13 => getF F a == getF F b
  | 14 => getF F a != getF F b
  | 15 => decide (getF F a < getF F b)
  | 16 => true
  | _ => false
def okD (k : Nat) (a b c n at_ : Int) : Bool := mayB k a b c n && decide (0 ≤ at_ ∧ at_ ≤ 1024)
def doneB (k : Nat) (a b c n at_ : Int) : Bool := okD k a b c n at_ && isDo k
def doF (k : Nat) (a b c n at_ : Int) (f : Nat → Int) : Nat → Int := if doneB k a b c n at_ = true then putF (zf f) a (outV k (zf f) a b c n) else fun _ => 0
def doT (k : Nat) (a b c n at_ : Int) (f : Nat → Int) : Int := if doneB k a b c n at_ = true then (if goesB k (zf f) a b = true then at_ + 1 + n else at_ + 1) else 0
def doE (k : Nat) (a b c n at_ : Int) : Int := if doneB k a b c n at_ = true then 0 else if okD k a b c n at_ = true then 4 else 2

theorem put_get (F : Nat → Int) (a : Int) : blk (putF F a (getF F a)) = blk F := blk_congr fun j _ => by
  unfold putF getF
  by_cases h : isReg a = true
  · rw [if_pos h, if_pos h]
    by_cases e : j = a.toNat
    · rw [if_pos e, e]
    · rw [if_neg e]
  · rw [if_neg h]
theorem yes {k : Nat} {a b c n at_ : Int} (hm : mayB k a b c n = true) (h0 : 0 ≤ at_) (h1 : at_ ≤ 1024) (hk : isDo k = true) : doneB k a b c n at_ = true := by simp [doneB, okD, hm, h0, h1, hk]
theorem four {k : Nat} {a b c n at_ : Int} (hm : mayB k a b c n = true) (h0 : 0 ≤ at_) (h1 : at_ ≤ 1024) (hk : isDo k = false) (f : Nat → Int) : doF k a b c n at_ f = (fun _ => 0) ∧ doT k a b c n at_ f = 0 ∧ doE k a b c n at_ = 4 := by
  simp [doF, doT, doE, doneB, okD, hm, h0, h1, hk]
theorem two {k : Nat} {a b c n at_ : Int} (h : okD k a b c n at_ = false) (f : Nat → Int) : doF k a b c n at_ f = (fun _ => 0) ∧ doT k a b c n at_ f = 0 ∧ doE k a b c n at_ = 2 := by
  simp [doF, doT, doE, doneB, h]
theorem fin {k : Nat} {a b c n at_ : Int} (h : doneB k a b c n at_ = true) (f : Nat → Int) : doF k a b c n at_ f = putF (zf f) a (outV k (zf f) a b c n) ∧ doT k a b c n at_ f = (if goesB k (zf f) a b = true then at_ + 1 + n else at_ + 1) ∧ doE k a b c n at_ = 0 := by
  simp [doF, doT, doE, h]
theorem do_any (k : Nat) (a b c n at_ : Int) (f : Nat → Int) (hk : k ≤ 255) (w : World) (hT : Tab w) :
    Calls Tryd.prog 13 #[.agg (blk f).toArray, .int .i64 at_, code5 k a b c n] w fun e w' => e = .returned (.tuple #[.agg (blk (doF k a b c n at_ f)).toArray, .int .i64 (doT k a b c n at_ f), .int .i64 (doE k a b c n at_)]) ∧ Below w.heap.size w w' := by
  cases hm : mayB k a b c n
  · have h2 := two (k := k) (a := a) (b := b) (c := c) (n := n) (at_ := at_) (by simp [okD, hm]) f
    rw [h2.1, h2.2.1, h2.2.2]
    exact Do.do_no k a b c n at_ f hk hm w hT
  by_cases h0 : at_ < 0
  · have h2 := two (k := k) (a := a) (b := b) (c := c) (n := n) (at_ := at_) (by simp [okD]; omega) f
    rw [h2.1, h2.2.1, h2.2.2]
    exact Do.do_lo k a b c n at_ f hk hm h0 w hT
  by_cases h1 : 1024 < at_
  · have h2 := two (k := k) (a := a) (b := b) (c := c) (n := n) (at_ := at_) (by simp [okD]; omega) f
    rw [h2.1, h2.2.1, h2.2.2]
    exact Do.do_hi k a b c n at_ f hk hm h0 h1 w hT
  have h0 : 0 ≤ at_ := by omega
  have h1 : at_ ≤ 1024 := by omega
  have hlt := mayB_lt hm
  have : k = 0 ∨ k = 1 ∨ k = 2 ∨ k = 3 ∨ k = 4 ∨ k = 5 ∨ k = 6 ∨ k = 7 ∨ k = 8 ∨ k = 9 ∨ k = 10 ∨ k = 11 ∨ k = 12 ∨ k = 13 ∨ k = 14 ∨ k = 15 ∨ k = 16 ∨ k = 17 ∨ k = 18 ∨ k = 19 ∨ k = 20 ∨ k = 21 := by omega
  rcases this with h | h | h | h | h | h | h | h | h | h | h | h | h | h | h | h | h | h | h | h | h | h <;> subst h
  · have h4 := four hm h0 h1 rfl f
    rw [h4.1, h4.2.1, h4.2.2]
    exact Do.do_0 a b c n at_ f hm h0 h1 w hT
  · have hf := fin (yes hm h0 h1 rfl) f
    rw [hf.1, hf.2.1, hf.2.2]
    exact Do.do_1 a b c n at_ f hm h0 h1 w hT
  · have hf := fin (yes hm h0 h1 rfl) f
    rw [hf.1, hf.2.1, hf.2.2]
    exact Do.do_2 a b c n at_ f hm h0 h1 w hT
  · have hf := fin (yes hm h0 h1 rfl) f
    rw [hf.1, hf.2.1, hf.2.2]
    exact Do.do_3 a b c n at_ f hm h0 h1 w hT
  · have hf := fin (yes hm h0 h1 rfl) f
    rw [hf.1, hf.2.1, hf.2.2]
    exact Do.do_4 a b c n at_ f hm h0 h1 w hT
  · have hf := fin (yes hm h0 h1 rfl) f
    rw [hf.1, hf.2.1, hf.2.2]
    exact Do.do_5 a b c n at_ f hm h0 h1 w hT
  · have hf := fin (yes hm h0 h1 rfl) f
    rw [hf.1, hf.2.1, hf.2.2]
    exact Do.do_6 a b c n at_ f hm h0 h1 w hT
  · have hf := fin (yes hm h0 h1 rfl) f
    rw [hf.1, hf.2.1, hf.2.2]
    exact Do.do_7 a b c n at_ f hm h0 h1 w hT
  · have hf := fin (yes hm h0 h1 rfl) f
    rw [hf.1, hf.2.1, hf.2.2]
    exact Do.do_8 a b c n at_ f hm h0 h1 w hT
  · have h4 := four hm h0 h1 rfl f
    rw [h4.1, h4.2.1, h4.2.2]
    exact Do.do_9 a b c n at_ f hm h0 h1 w hT
  · have h4 := four hm h0 h1 rfl f
    rw [h4.1, h4.2.1, h4.2.2]
    exact Do.do_10 a b c n at_ f hm h0 h1 w hT
  · have h4 := four hm h0 h1 rfl f
    rw [h4.1, h4.2.1, h4.2.2]
    exact Do.do_11 a b c n at_ f hm h0 h1 w hT
  · have hf := fin (yes hm h0 h1 rfl) f
    rw [hf.1, hf.2.1, hf.2.2]
    exact Do.do_12 a b c n at_ f hm h0 h1 w hT
  · have hf := fin (yes hm h0 h1 rfl) f
    rw [hf.1, hf.2.1, hf.2.2]
    rw [show outV 13 (zf f) a b c n = getF (zf f) a from rfl, put_get]
    cases h2 : (getF (zf f) a == getF (zf f) b)
    · rw [if_neg (show ¬ (goesB 13 (zf f) a b = true) from (by show ¬ ((getF (zf f) a == getF (zf f) b) = true); rw [h2]; simp))]
      exact Do.do_13n a b c n at_ f hm h0 h1 h2 w hT
    · rw [if_pos (show goesB 13 (zf f) a b = true from h2)]
      have h9 := Do.do_13y a b c n at_ f hm h0 h1 h2 w hT
      rw [show at_ + n + 1 = at_ + 1 + n by omega] at h9
      exact h9
  · have hf := fin (yes hm h0 h1 rfl) f
    rw [hf.1, hf.2.1, hf.2.2]
    rw [show outV 14 (zf f) a b c n = getF (zf f) a from rfl, put_get]
    cases h2 : (getF (zf f) a != getF (zf f) b)
    · rw [if_neg (show ¬ (goesB 14 (zf f) a b = true) from (by show ¬ ((getF (zf f) a != getF (zf f) b) = true); rw [h2]; simp))]
      exact Do.do_14n a b c n at_ f hm h0 h1 h2 w hT
    · rw [if_pos (show goesB 14 (zf f) a b = true from h2)]
      have h9 := Do.do_14y a b c n at_ f hm h0 h1 h2 w hT
      rw [show at_ + n + 1 = at_ + 1 + n by omega] at h9
      exact h9
  · have hf := fin (yes hm h0 h1 rfl) f
    rw [hf.1, hf.2.1, hf.2.2]
    rw [show outV 15 (zf f) a b c n = getF (zf f) a from rfl, put_get]
    cases h2 : decide (getF (zf f) a < getF (zf f) b)
    · rw [if_neg (show ¬ (goesB 15 (zf f) a b = true) from (by show ¬ (decide (getF (zf f) a < getF (zf f) b) = true); rw [h2]; simp))]
      exact Do.do_15n a b c n at_ f hm h0 h1 h2 w hT
    · rw [if_pos (show goesB 15 (zf f) a b = true from h2)]
      have h9 := Do.do_15y a b c n at_ f hm h0 h1 h2 w hT
      rw [show at_ + n + 1 = at_ + 1 + n by omega] at h9
      exact h9
  · have hf := fin (yes hm h0 h1 rfl) f
    rw [hf.1, hf.2.1, hf.2.2]
    rw [show outV 16 (zf f) a b c n = getF (zf f) a from rfl, put_get]
    have h9 := Do.do_16 a b c n at_ f hm h0 h1 w hT
    rw [show at_ + n + 1 = at_ + 1 + n by omega] at h9
    exact h9
  · have h4 := four hm h0 h1 rfl f
    rw [h4.1, h4.2.1, h4.2.2]
    exact Do.do_17 a b c n at_ f hm h0 h1 w hT
  · have h4 := four hm h0 h1 rfl f
    rw [h4.1, h4.2.1, h4.2.2]
    exact Do.do_18 a b c n at_ f hm h0 h1 w hT
  · have h4 := four hm h0 h1 rfl f
    rw [h4.1, h4.2.1, h4.2.2]
    exact Do.do_19 a b c n at_ f hm h0 h1 w hT
  · have h4 := four hm h0 h1 rfl f
    rw [h4.1, h4.2.1, h4.2.2]
    exact Do.do_20 a b c n at_ f hm h0 h1 w hT
  · have hf := fin (yes hm h0 h1 rfl) f
    rw [hf.1, hf.2.1, hf.2.2]
    rw [show outV 21 (zf f) a b c n = getF (zf f) a from rfl, put_get]
    exact Do.do_21 a b c n at_ f hm h0 h1 w hT
theorem doR_any (k : Nat) (a b c n at_ : Int) (f : Nat → Int) (hk : k ≤ 255) (w : World) (hT : Tab w) :
    Calls Tryd.prog 15 #[.agg (blk f).toArray, .int .i64 at_, code5 k a b c n] w fun e w' => e = .returned (.tuple #[.agg (blk (doF k a b c n at_ f)).toArray, .int .i64 (doT k a b c n at_ f), .int .i64 (doE k a b c n at_)]) ∧ Below w.heap.size w w' := by
  cases hm : mayB k a b c n
  · have h2 := two (k := k) (a := a) (b := b) (c := c) (n := n) (at_ := at_) (by simp [okD, hm]) f
    rw [h2.1, h2.2.1, h2.2.2]
    exact RefDo.do_no k a b c n at_ f hk hm w hT
  by_cases h0 : at_ < 0
  · have h2 := two (k := k) (a := a) (b := b) (c := c) (n := n) (at_ := at_) (by simp [okD]; omega) f
    rw [h2.1, h2.2.1, h2.2.2]
    exact RefDo.do_lo k a b c n at_ f hk hm h0 w hT
  by_cases h1 : 1024 < at_
  · have h2 := two (k := k) (a := a) (b := b) (c := c) (n := n) (at_ := at_) (by simp [okD]; omega) f
    rw [h2.1, h2.2.1, h2.2.2]
    exact RefDo.do_hi k a b c n at_ f hk hm h0 h1 w hT
  have h0 : 0 ≤ at_ := by omega
  have h1 : at_ ≤ 1024 := by omega
  have hlt := mayB_lt hm
  have : k = 0 ∨ k = 1 ∨ k = 2 ∨ k = 3 ∨ k = 4 ∨ k = 5 ∨ k = 6 ∨ k = 7 ∨ k = 8 ∨ k = 9 ∨ k = 10 ∨ k = 11 ∨ k = 12 ∨ k = 13 ∨ k = 14 ∨ k = 15 ∨ k = 16 ∨ k = 17 ∨ k = 18 ∨ k = 19 ∨ k = 20 ∨ k = 21 := by omega
  rcases this with h | h | h | h | h | h | h | h | h | h | h | h | h | h | h | h | h | h | h | h | h | h <;> subst h
  · have h4 := four hm h0 h1 rfl f
    rw [h4.1, h4.2.1, h4.2.2]
    exact RefDo.do_0 a b c n at_ f hm h0 h1 w hT
  · have hf := fin (yes hm h0 h1 rfl) f
    rw [hf.1, hf.2.1, hf.2.2]
    exact RefDo.do_1 a b c n at_ f hm h0 h1 w hT
  · have hf := fin (yes hm h0 h1 rfl) f
    rw [hf.1, hf.2.1, hf.2.2]
    exact RefDo.do_2 a b c n at_ f hm h0 h1 w hT
  · have hf := fin (yes hm h0 h1 rfl) f
    rw [hf.1, hf.2.1, hf.2.2]
    exact RefDo.do_3 a b c n at_ f hm h0 h1 w hT
  · have hf := fin (yes hm h0 h1 rfl) f
    rw [hf.1, hf.2.1, hf.2.2]
    exact RefDo.do_4 a b c n at_ f hm h0 h1 w hT
  · have hf := fin (yes hm h0 h1 rfl) f
    rw [hf.1, hf.2.1, hf.2.2]
    exact RefDo.do_5 a b c n at_ f hm h0 h1 w hT
  · have hf := fin (yes hm h0 h1 rfl) f
    rw [hf.1, hf.2.1, hf.2.2]
    cases h2 : decide (getF (zf f) b < getF (zf f) c)
    · rw [show outV 6 (zf f) a b c n = 0 from if_neg (of_decide_eq_false h2)]
      exact RefDo.do_6n a b c n at_ f hm h0 h1 h2 w hT
    · rw [show outV 6 (zf f) a b c n = 1 from if_pos (of_decide_eq_true h2)]
      exact RefDo.do_6y a b c n at_ f hm h0 h1 h2 w hT
  · have hf := fin (yes hm h0 h1 rfl) f
    rw [hf.1, hf.2.1, hf.2.2]
    exact RefDo.do_7 a b c n at_ f hm h0 h1 w hT
  · have hf := fin (yes hm h0 h1 rfl) f
    rw [hf.1, hf.2.1, hf.2.2]
    exact RefDo.do_8 a b c n at_ f hm h0 h1 w hT
  · have h4 := four hm h0 h1 rfl f
    rw [h4.1, h4.2.1, h4.2.2]
    exact RefDo.do_9 a b c n at_ f hm h0 h1 w hT
  · have h4 := four hm h0 h1 rfl f
    rw [h4.1, h4.2.1, h4.2.2]
    exact RefDo.do_10 a b c n at_ f hm h0 h1 w hT
  · have h4 := four hm h0 h1 rfl f
    rw [h4.1, h4.2.1, h4.2.2]
    exact RefDo.do_11 a b c n at_ f hm h0 h1 w hT
  · have hf := fin (yes hm h0 h1 rfl) f
    rw [hf.1, hf.2.1, hf.2.2]
    exact RefDo.do_12 a b c n at_ f hm h0 h1 w hT
  · have hf := fin (yes hm h0 h1 rfl) f
    rw [hf.1, hf.2.1, hf.2.2]
    cases h2 : (getF (zf f) a == getF (zf f) b)
    · rw [if_neg (show ¬ (goesB 13 (zf f) a b = true) from (by show ¬ ((getF (zf f) a == getF (zf f) b) = true); rw [h2]; simp))]
      exact RefDo.do_13n a b c n at_ f hm h0 h1 h2 w hT
    · rw [if_pos (show goesB 13 (zf f) a b = true from h2)]
      exact RefDo.do_13y a b c n at_ f hm h0 h1 h2 w hT
  · have hf := fin (yes hm h0 h1 rfl) f
    rw [hf.1, hf.2.1, hf.2.2]
    cases h2 : (getF (zf f) a != getF (zf f) b)
    · rw [if_neg (show ¬ (goesB 14 (zf f) a b = true) from (by show ¬ ((getF (zf f) a != getF (zf f) b) = true); rw [h2]; simp))]
      exact RefDo.do_14n a b c n at_ f hm h0 h1 h2 w hT
    · rw [if_pos (show goesB 14 (zf f) a b = true from h2)]
      exact RefDo.do_14y a b c n at_ f hm h0 h1 h2 w hT
  · have hf := fin (yes hm h0 h1 rfl) f
    rw [hf.1, hf.2.1, hf.2.2]
    cases h2 : decide (getF (zf f) a < getF (zf f) b)
    · rw [if_neg (show ¬ (goesB 15 (zf f) a b = true) from (by show ¬ (decide (getF (zf f) a < getF (zf f) b) = true); rw [h2]; simp))]
      exact RefDo.do_15n a b c n at_ f hm h0 h1 h2 w hT
    · rw [if_pos (show goesB 15 (zf f) a b = true from h2)]
      exact RefDo.do_15y a b c n at_ f hm h0 h1 h2 w hT
  · have hf := fin (yes hm h0 h1 rfl) f
    rw [hf.1, hf.2.1, hf.2.2]
    exact RefDo.do_16 a b c n at_ f hm h0 h1 w hT
  · have h4 := four hm h0 h1 rfl f
    rw [h4.1, h4.2.1, h4.2.2]
    exact RefDo.do_17 a b c n at_ f hm h0 h1 w hT
  · have h4 := four hm h0 h1 rfl f
    rw [h4.1, h4.2.1, h4.2.2]
    exact RefDo.do_18 a b c n at_ f hm h0 h1 w hT
  · have h4 := four hm h0 h1 rfl f
    rw [h4.1, h4.2.1, h4.2.2]
    exact RefDo.do_19 a b c n at_ f hm h0 h1 w hT
  · have h4 := four hm h0 h1 rfl f
    rw [h4.1, h4.2.1, h4.2.2]
    exact RefDo.do_20 a b c n at_ f hm h0 h1 w hT
  · have hf := fin (yes hm h0 h1 rfl) f
    rw [hf.1, hf.2.1, hf.2.2]
    exact RefDo.do_21 a b c n at_ f hm h0 h1 w hT
end Go.Proofs.YticlojpdcdkdgaaDoor.DoAll
