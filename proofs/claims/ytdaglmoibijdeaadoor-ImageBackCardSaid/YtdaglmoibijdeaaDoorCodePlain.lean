/-
  Instructions as words, in plain Lean: the forms, which instruction may be, its word, what a word is; that one is the other's way back.
-/
namespace Go.Proofs.YtdaglmoibijdeaaDoor.CodePlain

def formL : List Nat := [0, 1, 1, 1, 1, 1, 1, 1, 2, 2, 2, 1, 3, 2, 2, 2, 4, 4, 0, 5, 6, 0]
def formN (k : Nat) : Nat := formL.getD k 1
theorem formN_lt (k : Nat) : formN k < 7 := by
  by_cases h : k < 22
  · have : k = 0 ∨ k = 1 ∨ k = 2 ∨ k = 3 ∨ k = 4 ∨ k = 5 ∨ k = 6 ∨ k = 7 ∨ k = 8 ∨ k = 9 ∨ k = 10 ∨ k = 11 ∨ k = 12 ∨ k = 13 ∨ k = 14 ∨ k = 15 ∨ k = 16 ∨ k = 17 ∨ k = 18 ∨ k = 19 ∨ k = 20 ∨ k = 21 := by omega
    rcases this with h | h | h | h | h | h | h | h | h | h | h | h | h | h | h | h | h | h | h | h | h | h <;> subst h <;> decide
  · have : formN k = 1 := by
      unfold formN
      rw [List.getD_eq_getElem?_getD, List.getElem?_eq_none (by simp [formL]; omega)]
      rfl
    omega
theorem formN_none {k : Nat} (h : 22 ≤ k) : formN k = 1 := by
  unfold formN
  rw [List.getD_eq_getElem?_getD, List.getElem?_eq_none (by simp [formL]; omega)]
  rfl

def regB (x : Int) : Bool := decide (0 ≤ x ∧ x < 16)
def inB (n m : Int) : Bool := decide (-m ≤ n ∧ n < m)
def byteB (n : Int) : Bool := decide (0 ≤ n ∧ n ≤ 255)
theorem regB_iff {x : Int} : regB x = true ↔ 0 ≤ x ∧ x < 16 := by simp [regB]
theorem inB_iff {n m : Int} : inB n m = true ↔ -m ≤ n ∧ n < m := by simp [inB]
theorem byteB_iff {n : Int} : byteB n = true ↔ 0 ≤ n ∧ n ≤ 255 := by simp [byteB]
/-- Whether what a form uses is in its bounds; what it uses, all else zero. -/
def okB (f : Nat) (a b c n : Int) : Bool :=
  match f with
  | 0 => true
  | 1 => regB a && regB b && regB c
  | 2 => regB a && regB b && inB n 8192
  | 3 => regB a && inB n 2097152
  | 4 => inB n 2097152
  | 5 => byteB n
  | _ => regB a
def uA (f : Nat) (a : Int) : Int := if f = 1 ∨ f = 2 ∨ f = 3 ∨ f = 6 then a else 0
def uB (f : Nat) (b : Int) : Int := if f = 1 ∨ f = 2 then b else 0
def uC (f : Nat) (c : Int) : Int := if f = 1 then c else 0
def uN (f : Nat) (n : Int) : Int := if f = 2 ∨ f = 3 ∨ f = 4 ∨ f = 5 then n else 0
def sameB (f : Nat) (a b c n : Int) : Bool := decide (uA f a = a ∧ uB f b = b ∧ uC f c = c ∧ uN f n = n)
def mayF (f : Nat) (a b c n : Int) : Bool := okB f a b c n && sameB f a b c n
def mayB (k : Nat) (a b c n : Int) : Bool := decide (k < 22) && mayF (formN k) a b c n
/-- An instruction's word. -/
def low (f : Nat) (n : Int) : Int := if f = 2 then n % 16384 else n % 4194304
def word (k : Nat) (a b c n : Int) : Int := (k : Int) * 67108864 + a * 4194304 + b * 262144 + c * 16384 + low (formN k) n
def putX (k : Nat) (a b c n : Int) : Int := if mayB k a b c n = true then word k a b c n else 0
def errX (k : Nat) (a b c n : Int) : Int := if mayB k a b c n = true then 0 else 2
/-- What a word is: its number, its parts by its form. -/
def tK (x : Int) : Nat := (x / 67108864).toNat
def sgn (n m : Int) : Int := if m ≤ n then n - 2 * m else n
def tA (f : Nat) (x : Int) : Int := if f = 1 ∨ f = 2 ∨ f = 3 ∨ f = 6 then x / 4194304 % 16 else 0
def tB (f : Nat) (x : Int) : Int := if f = 1 ∨ f = 2 then x / 262144 % 16 else 0
def tC (f : Nat) (x : Int) : Int := if f = 1 then x / 16384 % 16 else 0
def tN (f : Nat) (x : Int) : Int := if f = 2 then sgn (x % 16384) 8192 else if f = 3 ∨ f = 4 then sgn (x % 4194304) 2097152 else if f = 5 then x % 4194304 else 0
def isB (x : Int) : Bool := mayB (tK x) (tA (formN (tK x)) x) (tB (formN (tK x)) x) (tC (formN (tK x)) x) (tN (formN (tK x)) x) &&
  decide (word (tK x) (tA (formN (tK x)) x) (tB (formN (tK x)) x) (tC (formN (tK x)) x) (tN (formN (tK x)) x) = x)

theorem mayB_lt {k : Nat} {a b c n : Int} (h : mayB k a b c n = true) : k < 22 := by
  unfold mayB at h
  simp at h
  exact h.1
/-- What a form asks, in numbers. -/
def MayP (f : Nat) (a b c n : Int) : Prop :=
  (0 ≤ a ∧ a < 16) ∧ (0 ≤ b ∧ b < 16) ∧ (0 ≤ c ∧ c < 16) ∧ (f ≠ 1 → c = 0) ∧ (f ≠ 1 → f ≠ 2 → b = 0) ∧ (f = 0 ∨ f = 4 ∨ f = 5 → a = 0) ∧
  (f = 2 → -8192 ≤ n ∧ n < 8192) ∧ (f = 3 ∨ f = 4 → -2097152 ≤ n ∧ n < 2097152) ∧ (f = 5 → 0 ≤ n ∧ n ≤ 255) ∧ (f = 0 ∨ f = 1 ∨ f = 6 → n = 0)
theorem mayF_iff {f : Nat} {a b c n : Int} (hf : f < 7) : mayF f a b c n = true ↔ MayP f a b c n := by
  have : f = 0 ∨ f = 1 ∨ f = 2 ∨ f = 3 ∨ f = 4 ∨ f = 5 ∨ f = 6 := by omega
  rcases this with h | h | h | h | h | h | h <;> subst h <;> simp [mayF, okB, sameB, uA, uB, uC, uN, MayP, regB, inB, byteB] <;> omega
theorem mayP_of {k : Nat} {a b c n : Int} (h : mayB k a b c n = true) : MayP (formN k) a b c n := by
  unfold mayB at h
  simp only [Bool.and_eq_true] at h
  exact (mayF_iff (formN_lt k)).1 h.2

theorem low_bd (f : Nat) (n : Int) : 0 ≤ low f n ∧ low f n < 4194304 ∧ (f = 2 → low f n < 16384) := by
  unfold low
  split <;> omega
theorem word_bd {k : Nat} {a b c n : Int} (h : mayB k a b c n = true) : 0 ≤ word k a b c n ∧ word k a b c n < 4294967296 := by
  have hk := mayB_lt h
  have hm := mayP_of h
  unfold MayP at hm
  have hl := low_bd (formN k) n
  unfold word
  have hz : formN k = 1 → low (formN k) n = 0 := fun e => by
    have : n = 0 := hm.2.2.2.2.2.2.2.2.2 (by omega)
    simp [low, this, e]
  by_cases e1 : formN k = 1
  · have := hz e1
    omega
  · have hc := hm.2.2.2.1 e1
    by_cases e2 : formN k = 2
    · have := hl.2.2 e2
      omega
    · have hb := hm.2.2.2.2.1 e1 e2
      omega
/-- A word's parts, of an instruction that may be. -/
theorem take_word {k : Nat} {a b c n : Int} (h : mayB k a b c n = true) :
    tK (word k a b c n) = k ∧ tA (formN k) (word k a b c n) = a ∧ tB (formN k) (word k a b c n) = b ∧ tC (formN k) (word k a b c n) = c ∧ tN (formN k) (word k a b c n) = n := by
  have hk := mayB_lt h
  have hm := mayP_of h
  have hl := formN_lt k
  have hb := low_bd (formN k) n
  have hlow : low (formN k) n = if formN k = 2 then n % 16384 else n % 4194304 := rfl
  generalize hx : word k a b c n = x
  have hx' : (k : Int) * 67108864 + a * 4194304 + b * 262144 + c * 16384 + low (formN k) n = x := hx
  generalize formN k = f at *
  generalize low f n = m at *
  clear hx h
  obtain ⟨ha, hbb, hc, h1, h2, h3, h4, h5, h6, h7⟩ := hm
  have : f = 0 ∨ f = 1 ∨ f = 2 ∨ f = 3 ∨ f = 4 ∨ f = 5 ∨ f = 6 := by omega
  rcases this with h | h | h | h | h | h | h <;> subst h <;> simp only [tK, tA, tB, tC, tN, sgn] <;> simp at * <;> refine ⟨?_, ?_, ?_, ?_, ?_⟩ <;> (try split) <;> omega
theorem is_word {k : Nat} {a b c n : Int} (h : mayB k a b c n = true) : isB (word k a b c n) = true := by
  obtain ⟨h1, h2, h3, h4, h5⟩ := take_word h
  unfold isB
  rw [h1, h2, h3, h4, h5, h]
  simp
theorem word_one {k k' : Nat} {a b c n a' b' c' n' : Int} (h : mayB k a b c n = true) (h' : mayB k' a' b' c' n' = true) (e : word k a b c n = word k' a' b' c' n') : k = k' ∧ a = a' ∧ b = b' ∧ c = c' ∧ n = n' := by
  obtain ⟨h1, h2, h3, h4, h5⟩ := take_word h
  obtain ⟨g1, g2, g3, g4, g5⟩ := take_word h'
  rw [e, g1] at h1
  subst h1
  rw [e, g2] at h2
  rw [e, g3] at h3
  rw [e, g4] at h4
  rw [e, g5] at h5
  exact ⟨rfl, h2.symm, h3.symm, h4.symm, h5.symm⟩
end Go.Proofs.YtdaglmoibijdeaaDoor.CodePlain
