/-
  The entries that a law keeps itself, beside the log: a slice of the law's own.
-/
import Derived.Test.YtnhfbdjjbmhnkaaUOwnP
namespace Go.Proofs.Ytnhfbdjjbmhnkaa.UTellsP
open Go.RowKit PPlain Base PMay PRefMay PWalk MMem UPlain UWalk UAdd UAt UNew MRef MCopy URef ULog UPair Opens UOwnP Words
set_option linter.unusedVariables false

/-- The slice's cells in a block of the law's own; it is not the memory's. -/
structure Has (w0 w : World) (A : Option Addr) (n c : Nat) (E : Nat → Int) (p : Nat) : Prop where
  own : w.ownsRow w0.heap.size 40 2 (.slice A n c) n (wordsL E (n * 2))
  ne : ∀ g, (Value.slice A n c).ownBlock = some g → p ≠ g
section
variable {w0 w w' : World} {A A' : Option Addr} {n c c' : Nat} {E : Nat → Int} {p : Nat}
theorem own_type {base : Nat} {e : TypeId} {size : Nat} {v : Value} {xs : List Value} (h : w.ownsRow base e size v n xs) {g : Nat} (hg : v.ownBlock = some g) : ∃ cur, Blk w g e cur := by
  rcases h.2 with ⟨rfl, _⟩ | ⟨g', cap, cur, rfl, _, hh, _⟩
  · simp [Value.ownBlock] at hg
  · obtain rfl : g' = g := by simpa [Value.ownBlock] using hg
    exact ⟨cur, hh⟩
theorem own_keep {base : Nat} {e : TypeId} {size : Nat} {v : Value} {xs : List Value} (h : w.ownsRow base e size v n xs) (hk : ∀ g cur, Blk w g e cur → w'.heap[g]? = w.heap[g]?) : w'.ownsRow base e size v n xs := by
  refine ⟨h.1, ?_⟩
  rcases h.2 with h1 | ⟨g', cap, cur, e1, e2, hh, e3⟩
  · exact .inl h1
  · exact .inr ⟨g', cap, cur, e1, e2, (hk g' cur hh).trans hh, e3⟩
theorem Has.below (h : Has w0 w A n c E p) (hb : Below w.heap.size w w') : Has w0 w' A n c E p := ⟨own_keep h.own fun g cur hg => hb.block g hg.lt, h.ne⟩
theorem Has.two {D l : Nat} (h : Has w0 w A n c E p) (ht : Two D l w w') {m m' : Nat} {t t' : TypeId} {f f' : Nat → Value} (hD : Row w D t m f) (hl : Row w l t' m' f') (h1 : 40 ≠ t) (h2 : 40 ≠ t') : Has w0 w' A n c E p :=
  ⟨own_keep h.own fun g cur hg => ht.block g hg.lt (blk_ne hg hD h1) (blk_ne hg hl h2), h.ne⟩
theorem Has.less {m : Nat} (h : Has w0 w A n c E p) (hm : m ≤ n) : Has w0 w A m c E p := by
  refine ⟨⟨by simp [wordsL], ?_⟩, fun g hg => h.ne g (by
    cases A
    · simp [Value.ownBlock] at hg
    · simpa [Value.ownBlock] using hg)⟩
  rcases h.own.2 with ⟨h1, h2⟩ | ⟨g', cap, cur, e1, e2, hh, e3, e4, e5, e6⟩
  · subst h2
    obtain rfl : m = 0 := by omega
    exact .inl ⟨h1, rfl⟩
  · injection e1 with a1 a2 a3
    subst a1 a3
    refine .inr ⟨g', c, cur, rfl, e2, hh, by omega, e4, e5, ?_⟩
    have : (cur.toList.take (n * 2)).take (m * 2) = (wordsL E (n * 2)).take (m * 2) := by rw [e6]
    rw [List.take_take, Nat.min_eq_left (by omega)] at this
    rw [this]
    simp only [wordsL, ← List.map_take]
    congr 1
    rw [List.take_range, Nat.min_eq_left (by omega)]
theorem Has.cap (h : Has w0 w A n c E p) : n ≤ c := by
  rcases h.own.2 with ⟨h1, h2⟩ | ⟨g', cap, cur, e1, e2, hh, e3, e4, e5, e6⟩
  · omega
  · injection e1 with a1 a2 a3
    omega
theorem Has.row (h : Has w0 w A n c E p) (hn : 0 < n) : ∃ g, A = some ⟨g, 0, none⟩ ∧ Row w g 40 (n * 2) (fun j => .int .u32 (E j)) := by
  rcases h.own.2 with ⟨h1, h2⟩ | ⟨g', cap, cur, e1, e2, hh, e3, e4, e5, e6⟩
  · omega
  · injection e1 with a1 a2 a3
    subst a1 a3
    exact ⟨g', rfl, (row2_of_own h.own (fun i hi => wordsL_get E hi)).1⟩
theorem Has.none_ (w0 w : World) (E : Nat → Int) (p : Nat) : Has w0 w none 0 0 E p := ⟨World.ownsRow_nil _ _ _ _, fun g hg => by simp [Value.ownBlock] at hg⟩
theorem words_add (E : Nat → Int) (n : Nat) (a o : Int) : wordsL E (n * 2) ++ [.int .u32 a, .int .u32 o] = wordsL (addEnt E n a o) ((n + 1) * 2) := by
  apply List.ext_getElem?
  intro i
  by_cases hi : i < (n + 1) * 2
  · rw [addEnt_get E n a o i hi, wordsL_get _ hi]
  · rw [List.getElem?_eq_none (by simp [wordsL]; omega), List.getElem?_eq_none (by simp [wordsL]; omega)]
/-- What append leaves. -/
theorem Has.after {w5 : World} {a o : Int} {g cap : Nat} (h : Has w0 w A n c E p) (hp : p < w5.heap.size) (hs : w5.heap.size ≤ w'.heap.size) (hown : w'.ownsRow w0.heap.size 40 2 (.slice (some ⟨g, 0, none⟩) (n + 1) cap) (n + 1) (wordsL E (n * 2) ++ [.int .u32 a, .int .u32 o]))
    (hat : (Value.slice (some ⟨g, 0, none⟩) (n + 1) cap).ownBlock = (Value.slice A n c).ownBlock ∨ ∃ k, w5.heap.size ≤ k ∧ (Value.slice (some ⟨g, 0, none⟩) (n + 1) cap).ownBlock = some k) : Has w0 w' (some ⟨g, 0, none⟩) (n + 1) cap (addEnt E n a o) p := by
  rw [words_add] at hown
  refine ⟨hown, fun k hk => ?_⟩
  rcases hat with e | ⟨k', hk', e⟩
  · exact h.ne k (by rw [← e]; exact hk)
  · rw [e] at hk
    injection hk with hk
    omega
variable {l : Nat} {c0 c1 c2 c3 c4 c5 c6 c7 : Int} {first many : Int} {D nb : Nat} {F : Nat → Int} {B : Nat} {cs : Array Value}
/-- The log and its box stand while the law's own slice grows. -/
theorem LB.grow (h : LB w0 w l c0 c1 c2 c3 c4 c5 c6 c7 p first many D nb F B cs) {row : Option Nat} (hg : w.grownBy w' row) (hr : ∀ g, row = some g → w0.heap.size ≤ g ∧ p ≠ g ∧ ∃ cur, Blk w g 40 cur) : LB w0 w' l c0 c1 c2 c3 c4 c5 c6 c7 p first many D nb F B cs := by
  rcases row with _ | g
  · exact h.below ⟨hg.os, hg.tape, hg.output, hg.size, fun i hi => hg.block i hi (by simp)⟩
  · obtain ⟨hb, hp, cur, hB⟩ := hr g rfl
    have ht : Two g g w w' := ⟨hg.os, hg.tape, hg.output, hg.size, fun i hi h1 _ => hg.block i hi (fun e => h1 (by injection e))⟩
    refine ⟨h.L.other ht hb hb (Ne.symm (blk_ne hB h.L.log (by decide))) (Ne.symm (blk_ne hB h.L.log (by decide))) hp hp (Ne.symm (blk_ne hB h.L.mem.2.2.2 (by decide))) (Ne.symm (blk_ne hB h.L.mem.2.2.2 (by decide))), ?_⟩
    exact h.B.grown hg (fun e => by
      injection e with e
      subst e
      exact Blk.ne_ hB h.B (by decide) rfl)
end
end Go.Proofs.Ytnhfbdjjbmhnkaa.UTellsP
