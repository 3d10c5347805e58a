/-
  A range over a function that keeps its state in one cell of its own: the statement's law (the kit's laws ask that the iterator leave all old cells alone).
-/
import Derived.RangeFuncWrites
import Derived.RangeFuncBound
import Derived.RangeFuncCalls
import Derived.RangeFuncLeaves
import Derived.Test.YtdaglmoibijdeaaDoorISum
namespace Go.Proofs.YtdaglmoibijdeaaDoor.IRange
open Go Go.RowKit
set_option linter.unusedVariables false

/-- Abides new blocks and a turn of block B. -/
def Stay (B : Nat) (J : Nat → World → Prop) : Prop := ∀ k W W' row, J k W → W.grownBy W' row → (∀ r, row = some r → r = B) → J k W'
/-- Abides, beside, a turn of a new block that holds no cells. -/
def Holds (D B : Nat) (I : Nat → World → Prop) : Prop :=
  ∀ k W W' row, I k W → W.grownBy W' row → (∀ r, row = some r → r = B ∨ (D ≤ r ∧ ∃ o : Obj, W.heap[r]? = some o ∧ o.isCells = false)) → I k W'
/-- What the iterator owes: it hands xs over, one behind the other, and writes its own block alone. -/
def Iter (P : Program) (gf B : Nat) (xs : List Int) (w : World) : Prop :=
  ∀ (l : Nat) (J Jx : Nat → World → Prop) (W : World), Below w.heap.size w W → Stay B J → Stay B Jx →
    (∀ (k : Nat) (h : k < xs.length) (W1 : World), J k W1 → YieldAt Fence.wide 0 P l #[.int .u32 xs[k]] W1 fun e W' =>
      (e = .returned (.bool true) ∧ J (k + 1) W' ∧ W'.heap[B]? = W1.heap[B]?) ∨ (e = .returned (.bool false) ∧ Jx k W')) →
    J 0 W →
    CallsIn Fence.wide 0 P gf #[.func (.yield l) #[] #[], .pointer (some ⟨B, 0, none⟩)] W fun e W' => (∃ v, e = .returned v) ∧ (J xs.length W' ∨ ∃ k, k < xs.length ∧ Jx k W')
/-- How a round may end. -/
def roundEnd (D B : Nat) (I Ix : Nat → World → Prop) (k : Nat) (W : World) : Exit → Act → World → Prop
  | .normal, _, W' => KeepsFrom D W W' ∧ W'.heap[B]? = W.heap[B]? ∧ I (k + 1) W'
  | .ret, _, W' => KeepsFrom D W W' ∧ Ix k W'
  | _, _, _ => False

variable {P : Program}
theorem put_far {W : World} {l b : Nat} {o : Obj} (h : b ≠ l) : (W.putObj l o).heap[b]? = W.heap[b]? := World.putObj_heap_other h
/-- The statement's law. -/
theorem range_wp {g : Operand} {p : Tmp} {assign body : Code} {Q : Exit → Act → World → Prop} {a : Act} {w : World} {gf B : Nat} {xs : List Int}
    (hg : a.eval g = .func (.func gf) #[] #[.pointer (some ⟨B, 0, none⟩)]) (eg : ∀ args w, (callFunc gf args).run P w = .ok (.enter gf args) w)
    (hit : Iter P gf B xs w) (hB : B < w.heap.size) (I Ix : Nat → World → Prop) (hI : Holds w.heap.size B I) (hIx : Holds w.heap.size B Ix) (h0 : I 0 w) (a₁ : Int → Act)
    (hassign : ∀ (l : Nat) (x : Int) (W : World) (K : Act → World → Prop), K (a₁ x) W →
      assign.wpIn (Fence.wide.inRound l) 0 P (Exit.then K (fun _ _ _ => False)) { tmps := a.tmps.setIfInBounds p (.int .u32 x), defers := [] } W)
    (hbody : ∀ (l k : Nat) (h : k < xs.length) (W : World), I k W → body.wpIn (Fence.wide.inRound l) 0 P (roundEnd w.heap.size B I Ix k W) (a₁ xs[k]) W)
    (hdone : ∀ (D : Nat) (W : World), w.heap.size ≤ D → I xs.length W → W.heap[D]? = some (.deferred (some [])) → Q .normal { a with defers := { target := .collected D, args := #[] } :: a.defers } W)
    (hstop : ∀ (D k : Nat) (W : World), w.heap.size ≤ D → k < xs.length → Ix k W → W.heap[D]? = some (.deferred (some [])) → Code.ret.wp P Q { a with defers := { target := .collected D, args := #[] } :: a.defers } W) :
    (Code.rangeFunc g #[p] assign body).wp P Q a w := by
  refine wpIn_wide (n := 0) |>.1 (wpIn_rangeFunc fun fn hfn => ?_)
  obtain ⟨R, hR⟩ : ∃ R : LoopState → Option Code → Obj, R = fun st pe => .loop { state := st, pending := pe, fn, tmps := a.tmps, params := #[p], assign, body, defers := w.heap.size } := ⟨_, rfl⟩
  have hRc : ∀ st pe, (R st pe).isCells = false := fun st pe => by rw [hR]; rfl
  obtain ⟨w1, hw1⟩ : ∃ w1, w1 = (w.alloc (.deferred (some []))).alloc (R .ready none) := ⟨_, rfl⟩
  have e1 : w1.heap[w.heap.size + 1]? = some (R .ready none) := by
    rw [hw1]; have := World.alloc_heap_new (w.alloc (.deferred (some []))) (R .ready none); rwa [World.size_alloc] at this
  have e2 : w1.heap[w.heap.size]? = some (.deferred (some [])) := by
    rw [hw1]; exact (Below.heap_alloc _ _ _ (by simp)).trans (World.alloc_heap_new w _)
  have e3 : I 0 w1 := by
    rw [hw1]
    exact hI _ _ _ none (hI _ _ _ none h0 (World.grownBy_alloc _ _ none) (fun r e => by cases e)) (World.grownBy_alloc _ _ none) (fun r e => by cases e)
  have e4 : Below w.heap.size w w1 := by
    rw [hw1]; exact ((Below.refl _ w).alloc (Nat.le_refl _) _).alloc (by simp) _
  -- what is carried from round to round: the caller's word; the loop's record; the block of deferred calls
  let J : Nat → World → Prop := fun k W => I k W ∧ W.heap[w.heap.size + 1]? = some (R .ready none) ∧ W.heap[w.heap.size]? = some (.deferred (some []))
  let Jx : Nat → World → Prop := fun k W => Ix k W ∧ W.heap[w.heap.size + 1]? = some (R .done (some .ret)) ∧ W.heap[w.heap.size]? = some (.deferred (some []))
  have far : ∀ {W W' : World} {row : Option Nat} {b : Nat} {o : Obj}, W.grownBy W' row → (∀ r, row = some r → r = B) → W.heap[b]? = some o → w.heap.size ≤ b → W'.heap[b]? = some o :=
    fun hg hr hb hle => (hg.block _ (Array.getElem?_eq_some_iff.1 hb).1 (fun e => by have := hr _ e.symm; omega)).trans hb
  have sJ : Stay B J := fun k W W' row h hg hr => ⟨hI k W W' row h.1 hg (fun r e => Or.inl (hr r e)), far hg hr h.2.1 (by omega), far hg hr h.2.2 (Nat.le_refl _)⟩
  have sJx : Stay B Jx := fun k W W' row h hg hr => ⟨hIx k W W' row h.1 hg (fun r e => Or.inl (hr r e)), far hg hr h.2.1 (by omega), far hg hr h.2.2 (Nat.le_refl _)⟩
  have turn : ∀ {Y : Nat → World → Prop}, Holds w.heap.size B Y → ∀ {k : Nat} {W : World} {o : Obj} (o' : Obj), Y k W → W.heap[w.heap.size + 1]? = some o → o.isCells = false → Y k (W.putObj (w.heap.size + 1) o') :=
    fun hY k W o o' h hl hc => hY _ _ _ (some (w.heap.size + 1)) h (grownBy_putObj' _ _ _) (fun r e => by cases e; exact Or.inr ⟨by omega, o, hl, hc⟩)
  refine ⟨w.heap.size + 1, [{ target := .collected w.heap.size, args := #[] }], w1, { target := .fn (.func gf) #[.pointer (some ⟨B, 0, none⟩)], args := #[.func (.yield (w.heap.size + 1)) #[] #[]] }, w1, gf,
    #[.func (.yield (w.heap.size + 1)) #[] #[], .pointer (some ⟨B, 0, none⟩)], w1, ?_, ?_, fun _ _ => trivial, ?_, (fun h => by cases h), ?_⟩
  · rw [hw1, hR]; exact run_enterLoop_outer _ _ _ _ _
  · simp only [resolve, hg]
    simp [go_sem]
  · simp [invoke, go_sem, eg]
  · refine (hit (w.heap.size + 1) J Jx w1 e4 sJ sJx ?_ ⟨e3, e1, e2⟩).mono ?_
    · rintro k hk W ⟨hi, hl, hd⟩
      have hsz : w.heap.size + 1 < W.heap.size := (Array.getElem?_eq_some_iff.1 hl).1
      have hl' := hl
      rw [hR] at hl'
      have hy := run_yield (P := P) (args := #[.int .u32 xs[k]]) hl' rfl
      have hz : (#[p].zip #[Value.int .u32 xs[k]]) = #[(p, Value.int .u32 xs[k])] := by simp
      refine ⟨fn, _, assign, body, hy, roundIn_of_wpIn hfn ?_⟩
      dsimp only
      rw [hz]
      refine hassign _ xs[k] W _ ?_
      refine ⟨_, run_beginRound hl' rfl, ?_⟩
      have hbusy : (Obj.loop { state := .busy, pending := none, fn, tmps := a.tmps, params := #[p], assign, body, defers := w.heap.size }) = R .busy none := by rw [hR]
      show body.wpIn _ _ _ _ _ (W.putObj (w.heap.size + 1) (Obj.loop { state := .busy, pending := none, fn, tmps := a.tmps, params := #[p], assign, body, defers := w.heap.size }))
      rw [hbusy]
      have hl2 : (W.putObj (w.heap.size + 1) (R .busy none)).heap[w.heap.size + 1]? = some (R .busy none) := World.putObj_heap_same hsz
      have hd2 : (W.putObj (w.heap.size + 1) (R .busy none)).heap[w.heap.size]? = some (.deferred (some [])) := (put_far (by omega)).trans hd
      refine wpIn_mono (hbody _ k hk _ (turn hI _ hi hl (hRc _ _))) ?_
      rintro e a3 W3 hp
      cases e with
      | normal =>
        obtain ⟨hkf, hkb, hi3⟩ := hp
        have hl3 := hkf.same _ _ (by omega) hl2 (hRc _ _)
        have hd3 := hkf.same _ _ (Nat.le_refl _) hd2 rfl
        have hl3' := hl3
        rw [hR] at hl3'
        refine ⟨_, _, run_endRound none hl3', Or.inl ⟨rfl, ⟨turn hI _ hi3 hl3 (hRc _ _), ?_, (put_far (by omega)).trans hd3⟩, ?_⟩⟩
        · have := World.putObj_heap_same (o := R .ready none) (Array.getElem?_eq_some_iff.1 hl3).1
          rw [hR] at this ⊢
          exact this
        · rw [put_far (by omega), hkb, put_far (by omega)]
      | ret =>
        obtain ⟨hkf, hi3⟩ := hp
        have hl3 := hkf.same _ _ (by omega) hl2 (hRc _ _)
        have hd3 := hkf.same _ _ (Nat.le_refl _) hd2 rfl
        have hl3' := hl3
        rw [hR] at hl3'
        refine ⟨_, _, run_endRound (some .ret) hl3', Or.inr ⟨rfl, turn hIx _ hi3 hl3 (hRc _ _), ?_, (put_far (by omega)).trans hd3⟩⟩
        have := World.putObj_heap_same (o := R .done (some .ret)) (Array.getElem?_eq_some_iff.1 hl3).1
        rw [hR] at this ⊢
        exact this
      | exit id => exact hp.elim
      | goto t => exact hp.elim
      | panic ch => exact hp.elim
      | outgrown => exact hp.elim
    · rintro e W2 ⟨⟨v, rfl⟩, (⟨hi, hl, hd⟩ | ⟨k, hk, hi, hl, hd⟩)⟩
      · have hl' := hl
        rw [hR] at hl'
        exact ⟨none, _, run_endLoop hl' (by simp), hdone _ _ (Nat.le_refl _) (turn hI _ hi hl (hRc _ _)) ((put_far (by omega)).trans hd)⟩
      · have hl' := hl
        rw [hR] at hl'
        exact ⟨some .ret, _, run_endLoop hl' (by simp), wpIn_wide.2 (hstop _ k _ (Nat.le_refl _) hk (turn hIx _ hi hl (hRc _ _)) ((put_far (by omega)).trans hd))⟩
/-- The same where the loop's variable is laid into slot q. -/
theorem range_at {g : Operand} {p : Tmp} {assign body : Code} {Q : Exit → Act → World → Prop} {a : Act} {w : World} {gf B : Nat} {xs : List Int} (q : Tmp)
    (hg : a.eval g = .func (.func gf) #[] #[.pointer (some ⟨B, 0, none⟩)]) (eg : ∀ args w, (callFunc gf args).run P w = .ok (.enter gf args) w)
    (hit : Iter P gf B xs w) (hB : B < w.heap.size) (I Ix : Nat → World → Prop) (hI : Holds w.heap.size B I) (hIx : Holds w.heap.size B Ix) (h0 : I 0 w)
    (hassign : ∀ (l : Nat) (x : Int) (W : World) (K : Act → World → Prop), K { tmps := (a.tmps.setIfInBounds p (.int .u32 x)).setIfInBounds q (.int .u32 x), defers := [] } W →
      assign.wpIn (Fence.wide.inRound l) 0 P (Exit.then K (fun _ _ _ => False)) { tmps := a.tmps.setIfInBounds p (.int .u32 x), defers := [] } W)
    (hbody : ∀ (l k : Nat) (h : k < xs.length) (W : World), I k W → body.wpIn (Fence.wide.inRound l) 0 P (roundEnd w.heap.size B I Ix k W) { tmps := (a.tmps.setIfInBounds p (.int .u32 xs[k])).setIfInBounds q (.int .u32 xs[k]), defers := [] } W)
    (hdone : ∀ (D : Nat) (W : World), w.heap.size ≤ D → I xs.length W → W.heap[D]? = some (.deferred (some [])) → Q .normal { a with defers := { target := .collected D, args := #[] } :: a.defers } W)
    (hstop : ∀ (D k : Nat) (W : World), w.heap.size ≤ D → k < xs.length → Ix k W → W.heap[D]? = some (.deferred (some [])) → Code.ret.wp P Q { a with defers := { target := .collected D, args := #[] } :: a.defers } W) :
    (Code.rangeFunc g #[p] assign body).wp P Q a w :=
  range_wp hg eg hit hB I Ix hI hIx h0 (fun x => { tmps := (a.tmps.setIfInBounds p (.int .u32 x)).setIfInBounds q (.int .u32 x), defers := [] }) hassign hbody hdone hstop
end Go.Proofs.YtdaglmoibijdeaaDoor.IRange
