/-
  What Take of the program carries from step to step.
-/
import Derived.Test.YtdaglmoibijdeaaDoorITake
import Derived.Test.YtdaglmoibijdeaaDoorCodeTake
import Derived.Maps.OwnIn
namespace Go.Proofs.YtdaglmoibijdeaaDoor.ITakeT
open Go Go.RowKit Go.Shelf Base Words INum IVal ISum IRange IIter ITake CodePlain CodeTab CodeTake
set_option linter.unusedVariables false
set_option linter.unusedSimpArgs false
set_option maxRecDepth 100000
attribute [local go_sem] Oper.semAt_some

theorem words_any (t : ByteArray) (w : World) : Calls Tryd.prog 19 #[.string t] w fun e w' =>
    e = .returned (.func (.func 26) #[] #[.pointer (some ⟨w.heap.size, 0, none⟩)]) ∧ w' = w.alloc (.cells #[.string t] 9) := by
  go_enter Tryd.func19, Tryd.ntmps19
  go_wp2
  go_ret
  exact ⟨rfl, rfl⟩
/-- What the first loop carries. -/
structure T1 (w0 : World) (s : ByteArray) (E : Nat) (m : Int) (er : Int) (W : World) : Prop where
  T : TSt w0 W s (.slice none 0 0) er
  B : Blk W E 3 #[.int .i64 (5 + 4 * m)]
theorem blk_stay {D B b : Nat} {t : TypeId} {cs : Array Value} {W W' : World} {row : Option Nat} (h : Blk W b t cs) (hg : W.grownBy W' row) (hr : ∀ r, row = some r → r = B ∨ (D ≤ r ∧ ∃ o : Obj, W.heap[r]? = some o ∧ o.isCells = false)) (hb : b < D) (hne : b ≠ B) : Blk W' b t cs :=
  h.grown hg (fun e => by rcases hr _ e.symm with h1 | ⟨h1, _⟩ <;> omega)
theorem tst_stay {D B : Nat} {w0 W W' : World} {s : ByteArray} {v : Value} {er : Int} {row : Option Nat} (h : TSt w0 W s v er) (hg : W.grownBy W' row) (hr : ∀ r, row = some r → r = B ∨ (D ≤ r ∧ ∃ o : Obj, W.heap[r]? = some o ∧ o.isCells = false))
    (hD : w0.heap.size + 3 ≤ D) (hB : w0.heap.size + 3 ≤ B) : TSt w0 W' s v er :=
  ⟨blk_stay h.S hg hr (by omega) (by omega), blk_stay h.V hg hr (by omega) (by omega), blk_stay h.E hg hr (by omega) (by omega),
    h.bel.grown hg h.bel.size (fun k e => by rcases hr _ e with h1 | ⟨h1, _⟩ <;> omega)⟩
theorem T1.stay {D B : Nat} {w0 W W' : World} {s : ByteArray} {E : Nat} {m er : Int} {row : Option Nat} (h : T1 w0 s E m er W) (hg : W.grownBy W' row) (hr : ∀ r, row = some r → r = B ∨ (D ≤ r ∧ ∃ o : Obj, W.heap[r]? = some o ∧ o.isCells = false))
    (hD : w0.heap.size + 3 ≤ D) (hB : w0.heap.size + 3 ≤ B) (hE : E < D) (hne : E ≠ B) : T1 w0 s E m er W' := ⟨tst_stay h.T hg hr hD hB, blk_stay h.B hg hr hE hne⟩
theorem tail_list (s : ByteArray) (h : (s.size : Int) = 9 + 4 * manyS s) (h0 : 0 ≤ manyS s) : wordsL (s.extract (5 + 4 * manyS s).toNat s.size) = [sumS s] := by
  have hz : (s.extract (5 + 4 * manyS s).toNat s.size).size = 4 := by rw [ByteArray.size_extract]; omega
  unfold wordsL
  rw [hz]
  rw [show (4 / 4 : Nat) = 1 from rfl, show List.range 1 = [0] from rfl, List.map_cons, List.map_nil]
  refine congrArg (fun x => [x]) ?_
  unfold wordAt sumS
  refine val_congr 4 fun j hj => ?_
  rw [Nat.mul_zero, Nat.zero_add]
  exact bt_extract s (5 + 4 * manyS s).toNat s.size j (Nat.le_refl _) (by omega)
theorem eT_230 {s : ByteArray} (h : headB s = true) (hne : sumS s ≠ calcS s) : eT s = 230 ∧ outL s = [] := by
  have e : eT s = 230 := by unfold eT; rw [if_pos h, if_neg hne]
  exact ⟨e, by unfold outL; rw [e]; rfl⟩
theorem eT_231 {s : ByteArray} (h : headB s = true) (he : sumS s = calcS s) (hb : (wordsS s).all isB = false) : eT s = 231 ∧ outL s = [] := by
  have e : eT s = 231 := by unfold eT; rw [if_pos h, if_pos he, hb]; rfl
  exact ⟨e, by unfold outL; rw [e]; rfl⟩
theorem eT_0 {s : ByteArray} (h : headB s = true) (he : sumS s = calcS s) (hb : (wordsS s).all isB = true) : eT s = 0 ∧ outL s = wordsS s := by
  have e : eT s = 0 := by unfold eT; rw [if_pos h, if_pos he, hb]; rfl
  exact ⟨e, by unfold outL; rw [e]; rfl⟩
theorem below_put {B : Nat} {w0 W : World} (h : Below B w0 W) {D : Nat} (hD : B ≤ D) (o : Obj) : Below B w0 (W.putObj D o) := ⟨h.os, h.tape, h.output, by rw [show (W.putObj D o).heap.size = W.heap.size by simp]; exact h.size, fun i hi => (World.putObj_heap_other (by omega)).trans (h.block i hi)⟩
theorem blk_put {W : World} {b : Nat} {t : TypeId} {cs : Array Value} (h : Blk W b t cs) {D : Nat} (hD : b ≠ D) (o : Obj) : Blk (W.putObj D o) b t cs := (World.putObj_heap_other hD).trans h
theorem _root_.Go.Proofs.YtdaglmoibijdeaaDoor.ITake.TSt.put {w0 W : World} {s : ByteArray} {v : Value} {er : Int} (h : TSt w0 W s v er) {D : Nat} (hD : w0.heap.size + 3 ≤ D) (o : Obj) : TSt w0 (W.putObj D o) s v er :=
  ⟨blk_put h.S (by omega) o, blk_put h.V (by omega) o, blk_put h.E (by omega) o, below_put h.bel (by omega) o⟩
theorem sum_at (s : ByteArray) (h : (5 + 4 * manyS s).toNat ≤ s.size) (hs : s.size ≤ 9223372036854775807) (w : World) :
    Calls Tryd.prog 11 #[.string (s.extract 0 (5 + 4 * manyS s).toNat)] w fun e w' => e = .returned (.int .u32 (calcS s)) ∧ w = w' := by
  have hz : (s.extract 0 (5 + 4 * manyS s).toNat).size = (5 + 4 * manyS s).toNat := by rw [ByteArray.size_extract]; omega
  have := Sum_any (s.extract 0 (5 + 4 * manyS s).toNat) (by rw [hz]; unfold maxLen; omega) w
  rw [hz, sumF_congr (q := bt s) _ (fun j hj => by rw [bt_extract s 0 _ j h (by omega), Nat.zero_add])] at this
  exact this
theorem word_bd (s : ByteArray) (k : Nat) : 0 ≤ wordS s k ∧ wordS s k < 4294967296 := by
  have := val_bd (q := fun j => bt s (5 + 4 * k + j)) (n := 4) (fun j _ => bt_bd s _) 4 (Nat.le_refl _)
  exact this
theorem wordsS_len (s : ByteArray) : (wordsS s).length = (manyS s).toNat := by simp [wordsS]
theorem wordsS_at (s : ByteArray) (k : Nat) (h : k < (wordsS s).length) : (wordsS s)[k] = wordS s k := by simp [wordsS]
theorem body_list (s : ByteArray) (h : (s.size : Int) = 9 + 4 * manyS s) (h0 : 0 ≤ manyS s) : wordsL (s.extract 5 (5 + 4 * manyS s).toNat) = wordsS s := by
  have hz : (s.extract 5 (5 + 4 * manyS s).toNat).size = 4 * (manyS s).toNat := by rw [ByteArray.size_extract]; omega
  unfold wordsL wordsS
  rw [hz, Nat.mul_div_cancel_left _ (by omega : 0 < 4)]
  apply List.map_congr_left
  intro k hk
  have hk' : k < (manyS s).toNat := List.mem_range.1 hk
  unfold wordAt wordS
  refine val_congr 4 fun j hj => ?_
  rw [bt_extract s 5 (5 + 4 * manyS s).toNat (4 * k + j) (by omega) (by omega)]
  congr 1
  omega
theorem takeV_form (x : Int) : ∃ o a b c n : Int, takeV x = .agg #[.int .u8 o, .int .i64 a, .int .i64 b, .int .i64 c, .int .i64 n] := by
  unfold takeV
  split
  · exact ⟨_, _, _, _, _, rfl⟩
  · exact ⟨_, _, _, _, _, rfl⟩
theorem takeE_yes {x : Int} (h : isB x = true) : takeE x = 0 := by unfold takeE; rw [if_pos h]
theorem takeE_no {x : Int} (h : isB x = false) : takeE x = 6 := by unfold takeE; rw [if_neg (by rw [h]; decide)]
theorem all_no {l : List Int} {k : Nat} (hk : k < l.length) (h : isB l[k] = false) : l.all isB = false := by
  cases hq : l.all isB with
  | false => rfl
  | true =>
    rw [List.all_eq_true] at hq
    have := hq _ (List.getElem_mem hk)
    rw [h] at this
    cases this
theorem all_yes {l : List Int} {k : Nat} (hk : k < l.length) (hg : (l.take k).all isB = true) (h : isB l[k] = true) : (l.take (k + 1)).all isB = true := by
  rw [List.take_succ_eq_append_getElem hk, List.all_append, hg]
  simp [h]
theorem infoW : (Tryd.prog.info? 28).map (fun i => (i.zero, i.size, i.bytes)) = some (some (.int .u32 0), 1, 4) := by kernel_rfl
/-- What the second loop carries. -/
structure T2 (w0 : World) (s : ByteArray) (E : Nat) (m : Int) (O D Bx : Nat) (l : List Int) (v : Value) (W : World) : Prop where
  T : T1 w0 s E m 0 W
  O : Blk W O 25 #[v]
  own : W.ownsRow w0.heap.size 28 1 v l.length (rowV l)
  nb : v.ownBlock ≠ some Bx
  D : W.heap[D]? = some (.deferred (some []))
  sz : Bx < W.heap.size
theorem obj_stay {D0 B b : Nat} {o : Obj} {W W' : World} {row : Option Nat} (h : W.heap[b]? = some o) (hg : W.grownBy W' row) (hr : ∀ r, row = some r → r = B ∨ (D0 ≤ r ∧ ∃ o : Obj, W.heap[r]? = some o ∧ o.isCells = false)) (hb : b < D0) (hne : b ≠ B) : W'.heap[b]? = some o :=
  (hg.block b (Array.getElem?_eq_some_iff.1 h).1 (fun e => by rcases hr _ e.symm with h1 | ⟨h1, _⟩ <;> omega)).trans h
theorem T2.stay {D0 w0s : Nat} {w0 W W' : World} {s : ByteArray} {E : Nat} {m : Int} {O D Bx : Nat} {l : List Int} {v : Value} {row : Option Nat} (h : T2 w0 s E m O D Bx l v W) (hg : W.grownBy W' row)
    (hr : ∀ r, row = some r → r = Bx ∨ (D0 ≤ r ∧ ∃ o : Obj, W.heap[r]? = some o ∧ o.isCells = false))
    (hD : w0.heap.size + 3 ≤ D0) (hB : w0.heap.size + 3 ≤ Bx) (hE : E < D0) (hEne : E ≠ Bx) (hO : O < D0) (hOne : O ≠ Bx) (hDD : D < D0) (hDne : D ≠ Bx) : T2 w0 s E m O D Bx l v W' :=
  ⟨h.T.stay hg hr hD hB hE hEne, blk_stay h.O hg hr hO hOne, h.own.kept hg (by
    by_cases e : v.ownBlock = none
    · exact Or.inl e
    · refine Or.inr fun e2 => ?_
      cases hr0 : row with
      | none => rw [hr0] at e2; exact e e2
      | some r =>
        rw [hr0] at e2
        rcases hr r hr0 with h1 | ⟨_, o, ho, hc⟩
        · subst h1; exact h.nb e2
        · rcases h.own.2 with ⟨hv, _⟩ | ⟨g, cap, cur, hv, _, hh, _⟩
          · rw [hv] at e2; simp [Value.ownBlock] at e2
          · rw [hv] at e2
            simp [Value.ownBlock] at e2
            subst e2
            rw [hh] at ho
            cases ho
            simp [Obj.isCells] at hc), h.nb, obj_stay h.D hg hr hDD hDne, Nat.lt_of_lt_of_le h.sz hg.size⟩
theorem own_slice {w : World} {base : Nat} {e : TypeId} {size : Nat} {v : Value} {n : Nat} {xs : List Value} (h : w.ownsRow base e size v n xs) : ∃ A cap, v = .slice A n cap := by
  rcases h.2 with ⟨rfl, rfl⟩ | ⟨g, cap, cur, rfl, _⟩
  · exact ⟨_, _, rfl⟩
  · exact ⟨_, _, rfl⟩
theorem own_below {w w' : World} {base : Nat} {e : TypeId} {size : Nat} {v : Value} {n : Nat} {xs : List Value} (h : w.ownsRow base e size v n xs) (hb : Below w.heap.size w w') : w'.ownsRow base e size v n xs :=
  h.kept (only_of_below hb none) (by
    by_cases e : v.ownBlock = none
    · exact Or.inl e
    · exact Or.inr e)
theorem new_one (w : World) (ob : Obj) (x : Value) (t : TypeId) : ∀ j u, [x][j]? = some u → ((w.alloc ob).alloc (.cells #[x] t)).cell? ((⟨w.heap.size + 1, 0, none⟩ : Addr).add j) = some u := by
  have := cell_one_new (w.alloc ob) x t
  rw [World.size_alloc] at this
  exact this
theorem T2.keptO {w0 W W1 w6 : World} {s : ByteArray} {E : Nat} {m : Int} {O D Bx : Nat} {l : List Int} {v : Value} (h : T2 w0 s E m O D Bx l v W) (hb : Below W.heap.size W W1) (hg : W1.grownBy w6 v.ownBlock) : w6.cell? ⟨O, 0, none⟩ = some v ∧ w6.frozen? ⟨O, 0, none⟩ = false := by
  have nO : v.ownBlock ≠ some O := own_blk_ne h.own h.O (by decide)
  have := (h.O.below hb h.O.lt).grown hg (fun e => nO e.symm)
  exact ⟨this.cell 0, this.frozen 0⟩
/-- Where a word is none. -/
theorem T2.fail {w0 W W1 : World} {s : ByteArray} {E : Nat} {m : Int} {O D Bx : Nat} {l : List Int} {v : Value} (h : T2 w0 s E m O D Bx l v W) (hb : Below W.heap.size W W1) (ob : Obj) (hne : E ≠ w0.heap.size + 1 ∧ E ≠ w0.heap.size + 1 + 1) (hD : w0.heap.size + 3 ≤ D) :
    (∀ D0, KeepsFrom D0 W (((W1.alloc ob).setCell ⟨w0.heap.size + 1, 0, none⟩ (.slice none 0 0)).setCell ⟨w0.heap.size + 1 + 1, 0, none⟩ (.int .i64 231))) ∧
    (T1 w0 s E m 231 (((W1.alloc ob).setCell ⟨w0.heap.size + 1, 0, none⟩ (.slice none 0 0)).setCell ⟨w0.heap.size + 1 + 1, 0, none⟩ (.int .i64 231)) ∧
    (((W1.alloc ob).setCell ⟨w0.heap.size + 1, 0, none⟩ (.slice none 0 0)).setCell ⟨w0.heap.size + 1 + 1, 0, none⟩ (.int .i64 231)).heap[D]? = some (.deferred (some []))) := by
  refine ⟨fun D0 => ?_, ⟨((h.T.T.below hb).alloc ob).set _ 231, ((((h.T.B.below hb h.T.B.lt).alloc ob).far (p := ⟨w0.heap.size + 1, 0, none⟩) hne.1 _).far (p := ⟨w0.heap.size + 1 + 1, 0, none⟩) hne.2 _)⟩, ?_⟩
  · have k1 : KeepsFrom D0 W W1 := ⟨hb.size, fun k o _ hk _ => (hb.block k (Array.getElem?_eq_some_iff.1 hk).1).trans hk⟩
    exact ((k1.trans ((KeepsOthers.alloc W1 ob).from D0)).trans ((KeepsOthers.setCell _ _ _).from D0)).trans ((KeepsOthers.setCell _ _ _).from D0)
  · have hDl := (Array.getElem?_eq_some_iff.1 h.D).1
    rw [Below.heap_setCell _ ⟨w0.heap.size + 1 + 1, 0, none⟩ _ D (show D ≠ w0.heap.size + 1 + 1 by omega), Below.heap_setCell _ ⟨w0.heap.size + 1, 0, none⟩ _ D (show D ≠ w0.heap.size + 1 by omega)]
    exact (Below.heap_alloc W1 ob D (Nat.lt_of_lt_of_le hDl hb.size)).trans ((hb.block D hDl).trans h.D)
/-- At the end: the results laid, both blocks of deferred calls shut. -/
theorem T2.fin {w0 W : World} {s : ByteArray} {E : Nat} {m : Int} {O D Bx : Nat} {l : List Int} {v : Value} (h : T2 w0 s E m O D Bx l v W) {D2 : Nat} (h2 : W.heap[D2]? = some (.deferred (some []))) (hD : w0.heap.size + 3 ≤ D) (hD2 : w0.heap.size + 3 ≤ D2) (o : Obj) (hne : D ≠ D2) :
    ∃ W', W' = (W.setCell ⟨w0.heap.size + 1, 0, none⟩ v).setCell ⟨w0.heap.size + 1 + 1, 0, none⟩ (.int .i64 0) ∧ W'.heap[D2]? = some (.deferred (some [])) ∧ (W'.putObj D2 o).heap[D]? = some (.deferred (some [])) ∧
      TSt w0 ((W'.putObj D2 o).putObj D o) s v 0 ∧ ((W'.putObj D2 o).putObj D o).ownsRow w0.heap.size 28 1 v l.length (rowV l) := by
  refine ⟨_, rfl, ?_, ?_, ?_, ?_⟩
  · rw [Below.heap_setCell _ ⟨w0.heap.size + 1 + 1, 0, none⟩ _ D2 (show D2 ≠ w0.heap.size + 1 + 1 by omega), Below.heap_setCell _ ⟨w0.heap.size + 1, 0, none⟩ _ D2 (show D2 ≠ w0.heap.size + 1 by omega)]
    exact h2
  · rw [World.putObj_heap_other hne, Below.heap_setCell _ ⟨w0.heap.size + 1 + 1, 0, none⟩ _ D (show D ≠ w0.heap.size + 1 + 1 by omega), Below.heap_setCell _ ⟨w0.heap.size + 1, 0, none⟩ _ D (show D ≠ w0.heap.size + 1 by omega)]
    exact h.D
  · exact ((h.T.T.set v 0).put hD2 o).put hD o
  · have nV : v.ownBlock ≠ some (w0.heap.size + 1) := own_blk_ne h.own h.T.T.V (by decide)
    have nE : v.ownBlock ≠ some (w0.heap.size + 1 + 1) := own_blk_ne h.own h.T.T.E (by decide)
    have nX : ∀ {b : Nat}, W.heap[b]? = some (.deferred (some [])) → v.ownBlock ≠ some b := by
      intro b hb e
      rcases h.own.2 with ⟨hv, _⟩ | ⟨g, cap, cur, hv, _, hh, _⟩
      · rw [hv] at e; simp [Value.ownBlock] at e
      · rw [hv] at e
        simp [Value.ownBlock] at e
        subst e
        rw [hh] at hb
        cases hb
    have h1 := h.own.kept (only_setCell (World.grownBy.refl W (some (w0.heap.size + 1))) (p := ⟨w0.heap.size + 1, 0, none⟩) (Or.inl rfl) v) (Or.inr nV)
    have h3 := h1.kept (only_setCell (World.grownBy.refl _ (some (w0.heap.size + 1 + 1))) (p := ⟨w0.heap.size + 1 + 1, 0, none⟩) (Or.inl rfl) (.int .i64 0)) (Or.inr nE)
    exact (h3.kept (grownBy_putObj' _ D2 o) (Or.inr (nX h2))).kept (grownBy_putObj' _ D o) (Or.inr (nX h.D))
/-- Behind one more word. -/
theorem T2.next {w0 W W1 w6 : World} {s : ByteArray} {E : Nat} {m : Int} {O D Bx : Nat} {l : List Int} {v v6 : Value} {x : Int} (h : T2 w0 s E m O D Bx l v W) (hb : Below W.heap.size W W1)
    (hown : w6.ownsRow w0.heap.size 28 1 v6 (l.length + 1) (rowV l ++ [.int .u32 x])) (hg : W1.grownBy w6 v.ownBlock) (hat : v6.ownBlock = v.ownBlock ∨ v6.ownBlock = some W1.heap.size) (hne : O ≠ E ∧ w0.heap.size + 3 ≤ O) (hDO : D ≠ O) (hOB : O ≠ Bx) :
    T2 w0 s E m O D Bx (l ++ [x]) v6 (w6.setCell ⟨O, 0, none⟩ v6) ∧ (∀ D0, KeepsFrom D0 W (w6.setCell ⟨O, 0, none⟩ v6)) ∧ (w6.setCell ⟨O, 0, none⟩ v6).heap[Bx]? = W.heap[Bx]? := by
  have hOlt := h.O.lt
  have nO : v.ownBlock ≠ some O := own_blk_ne h.own h.O (by decide)
  have nS : v.ownBlock ≠ some w0.heap.size := own_blk_ne h.own h.T.T.S (by decide)
  have nV : v.ownBlock ≠ some (w0.heap.size + 1) := own_blk_ne h.own h.T.T.V (by decide)
  have nE : v.ownBlock ≠ some (w0.heap.size + 1 + 1) := own_blk_ne h.own h.T.T.E (by decide)
  have nX : v.ownBlock ≠ some E := own_blk_ne h.own h.T.B (by decide)
  have nD : v.ownBlock ≠ some D := by
    intro e
    rcases h.own.2 with ⟨hv, _⟩ | ⟨g, cap, cur, hv, _, hh, _⟩
    · rw [hv] at e; simp [Value.ownBlock] at e
    · rw [hv] at e
      simp [Value.ownBlock] at e
      subst e
      have := h.D
      rw [hh] at this
      cases this
  have far : ∀ {b : Nat} {t : TypeId} {cs : Array Value}, Blk W b t cs → v.ownBlock ≠ some b → b ≠ O → Blk (w6.setCell ⟨O, 0, none⟩ v6) b t cs := fun hB hn hO => ((hB.below hb hB.lt).grown hg (fun e => hn e.symm)).far (p := ⟨O, 0, none⟩) hO _
  have hb6 : Below w0.heap.size w0 w6 := by
    have h1 : Below w0.heap.size w0 W1 := below_then h.T.T.bel hb
    exact h1.grown hg h1.size (fun k hk => (h.own.lt k hk).1)
  have fO : Blk (w6.setCell ⟨O, 0, none⟩ v6) O 25 #[v6] := by
    have := ((h.O.below hb hOlt).grown hg (fun e => nO e.symm)).set_ 0 v6
    simpa using this
  have n6 : ∀ b, b < W.heap.size → v.ownBlock ≠ some b → v6.ownBlock ≠ some b := by
    intro b hlt hn
    rcases hat with e | e
    · rw [e]; exact hn
    · rw [e]; intro e2; injection e2 with e2; have := hb.size; omega
  have hBx : W1.heap[Bx]? = W.heap[Bx]? := hb.block Bx h.sz
  have hS := h.T.T.S.lt
  have hV := h.T.T.V.lt
  have hE3 := h.T.T.E.lt
  have hEl := h.T.B.lt
  refine ⟨⟨⟨⟨far h.T.T.S nS (by omega), far h.T.T.V nV (by omega), far h.T.T.E nE (by omega), hb6.setCell (p := ⟨O, 0, none⟩) (show w0.heap.size ≤ O by omega) _⟩, far h.T.B nX (fun e => hne.1 e.symm)⟩, fO, ?_, n6 Bx h.sz h.nb, ?_, ?_⟩, fun D0 => ?_, ?_⟩
  · have e1 : rowV (l ++ [x]) = rowV l ++ [.int .u32 x] := by simp [rowV]
    rw [e1, List.length_append]
    exact hown.kept (only_setCell (World.grownBy.refl w6 (some O)) (p := ⟨O, 0, none⟩) (Or.inl rfl) v6) (Or.inr (n6 O hOlt nO))
  · have hDl := (Array.getElem?_eq_some_iff.1 h.D).1
    exact (Below.heap_setCell w6 ⟨O, 0, none⟩ v6 D hDO).trans ((hg.block D (Nat.lt_of_lt_of_le hDl hb.size) (fun e => nD e.symm)).trans ((hb.block D hDl).trans h.D))
  · have h1 := hb.size
    have h2 := hg.size
    have h3 := h.sz
    simp [World.setCell]
    omega
  · have k1 : KeepsFrom D0 W W1 := ⟨hb.size, fun k o _ hk _ => (hb.block k (Array.getElem?_eq_some_iff.1 hk).1).trans hk⟩
    have k2 : KeepsOthers W1 w6 := KeepsOthers.of_grownBy hg (fun j o hj ho => by
      rcases h.own.2 with ⟨hv, _⟩ | ⟨g, cap, cur, hv, _, hh, _⟩
      · rw [hv] at hj; simp [Value.ownBlock] at hj
      · rw [hv] at hj
        simp [Value.ownBlock] at hj
        subst hj
        have hgl := (Array.getElem?_eq_some_iff.1 hh).1
        rw [hb.block g hgl, hh] at ho
        cases ho
        rfl)
    exact (k1.trans (k2.from D0)).trans ((KeepsOthers.setCell w6 ⟨O, 0, none⟩ v6).from D0)
  · have hBl : Bx < W1.heap.size := Nat.lt_of_lt_of_le h.sz hb.size
    exact (Below.heap_setCell w6 ⟨O, 0, none⟩ v6 Bx (fun e => hOB e.symm)).trans ((hg.block Bx hBl (fun e => h.nb e.symm)).trans hBx)
end Go.Proofs.YtdaglmoibijdeaaDoor.ITakeT
