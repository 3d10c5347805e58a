/-
  Take of the program walked.
-/
import Derived.Test.YtdaglmoibijdeaaDoorIIter
import Derived.Test.YtdaglmoibijdeaaDoorCodeTab
import Derived.Deep.Cut
namespace Go.Proofs.YtdaglmoibijdeaaDoor.ITake
open Go Go.RowKit Go.Shelf Base Words INum IVal ISum IRange IIter CodePlain CodeTab
set_option linter.unusedVariables false
set_option linter.unusedSimpArgs false
set_option maxRecDepth 100000
attribute [local go_sem] Oper.semAt_some

def magic : ByteArray := ⟨#[85, 84, 1]⟩
def manyS (s : ByteArray) : Int := val (fun j => bt s (3 + j)) 2
theorem manyS_bd (s : ByteArray) : 0 ≤ manyS s ∧ manyS s < 65536 := val_bd (n := 2) (fun j _ => bt_bd s _) 2 (Nat.le_refl _)
def headB (s : ByteArray) : Bool := decide (9 ≤ s.size) && decide (s.extract 0 3 = magic) && decide (manyS s ≤ 1024) && decide ((s.size : Int) = 9 + 4 * manyS s)
def sumS (s : ByteArray) : Int := val (fun j => bt s ((5 + 4 * manyS s).toNat + j)) 4
def calcS (s : ByteArray) : Int := sumF (bt s) (5 + 4 * manyS s).toNat
def wordS (s : ByteArray) (k : Nat) : Int := val (fun j => bt s (5 + 4 * k + j)) 4
def wordsS (s : ByteArray) : List Int := (List.range (manyS s).toNat).map (wordS s)
def eT (s : ByteArray) : Int := if headB s = true then (if sumS s = calcS s then (if (wordsS s).all isB = true then 0 else 231) else 230) else 6
def outL (s : ByteArray) : List Int := if eT s = 0 then wordsS s else []
def rowV (l : List Int) : List Value := l.map (Value.int .u32)
theorem tl_eq {a : ByteArray} (h : a = magic) : (a.toList == [85, 84, 1]) = true := by
  subst h
  rw [ByteArray.toList_eq]
  rfl
theorem tl_ne {a : ByteArray} (h : a ≠ magic) : (a.toList == [85, 84, 1]) = false := by
  cases hq : a.toList == [85, 84, 1] with
  | false => rfl
  | true =>
    rw [beq_iff_eq, ByteArray.toList_eq] at hq
    exact absurd (ByteArray.ext (by rw [← Array.toArray_toList (xs := a.data), hq]; rfl)) h
/-- The two results, read out of their cells. -/
theorem results_two {P : Program} {w : World} {fn : Func} {tmps : Array Value} {p q : Tmp} {tp tq : TypeId} (hr : fn.results = #[.cell p tp, .cell q tq]) {b c : Nat} (hp : tmps.getD p undef = .pointer (some ⟨b, 0, none⟩)) (hq : tmps.getD q undef = .pointer (some ⟨c, 0, none⟩))
    {u v : Value} (hu : (loadVar tp ⟨b, 0, none⟩).run P w = .ok u w) (hv : (loadVar tq ⟨c, 0, none⟩).run P w = .ok v w) : (results fn tmps).run P w = .ok (.tuple #[u, v]) w := by
  rw [Array.getD_eq_getD_getElem?] at hp hq
  simp only [results, hr]
  simp [Sem.run_bind, hp, hq, asAddr, hu, hv]
theorem load_s {w : World} {b : Nat} {v : Value} (h : Blk w b 25 #[v]) : (loadVar 25 ⟨b, 0, none⟩).run Tryd.prog w = .ok v w := by
  have := h.cell 0
  simp only [List.getElem?_toArray, List.getElem?_cons_zero] at this
  go_simp
theorem load_e {w : World} {b : Nat} {v : Value} (h : Blk w b 22 #[v]) : (loadVar 22 ⟨b, 0, none⟩).run Tryd.prog w = .ok v w := by
  have := h.cell 0
  simp only [List.getElem?_toArray, List.getElem?_cons_zero] at this
  go_simp
/-- The memory of Take. -/
structure TSt (w0 w : World) (s : ByteArray) (v : Value) (er : Int) : Prop where
  S : Blk w w0.heap.size 9 #[.string s]
  V : Blk w (w0.heap.size + 1) 25 #[v]
  E : Blk w (w0.heap.size + 1 + 1) 22 #[.int .i64 er]
  bel : Below w0.heap.size w0 w
section
variable {w0 w w' : World} {s : ByteArray} {v : Value} {er : Int}
theorem TSt.new (w : World) (s : ByteArray) : TSt w (((w.alloc (.cells #[.string s] 9)).alloc (.cells #[.slice none 0 0] 25)).alloc (.cells #[.int .i64 0] 22)) s (.slice none 0 0) 0 :=
  ⟨((Blk.new w _ _).alloc _).alloc _, (Blk.new_at _ _ _ (by simp)).alloc _, Blk.new_at _ _ _ (by simp), (((Below.refl w.heap.size w).alloc (Nat.le_refl _) _).alloc (by simp) _).alloc (by simp; omega) _⟩
theorem TSt.below (h : TSt w0 w s v er) (hb : Below w.heap.size w w') : TSt w0 w' s v er :=
  ⟨h.S.below hb h.S.lt, h.V.below hb h.V.lt, h.E.below hb h.E.lt, below_then h.bel hb⟩
theorem TSt.alloc (h : TSt w0 w s v er) (o : Obj) : TSt w0 (w.alloc o) s v er := h.below ((Below.refl _ _).alloc (Nat.le_refl _) _)
theorem TSt.set (h : TSt w0 w s v er) (v' : Value) (er' : Int) : TSt w0 ((w.setCell ⟨w0.heap.size + 1, 0, none⟩ v').setCell ⟨w0.heap.size + 1 + 1, 0, none⟩ (.int .i64 er')) s v' er' :=
  ⟨(h.S.far (p := ⟨w0.heap.size + 1, 0, none⟩) (by simp) _).far (p := ⟨w0.heap.size + 1 + 1, 0, none⟩) (show w0.heap.size ≠ w0.heap.size + 1 + 1 by omega) _,
   (by have := h.V.set_ 0 v'; simpa using this : Blk (w.setCell ⟨w0.heap.size + 1, 0, none⟩ v') _ _ #[v']).far (p := ⟨w0.heap.size + 1 + 1, 0, none⟩) (by simp) _,
   by have := (h.E.far (p := ⟨w0.heap.size + 1, 0, none⟩) (by simp) v').set_ 0 (.int .i64 er'); simpa using this,
   (h.bel.setCell (p := ⟨w0.heap.size + 1, 0, none⟩) (by simp) _).setCell (p := ⟨w0.heap.size + 1 + 1, 0, none⟩) (show _ ≤ w0.heap.size + 1 + 1 by omega) _⟩
theorem TSt.cells (h : TSt w0 w s v er) : w.cell? ⟨w0.heap.size, 0, none⟩ = some (.string s) ∧ w.cell? ⟨w0.heap.size + 1, 0, none⟩ = some v ∧ w.cell? ⟨w0.heap.size + 1 + 1, 0, none⟩ = some (.int .i64 er) ∧
    w.frozen? ⟨w0.heap.size + 1, 0, none⟩ = false ∧ w.frozen? ⟨w0.heap.size + 1 + 1, 0, none⟩ = false := ⟨h.S.cell 0, h.V.cell 0, h.E.cell 0, h.V.frozen 0, h.E.frozen 0⟩
end
theorem value_35 (s : ByteArray) (h : 9 ≤ s.size) (w : World) :
    Calls Tryd.prog 18 #[.string (s.extract 3 5)] w fun e w' => e = .returned (.int .u32 (manyS s)) ∧ w = w' := by
  have hs : (s.extract 3 5).size = 2 := by rw [ByteArray.size_extract]; omega
  have := value_any (s.extract 3 5) (by omega) w
  rw [hs, val_congr (q := fun j => bt s (3 + j)) 2 (fun j hj => bt_extract s 3 5 j (by omega) (by omega))] at this
  exact this
theorem Take_6 (s : ByteArray) (hs : s.size ≤ maxLen) (hh : headB s = false) (w : World) :
    Calls Tryd.prog 9 #[.string s] w fun e w' => e = .returned (.tuple #[.slice none 0 0, .int .i64 6]) ∧ Below w.heap.size w w' := by
  unfold maxLen at hs
  have S0 := hide (TSt.new w s)
  have W0 := hide (Nat.le_refl w.heap.size)
  have hR := hide (show Tryd.f9.results = #[.cell 2 25, .cell 3 22] by kernel_rfl)
  by_cases h1 : s.size < 9
  · have h1' : (s.size : Int) < 9 := by omega
    clear hh
    refine callsIn_wide.1 (callsIn_of_wp_marks (n := 0) Tryd.func9 rfl trivial (wpIn_wide.2 ?_) rfl)
    simp only [Tryd.ntmps9, List.size_toArray, List.length_cons, List.length_nil, Nat.reduceAdd, Nat.reduceSub, Array.replicate_succ, Array.replicate_zero, List.push_toArray, List.append_toArray, List.nil_append, List.cons_append]
    go_upto_region 1 with fail
    have S6 := hide (S0.out.set (.slice none 0 0) 6)
    generalize ((w.alloc (.cells #[.string s] 9)).alloc (.cells #[.slice none 0 0] 25)).alloc (.cells #[.int .i64 0] 22) = w1 at *
    obtain ⟨c0, c1, c2, f1, f2⟩ := S0.out.cells
    go_wp2_with fail
    exact ⟨_, results_two hR.out rfl rfl (load_s S6.out.V) (load_e S6.out.E), rfl, S6.out.bel⟩
  · have h1' : ¬ (s.size : Int) < 9 := by omega
    have hs1 : ∀ W, (Instr.slice 9 (.string s) none (some (.int .i64 3)) none).run Tryd.prog W = .ok (.string (s.extract 0 3)) W := fun W =>
      run_slice_string_h (P := Tryd.prog) W _ _ Tryd.underlying9 .i64 3 (by omega) (by omega)
    by_cases h2 : s.extract 0 3 = magic
    · have h2' : ((s.extract 0 3).toList == [85, 84, 1]) = true := tl_eq h2
      have hsl : ∀ W, (Instr.slice 9 (.string s) (some (.int .i64 3)) (some (.int .i64 5)) none).run Tryd.prog W = .ok (.string (s.extract 3 5)) W := fun W =>
        run_slice_string (P := Tryd.prog) W _ _ .i64 .i64 3 5 Tryd.underlying9 (by omega) (by omega) (by omega)
      obtain ⟨m0, m1⟩ := manyS_bd s
      have V := hide (fun w => value_35 s (by omega) w)
      by_cases h3 : manyS s ≤ 1024
      · have h4 : (s.size : Int) ≠ 9 + 4 * manyS s := by
          intro h4
          rw [headB, decide_eq_true h3, decide_eq_true h2, decide_eq_true h4, decide_eq_true (by omega : 9 ≤ s.size)] at hh
          cases hh
        have h5 : ((s.size : Int) != 5 + 4 * manyS s + 4) = true := by rw [bne_iff_ne]; omega
        clear hh h2
        generalize manyS s = m at *
        refine callsIn_wide.1 (callsIn_of_wp_marks (n := 0) Tryd.func9 rfl trivial (wpIn_wide.2 ?_) rfl)
        simp only [Tryd.ntmps9, List.size_toArray, List.length_cons, List.length_nil, Nat.reduceAdd, Nat.reduceSub, Array.replicate_succ, Array.replicate_zero, List.push_toArray, List.append_toArray, List.nil_append, List.cons_append]
        go_upto_region 1 with fail
        generalize ((w.alloc (.cells #[.string s] 9)).alloc (.cells #[.slice none 0 0] 25)).alloc (.cells #[.int .i64 0] 22) = w1 at *
        obtain ⟨c0, c1, c2, f1, f2⟩ := S0.out.cells
        go_wp2_with fail
        refine (V.out _).mono ?_
        rintro e w2 ⟨rfl, rfl⟩
        have S2 := hide (S0.out.alloc (.cells #[.int .i64 (5 + 4 * m)] 3))
        have B2 := Blk.new w1 3 #[.int .i64 (5 + 4 * m)]
        go_upto_region 5 with fail
        generalize w1.alloc (.cells #[.int .i64 (5 + 4 * m)] 3) = w2 at *
        generalize w1.heap.size = E at *
        clear c0 c1 c2 f1 f2 S0
        have cE := B2.cell 0
        obtain ⟨c0, c1, c2, f1, f2⟩ := S2.out.cells
        have S6 := hide (S2.out.set (.slice none 0 0) 6)
        go_wp2_with fail
        exact ⟨_, results_two hR.out rfl rfl (load_s S6.out.V) (load_e S6.out.E), rfl, S6.out.bel⟩
      · have h5 : (1024 : Int) < manyS s := by omega
        clear hh h2
        generalize manyS s = m at *
        refine callsIn_wide.1 (callsIn_of_wp_marks (n := 0) Tryd.func9 rfl trivial (wpIn_wide.2 ?_) rfl)
        simp only [Tryd.ntmps9, List.size_toArray, List.length_cons, List.length_nil, Nat.reduceAdd, Nat.reduceSub, Array.replicate_succ, Array.replicate_zero, List.push_toArray, List.append_toArray, List.nil_append, List.cons_append]
        go_upto_region 1 with fail
        generalize ((w.alloc (.cells #[.string s] 9)).alloc (.cells #[.slice none 0 0] 25)).alloc (.cells #[.int .i64 0] 22) = w1 at *
        obtain ⟨c0, c1, c2, f1, f2⟩ := S0.out.cells
        go_wp2_with fail
        refine (V.out _).mono ?_
        rintro e w2 ⟨rfl, rfl⟩
        have S2 := hide (S0.out.alloc (.cells #[.int .i64 (5 + 4 * m)] 3))
        have B2 := Blk.new w1 3 #[.int .i64 (5 + 4 * m)]
        go_upto_region 5 with fail
        generalize w1.alloc (.cells #[.int .i64 (5 + 4 * m)] 3) = w2 at *
        generalize w1.heap.size = E at *
        clear c0 c1 c2 f1 f2 S0
        have cE := B2.cell 0
        obtain ⟨c0, c1, c2, f1, f2⟩ := S2.out.cells
        have S6 := hide (S2.out.set (.slice none 0 0) 6)
        go_wp2_with fail
        exact ⟨_, results_two hR.out rfl rfl (load_s S6.out.V) (load_e S6.out.E), rfl, S6.out.bel⟩
    · have h2' : ((s.extract 0 3).toList == [85, 84, 1]) = false := tl_ne h2
      clear hh h2
      refine callsIn_wide.1 (callsIn_of_wp_marks (n := 0) Tryd.func9 rfl trivial (wpIn_wide.2 ?_) rfl)
      simp only [Tryd.ntmps9, List.size_toArray, List.length_cons, List.length_nil, Nat.reduceAdd, Nat.reduceSub, Array.replicate_succ, Array.replicate_zero, List.push_toArray, List.append_toArray, List.nil_append, List.cons_append]
      go_upto_region 1 with fail
      have S6 := hide (S0.out.set (.slice none 0 0) 6)
      generalize ((w.alloc (.cells #[.string s] 9)).alloc (.cells #[.slice none 0 0] 25)).alloc (.cells #[.int .i64 0] 22) = w1 at *
      obtain ⟨c0, c1, c2, f1, f2⟩ := S0.out.cells
      go_wp2_with fail
      exact ⟨_, results_two hR.out rfl rfl (load_s S6.out.V) (load_e S6.out.E), rfl, S6.out.bel⟩
end Go.Proofs.YtdaglmoibijdeaaDoor.ITake
