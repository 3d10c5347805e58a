/-
  The document's log walked: New, Room, At, Pop, Add of the reference.
-/
import Derived.Test.YtnhfbdjjbmhnkaaUAt
import Derived.Test.YtnhfbdjjbmhnkaaUNew
import Derived.Test.YtnhfbdjjbmhnkaaMRef
import Derived.Test.YtnhfbdjjbmhnkaaMCopy
import Derived.Test.YtnhfbdjjbmhnkaaWords
namespace Go.Proofs.Ytnhfbdjjbmhnkaa.URef
open Go.RowKit PPlain Base PMay PRefMay PWalk MMem UPlain UWalk UAdd UNew MRef MCopy Words
set_option linter.unusedVariables false
set_option linter.unusedSimpArgs false

def rlL (c0 c1 c2 c3 c4 c5 c6 c7 core : Int) (v : Value) : List Value :=
  [.int .i64 c0, .int .i64 c1, .int .i64 c2, .int .i64 c3, .int .i64 c4, .int .i64 c5, .int .i64 c6, .int .i64 c7, .int .i64 core, v]
def RLogAt (w : World) (q : Nat) (c0 c1 c2 c3 c4 c5 c6 c7 core : Int) (v : Value) : Prop :=
  Row w q 62 10 (fun j => (rlL c0 c1 c2 c3 c4 c5 c6 c7 core v).getD j undef)
/-- A slice of entries, read as words. -/
def Ent (w : World) (A : Option Addr) (n : Nat) (E : Nat → Int) : Prop := n = 0 ∨ ∃ g, A = some ⟨g, 0, none⟩ ∧ Row w g 40 (n * 2) (fun j => .int .u32 (E j))
section
variable {w w' : World} {q : Nat} {c0 c1 c2 c3 c4 c5 c6 c7 core : Int} {v : Value} {A : Option Addr} {n : Nat} {E : Nat → Int}
theorem RLogAt.keep (h : RLogAt w q c0 c1 c2 c3 c4 c5 c6 c7 core v) (e : w'.heap[q]? = w.heap[q]?) : RLogAt w' q c0 c1 c2 c3 c4 c5 c6 c7 core v := Row.of_block h e
theorem RLogAt.below {B : Nat} (h : RLogAt w q c0 c1 c2 c3 c4 c5 c6 c7 core v) (hb : Below B w w') (hl : q < B) : RLogAt w' q c0 c1 c2 c3 c4 c5 c6 c7 core v := Row.of_block h (hb.block q hl)
theorem RLogAt.cells (h : RLogAt w q c0 c1 c2 c3 c4 c5 c6 c7 core v) :
    w.cell? ⟨q, 0, none⟩ = some (.int .i64 c0) ∧ w.cell? ⟨q, 1, none⟩ = some (.int .i64 c1) ∧ w.cell? ⟨q, 2, none⟩ = some (.int .i64 c2) ∧ w.cell? ⟨q, 3, none⟩ = some (.int .i64 c3) ∧
    w.cell? ⟨q, 4, none⟩ = some (.int .i64 c4) ∧ w.cell? ⟨q, 5, none⟩ = some (.int .i64 c5) ∧ w.cell? ⟨q, 6, none⟩ = some (.int .i64 c6) ∧ w.cell? ⟨q, 7, none⟩ = some (.int .i64 c7) ∧
    w.cell? ⟨q, 8, none⟩ = some (.int .i64 core) ∧ w.cell? ⟨q, 9, none⟩ = some v ∧ w.frozen? ⟨q, 9, none⟩ = false :=
  ⟨Row.cell h (i := 0) (by omega), Row.cell h (i := 1) (by omega), Row.cell h (i := 2) (by omega), Row.cell h (i := 3) (by omega), Row.cell h (i := 4) (by omega), Row.cell h (i := 5) (by omega),
    Row.cell h (i := 6) (by omega), Row.cell h (i := 7) (by omega), Row.cell h (i := 8) (by omega), Row.cell h (i := 9) (by omega), Row.frozen h 9⟩
theorem RLogAt.setL (h : RLogAt w q c0 c1 c2 c3 c4 c5 c6 c7 core v) (u : Value) : RLogAt (w.setCell ⟨q, 9, none⟩ u) q c0 c1 c2 c3 c4 c5 c6 c7 core u :=
  (Row.set h 9 _).congr fun j hj => by
    match j, hj with
    | 0, _ | 1, _ | 2, _ | 3, _ | 4, _ | 5, _ | 6, _ | 7, _ | 8, _ | 9, _ => rfl
    | n + 10, h => omega
theorem RLogAt.new (w : World) (v : Value) : RLogAt (w.alloc (.cells (rlL c0 c1 c2 c3 c4 c5 c6 c7 core v).toArray 62)) w.heap.size c0 c1 c2 c3 c4 c5 c6 c7 core v :=
  Row.mk' (World.rowIs_alloc w (rlL c0 c1 c2 c3 c4 c5 c6 c7 core v).toArray 62 _ (fun i hi => by
    simp only [List.getElem?_toArray, List.getD_eq_getElem?_getD]
    rw [List.getElem?_eq_getElem (by simpa using hi)]
    rfl))
theorem Ent.zero (w : World) (A : Option Addr) (E : Nat → Int) : Ent w A 0 E := .inl rfl
theorem Ent.below (h : Ent w A n E) (hb : Below w.heap.size w w') : Ent w' A n E := by
  rcases h with h | ⟨g, e, h⟩
  · exact .inl h
  · exact .inr ⟨g, e, h.of_block (hb.block g h.lt)⟩
theorem Ent.keep (h : Ent w A n E) (hk : ∀ g, Row w g 40 (n * 2) (fun j => .int .u32 (E j)) → w'.heap[g]? = w.heap[g]?) : Ent w' A n E := by
  rcases h with h | ⟨g, e, h⟩
  · exact .inl h
  · exact .inr ⟨g, e, h.of_block (hk g h)⟩
theorem Ent.congr {E' : Nat → Int} (h : Ent w A n E) (e : ∀ j, j < n * 2 → E j = E' j) : Ent w A n E' := by
  rcases h with h | ⟨g, a, h⟩
  · exact .inl h
  · exact .inr ⟨g, a, h.congr fun i hi => by rw [e i hi]⟩
theorem Ent.less {m : Nat} (h : Ent w A n E) (hm : m ≤ n) : Ent w A m E := by
  rcases h with h | ⟨g, a, S, F, h1, h2, h3⟩
  · exact .inl (by omega)
  · exact .inr ⟨g, a, S, F, by omega, h2, fun i hi => h3 i (by omega)⟩
theorem Ent.reads (h : Ent w A n E) : Reads w w.heap.size 2 A n (wordsL E (n * 2)) := by
  refine ⟨by simp [wordsL], fun hn => ?_⟩
  rcases h with h | ⟨g, a, h⟩
  · omega
  · refine ⟨⟨g, 0, none⟩, a, h.lt, fun j u hu => ?_⟩
    have hj : j < n * 2 := by
      have := (List.getElem?_eq_some_iff.1 hu).1
      simpa [wordsL] using this
    rw [wordsL_get E hj] at hu
    have e : (⟨g, 0, none⟩ : Addr).add j = ⟨g, j, none⟩ := by unfold Addr.add; split <;> simp_all
    rw [e, h.cell hj]
    exact hu
theorem reads_pair (w : World) (t : TypeId) (a o : Int) : Reads (w.alloc (.cells #[.int .u32 a, .int .u32 o] t)) (w.heap.size + 1) 2 (some ⟨w.heap.size, 0, none⟩) 1 [.int .u32 a, .int .u32 o] := by
  have hB := Blk.new w t #[.int .u32 a, .int .u32 o]
  refine ⟨rfl, fun _ => ⟨⟨w.heap.size, 0, none⟩, rfl, Nat.lt_succ_self _, fun j u hu => ?_⟩⟩
  have e : (⟨w.heap.size, 0, none⟩ : Addr).add j = ⟨w.heap.size, j, none⟩ := by unfold Addr.add; split <;> simp_all
  rw [e, hB.cell j]
  simpa using hu
theorem pair_one (a o : Int) : ∀ u ∈ [Value.int .u32 a, .int .u32 o], u.oneCell' = true := by
  intro u hu
  simp at hu
  rcases hu with rfl | rfl <;> rfl
theorem wordsL_one (f : Nat → Int) (n : Nat) : ∀ u ∈ wordsL f n, u.oneCell' = true := by
  intro u hu
  simp only [wordsL, List.mem_map] at hu
  obtain ⟨j, _, rfl⟩ := hu
  rfl
theorem row2_of_own {t : TypeId} {f : Nat → Value} {base g cap : Nat} {xs : List Value} (h : w.ownsRow base t 2 (.slice (some ⟨g, 0, none⟩) n cap) n xs) (hx : ∀ i, i < n * 2 → xs[i]? = some (f i)) : Row w g t (n * 2) f ∧ n ≤ cap := by
  obtain ⟨hl, ⟨h0, _⟩ | ⟨g', cap', cur, he, hb, hh, hc, hm, hs, ht⟩⟩ := h
  · cases h0
  · injection he with e1 e2 e3
    injection e1 with e1
    injection e1 with e1
    subst e1 e3
    refine ⟨⟨cap * 2, fun i => cur.getD i undef, by omega, ⟨cur, hh, hs, fun i hi => ?_⟩, fun i hi => ?_⟩, hc⟩
    · simp [Array.getD, show i < cur.size by omega]
    · have e : cur.toList[i]? = some (f i) := by
        rw [← hx i hi, ← ht, List.getElem?_take_of_lt hi]
      have e2 : cur[i]? = some (f i) := by simpa using e
      simp [Array.getD_eq_getD_getElem?, e2]
/-- The entries behind an Add. -/
def addEnt (E : Nat → Int) (n : Nat) (a o : Int) : Nat → Int := fun j => if j = n * 2 then a else if j = n * 2 + 1 then o else E j
theorem addEnt_get (E : Nat → Int) (n : Nat) (a o : Int) : ∀ i, i < (n + 1) * 2 → (wordsL E (n * 2) ++ [.int .u32 a, .int .u32 o])[i]? = some (.int .u32 (addEnt E n a o i)) := by
  intro i hi
  by_cases h : i < n * 2
  · rw [List.getElem?_append_left (by simpa [wordsL] using h), wordsL_get E h]
    simp [addEnt, show i ≠ n * 2 by omega, show i ≠ n * 2 + 1 by omega]
  · rw [List.getElem?_append_right (by simp [wordsL]; omega)]
    by_cases e : i = n * 2
    · subst e; simp [wordsL, addEnt]
    · obtain rfl : i = n * 2 + 1 := by omega
      simp [wordsL, addEnt]
theorem _root_.Go.Proofs.Ytnhfbdjjbmhnkaa.MRef.RefAt.put {w : World} {p D nb : Nat} {f : Nat → Int} (h : RefAt w p D nb f) (i : Nat) (x : Int) : RefAt (w.setCell ⟨D, i, none⟩ (.int .u32 x)) p D nb (fun j => if j = i then x else f j) := by
  obtain ⟨h1, h2, h3, h4⟩ := h
  refine ⟨h1, h2, (World.cell?_setCell_other _ _ _ _ (fun e => h2 (by injection e with e1 e2; exact e1.symm))).trans h3, (h4.set _ _).congr fun j _ => ?_⟩
  by_cases e : j = i <;> simp [e]
end
section
variable (q r RD nb : Nat) (F : Nat → Int) (c0 c1 c2 c3 c4 c5 c6 c7 core : Int) (A : Option Addr) (n c : Nat) (E : Nat → Int) (w : World)
theorem RNew_bad (er : Int) (he : (er != 0) = true)
    (L : Hid (∀ w, Calls Try.prog 39 #[.agg #[.int .i64 c0, .int .i64 c1, .int .i64 c2, .int .i64 c3, .int .i64 c4, .int .i64 c5, .int .i64 c6, .int .i64 c7], .int .i64 core] w fun e w' => e = .returned (.tuple #[.int .i64 0, .int .i64 0, .int .i64 er]) ∧ Below w.heap.size w w')) (P : Value) :
    Calls Try.prog 23 #[.agg #[.int .i64 c0, .int .i64 c1, .int .i64 c2, .int .i64 c3, .int .i64 c4, .int .i64 c5, .int .i64 c6, .int .i64 c7], P, .int .i64 core] w fun e w' =>
    e = .returned (.tuple #[.pointer none, .int .i64 er]) ∧ Below w.heap.size w w' := by
  have S0 := hide (cfg_first w c0 c1 c2 c3 c4 c5 c6 c7)
  go_enter Try.func23, Try.ntmps23
  go_wp2_with fail
  refine (L.out _).mono ?_
  rintro e w1 ⟨rfl, hb1⟩
  have S1 := hide (cfg_next hb1 S0.out)
  clear hb1 S0
  go_wp2
  go_ret2
  exact ⟨rfl, cfg_below S1.out⟩
theorem RNew_many (first many : Int) (h30 : 1 ≤ c3) (h31 : c3 ≤ 256) (hn : (nb : Int) ≠ c3) (h : RefAt w r RD nb F)
    (L : Hid (∀ w, Calls Try.prog 39 #[.agg #[.int .i64 c0, .int .i64 c1, .int .i64 c2, .int .i64 c3, .int .i64 c4, .int .i64 c5, .int .i64 c6, .int .i64 c7], .int .i64 core] w fun e w' => e = .returned (.tuple #[.int .i64 first, .int .i64 many, .int .i64 0]) ∧ Below w.heap.size w w')) :
    Calls Try.prog 23 #[.agg #[.int .i64 c0, .int .i64 c1, .int .i64 c2, .int .i64 c3, .int .i64 c4, .int .i64 c5, .int .i64 c6, .int .i64 c7], .pointer (some ⟨r, 0, none⟩), .int .i64 core] w fun e w' =>
    e = .returned (.tuple #[.pointer none, .int .i64 2]) ∧ Below w.heap.size w w' := by
  have S0 := hide (cfg_first w c0 c1 c2 c3 c4 c5 c6 c7)
  have hr := h.2.2.1
  have hrl := block_lt_of_cell hr
  have hq : (((nb * 16 : Nat) : Int) != 16 * c3) = true := by rw [bne_iff_ne]; omega
  have hq2 : ((nb : Int) * 16 != 16 * c3) = true := by rw [bne_iff_ne]; omega
  have hw : IntKind.i64.wrap (16 * c3) = 16 * c3 := IntWalk.i64_in _ (by omega)
  clear h hn
  go_enter Try.func23, Try.ntmps23
  go_wp2_with fail
  refine (L.out _).mono ?_
  rintro e w1 ⟨rfl, hb1⟩
  obtain ⟨y0, y1, y2, y3, y4, y5, y6, y7, hB⟩ := cfg_next hb1 S0.out
  have hr1 := (hb1.cell (p := ⟨r, 0, none⟩) (by simp; omega)).trans ((World.cell?_alloc_lt w _ ⟨r, 0, none⟩ hrl).trans hr)
  clear hb1 S0 hr
  go_wp2_with fail
  go_quiet (fail)
  go_wp2
  go_ret2
  exact ⟨rfl, bdrewN hB _⟩
theorem RNew_ok (first many : Int) (h30 : 1 ≤ nb) (h31 : nb ≤ 256) (h : RefAt w r RD nb F)
    (L : Hid (∀ w, Calls Try.prog 39 #[.agg #[.int .i64 c0, .int .i64 c1, .int .i64 c2, .int .i64 (nb : Int), .int .i64 c4, .int .i64 c5, .int .i64 c6, .int .i64 c7], .int .i64 core] w fun e w' => e = .returned (.tuple #[.int .i64 first, .int .i64 many, .int .i64 0]) ∧ Below w.heap.size w w')) :
    Calls Try.prog 23 #[.agg #[.int .i64 c0, .int .i64 c1, .int .i64 c2, .int .i64 (nb : Int), .int .i64 c4, .int .i64 c5, .int .i64 c6, .int .i64 c7], .pointer (some ⟨r, 0, none⟩), .int .i64 core] w fun e w' =>
    ∃ q, e = .returned (.tuple #[.pointer (some ⟨q, 0, none⟩), .int .i64 0]) ∧ w.heap.size ≤ q ∧ RLogAt w' q c0 c1 c2 nb c4 c5 c6 c7 core (.slice none 0 0) ∧ Below w.heap.size w w' := by
  have S0 := hide (cfg_first w c0 c1 c2 nb c4 c5 c6 c7)
  have hr := h.2.2.1
  have hrl := block_lt_of_cell hr
  have hq : (((nb * 16 : Nat) : Int) != 16 * (nb : Int)) = false := by rw [bne_eq_false_iff_eq]; omega
  have hq2 : ((nb : Int) * 16 != 16 * (nb : Int)) = false := by rw [bne_eq_false_iff_eq]; omega
  have hw : IntKind.i64.wrap (16 * (nb : Int)) = 16 * (nb : Int) := IntWalk.i64_in _ (by omega)
  clear h
  go_enter Try.func23, Try.ntmps23
  go_wp2_with fail
  refine (L.out _).mono ?_
  rintro e w1 ⟨rfl, hb1⟩
  obtain ⟨y0, y1, y2, y3, y4, y5, y6, y7, hB⟩ := cfg_next hb1 S0.out
  have hr1 := (hb1.cell (p := ⟨r, 0, none⟩) (by simp; omega)).trans ((World.cell?_alloc_lt w _ ⟨r, 0, none⟩ hrl).trans hr)
  have HB := hide hB
  clear hb1 S0 hr hB
  go_wp2_with fail
  go_quiet (fail)
  go_wp2
  go_ret2
  refine ⟨w1.heap.size, rfl, HB.out.size, ?_, (bdrewN HB.out _).alloc HB.out.size _⟩
  exact RLogAt.new _ _

theorem RRoom_any (hn : n ≤ 1000) (h40 : 1 ≤ c4) (h41 : c4 ≤ 4) (h : RLogAt w q c0 c1 c2 c3 c4 c5 c6 c7 core (.slice A n c)) :
    Calls Try.prog 27 #[.pointer (some ⟨q, 0, none⟩)] w fun e w' => e = .returned (.int .i64 (8 * c4 - n)) ∧ ∃ n, w' = w.drewN n := by
  obtain ⟨x0, x1, x2, x3, x4, x5, x6, x7, x8, x9, x10⟩ := h.cells
  have hw : IntKind.i64.wrap (8 * c4) = 8 * c4 := IntWalk.i64_in _ (by omega)
  have hw2 : IntKind.i64.wrap (8 * c4 - (n : Int)) = 8 * c4 - (n : Int) := IntWalk.i64_in _ (by omega)
  clear h
  go_enter Try.func27, Try.ntmps27
  go_wp2_with fail
  go_quiet (fail)
  go_wp2
  go_ret
  exact ⟨rfl, _, rfl⟩

theorem RAt_no (i : Int) (hn : n ≤ 1000) (hi : i < 0 ∨ (n : Int) ≤ i) (h : RLogAt w q c0 c1 c2 c3 c4 c5 c6 c7 core (.slice A n c)) :
    Calls Try.prog 26 #[.pointer (some ⟨q, 0, none⟩), .int .i64 i] w fun e w' => e = .returned (.tuple #[.int .u32 0, .int .u32 0, .int .i64 4]) ∧ w = w' := by
  obtain ⟨x0, x1, x2, x3, x4, x5, x6, x7, x8, x9, x10⟩ := h.cells
  clear h
  by_cases t0 : i < 0
  · clear hi
    go_enter Try.func26, Try.ntmps26
    go_wp2
    go_ret3
    exact ⟨rfl, rfl⟩
  · have t1 : (n : Int) ≤ i := by omega
    clear hi
    go_enter Try.func26, Try.ntmps26
    go_wp2
    go_ret3
    exact ⟨rfl, rfl⟩
theorem RAt_ok (i : Nat) (g : Nat) (hn : n ≤ 1000) (hi : i < n) (h : RLogAt w q c0 c1 c2 c3 c4 c5 c6 c7 core (.slice (some ⟨g, 0, none⟩) n c)) (hE : Row w g 40 (n * 2) (fun j => .int .u32 (E j))) :
    Calls Try.prog 26 #[.pointer (some ⟨q, 0, none⟩), .int .i64 (i : Int)] w fun e w' => e = .returned (.tuple #[.int .u32 (E (i * 2)), .int .u32 (E (i * 2 + 1)), .int .i64 0]) ∧ ∃ n, w' = w.drewN n := by
  obtain ⟨x0, x1, x2, x3, x4, x5, x6, x7, x8, x9, x10⟩ := h.cells
  have y0 := hE.cell (show i * 2 < n * 2 by omega)
  have y1 := hE.cell (show i * 2 + 1 < n * 2 by omega)
  have hlt : (i : Int) < (n : Int) := by omega
  clear h hE
  go_enter Try.func26, Try.ntmps26
  go_wp2_with fail
  go_quiet (fail)
  go_wp2
  go_ret3
  exact ⟨rfl, _, rfl⟩

theorem RPop_none (h : RLogAt w q c0 c1 c2 c3 c4 c5 c6 c7 core (.slice A 0 c)) :
    Calls Try.prog 25 #[.pointer (some ⟨q, 0, none⟩)] w fun e w' => e = .returned (.int .i64 4) ∧ w = w' := by
  obtain ⟨x0, x1, x2, x3, x4, x5, x6, x7, x8, x9, x10⟩ := h.cells
  clear h
  go_enter Try.func25, Try.ntmps25
  go_wp2
  go_ret
  exact ⟨rfl, rfl⟩
theorem RPop_one (hn : n ≤ 1000) (hc : n + 1 ≤ c) (h : RLogAt w q c0 c1 c2 c3 c4 c5 c6 c7 core (.slice A (n + 1) c)) :
    Calls Try.prog 25 #[.pointer (some ⟨q, 0, none⟩)] w fun e w' => e = .returned (.int .i64 0) ∧ RLogAt w' q c0 c1 c2 c3 c4 c5 c6 c7 core (.slice A n c) ∧ w.grownBy w' (some q) := by
  obtain ⟨x0, x1, x2, x3, x4, x5, x6, x7, x8, x9, x10⟩ := h.cells
  have H := hide h
  have hw : IntKind.i64.wrap (((n + 1 : Nat) : Int) - 1) = ((n + 1 : Nat) : Int) - 1 := IntWalk.i64_in _ (by omega)
  have hw2 : IntKind.i64.wrap ((n : Int) + 1 - 1) = (n : Int) := by rw [IntWalk.i64_in _ (by omega)]; omega
  have hb : (((n + 1 : Nat) : Int) == 0) = false := by rw [beq_eq_false_iff_ne]; omega
  have hb2 : ((n : Int) + 1 == 0) = false := by rw [beq_eq_false_iff_ne]; omega
  clear h
  go_enter Try.func25, Try.ntmps25
  go_wp2_with fail
  go_region
  all_goals
    go_wp2
    go_ret
    exact ⟨rfl, H.out.setL _, only_drew (only_setCell (g := q) (World.grownBy.refl w _) (p := ⟨q, 9, none⟩) (.inl rfl) _)⟩

theorem RAdd_bad (addr old : Int) (P : Value) (hm : mayB c0 c1 c2 c3 c4 c5 c6 c7 = true) (h0 : 0 ≤ addr) (h1 : addr ≤ 4294967295) (he : (wE c0 c3 c4 addr != 0) = true) (h : RLogAt w q c0 c1 c2 c3 c4 c5 c6 c7 core (.slice A n c)) :
    Calls Try.prog 24 #[.pointer (some ⟨q, 0, none⟩), P, .int .u32 addr, .int .u32 old] w fun e w' => e = .returned (.int .i64 (wE c0 c3 c4 addr)) ∧ Below w.heap.size w w' := by
  have W := hide (fun w => WhereR_any c0 c1 c2 c3 c4 c5 c6 c7 addr hm h0 h1 w)
  obtain ⟨x0, x1, x2, x3, x4, x5, x6, x7, x8, x9, x10⟩ := h.cells
  generalize wE c0 c3 c4 addr = er at *
  generalize wB c0 c3 c4 addr = wb at *
  generalize wW c0 c3 c4 addr = ww at *
  clear h hm
  go_enter Try.func24, Try.ntmps24
  go_wp2_with fail
  refine (W.out _).mono ?_
  rintro e w1 ⟨rfl, hb1⟩
  go_wp2
  go_ret
  exact ⟨rfl, hb1⟩
theorem RAdd_full (addr old : Int) (P : Value) (hm : mayB c0 c1 c2 c3 c4 c5 c6 c7 = true) (h0 : 0 ≤ addr) (h1 : addr ≤ 4294967295) (he : wE c0 c3 c4 addr = 0) (hn : n ≤ 1000) (hr : (8 * c4 - (n : Int) == 0) = true) (h : RLogAt w q c0 c1 c2 c3 c4 c5 c6 c7 core (.slice A n c)) :
    Calls Try.prog 24 #[.pointer (some ⟨q, 0, none⟩), P, .int .u32 addr, .int .u32 old] w fun e w' => e = .returned (.int .i64 7) ∧ Below w.heap.size w w' := by
  have W := hide (fun w => WhereR_any c0 c1 c2 c3 c4 c5 c6 c7 addr hm h0 h1 w)
  have b4 := (may_bounds hm).2.2.2.2.1
  obtain ⟨x0, x1, x2, x3, x4, x5, x6, x7, x8, x9, x10⟩ := h.cells
  have hl := Row.lt h
  have R := hide (fun w h => RRoom_any q c0 c1 c2 c3 c4 c5 c6 c7 core A n c w hn b4.1 b4.2 h)
  have H := hide h
  generalize wB c0 c3 c4 addr = wb at *
  generalize wW c0 c3 c4 addr = ww at *
  rw [he] at W
  clear h hm he
  go_enter Try.func24, Try.ntmps24
  go_wp2_with fail
  refine (W.out _).mono ?_
  rintro e w1 ⟨rfl, hb1⟩
  clear x0 x1 x2 x3 x4 x5 x6 x7 x8 x9 x10
  go_wp2_with fail
  refine (R.out _ (H.out.below hb1 hl)).mono ?_
  rintro e w2 ⟨rfl, k, rfl⟩
  go_wp2
  go_ret
  exact ⟨rfl, bdrewN hb1 _⟩

/-- The state of Add: log, memory, entries. -/
structure RSt (w0 w : World) (q r RD nb : Nat) (F : Nat → Int) (c0 c1 c2 c3 c4 c5 c6 c7 core : Int) (A : Option Addr) (n c : Nat) (E : Nat → Int) : Prop where
  log : RLogAt w q c0 c1 c2 c3 c4 c5 c6 c7 core (.slice A n c)
  mem : RefAt w r RD nb F
  ent : Ent w A n E
  two : Two RD q w0 w
  ne1 : q ≠ RD
  ne2 : q ≠ r
theorem types_ne {w : World} {b : Nat} {t t' : TypeId} {m m' : Nat} {f f' : Nat → Value} (h : w.rowIs b t m f) (h' : w.rowIs b t' m' f') : t = t' := by
  obtain ⟨c, h, _⟩ := h
  obtain ⟨c', h', _⟩ := h'
  rw [h] at h'
  injection h' with h'
  injection h' with _ ht
section
variable {w0 w w' : World} {q r RD nb : Nat} {F : Nat → Int} {c0 c1 c2 c3 c4 c5 c6 c7 core : Int} {A : Option Addr} {n c : Nat} {E : Nat → Int}
theorem RSt.drew (h : RSt w0 w q r RD nb F c0 c1 c2 c3 c4 c5 c6 c7 core A n c E) : RSt w0 w.drew q r RD nb F c0 c1 c2 c3 c4 c5 c6 c7 core A n c E := ⟨h.log, h.mem, h.ent, h.two.drew, h.ne1, h.ne2⟩
theorem RSt.below (h : RSt w0 w q r RD nb F c0 c1 c2 c3 c4 c5 c6 c7 core A n c E) (hb : Below w.heap.size w w') : RSt w0 w' q r RD nb F c0 c1 c2 c3 c4 c5 c6 c7 core A n c E :=
  ⟨h.log.below hb (Row.lt h.log), h.mem.below hb, h.ent.below hb, h.two.below (hb.mono h.two.size), h.ne1, h.ne2⟩
theorem RSt.drewN (h : RSt w0 w q r RD nb F c0 c1 c2 c3 c4 c5 c6 c7 core A n c E) (k : Nat) : RSt w0 (w.drewN k) q r RD nb F c0 c1 c2 c3 c4 c5 c6 c7 core A n c E := ⟨h.log, h.mem, h.ent, h.two.drewN k, h.ne1, h.ne2⟩
theorem RSt.put (h : RSt w0 w q r RD nb F c0 c1 c2 c3 c4 c5 c6 c7 core A n c E) (i : Nat) (x : Int) : RSt w0 (w.setCell ⟨RD, i, none⟩ (.int .u32 x)) q r RD nb (fun j => if j = i then x else F j) c0 c1 c2 c3 c4 c5 c6 c7 core A n c E := by
  have hk : ∀ b, b ≠ RD → (w.setCell ⟨RD, i, none⟩ (.int .u32 x)).heap[b]? = w.heap[b]? := fun b hb => Below.heap_setCell w ⟨RD, i, none⟩ _ b hb
  refine ⟨h.log.keep (hk q h.ne1), h.mem.put i x, h.ent.keep fun g hg => hk g ?_, h.two.setCell (p := ⟨RD, i, none⟩) (.inl rfl) _, h.ne1, h.ne2⟩
  rintro rfl
  obtain ⟨S, F', _, h2, _⟩ := hg
  exact absurd (types_ne h2 h.mem.2.2.2) (by decide)
theorem RSt.cells (h : RSt w0 w q r RD nb F c0 c1 c2 c3 c4 c5 c6 c7 core A n c E) :
    w.cell? ⟨q, 0, none⟩ = some (.int .i64 c0) ∧ w.cell? ⟨q, 1, none⟩ = some (.int .i64 c1) ∧ w.cell? ⟨q, 2, none⟩ = some (.int .i64 c2) ∧ w.cell? ⟨q, 3, none⟩ = some (.int .i64 c3) ∧
    w.cell? ⟨q, 4, none⟩ = some (.int .i64 c4) ∧ w.cell? ⟨q, 5, none⟩ = some (.int .i64 c5) ∧ w.cell? ⟨q, 6, none⟩ = some (.int .i64 c6) ∧ w.cell? ⟨q, 7, none⟩ = some (.int .i64 c7) ∧
    w.cell? ⟨q, 8, none⟩ = some (.int .i64 core) := by
  obtain ⟨x0, x1, x2, x3, x4, x5, x6, x7, x8, x9, x10⟩ := h.log.cells
  exact ⟨x0, x1, x2, x3, x4, x5, x6, x7, x8⟩
theorem RSt.spots (h : RSt w0 w q r RD nb F c0 c1 c2 c3 c4 c5 c6 c7 core A n c E) {i : Nat} (hi : i < nb * 16) :
    w.cell? ⟨r, 0, none⟩ = some (.slice (some ⟨RD, 0, none⟩) (nb * 16) (nb * 16)) ∧ w.cell? ⟨q, 9, none⟩ = some (.slice A n c) ∧ w.cell? ⟨RD, i, none⟩ = some (.int .u32 (F i)) ∧ w.frozen? ⟨RD, i, none⟩ = false ∧ w.frozen? ⟨q, 9, none⟩ = false := by
  obtain ⟨x0, x1, x2, x3, x4, x5, x6, x7, x8, x9, x10⟩ := h.log.cells
  exact ⟨h.mem.2.2.1, x9, h.mem.2.2.2.cell hi, h.mem.2.2.2.frozen i, x10⟩
end
theorem infoT : (Try.prog.info? 40).map (fun i => (i.zero, i.size, i.bytes)) = some (some (.agg #[.int .u32 0, .int .u32 0]), 2, 8) := by kernel_rfl
set_option maxHeartbeats 1000000 in
theorem RAdd_ok (addr old : Int) (first : Nat) (hm : mayB c0 c1 c2 c3 c4 c5 c6 c7 = true) (h0 : 0 ≤ addr) (h1 : addr ≤ 4294967295) (he : wE c0 c3 c4 addr = 0) (hr : (8 * c4 - (n : Int) == 0) = false)
    (hlg : first * 16 + n * 2 + 1 < nb * 16) (hn : n ≤ 31) (many : Int)
    (L : Hid (∀ w, Calls Try.prog 39 #[.agg #[.int .i64 c0, .int .i64 c1, .int .i64 c2, .int .i64 c3, .int .i64 c4, .int .i64 c5, .int .i64 c6, .int .i64 c7], .int .i64 core] w fun e w' => e = .returned (.tuple #[.int .i64 (first : Int), .int .i64 many, .int .i64 0]) ∧ Below w.heap.size w w'))
    (h : RLogAt w q c0 c1 c2 c3 c4 c5 c6 c7 core (.slice A n c)) (hM : RefAt w r RD nb F) (hE : Ent w A n E) (n1 : q ≠ RD) (n2 : q ≠ r) :
    Calls Try.prog 24 #[.pointer (some ⟨q, 0, none⟩), .pointer (some ⟨r, 0, none⟩), .int .u32 addr, .int .u32 old] w fun e w' => e = .returned (.int .i64 0) ∧
      ∃ A' c', n + 1 ≤ c' ∧ RSt w w' q r RD nb (putE F (first * 16 + n * 2) addr old 2) c0 c1 c2 c3 c4 c5 c6 c7 core A' (n + 1) c' (addEnt E n addr old) := by
  have W := hide (fun w => WhereR_any c0 c1 c2 c3 c4 c5 c6 c7 addr hm h0 h1 w)
  have b4 := (may_bounds hm).2.2.2.2.1
  have R := hide (fun w h => RRoom_any q c0 c1 c2 c3 c4 c5 c6 c7 core A n c w (by omega) b4.1 b4.2 h)
  have S0 : Hid (RSt w w q r RD nb F c0 c1 c2 c3 c4 c5 c6 c7 core A n c E) := hide ⟨h, hM, hE, Two.refl w, n1, n2⟩
  obtain ⟨x0, x1, x2, x3, x4, x5, x6, x7, x8⟩ := S0.out.cells
  generalize wB c0 c3 c4 addr = wb at *
  generalize wW c0 c3 c4 addr = ww at *
  rw [he] at W
  clear h hm he hM hE n1 n2
  go_enter Try.func24, Try.ntmps24
  go_wp2_with fail
  refine (W.out _).mono ?_
  rintro e w1 ⟨rfl, hb1⟩
  have S1 := hide (S0.out.below hb1)
  clear x0 x1 x2 x3 x4 x5 x6 x7 x8 hb1 S0
  go_wp2_with fail
  refine (R.out _ S1.out.log).mono ?_
  rintro e w2 ⟨rfl, k, rfl⟩
  have S2 := hide (S1.out.drewN k)
  clear S1
  generalize w1.drewN k = w2 at *
  have S3 := hide S2.out.drew
  have hc := S3.out.cells
  go_wp2_with fail
  go_region_held3 (fun w' => (w'.cell? ⟨q, 0, none⟩ = some (.int .i64 c0) ∧ w'.cell? ⟨q, 1, none⟩ = some (.int .i64 c1) ∧ w'.cell? ⟨q, 2, none⟩ = some (.int .i64 c2) ∧ w'.cell? ⟨q, 3, none⟩ = some (.int .i64 c3) ∧ w'.cell? ⟨q, 4, none⟩ = some (.int .i64 c4) ∧ w'.cell? ⟨q, 5, none⟩ = some (.int .i64 c5) ∧ w'.cell? ⟨q, 6, none⟩ = some (.int .i64 c6) ∧ w'.cell? ⟨q, 7, none⟩ = some (.int .i64 c7) ∧ w'.cell? ⟨q, 8, none⟩ = some (.int .i64 core))) (first | exact hc | exact RSt.cells (Hid.out (by assumption)))
    (first | (go_at_call 39; refine (L.out _).mono ?_; rintro e wm ⟨rfl, hbm⟩; have Sm := hide (S3.out.below hbm); clear hbm))
  clear hc S3 S2
  have hi : first * 16 + n * 2 < nb * 16 := by omega
  obtain ⟨y0, y1, y2, y3, y4⟩ := Sm.out.spots hi
  have nb256 := Sm.out.mem.1
  have hw1 : IntKind.i64.wrap (16 * (first : Int)) = 16 * (first : Int) := IntWalk.i64_in _ (by omega)
  have hw2 : IntKind.i64.wrap (2 * (n : Int)) = 2 * (n : Int) := IntWalk.i64_in _ (by omega)
  have hw3 : IntKind.i64.wrap (16 * (first : Int) + 2 * (n : Int)) = 16 * (first : Int) + 2 * (n : Int) := IntWalk.i64_in _ (by omega)
  have hw4 : IntKind.i64.wrap (16 * (first : Int) + 2 * (n : Int) + 1) = 16 * (first : Int) + 2 * (n : Int) + 1 := IntWalk.i64_in _ (by omega)
  have hp1 : 0 ≤ 16 * (first : Int) + 2 * (n : Int) := by omega
  have hp2 : 0 ≤ 16 * (first : Int) + 2 * (n : Int) + 1 := by omega
  have hp3 : 16 * (first : Int) + 2 * (n : Int) < ((nb * 16 : Nat) : Int) := by omega
  have hp4 : 16 * (first : Int) + 2 * (n : Int) + 1 < ((nb * 16 : Nat) : Int) := by omega
  have hp5 : 16 * (first : Int) + 2 * (n : Int) < (nb : Int) * 16 := by omega
  have hp6 : 16 * (first : Int) + 2 * (n : Int) + 1 < (nb : Int) * 16 := by omega
  have ht1 : (16 * (first : Int) + 2 * (n : Int)).toNat = first * 16 + n * 2 := by omega
  have ht2 : (16 * (first : Int) + 2 * (n : Int) + 1).toNat = first * 16 + n * 2 + 1 := by omega
  go_wp2_with fail
  go_region
  have S4 := hide (Sm.out.put (first * 16 + n * 2) addr).drew
  clear Sm y0 y1 y2 y3 y4 hi
  generalize (wm.setCell ⟨RD, first * 16 + n * 2, none⟩ (.int .u32 addr)).drew = w3 at *
  obtain ⟨y0, y1, y2, y3, y4⟩ := S4.out.spots hlg
  go_wp2_with fail
  go_region
  have S5 := hide (S4.out.put (first * 16 + n * 2 + 1) old).drew
  clear S4 y0 y1 y2 y3 y4 hw1 hw2 hw3 hw4 hp1 hp2 hp3 hp4 hp5 hp6 ht1 ht2
  generalize (w3.setCell ⟨RD, first * 16 + n * 2 + 1, none⟩ (.int .u32 old)).drew = w4 at *
  obtain ⟨i0, hi0, hz0, hz1, hz2⟩ := info_parts infoT
  have H0 : Hid ((w4.alloc (.cells #[] 40)).ownsRow w4.heap.size 40 2 (.slice (some ⟨w4.heap.size, 0, none⟩) 0 0) 0 []) :=
    ⟨by simp, .inr ⟨w4.heap.size, 0, #[], rfl, Nat.le_refl _, heap_alloc_new w4 _, Nat.le_refl _, by simp [maxLen], by simp, by simp⟩⟩
  have HR := hide (S5.out.ent.reads.alloc (Nat.le_refl _) (.cells #[] 40))
  have HO := hide (wordsL_one E (n * 2))
  have hql := Row.lt S5.out.log
  obtain ⟨y0, y1, y2, y3, y4⟩ := S5.out.spots hlg
  have Q := hide (And.intro y1 y4)
  have hm31 : 0 + n ≤ maxLen := by unfold maxLen; omega
  clear y0 y2 y3 y4
  have HP := hide (pair_one addr old)
  have hm32 : n + 1 ≤ maxLen := by unfold maxLen; omega
  go_wp2_with (first
    | (at_builtin; refine wpList_append_any _ rfl (.tmp 76) (.tmp 80) 35 rfl w4.heap.size 40 i0 _ 2 8 Try.underlying35 hi0 hz0 hz1 hz2 rfl (by omega) (.slice (some ⟨w4.heap.size, 0, none⟩) 0 0) 0 [] rfl H0.out w4.heap.size A n c (wordsL E (n * 2)) rfl HR.out HO.out hm31 (by omega) (by simp) ?_; intro v5 w5 hown5 hg5 hat5; rw [Nat.zero_add, List.nil_append] at hown5; have HB5 := hide (((Below.refl w4.heap.size w4).alloc (Nat.le_refl _) _).grown hg5 (by simp) (fun k hk => by simp [Value.ownBlock] at hk; omega)); have HOWN := hide (hown5.alloc (.cells #[.int .u32 addr, .int .u32 old] 40)); have HR5 := hide (reads_pair w5 40 addr old); have HAT := hide hat5; have hb5z := HB5.out.size; clear hown5 hg5 hat5)
    | (at_builtin; (refine wpList_append_any _ rfl (.tmp 81) (.tmp 85) 35 rfl w4.heap.size 40 i0 _ 2 8 Try.underlying35 hi0 hz0 hz1 hz2 rfl (by omega) v5 n (wordsL E (n * 2)) rfl HOWN.out (w5.heap.size + 1) (some ⟨w5.heap.size, 0, none⟩) 1 1 [.int .u32 addr, .int .u32 old] rfl HR5.out HP.out hm32 (by omega) (Nat.le_trans hb5z (by simp)) ?_; intro v6 w6 hown6 hg6 hat6; obtain ⟨g6, cap6, rfl, hbg6, hlt6⟩ := hown6.form (Nat.succ_pos n); have HOWN6 := hide hown6; have HG6 := hide hg6; have HAT6 := hide hat6; clear hown6 hg6 hat6; have HB6 : Hid (Below w4.heap.size w4 w6) := hide ((HB5.out.alloc HB5.out.size _).grown HG6.out (Nat.le_trans hb5z (by simp)) (fun k hk => by (rcases HAT.out with e | e <;> rw [e] at hk <;> simp [Value.ownBlock] at hk <;> omega))); have hq9 := (HB6.out.cell (p := ⟨q, 9, none⟩) hql).trans Q.out.1; have hqf := (HB6.out.frozen (p := ⟨q, 9, none⟩) hql).trans Q.out.2)))
  go_ret
  have S6 := (S5.out.below HB6.out)
  obtain ⟨hrow, hcap⟩ := row2_of_own (n := n + 1) (f := fun i => .int .u32 (addEnt E n addr old i)) HOWN6.out (addEnt_get E n addr old)
  have hg := only_setCell (g := q) (World.grownBy.refl w6 _) (p := ⟨q, 9, none⟩) (.inl rfl) (.slice (some ⟨g6, 0, none⟩) (n + 1) cap6)
  have hqg : g6 ≠ q := by omega
  refine ⟨rfl, _, cap6, hcap, S6.log.setL _, (S6.mem.other hg (Ne.symm S6.ne2) (Ne.symm S6.ne1)).congr fun i _ => ?_, .inr ⟨g6, rfl, hrow.of_block (Below.heap_setCell w6 ⟨q, 9, none⟩ _ g6 hqg)⟩, S6.two.setCell (p := ⟨q, 9, none⟩) (.inr (.inl rfl)) _, S6.ne1, S6.ne2⟩
  simp only [putE]
  by_cases e : i = first * 16 + n * 2
  · simp [e]
  · by_cases e2 : i = first * 16 + n * 2 + 1 <;> simp [e, e2]
end
end Go.Proofs.Ytnhfbdjjbmhnkaa.URef
