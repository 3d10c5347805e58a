/-
  The program's log with its memory as one state: each call's answer by a plain function, and the state behind it; New at any plan; an entry is kept ('works').
-/
import Derived.Test.YtnhfbdjjbmhnkaaURef
namespace Go.Proofs.Ytnhfbdjjbmhnkaa.ULog
open Go.RowKit PPlain Base PMay PRefMay PWalk MMem UPlain UWalk UAdd UAt UNew MRef URef
set_option linter.unusedVariables false
set_option linter.unusedSimpArgs false

def addE (c0 c3 c4 addr logs many : Int) : Int := if wE c0 c3 c4 addr ≠ 0 then wE c0 c3 c4 addr else if many = 8 * logs then 7 else 0
def addN (e many : Int) : Int := if e = 0 then many + 1 else many
def addF (F : Nat → Int) (first many addr old e : Int) : Nat → Int := if e = 0 then putE F (base first many) addr old 2 else F
def popE (many : Int) : Int := if many = 0 then 4 else 0
def popN (many : Int) : Int := if many = 0 then 0 else many - 1

structure LSt (w0 w : World) (l : Nat) (c0 c1 c2 c3 c4 c5 c6 c7 : Int) (p : Nat) (first logs many : Int) (D nb : Nat) (F : Nat → Int) : Prop where
  may : mayB c0 c1 c2 c3 c4 c5 c6 c7 = true
  log : LogAt w l c0 c1 c2 c3 c4 c5 c6 c7 p first (8 * logs) many
  mem : MemAt w p D nb F
  bel : Below w0.heap.size w0 w
  gl : w0.heap.size ≤ l
  gD : w0.heap.size ≤ D
  n1 : l ≠ D
  n2 : l ≠ p
  hf : 0 ≤ first
  hlg : first + logs ≤ nb
  lg : 1 ≤ logs ∧ logs ≤ 4
  m0 : 0 ≤ many
  m1 : many ≤ 8 * logs
section
variable {w0 w w' : World} {l : Nat} {c0 c1 c2 c3 c4 c5 c6 c7 : Int} {p : Nat} {first logs many many' : Int} {D nb : Nat} {F F' : Nat → Int}
theorem LSt.below (h : LSt w0 w l c0 c1 c2 c3 c4 c5 c6 c7 p first logs many D nb F) (hb : Below w.heap.size w w') : LSt w0 w' l c0 c1 c2 c3 c4 c5 c6 c7 p first logs many D nb F :=
  { h with log := h.log.below hb (Row.lt h.log), mem := h.mem.below hb, bel := below_then h.bel hb }
theorem LSt.drew (h : LSt w0 w l c0 c1 c2 c3 c4 c5 c6 c7 p first logs many D nb F) : LSt w0 w.drew l c0 c1 c2 c3 c4 c5 c6 c7 p first logs many D nb F := { h with log := h.log, mem := h.mem, bel := h.bel.drew }
theorem LSt.drewN (h : LSt w0 w l c0 c1 c2 c3 c4 c5 c6 c7 p first logs many D nb F) (k : Nat) : LSt w0 (w.drewN k) l c0 c1 c2 c3 c4 c5 c6 c7 p first logs many D nb F := { h with log := h.log, mem := h.mem, bel := bdrewN h.bel k }
theorem LSt.move (h : LSt w0 w l c0 c1 c2 c3 c4 c5 c6 c7 p first logs many D nb F) (hl : LogAt w' l c0 c1 c2 c3 c4 c5 c6 c7 p first (8 * logs) many') (hM : MemAt w' p D nb F') (ht : Two D l w w') (m0 : 0 ≤ many') (m1 : many' ≤ 8 * logs) :
    LSt w0 w' l c0 c1 c2 c3 c4 c5 c6 c7 p first logs many' D nb F' :=
  { h with log := hl, mem := hM, bel := Below.two h.bel ht h.gD h.gl h.bel.size, m0 := m0, m1 := m1 }
/-- Another block turned, and what is new. -/
theorem LSt.other (h : LSt w0 w l c0 c1 c2 c3 c4 c5 c6 c7 p first logs many D nb F) {a b : Nat} (ht : Two a b w w') (ha : w0.heap.size ≤ a) (hb : w0.heap.size ≤ b) (la : l ≠ a) (lb : l ≠ b) (pa : p ≠ a) (pb : p ≠ b) (Da : D ≠ a) (Db : D ≠ b) :
    LSt w0 w' l c0 c1 c2 c3 c4 c5 c6 c7 p first logs many D nb F := by
  have hk : ∀ i, i < w.heap.size → i ≠ a → i ≠ b → w'.heap[i]? = w.heap[i]? := ht.block
  obtain ⟨h1, h2, ⟨c, h0, h3⟩, h4⟩ := h.mem
  exact { h with log := Row.of_block h.log (hk l (Row.lt h.log) la lb), mem := ⟨h1, h2, ⟨c, h0, (World.cell?_of_block (w := w) (hk p (block_lt_of_cell h3) pa pb)).trans h3⟩, h4.of_block (hk D h4.lt Da Db)⟩, bel := Below.two h.bel ht ha hb h.bel.size }

theorem LSt.Add_any (h : LSt w0 w l c0 c1 c2 c3 c4 c5 c6 c7 p first logs many D nb F) (addr old : Int) (h0 : 0 ≤ addr) (h1 : addr ≤ 4294967295) :
    Calls Try.prog 12 #[.pointer (some ⟨l, 0, none⟩), .int .u32 addr, .int .u32 old] w fun e w' => e = .returned (.int .i64 (addE c0 c3 c4 addr logs many)) ∧
      LSt w0 w' l c0 c1 c2 c3 c4 c5 c6 c7 p first logs (addN (addE c0 c3 c4 addr logs many) many) D nb (addF F first many addr old (addE c0 c3 c4 addr logs many)) ∧ Two D l w w' := by
  by_cases he : wE c0 c3 c4 addr = 0
  · by_cases hf : many = 8 * logs
    · have e : addE c0 c3 c4 addr logs many = 7 := by simp [addE, he, hf]
      rw [e]
      have hl := h.log
      rw [hf] at hl
      refine (Add_full l p c0 c1 c2 c3 c4 c5 c6 c7 first (8 * logs) w addr old h.may h0 h1 he hl).mono ?_
      rintro e w' ⟨rfl, hb⟩
      exact ⟨rfl, by simpa [addN, addF] using h.below hb, Two.of_below hb⟩
    · have e : addE c0 c3 c4 addr logs many = 0 := by simp [addE, he, hf]
      rw [e]
      have m0 := h.m0
      have m1 := h.m1
      refine (Add_ok l p c0 c1 c2 c3 c4 c5 c6 c7 first (8 * logs) many D nb F w addr old logs h.may h0 h1 he h.hf h.hlg h.m0 (by omega) h.lg.2 (by rw [beq_eq_false_iff_ne]; exact hf) h.log h.mem h.n1 h.n2).mono ?_
      rintro e w' ⟨rfl, hl, hM, ht⟩
      exact ⟨rfl, by simpa [addN, addF] using h.move hl hM ht (by omega) (by omega), ht⟩
  · have e : addE c0 c3 c4 addr logs many = wE c0 c3 c4 addr := by simp [addE, he]
    rw [e]
    refine (Add_bad l p c0 c1 c2 c3 c4 c5 c6 c7 first (8 * logs) many w addr old h.may h0 h1 (by rw [bne_iff_ne]; exact he) h.log).mono ?_
    rintro e w' ⟨rfl, hb⟩
    exact ⟨rfl, by simpa [addN, addF, he] using h.below hb, Two.of_below hb⟩
theorem LSt.Pop_any (h : LSt w0 w l c0 c1 c2 c3 c4 c5 c6 c7 p first logs many D nb F) :
    Calls Try.prog 13 #[.pointer (some ⟨l, 0, none⟩)] w fun e w' => e = .returned (.int .i64 (popE many)) ∧ LSt w0 w' l c0 c1 c2 c3 c4 c5 c6 c7 p first logs (popN many) D nb F ∧ Two D l w w' := by
  by_cases hz : many = 0
  · have hl := h.log
    rw [hz] at hl
    refine (Pop_none l p c0 c1 c2 c3 c4 c5 c6 c7 first (8 * logs) w hl).mono ?_
    rintro e w' ⟨rfl, rfl⟩
    exact ⟨by simp [popE, hz], by simpa [popN, hz] using h, Two.refl _⟩
  · have m0 := h.m0
    have m1 := h.m1
    have lg := h.lg
    refine (Pop_one l p c0 c1 c2 c3 c4 c5 c6 c7 first (8 * logs) many w (by omega) (by omega) h.log).mono ?_
    rintro e w' ⟨rfl, hl, hg⟩
    have ht : Two D l w w' := ⟨hg.os, hg.tape, hg.output, hg.size, fun i hi _ h2 => hg.block i hi (fun e => h2 (by injection e))⟩
    have hM := h.mem.other hg (Ne.symm h.n2) (Ne.symm h.n1)
    exact ⟨by simp [popE, hz], by simpa [popN, hz] using h.move hl hM ht (by omega) (by omega), ht⟩
theorem LSt.Clear_all (h : LSt w0 w l c0 c1 c2 c3 c4 c5 c6 c7 p first logs many D nb F) :
    Calls Try.prog 19 #[.pointer (some ⟨l, 0, none⟩)] w fun e w' => e = .returned (.tuple #[]) ∧ LSt w0 w' l c0 c1 c2 c3 c4 c5 c6 c7 p first logs 0 D nb F ∧ Two D l w w' := by
  refine (Clear_any l p c0 c1 c2 c3 c4 c5 c6 c7 first (8 * logs) many w h.log).mono ?_
  rintro e w' ⟨rfl, hl, hg⟩
  have lg := h.lg
  have ht : Two D l w w' := ⟨hg.os, hg.tape, hg.output, hg.size, fun i hi _ h2 => hg.block i hi (fun e => h2 (by injection e))⟩
  exact ⟨rfl, h.move hl (h.mem.other hg (Ne.symm h.n2) (Ne.symm h.n1)) ht (by omega) (by omega), ht⟩
theorem LSt.At_all (h : LSt w0 w l c0 c1 c2 c3 c4 c5 c6 c7 p first logs many D nb F) (i : Int) :
    Calls Try.prog 15 #[.pointer (some ⟨l, 0, none⟩), .int .i64 i] w fun e w' => e = .returned (.tuple #[.int .u32 (atA F first many i), .int .u32 (atB F first many i), .int .i64 (atE many i)]) ∧ Below w.heap.size w w' :=
  At_any l p c0 c1 c2 c3 c4 c5 c6 c7 first (8 * logs) many D nb F w i logs h.hf h.hlg h.m1 h.lg.2 h.log h.mem
theorem LSt.Last_all (h : LSt w0 w l c0 c1 c2 c3 c4 c5 c6 c7 p first logs many D nb F) :
    Calls Try.prog 18 #[.pointer (some ⟨l, 0, none⟩)] w fun e w' => e = .returned (.tuple #[.int .u32 (atA F first many (many - 1)), .int .u32 (atB F first many (many - 1)), .int .i64 (atE many (many - 1))]) ∧ Below w.heap.size w w' :=
  Last_any l p c0 c1 c2 c3 c4 c5 c6 c7 first (8 * logs) many D nb F w logs h.hf h.hlg h.m0 h.m1 h.lg.2 h.log h.mem
theorem LSt.Len_all (h : LSt w0 w l c0 c1 c2 c3 c4 c5 c6 c7 p first logs many D nb F) :
    Calls Try.prog 14 #[.pointer (some ⟨l, 0, none⟩)] w fun e w' => e = .returned (.int .i64 many) ∧ w = w' := Len_any l p c0 c1 c2 c3 c4 c5 c6 c7 first (8 * logs) many w h.log
theorem LSt.Room_all (h : LSt w0 w l c0 c1 c2 c3 c4 c5 c6 c7 p first logs many D nb F) :
    Calls Try.prog 20 #[.pointer (some ⟨l, 0, none⟩)] w fun e w' => e = .returned (.int .i64 (8 * logs - many)) ∧ ∃ n, w' = w.drewN n := by
  have m0 := h.m0
  have m1 := h.m1
  have lg := h.lg
  exact Room_quiet l p c0 c1 c2 c3 c4 c5 c6 c7 first (8 * logs) many w (by omega) (by omega) (by omega) (by omega) h.log
end

section
variable (c0 c1 c2 c3 c4 c5 c6 c7 core : Int)
/-- Where the core's log lies. -/
def firstOf (c0 c3 c4 core : Int) : Int := c3 - c0 * c4 + core * c4
theorem first_bd (hm : mayB c0 c1 c2 c3 c4 c5 c6 c7 = true) (h0 : 0 ≤ core) (h1 : core < c0) : 1 ≤ firstOf c0 c3 c4 core ∧ firstOf c0 c3 c4 core + c4 ≤ c3 := by
  have b := may_bounds hm
  have h4 := b.2.2.2.2.1
  have e1 : 0 ≤ core * c4 := Int.mul_nonneg h0 (by omega)
  have e2 : (core + 1) * c4 ≤ c0 * c4 := Int.mul_le_mul_of_nonneg_right (by omega) (by omega)
  rw [Int.add_mul] at e2
  have b6 := b.2.2.2.2.2.2
  unfold firstOf
  omega
theorem New_yes (nb : Nat) (hm : mayB c0 c1 c2 nb c4 c5 c6 c7 = true) (h0 : 0 ≤ core) (h1 : core < c0) (p D : Nat) (F : Nat → Int) (w0 w : World) (hM : MemAt w p D nb F) (hb0 : Below w0.heap.size w0 w) (hD : w0.heap.size ≤ D) :
    Calls Try.prog 10 #[.agg #[.int .i64 c0, .int .i64 c1, .int .i64 c2, .int .i64 (nb : Int), .int .i64 c4, .int .i64 c5, .int .i64 c6, .int .i64 c7], .pointer (some ⟨p, 0, none⟩), .int .i64 core] w fun e w' =>
    ∃ l, e = .returned (.tuple #[.pointer (some ⟨l, 0, none⟩), .int .i64 0]) ∧ w.heap.size ≤ l ∧ LSt w0 w' l c0 c1 c2 nb c4 c5 c6 c7 p (firstOf c0 nb c4 core) c4 0 D nb F ∧ Below w.heap.size w w' := by
  have b := may_bounds hm
  have fb := first_bd c0 c1 c2 nb c4 c5 c6 c7 core hm h0 h1
  have h4 := b.2.2.2.2.1
  have hpl : p < w.heap.size := block_lt_of_cell hM.2.2.1.choose_spec.2
  have hDl := hM.2.2.2.lt
  refine (New_ok c0 c1 c2 nb c4 c5 c6 c7 core p D nb F w (firstOf c0 nb c4 core) c4 (by simp) (by omega) (by omega) hM (hide (fun w => Log_true c0 c1 c2 nb c4 c5 c6 c7 core hm h0 h1 w))).mono ?_
  rintro e w' ⟨l, rfl, hl, hlog, hb⟩
  have hbs := hb0.size
  exact ⟨l, rfl, hl, ⟨hm, hlog, hM.below hb, below_then hb0 hb, by omega, hD, by omega, by omega, by omega, by omega, by omega, by omega, by omega⟩, hb⟩
/-- There is no log: the program's answer is the document's. -/
theorem New_none (nb : Nat) (hn1 : 1 ≤ nb) (hn2 : nb ≤ 256) (h : ¬ (mayB c0 c1 c2 c3 c4 c5 c6 c7 = true ∧ (0 ≤ core ∧ core < c0) ∧ c3 = nb)) :
    ∃ er : Int, (er != 0) = true ∧ (∀ (p D : Nat) (F : Nat → Int) (w : World), MemAt w p D nb F → Calls Try.prog 10 #[.agg #[.int .i64 c0, .int .i64 c1, .int .i64 c2, .int .i64 c3, .int .i64 c4, .int .i64 c5, .int .i64 c6, .int .i64 c7], .pointer (some ⟨p, 0, none⟩), .int .i64 core] w fun e w' =>
      e = .returned (.tuple #[.pointer none, .int .i64 er]) ∧ Below w.heap.size w w') ∧
    (∀ (r RD : Nat) (F : Nat → Int) (w : World), RefAt w r RD nb F → Calls Try.prog 23 #[.agg #[.int .i64 c0, .int .i64 c1, .int .i64 c2, .int .i64 c3, .int .i64 c4, .int .i64 c5, .int .i64 c6, .int .i64 c7], .pointer (some ⟨r, 0, none⟩), .int .i64 core] w fun e w' =>
      e = .returned (.tuple #[.pointer none, .int .i64 er]) ∧ Below w.heap.size w w') := by
  cases hm : mayB c0 c1 c2 c3 c4 c5 c6 c7
  · exact ⟨2, rfl, fun p D F w hM => New_bad c0 c1 c2 c3 c4 c5 c6 c7 core p D nb F w 2 rfl hM (hide (fun w => Log_false c0 c1 c2 c3 c4 c5 c6 c7 core hm w)),
      fun r RD F w hM => RNew_bad c0 c1 c2 c3 c4 c5 c6 c7 core w 2 rfl (hide (fun w => LogR_false c0 c1 c2 c3 c4 c5 c6 c7 core hm w)) _⟩
  · by_cases hc : 0 ≤ core ∧ core < c0
    · have h3 : (nb : Int) ≠ c3 := fun e => h ⟨hm, hc, e.symm⟩
      have b := may_bounds hm
      exact ⟨2, rfl, fun p D F w hM => New_many c0 c1 c2 c3 c4 c5 c6 c7 core p D nb F w _ _ (by rw [bne_iff_ne]; exact h3) hM (hide (fun w => Log_true c0 c1 c2 c3 c4 c5 c6 c7 core hm hc.1 hc.2 w)),
        fun r RD F w hM => RNew_many r RD nb F c0 c1 c2 c3 c4 c5 c6 c7 core w _ _ b.2.2.2.1.1 b.2.2.2.1.2 h3 hM (hide (fun w => LogR_true c0 c1 c2 c3 c4 c5 c6 c7 core hm hc.1 hc.2 w))⟩
    · have hr : core < 0 ∨ c0 ≤ core := by omega
      exact ⟨5, rfl, fun p D F w hM => New_bad c0 c1 c2 c3 c4 c5 c6 c7 core p D nb F w 5 rfl hM (hide (fun w => Log_range c0 c1 c2 c3 c4 c5 c6 c7 core hm hr w)),
        fun r RD F w hM => RNew_bad c0 c1 c2 c3 c4 c5 c6 c7 core w 5 rfl (hide (fun w => LogR_range c0 c1 c2 c3 c4 c5 c6 c7 core hm hr w)) _⟩
end

theorem two_any (w : World) : Calls Try.prog 17 #[] w fun e w' => e = .returned (.agg #[.int .i64 2, .int .i64 2, .int .i64 2, .int .i64 10, .int .i64 1, .int .i64 1, .int .i64 1, .int .i64 0]) ∧ Below w.heap.size w w' := by
  go_enter Try.func17, Try.ntmps17
  go_wp2
  exact bodyPost_ret (v := .agg #[.int .i64 2, .int .i64 2, .int .i64 2, .int .i64 10, .int .i64 1, .int .i64 1, .int .i64 1, .int .i64 0]) (by simp [results, Try.results17, go_sem]) rfl ⟨rfl, (Below.refl _ _).alloc (Nat.le_refl _) _⟩
theorem two_may : mayB 2 2 2 10 1 1 1 0 = true := by decide
theorem two_first : firstOf 2 10 1 1 = 9 := by decide

theorem New_two (p D : Nat) (F : Nat → Int) (w0 w : World) (hM : MemAt w p D 10 F) (hb0 : Below w0.heap.size w0 w) (hD : w0.heap.size ≤ D) :
    Calls Try.prog 10 #[.agg #[.int .i64 2, .int .i64 2, .int .i64 2, .int .i64 10, .int .i64 1, .int .i64 1, .int .i64 1, .int .i64 0], .pointer (some ⟨p, 0, none⟩), .int .i64 1] w fun e w' =>
    ∃ l, e = .returned (.tuple #[.pointer (some ⟨l, 0, none⟩), .int .i64 0]) ∧ w.heap.size ≤ l ∧ LSt w0 w' l 2 2 2 10 1 1 1 0 p 9 1 0 D 10 F ∧ Below w.heap.size w w' := by
  have N := New_yes 2 2 2 1 1 1 0 1 10 two_may (by omega) (by omega) p D F w0 w hM hb0 hD
  rw [show firstOf 2 ((10 : Nat) : Int) 1 1 = 9 by decide] at N
  exact N
/-- A call of the state's log at its plain answer. -/
theorem LSt.add_at {w0 w : World} {l : Nat} {c0 c1 c2 c3 c4 c5 c6 c7 : Int} {p : Nat} {first logs many : Int} {D nb : Nat} {F : Nat → Int} (h : LSt w0 w l c0 c1 c2 c3 c4 c5 c6 c7 p first logs many D nb F) (addr old e m : Int) (h0 : 0 ≤ addr) (h1 : addr ≤ 4294967295)
    (he : addE c0 c3 c4 addr logs many = e) (hm : addN e many = m) :
    Calls Try.prog 12 #[.pointer (some ⟨l, 0, none⟩), .int .u32 addr, .int .u32 old] w fun r w' => r = .returned (.int .i64 e) ∧
      LSt w0 w' l c0 c1 c2 c3 c4 c5 c6 c7 p first logs m D nb (addF F first many addr old e) ∧ Two D l w w' := by
  have := h.Add_any addr old h0 h1
  rw [he, hm] at this
  exact this
theorem LSt.last_at {w0 w : World} {l : Nat} {c0 c1 c2 c3 c4 c5 c6 c7 : Int} {p : Nat} {first logs many : Int} {D nb : Nat} {F : Nat → Int} (h : LSt w0 w l c0 c1 c2 c3 c4 c5 c6 c7 p first logs many D nb F) (x y e : Int)
    (hx : atA F first many (many - 1) = x) (hy : atB F first many (many - 1) = y) (he : atE many (many - 1) = e) :
    Calls Try.prog 18 #[.pointer (some ⟨l, 0, none⟩)] w fun r w' => r = .returned (.tuple #[.int .u32 x, .int .u32 y, .int .i64 e]) ∧ Below w.heap.size w w' := by
  have := h.Last_all
  rw [hx, hy, he] at this
  exact this
def keptF : Nat → Int := addF (fun _ => 0) 9 0 68 5 0
theorem kept_no (a o e : Int) (h : e ≠ 0) : addF keptF 9 1 a o e = keptF := by simp [addF, h]
theorem works_any (w : World) : Calls Try.prog 8 #[] w fun e w' => e = .returned (.bool true) ∧ Below w.heap.size w w' := by
  go_enter Try.func8, Try.ntmps8
  go_wp2_with fail
  refine (MMem.New_ok 10 (by omega) (by omega) w).mono ?_
  rintro e w1 ⟨rfl, hM, hb1⟩
  have HM := hide hM
  have HB := hide hb1
  obtain ⟨D, hD⟩ : ∃ D, D = w.heap.size := ⟨_, rfl⟩
  obtain ⟨p, hp⟩ : ∃ p, p = w.heap.size + 1 := ⟨_, rfl⟩
  rw [← hp, ← hD] at HM
  have HD := hide (show w.heap.size ≤ D by omega)
  clear hM hb1 hD
  go_wp2_with fail
  rw [← hp]
  clear hp
  refine (two_any _).mono ?_
  rintro e w2 ⟨rfl, hb2⟩
  have HM2 := hide (HM.out.below hb2)
  have HB2 := hide (below_then HB.out hb2)
  clear hb2
  go_wp2_with fail
  refine (New_two p D (fun _ => 0) w w2 HM2.out HB2.out HD.out).mono ?_
  rintro e w3 ⟨l, rfl, hl, hS, hb3⟩
  have S3 := hide hS
  clear hl hS hb3
  go_wp2_with fail
  refine (S3.out.add_at 68 5 0 1 (by omega) (by omega) (by decide) (by decide)).mono ?_
  rintro e w4 ⟨rfl, hS, ht⟩
  have S4 := hide hS
  clear hS ht S3
  rw [show addF (fun _ => 0) 9 0 68 5 0 = keptF from rfl] at S4
  go_wp2_with fail
  refine (S4.out.add_at 70 5 50 1 (by omega) (by omega) (by decide) (by decide)).mono ?_
  rintro e w5 ⟨rfl, hS, ht⟩
  rw [kept_no 70 5 50 (by decide)] at hS
  have S5 := hide hS
  clear hS ht S4
  go_wp2_with fail
  refine (S5.out.add_at 512 5 51 1 (by omega) (by omega) (by decide) (by decide)).mono ?_
  rintro e w6 ⟨rfl, hS, ht⟩
  rw [kept_no 512 5 51 (by decide)] at hS
  have S6 := hide hS
  clear hS ht S5
  go_wp2_with fail
  refine (S6.out.Room_all).mono ?_
  rintro e w7 ⟨rfl, k, rfl⟩
  have S7 := hide (S6.out.drewN k)
  clear S6
  go_wp2_with fail
  refine (S7.out.last_at 68 5 0 (by decide) (by decide) (by decide)).mono ?_
  rintro e w8 ⟨rfl, hb8⟩
  have S8 := hide (S7.out.below hb8)
  clear hb8 S7
  go_wp2
  go_ret
  exact ⟨rfl, S8.out.bel⟩
end Go.Proofs.Ytnhfbdjjbmhnkaa.ULog
