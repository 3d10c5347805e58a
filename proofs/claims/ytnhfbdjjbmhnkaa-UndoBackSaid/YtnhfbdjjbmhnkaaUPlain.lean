/-
  The layer 'undo': what stands where; a plan's answer to Where; two blocks that may turn.
-/
import Derived.Test.YtnhfbdjjbmhnkaaPWalk
import Derived.Test.YtnhfbdjjbmhnkaaMMem
namespace Go.Proofs.Ytnhfbdjjbmhnkaa.UPlain
open Go.RowKit PPlain Base PMay PRefMay PWalk
set_option linter.unusedVariables false

/-- Where's answer at a plan that may be. -/
def wE (c0 c3 c4 addr : Int) : Int := if addr % 4 ≠ 0 then 50 else if c3 ≤ addr / 64 then 5 else if c3 - c0 * c4 ≤ addr / 64 then 51 else 0
def wB (c0 c3 c4 addr : Int) : Int := if wE c0 c3 c4 addr = 0 then addr / 64 else 0
def wW (c0 c3 c4 addr : Int) : Int := if wE c0 c3 c4 addr = 0 then addr / 4 % 16 else 0

theorem Where_any (c0 c1 c2 c3 c4 c5 c6 c7 addr : Int) (hm : mayB c0 c1 c2 c3 c4 c5 c6 c7 = true) (h0 : 0 ≤ addr) (h1 : addr ≤ 4294967295) (w : World) :
    Calls Try.prog 32 #[.agg #[.int .i64 c0, .int .i64 c1, .int .i64 c2, .int .i64 c3, .int .i64 c4, .int .i64 c5, .int .i64 c6, .int .i64 c7], .int .u32 addr] w fun e w' =>
      e = .returned (.tuple #[.int .i64 (wB c0 c3 c4 addr), .int .i64 (wW c0 c3 c4 addr), .int .i64 (wE c0 c3 c4 addr)]) ∧ Below w.heap.size w w' := by
  by_cases h : addr % 4 = 0
  · refine (Where_true c0 c1 c2 c3 c4 c5 c6 c7 addr hm h0 h1 h w).mono ?_
    rintro e w' ⟨rfl, hb⟩
    refine ⟨?_, hb⟩
    by_cases g : c3 ≤ addr / 64
    · simp [wB, wW, wE, h, g]
    · by_cases g2 : c3 - c0 * c4 ≤ addr / 64
      · simp [wB, wW, wE, h, g, g2]
      · simp [wB, wW, wE, h, g, g2]
  · refine (Where_align c0 c1 c2 c3 c4 c5 c6 c7 addr hm h0 h1 h w).mono ?_
    rintro e w' ⟨rfl, hb⟩
    exact ⟨by simp [wB, wW, wE, h], hb⟩
theorem WhereR_any (c0 c1 c2 c3 c4 c5 c6 c7 addr : Int) (hm : mayB c0 c1 c2 c3 c4 c5 c6 c7 = true) (h0 : 0 ≤ addr) (h1 : addr ≤ 4294967295) (w : World) :
    Calls Try.prog 40 #[.agg #[.int .i64 c0, .int .i64 c1, .int .i64 c2, .int .i64 c3, .int .i64 c4, .int .i64 c5, .int .i64 c6, .int .i64 c7], .int .u32 addr] w fun e w' =>
      e = .returned (.tuple #[.int .i64 (wB c0 c3 c4 addr), .int .i64 (wW c0 c3 c4 addr), .int .i64 (wE c0 c3 c4 addr)]) ∧ Below w.heap.size w w' := by
  by_cases h : addr % 4 = 0
  · refine (WhereR_true c0 c1 c2 c3 c4 c5 c6 c7 addr hm h0 h1 h w).mono ?_
    rintro e w' ⟨rfl, hb⟩
    refine ⟨?_, hb⟩
    by_cases g : c3 ≤ addr / 64
    · simp [wB, wW, wE, h, g]
    · by_cases g2 : c3 - c0 * c4 ≤ addr / 64
      · simp [wB, wW, wE, h, g, g2]
      · simp [wB, wW, wE, h, g, g2]
  · refine (WhereR_align c0 c1 c2 c3 c4 c5 c6 c7 addr hm h0 h1 h w).mono ?_
    rintro e w' ⟨rfl, hb⟩
    exact ⟨by simp [wB, wW, wE, h], hb⟩

/-- All but two blocks are as they were. -/
structure Two (D l : Nat) (w w' : World) : Prop where
  os : w'.os = w.os
  tape : w'.tape = w.tape
  output : w'.output = w.output
  size : w.heap.size ≤ w'.heap.size
  block : ∀ i, i < w.heap.size → i ≠ D → i ≠ l → w'.heap[i]? = w.heap[i]?
section
variable {D l : Nat} {a w w' : World}
theorem Two.refl (w : World) : Two D l w w := ⟨rfl, rfl, rfl, Nat.le_refl _, fun _ _ _ _ => rfl⟩
theorem Two.trans (h : Two D l a w) (k : Two D l w w') : Two D l a w' :=
  ⟨k.os.trans h.os, k.tape.trans h.tape, k.output.trans h.output, Nat.le_trans h.size k.size, fun i hi h1 h2 => (k.block i (Nat.lt_of_lt_of_le hi h.size) h1 h2).trans (h.block i hi h1 h2)⟩
theorem Two.of_below (h : Below a.heap.size a w) : Two D l a w := ⟨h.os, h.tape, h.output, h.size, fun i hi _ _ => h.block i hi⟩
theorem Two.of_grown (h : a.grownBy w (some D)) : Two D l a w := ⟨h.os, h.tape, h.output, h.size, fun i hi h1 _ => h.block i hi (fun e => h1 (by injection e))⟩
theorem Two.below (h : Two D l a w) (k : Below a.heap.size w w') : Two D l a w' :=
  ⟨k.os.trans h.os, k.tape.trans h.tape, k.output.trans h.output, Nat.le_trans h.size k.size, fun i hi h1 h2 => (k.block i hi).trans (h.block i hi h1 h2)⟩
theorem Two.drew (h : Two D l a w) : Two D l a w.drew := ⟨h.os, h.tape, h.output, h.size, h.block⟩
theorem Two.drewN (h : Two D l a w) (n : Nat) : Two D l a (w.drewN n) := ⟨h.os, h.tape, h.output, h.size, h.block⟩
theorem Two.alloc (h : Two D l a w) (o : Obj) : Two D l a (w.alloc o) :=
  ⟨h.os, h.tape, h.output, Nat.le_trans h.size (by simp), fun i hi h1 h2 => (Below.heap_alloc w o i (Nat.lt_of_lt_of_le hi h.size)).trans (h.block i hi h1 h2)⟩
theorem Two.setCell (h : Two D l a w) {p : Addr} (hp : p.block = D ∨ p.block = l ∨ a.heap.size ≤ p.block) (u : Value) : Two D l a (w.setCell p u) :=
  ⟨h.os, h.tape, h.output, by simpa [World.setCell] using h.size, fun i hi h1 h2 => (Below.heap_setCell w p u i (by
    rintro rfl
    rcases hp with hp | hp | hp
    · exact h1 hp
    · exact h2 hp
    · omega)).trans (h.block i hi h1 h2)⟩
theorem Below.two {B : Nat} (h : Below B a w) (k : Two D l w w') (hD : B ≤ D) (hl : B ≤ l) (hB : B ≤ w.heap.size) : Below B a w' :=
  ⟨k.os.trans h.os, k.tape.trans h.tape, k.output.trans h.output, Nat.le_trans h.size k.size, fun i hi => (k.block i (Nat.lt_of_lt_of_le hi hB) (by omega) (by omega)).trans (h.block i hi)⟩
end

/-- A log: its plan, its memory's place, its first block, its room, its entries' number. -/
def lgL (c0 c1 c2 c3 c4 c5 c6 c7 : Int) (p : Nat) (first room many : Int) : List Value :=
  [.int .i64 c0, .int .i64 c1, .int .i64 c2, .int .i64 c3, .int .i64 c4, .int .i64 c5, .int .i64 c6, .int .i64 c7, .pointer (some ⟨p, 0, none⟩), .int .i64 first, .int .i64 room, .int .i64 many]
def LogAt (w : World) (l : Nat) (c0 c1 c2 c3 c4 c5 c6 c7 : Int) (p : Nat) (first room many : Int) : Prop :=
  Row w l 76 12 (fun j => (lgL c0 c1 c2 c3 c4 c5 c6 c7 p first room many).getD j undef)
section
variable {w w' : World} {l p : Nat} {c0 c1 c2 c3 c4 c5 c6 c7 first room many : Int}
theorem LogAt.below {B : Nat} (h : LogAt w l c0 c1 c2 c3 c4 c5 c6 c7 p first room many) (hb : Below B w w') (hl : l < B) : LogAt w' l c0 c1 c2 c3 c4 c5 c6 c7 p first room many :=
  Row.of_block h (hb.block l hl)
theorem LogAt.grown {g : Nat} (h : LogAt w l c0 c1 c2 c3 c4 c5 c6 c7 p first room many) (hb : w.grownBy w' (some g)) (hl : l ≠ g) : LogAt w' l c0 c1 c2 c3 c4 c5 c6 c7 p first room many :=
  Row.of_block h (hb.block l (Row.lt h) (fun e => hl (by injection e)))
theorem LogAt.cells (h : LogAt w l c0 c1 c2 c3 c4 c5 c6 c7 p first room many) :
    w.cell? ⟨l, 0, none⟩ = some (.int .i64 c0) ∧ w.cell? ⟨l, 1, none⟩ = some (.int .i64 c1) ∧ w.cell? ⟨l, 2, none⟩ = some (.int .i64 c2) ∧ w.cell? ⟨l, 3, none⟩ = some (.int .i64 c3) ∧
    w.cell? ⟨l, 4, none⟩ = some (.int .i64 c4) ∧ w.cell? ⟨l, 5, none⟩ = some (.int .i64 c5) ∧ w.cell? ⟨l, 6, none⟩ = some (.int .i64 c6) ∧ w.cell? ⟨l, 7, none⟩ = some (.int .i64 c7) ∧
    w.cell? ⟨l, 8, none⟩ = some (.pointer (some ⟨p, 0, none⟩)) ∧ w.cell? ⟨l, 9, none⟩ = some (.int .i64 first) ∧ w.cell? ⟨l, 10, none⟩ = some (.int .i64 room) ∧ w.cell? ⟨l, 11, none⟩ = some (.int .i64 many) ∧
    w.frozen? ⟨l, 11, none⟩ = false :=
  ⟨Row.cell h (i := 0) (by omega), Row.cell h (i := 1) (by omega), Row.cell h (i := 2) (by omega), Row.cell h (i := 3) (by omega), Row.cell h (i := 4) (by omega), Row.cell h (i := 5) (by omega),
    Row.cell h (i := 6) (by omega), Row.cell h (i := 7) (by omega), Row.cell h (i := 8) (by omega), Row.cell h (i := 9) (by omega), Row.cell h (i := 10) (by omega), Row.cell h (i := 11) (by omega), Row.frozen h 11⟩
theorem LogAt.setMany (h : LogAt w l c0 c1 c2 c3 c4 c5 c6 c7 p first room many) (m : Int) : LogAt (w.setCell ⟨l, 11, none⟩ (.int .i64 m)) l c0 c1 c2 c3 c4 c5 c6 c7 p first room m :=
  (Row.set h 11 _).congr fun j hj => by
    match j, hj with
    | 0, _ | 1, _ | 2, _ | 3, _ | 4, _ | 5, _ | 6, _ | 7, _ | 8, _ | 9, _ | 10, _ | 11, _ => rfl
    | n + 12, h => omega
end
end Go.Proofs.Ytnhfbdjjbmhnkaa.UPlain
