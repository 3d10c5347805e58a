/-
  The memory of the layer 'mem' walked: New, at, SetWord, Word, Blocks of the program (for another layer's seat), at any memory, any block, any word.
-/
import Derived.Test.YtnhfbdjjbmhnkaaProg
import Derived.Test.YtnhfbdjjbmhnkaaBase
import Derived.Deep.OwnRows
namespace Go.Proofs.Ytnhfbdjjbmhnkaa.MMem
open Go.RowKit Base
set_option linter.unusedVariables false

/-- Whether there is such a word; its place; what a write makes of the words. -/
def inr (nb : Nat) (b k : Int) : Bool := decide (0 ≤ b ∧ b < nb ∧ 0 ≤ k ∧ k < 16)
def idx (b k : Int) : Nat := b.toNat * 16 + k.toNat
def errOf (nb : Nat) (b k : Int) : Int := if inr nb b k = true then 0 else 5
def getOf (f : Nat → Int) (nb : Nat) (b k : Int) : Int := if inr nb b k = true then f (idx b k) else 0
def upd (f : Nat → Int) (nb : Nat) (b k x : Int) : Nat → Int := fun i => if inr nb b k = true ∧ i = idx b k then x else f i
/-- A memory of nb blocks: its struct lies in block p, its words in block D. -/
def MemAt (w : World) (p D nb : Nat) (f : Nat → Int) : Prop :=
  nb ≤ 256 ∧ p ≠ D ∧ (∃ c, nb ≤ c ∧ w.cell? ⟨p, 0, none⟩ = some (.slice (some ⟨D, 0, none⟩) nb c)) ∧ Row w D 51 (nb * 16) (fun i => .int .u32 (f i))

theorem MemAt.below {w w' : World} {p D nb : Nat} {f : Nat → Int} (h : MemAt w p D nb f) (hb : Below w.heap.size w w') : MemAt w' p D nb f := by
  obtain ⟨h1, h2, ⟨c, h0, h3⟩, h4⟩ := h
  exact ⟨h1, h2, ⟨c, h0, (hb.cell (block_lt_of_cell h3)).trans h3⟩, h4.of_block (hb.block _ h4.lt)⟩
/-- Another block written: the memory is as it was. -/
theorem MemAt.other {w w' : World} {p D nb g : Nat} {f : Nat → Int} (h : MemAt w p D nb f) (hb : w.grownBy w' (some g)) (hp : p ≠ g) (hD : D ≠ g) : MemAt w' p D nb f := by
  obtain ⟨h1, h2, ⟨c, h0, h3⟩, h4⟩ := h
  exact ⟨h1, h2, ⟨c, h0, (World.cell?_of_block (w := w) (hb.block p (block_lt_of_cell h3) (fun e => hp (by injection e)))).trans h3⟩, h4.of_block (hb.block _ h4.lt (fun e => hD (by injection e)))⟩
theorem MemAt.set {w : World} {p D nb : Nat} {f : Nat → Int} (h : MemAt w p D nb f) {b k : Int} (hi : inr nb b k = true) (x : Int) : MemAt (w.setCell ⟨D, idx b k, none⟩ (.int .u32 x)) p D nb (upd f nb b k x) := by
  obtain ⟨h1, h2, ⟨c, h0, h3⟩, h4⟩ := h
  refine ⟨h1, h2, ⟨c, h0, (World.cell?_setCell_other _ _ _ _ (fun e => h2 (by injection e with e1 e2; exact e1.symm))).trans h3⟩, (h4.set _ _).congr fun i _ => ?_⟩
  by_cases e : i = idx b k <;> simp [upd, hi, e]
theorem MemAt.upd_no {w : World} {p D nb : Nat} {f : Nat → Int} (h : MemAt w p D nb f) {b k : Int} (hi : inr nb b k = false) (x : Int) : MemAt w p D nb (upd f nb b k x) := by
  have e : upd f nb b k x = f := by funext i; simp [upd, hi]
  rw [e]; exact h
theorem inr_iff {nb : Nat} {b k : Int} : inr nb b k = true ↔ (0 ≤ b ∧ b < nb ∧ 0 ≤ k ∧ k < 16) := by
  unfold inr
  rw [decide_eq_true_iff]
theorem idx_lt {nb : Nat} {b k : Int} (h : inr nb b k = true) : idx b k < nb * 16 := by
  have := inr_iff.1 h
  unfold idx
  omega

theorem at_ok (p D nb : Nat) (f : Nat → Int) (b k : Int) (w : World) (h : MemAt w p D nb f) (hi : inr nb b k = true) :
    Calls Try.prog 38 #[.pointer (some ⟨p, 0, none⟩), .int .i64 b, .int .i64 k] w fun e w' => e = .returned (.tuple #[.pointer (some ⟨D, idx b k, none⟩), .int .i64 0]) ∧ w = w' := by
  obtain ⟨g0, g1, g2, g3⟩ := inr_iff.1 hi
  obtain ⟨h1, h2, ⟨c, h0, h3⟩, h4⟩ := h
  have H4 := hide h4
  have H2 := hide h2
  have hx : idx b k = b.toNat * 16 + k.toNat := rfl
  have HX := hide hx
  clear h4 h2 hi hx
  go_enter Try.func38, Try.ntmps38
  go_wp2
  go_ret2
  rw [HX.out]
  exact ⟨rfl, rfl⟩

theorem at_no (p D nb : Nat) (f : Nat → Int) (b k : Int) (w : World) (h : MemAt w p D nb f) (hi : inr nb b k = false) :
    Calls Try.prog 38 #[.pointer (some ⟨p, 0, none⟩), .int .i64 b, .int .i64 k] w fun e w' => e = .returned (.tuple #[.pointer none, .int .i64 5]) ∧ w = w' := by
  have hn : ¬ (0 ≤ b ∧ b < nb ∧ 0 ≤ k ∧ k < 16) := fun e => by rw [inr_iff.2 e] at hi; cases hi
  obtain ⟨h1, h2, ⟨c, h0, h3⟩, h4⟩ := h
  clear h4 h2 hi
  by_cases t0 : b < 0
  · clear hn
    go_enter Try.func38, Try.ntmps38
    go_wp2
    go_ret2
    exact ⟨rfl, rfl⟩
  by_cases t1 : (nb : Int) ≤ b
  · clear hn
    go_enter Try.func38, Try.ntmps38
    go_wp2
    go_ret2
    exact ⟨rfl, rfl⟩
  by_cases t2 : k < 0
  · clear hn
    go_enter Try.func38, Try.ntmps38
    go_wp2
    go_ret2
    exact ⟨rfl, rfl⟩
  have t3 : 16 ≤ k := by omega
  clear hn
  go_enter Try.func38, Try.ntmps38
  go_wp2
  go_ret2
  exact ⟨rfl, rfl⟩

theorem info36 : (Try.prog.info? 51).map (fun i => (i.zero, i.size, i.bytes)) = some (some (.agg #[.int .u32 0, .int .u32 0, .int .u32 0, .int .u32 0, .int .u32 0, .int .u32 0, .int .u32 0, .int .u32 0, .int .u32 0, .int .u32 0, .int .u32 0, .int .u32 0, .int .u32 0, .int .u32 0, .int .u32 0, .int .u32 0]), 16, 64) := by kernel_rfl
theorem zeros_at (n j : Nat) (hj : j < n * 16) : (madeCells #[.int .u32 0, .int .u32 0, .int .u32 0, .int .u32 0, .int .u32 0, .int .u32 0, .int .u32 0, .int .u32 0, .int .u32 0, .int .u32 0, .int .u32 0, .int .u32 0, .int .u32 0, .int .u32 0, .int .u32 0, .int .u32 0] (n * 16))[j]? = some (.int .u32 0) := by
  have e : ∀ i, i < 16 → (#[.int .u32 0, .int .u32 0, .int .u32 0, .int .u32 0, .int .u32 0, .int .u32 0, .int .u32 0, .int .u32 0, .int .u32 0, .int .u32 0, .int .u32 0, .int .u32 0, .int .u32 0, .int .u32 0, .int .u32 0, .int .u32 0] : Array Value)[i]! = .int .u32 0 := fun i hi => by
    match i, hi with
    | 0, _ | 1, _ | 2, _ | 3, _ | 4, _ | 5, _ | 6, _ | 7, _ | 8, _ | 9, _ | 10, _ | 11, _ | 12, _ | 13, _ | 14, _ | 15, _ => rfl
    | n + 16, h => exact absurd h (by omega)
  have hm : j % 16 < 16 := Nat.mod_lt _ (by omega)
  simp only [madeCells, List.size_toArray, List.length_cons, List.length_nil, Array.getElem?_map]
  rw [Array.getElem?_range, if_pos hj]
  simp only [Option.map_some]
  exact congrArg some (e _ hm)
theorem make_any (n : Nat) (hn : n ≤ 256) (W : World) : ∃ Z : Array Value, (∀ j, j < n * 16 → Z[j]? = some (.int .u32 0)) ∧ Z.size = n * 16 ∧
    (Instr.makeSlice 72 (.int .i64 (n : Int)) (.int .i64 (n : Int))).run Try.prog W = .ok (.slice (some ⟨W.heap.size, 0, none⟩) n n) (W.alloc (.cells Z 51)) := by
  obtain ⟨i0, hi, hz0, hz1, hz2⟩ := info_parts info36
  have h := run_make (P := Try.prog) W 72 51 i0 _ Try.underlying72 hi hz0 .i64 .i64 (n : Int) (n : Int) (by omega) (by omega) (by rw [hz2]; omega) (by omega)
  rw [hz1] at h
  refine ⟨_, fun j hj => zeros_at n j hj, size_madeCells _ _, ?_⟩
  simpa [Value.cells] using h
theorem New_ok (n : Nat) (h0 : 1 ≤ n) (h1 : n ≤ 256) (w : World) :
    Calls Try.prog 9 #[.int .i64 (n : Int)] w fun e w' => e = .returned (.tuple #[.pointer (some ⟨w.heap.size + 1, 0, none⟩), .int .i64 0]) ∧ MemAt w' (w.heap.size + 1) w.heap.size n (fun _ => 0) ∧ Below w.heap.size w w' := by
  obtain ⟨Z, hz, hzs, MK⟩ := make_any n h1 w
  have HZ := hide hz
  have HZS := hide hzs
  clear hz hzs
  go_enter Try.func9, Try.ntmps9
  go_wp2
  go_ret2
  refine ⟨rfl, ⟨h1, by omega, ⟨n, Nat.le_refl _, ?_⟩, Row.mk' ?_⟩, ((Below.refl _ _).alloc (Nat.le_refl _) _).alloc (by simp) _⟩
  · simp
  · have r := World.rowIs_alloc w Z 51 (fun i => .int .u32 0) (fun i hi => HZ.out i (by rw [← HZS.out]; exact hi))
    rw [HZS.out] at r
    exact r.alloc _

theorem New_no (n : Int) (h : n < 1 ∨ 256 < n) (w : World) :
    Calls Try.prog 9 #[.int .i64 n] w fun e w' => e = .returned (.tuple #[.pointer none, .int .i64 2]) ∧ w = w' := by
  by_cases t : n < 1
  · clear h
    go_enter Try.func9, Try.ntmps9
    go_wp2
    go_ret2
    exact ⟨rfl, rfl⟩
  · have t2 : 256 < n := by omega
    clear h
    go_enter Try.func9, Try.ntmps9
    go_wp2
    go_ret2
    exact ⟨rfl, rfl⟩

/-- Only block D has turned, and what is new. -/
theorem SetWord_any (p D nb : Nat) (f : Nat → Int) (b k x : Int) (w : World) (h : MemAt w p D nb f) :
    Calls Try.prog 29 #[.pointer (some ⟨p, 0, none⟩), .int .i64 b, .int .i64 k, .int .u32 x] w fun e w' => e = .returned (.int .i64 (errOf nb b k)) ∧ MemAt w' p D nb (upd f nb b k x) ∧ w.grownBy w' (some D) := by
  cases hi : inr nb b k
  · have A := hide (at_no p D nb f b k w h hi)
    have he : errOf nb b k = 5 := by simp [errOf, hi]
    have HE := hide he
    have HU := hide (h.upd_no hi x)
    clear he hi h
    go_enter Try.func29, Try.ntmps29
    go_wp2_with fail
    refine A.out.mono ?_
    rintro e w' ⟨rfl, rfl⟩
    go_wp2
    go_ret
    rw [HE.out]
    exact ⟨rfl, HU.out, World.grownBy.refl w _⟩
  · have A := hide (at_ok p D nb f b k w h hi)
    have he : errOf nb b k = 0 := by simp [errOf, hi]
    have HE := hide he
    have HU := hide (h.set hi x)
    have hlt := idx_lt hi
    have hc := h.2.2.2.cell hlt
    have hf := h.2.2.2.frozen (idx b k)
    clear he hi h hlt
    generalize idx b k = i at *
    go_enter Try.func29, Try.ntmps29
    go_wp2_with fail
    refine A.out.mono ?_
    rintro e w' ⟨rfl, rfl⟩
    go_wp2
    go_ret
    rw [HE.out]
    exact ⟨rfl, HU.out, only_setCell (World.grownBy.refl w _) (.inl rfl) _⟩

theorem Word_any (p D nb : Nat) (f : Nat → Int) (b k : Int) (w : World) (h : MemAt w p D nb f) :
    Calls Try.prog 16 #[.pointer (some ⟨p, 0, none⟩), .int .i64 b, .int .i64 k] w fun e w' => e = .returned (.tuple #[.int .u32 (getOf f nb b k), .int .i64 (errOf nb b k)]) ∧ w = w' := by
  cases hi : inr nb b k
  · have A := hide (at_no p D nb f b k w h hi)
    have he : errOf nb b k = 5 := by simp [errOf, hi]
    have hg : getOf f nb b k = 0 := by simp [getOf, hi]
    rw [he, hg]
    clear he hi h hg
    go_enter Try.func16, Try.ntmps16
    go_wp2_with fail
    refine A.out.mono ?_
    rintro e w' ⟨rfl, rfl⟩
    go_wp2
    go_ret2
    exact ⟨rfl, rfl⟩
  · have A := hide (at_ok p D nb f b k w h hi)
    have he : errOf nb b k = 0 := by simp [errOf, hi]
    have hg : getOf f nb b k = f (idx b k) := by simp [getOf, hi]
    rw [he, hg]
    have hlt := idx_lt hi
    have hc := h.2.2.2.cell hlt
    clear he hi h hlt hg
    generalize f (idx b k) = v at *
    generalize idx b k = i at *
    go_enter Try.func16, Try.ntmps16
    go_wp2_with fail
    refine A.out.mono ?_
    rintro e w' ⟨rfl, rfl⟩
    go_wp2
    go_ret2
    exact ⟨rfl, rfl⟩

theorem Blocks_any (p D nb : Nat) (f : Nat → Int) (w : World) (h : MemAt w p D nb f) :
    Calls Try.prog 34 #[.pointer (some ⟨p, 0, none⟩)] w fun e w' => e = .returned (.int .i64 (nb : Int)) ∧ w = w' := by
  obtain ⟨c, h0, h3⟩ := h.2.2.1
  clear h
  go_enter Try.func34, Try.ntmps34
  go_wp2
  go_ret
  exact ⟨rfl, rfl⟩

end Go.Proofs.Ytnhfbdjjbmhnkaa.MMem
