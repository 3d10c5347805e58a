/-
  The reference's memory of the layer 'mem' walked: New, place, SetWord, Word, at any memory, any block, any word.
-/
import Derived.Test.YtmdacnegiilgfaaBlock
namespace Go.Proofs.Ytmdacnegiilgfaa.RefMem
open Go.RowKit Base Mem Blks Block
set_option linter.unusedVariables false

/-- The reference's memory: its struct lies in block p, its words in block D. -/
def RefAt (w : World) (p D nb : Nat) (f : Nat → Int) : Prop :=
  nb ≤ 256 ∧ p ≠ D ∧ w.cell? ⟨p, 0, none⟩ = some (.slice (some ⟨D, 0, none⟩) (nb * 16) (nb * 16)) ∧ w.rowIs D 23 (nb * 16) (fun i => .int .u32 (f i))

theorem RefAt.below {w w' : World} {p D nb : Nat} {f : Nat → Int} (h : RefAt w p D nb f) (hb : Below w.heap.size w w') : RefAt w' p D nb f := by
  obtain ⟨h1, h2, h3, h4⟩ := h
  exact ⟨h1, h2, (hb.cell (block_lt_of_cell h3)).trans h3, h4.of_block (hb.block _ h4.lt)⟩
theorem RefAt.other {w w' : World} {p D nb g : Nat} {f : Nat → Int} (h : RefAt w p D nb f) (hb : w.grownBy w' (some g)) (hp : p ≠ g) (hD : D ≠ g) : RefAt w' p D nb f := by
  obtain ⟨h1, h2, h3, h4⟩ := h
  exact ⟨h1, h2, (World.cell?_of_block (w := w) (hb.block p (block_lt_of_cell h3) (fun e => hp (by injection e)))).trans h3, h4.of_block (hb.block _ h4.lt (fun e => hD (by injection e)))⟩
theorem RefAt.set {w : World} {p D nb : Nat} {f : Nat → Int} (h : RefAt w p D nb f) {b k : Int} (hi : inr nb b k = true) (x : Int) : RefAt (w.setCell ⟨D, idx b k, none⟩ (.int .u32 x)) p D nb (upd f nb b k x) := by
  obtain ⟨h1, h2, h3, h4⟩ := h
  refine ⟨h1, h2, (World.cell?_setCell_other _ _ _ _ (fun e => h2 (by injection e with e1 e2; exact e1.symm))).trans h3, (h4.set _ _).congr fun i _ => ?_⟩
  by_cases e : i = idx b k <;> simp [upd, hi, e]
theorem RefAt.congr {w : World} {p D nb : Nat} {f f' : Nat → Int} (h : RefAt w p D nb f) (e : ∀ i, i < nb * 16 → f i = f' i) : RefAt w p D nb f' :=
  ⟨h.1, h.2.1, h.2.2.1, h.2.2.2.congr fun i hi => by rw [e i hi]⟩
theorem RefAt.upd_no {w : World} {p D nb : Nat} {f : Nat → Int} (h : RefAt w p D nb f) {b k : Int} (hi : inr nb b k = false) (x : Int) : RefAt w p D nb (upd f nb b k x) := by
  have e : upd f nb b k x = f := by funext i; simp [upd, hi]
  rw [e]; exact h

/-- Where a word lies; -1: there is none. -/
def placeI (nb : Nat) (b k : Int) : Int := if inr nb b k = true then (idx b k : Int) else -1
theorem ret_i {a b : Int} (h : a = b) : Ending.returned (.int .i64 a) = .returned (.int .i64 b) := by rw [h]

theorem place_any (p D nb : Nat) (f : Nat → Int) (b k : Int) (w : World) (h : RefAt w p D nb f) :
    Calls Try.prog 27 #[.pointer (some ⟨p, 0, none⟩), .int .i64 b, .int .i64 k] w fun e w' => e = .returned (.int .i64 (placeI nb b k)) ∧ w = w' := by
  obtain ⟨h1, h2, h3, h4⟩ := h
  have hq : ((nb * 16 : Nat) : Int) / 16 = nb := by omega
  clear h4 h2
  cases hi : inr nb b k
  · have hn : ¬ (0 ≤ b ∧ b < nb ∧ 0 ≤ k ∧ k < 16) := fun e => by rw [inr_iff.2 e] at hi; cases hi
    have hp : placeI nb b k = -1 := by simp [placeI, hi]
    rw [hp]
    clear hi hp
    by_cases t0 : b < 0
    · clear hn
      go_enter Try.func27, Try.ntmps27
      go_wp2
      go_ret
      exact ⟨rfl, rfl⟩
    by_cases t1 : (nb : Int) ≤ b
    · clear hn
      go_enter Try.func27, Try.ntmps27
      go_wp2
      go_ret
      exact ⟨rfl, rfl⟩
    by_cases t2 : k < 0
    · clear hn
      go_enter Try.func27, Try.ntmps27
      go_wp2
      go_ret
      exact ⟨rfl, rfl⟩
    have t3 : 15 < k := by omega
    clear hn
    go_enter Try.func27, Try.ntmps27
    go_wp2
    go_ret
    exact ⟨rfl, rfl⟩
  · obtain ⟨g0, g1, g2, g3⟩ := inr_iff.1 hi
    have g4 : k ≤ 15 := by omega
    have hx : placeI nb b k = 16 * b + k := by
      simp only [placeI, hi, if_true, idx]
      omega
    have HX := hide hx
    clear hi hx
    go_enter Try.func27, Try.ntmps27
    go_wp2
    go_ret
    exact ⟨ret_i HX.out.symm, rfl⟩

theorem rinfo : (Try.prog.info? 23).map (fun i => (i.zero, i.size, i.bytes)) = some (some (.int .u32 0), 1, 4) := by kernel_rfl
theorem zeros_at (n j : Nat) (hj : j < n) : (madeCells #[.int .u32 0] n)[j]? = some (.int .u32 0) := by
  simp only [madeCells, List.size_toArray, List.length_cons, List.length_nil, Array.getElem?_map]
  rw [Array.getElem?_range, if_pos hj]
  simp [Nat.mod_one]
theorem makeR (n : Nat) (hn : n ≤ 256) (W : World) : ∃ Z : Array Value, (∀ j, j < n * 16 → Z[j]? = some (.int .u32 0)) ∧ Z.size = n * 16 ∧
    (Instr.makeSlice 59 (.int .i64 (16 * (n : Int))) (.int .i64 (16 * (n : Int)))).run Try.prog W = .ok (.slice (some ⟨W.heap.size, 0, none⟩) (n * 16) (n * 16)) (W.alloc (.cells Z 23)) := by
  obtain ⟨i0, hi, hz0, hz1, hz2⟩ := info_parts rinfo
  have e : (16 * (n : Int)) = ((n * 16 : Nat) : Int) := by omega
  have h := run_make (P := Try.prog) W 59 23 i0 _ Try.underlying59 hi hz0 .i64 .i64 ((n * 16 : Nat) : Int) ((n * 16 : Nat) : Int) (by omega) (by omega) (by rw [hz2]; omega) (by omega)
  rw [hz1] at h
  rw [e]
  refine ⟨_, fun j hj => zeros_at (n * 16) j hj, size_madeCells _ _, ?_⟩
  simp only [Int.toNat_natCast, Nat.mul_one] at h
  exact h
theorem New_ok (n : Nat) (h0 : 1 ≤ n) (h1 : n ≤ 256) (w : World) :
    Calls Try.prog 18 #[.int .i64 (n : Int)] w fun e w' => e = .returned (.tuple #[.pointer (some ⟨w.heap.size + 1, 0, none⟩), .int .i64 0]) ∧ RefAt w' (w.heap.size + 1) w.heap.size n (fun _ => 0) ∧ Below w.heap.size w w' := by
  obtain ⟨Z, hz, hzs, MK⟩ := makeR n h1 w
  have HZ := hide hz
  have HZS := hide hzs
  clear hz hzs
  go_enter Try.func18, Try.ntmps18
  go_wp2
  go_ret2
  refine ⟨rfl, ⟨h1, by omega, ?_, ?_⟩, ((Below.refl _ _).alloc (Nat.le_refl _) _).alloc (by simp) _⟩
  · simp
  · have r := World.rowIs_alloc w Z 23 (fun i => .int .u32 0) (fun i hi => HZ.out i (by rw [← HZS.out]; exact hi))
    rw [HZS.out] at r
    exact r.alloc _
theorem New_no (n : Int) (h : n < 1 ∨ 256 < n) (w : World) :
    Calls Try.prog 18 #[.int .i64 n] w fun e w' => e = .returned (.tuple #[.pointer none, .int .i64 2]) ∧ w = w' := by
  by_cases t : n < 1
  · clear h
    go_enter Try.func18, Try.ntmps18
    go_wp2
    go_ret2
    exact ⟨rfl, rfl⟩
  · have t2 : 256 < n := by omega
    clear h
    go_enter Try.func18, Try.ntmps18
    go_wp2
    go_ret2
    exact ⟨rfl, rfl⟩

theorem SetWord_any (p D nb : Nat) (f : Nat → Int) (b k x : Int) (w : World) (h : RefAt w p D nb f) :
    Calls Try.prog 19 #[.pointer (some ⟨p, 0, none⟩), .int .i64 b, .int .i64 k, .int .u32 x] w fun e w' => e = .returned (.int .i64 (errOf nb b k)) ∧ RefAt w' p D nb (upd f nb b k x) ∧ w.grownBy w' (some D) := by
  have A := hide (place_any p D nb f b k w h)
  cases hi : inr nb b k
  · have he : errOf nb b k = 5 := by simp [errOf, hi]
    have hp : placeI nb b k = -1 := by simp [placeI, hi]
    have HE := hide he
    have HU := hide (h.upd_no hi x)
    rw [hp] at A
    clear he hi h hp
    go_enter Try.func19, Try.ntmps19
    go_wp2_with fail
    refine A.out.mono ?_
    rintro e w' ⟨rfl, rfl⟩
    go_wp2
    go_ret
    rw [HE.out]
    exact ⟨rfl, HU.out, World.grownBy.refl w _⟩
  · have he : errOf nb b k = 0 := by simp [errOf, hi]
    have hp : placeI nb b k = (idx b k : Int) := by simp [placeI, hi]
    have HE := hide he
    have HU := hide (h.set hi x)
    have hlt := idx_lt hi
    have hN := h.1
    have hc0 := h.2.2.1
    have hc := h.2.2.2.cell hlt
    have hf := h.2.2.2.frozen (idx b k)
    rw [hp] at A
    clear he hi h hp
    generalize idx b k = i at *
    go_enter Try.func19, Try.ntmps19
    go_wp2_with fail
    refine A.out.mono ?_
    rintro e w' ⟨rfl, rfl⟩
    go_wp2
    go_ret
    rw [HE.out]
    exact ⟨rfl, HU.out, only_setCell (World.grownBy.refl w _) (.inl rfl) _⟩

theorem Word_any (p D nb : Nat) (f : Nat → Int) (b k : Int) (w : World) (h : RefAt w p D nb f) :
    Calls Try.prog 20 #[.pointer (some ⟨p, 0, none⟩), .int .i64 b, .int .i64 k] w fun e w' => e = .returned (.tuple #[.int .u32 (getOf f nb b k), .int .i64 (errOf nb b k)]) ∧ w = w' := by
  have A := hide (place_any p D nb f b k w h)
  cases hi : inr nb b k
  · have he : errOf nb b k = 5 := by simp [errOf, hi]
    have hp : placeI nb b k = -1 := by simp [placeI, hi]
    have hg : getOf f nb b k = 0 := by simp [getOf, hi]
    rw [he, hg]
    rw [hp] at A
    clear he hi h hg hp
    go_enter Try.func20, Try.ntmps20
    go_wp2_with fail
    refine A.out.mono ?_
    rintro e w' ⟨rfl, rfl⟩
    go_wp2
    go_ret2
    exact ⟨rfl, rfl⟩
  · have he : errOf nb b k = 0 := by simp [errOf, hi]
    have hp : placeI nb b k = (idx b k : Int) := by simp [placeI, hi]
    have hg : getOf f nb b k = f (idx b k) := by simp [getOf, hi]
    rw [he, hg]
    have hlt := idx_lt hi
    have hN := h.1
    have hc0 := h.2.2.1
    have hc := h.2.2.2.cell hlt
    rw [hp] at A
    clear he hi h hg hp
    generalize f (idx b k) = v at *
    generalize idx b k = i at *
    go_enter Try.func20, Try.ntmps20
    go_wp2_with fail
    refine A.out.mono ?_
    rintro e w' ⟨rfl, rfl⟩
    go_wp2
    go_ret2
    exact ⟨rfl, rfl⟩
end Go.Proofs.Ytmdacnegiilgfaa.RefMem
