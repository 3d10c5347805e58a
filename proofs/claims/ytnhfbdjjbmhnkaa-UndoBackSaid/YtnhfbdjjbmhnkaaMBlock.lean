/-
  Block of the memory walked, at any memory, any block (for another layer's seat).
-/
import Derived.Test.YtnhfbdjjbmhnkaaMMem
import Derived.Test.YtnhfbdjjbmhnkaaBlks
import Derived.Test.YtnhfbdjjbmhnkaaArr
namespace Go.Proofs.Ytnhfbdjjbmhnkaa.MBlock
open Go.RowKit Base MMem Blks
set_option linter.unusedVariables false
set_option linter.unusedSimpArgs false

theorem info36' : (Try.prog.info? 51).map (fun i => (i.zero, i.size)) = some (some (.agg (blk (fun _ => 0)).toArray), 16) := by kernel_rfl
theorem guard36 : Try.prog.eqGuardType Try.prog.depth 51 = false := by kernel_rfl
theorem size36 (f : Nat → Int) : (Try.prog.info? 51).map (·.size) = some (blk f).length := by
  rw [blk_len]; exact (zero_of_info (P := Try.prog) info36').2
theorem infoE : (Try.prog.info? 36).isSome = true := by kernel_rfl
theorem eq36 (f g : Nat → Int) (w : World) : (Op.equalIn 10000 51 (.agg (blk f).toArray) (.agg (blk g).toArray)).run Try.prog w = .ok (eqB f g) w := by
  cases hi : Try.prog.info? 36 with
  | none => have := infoE; rw [hi] at this; cases this
  | some i => exact run_eql_blk Try.underlying51 hi (by kernel_rfl) Try.underlying36 f g w
/-- The words of a block; what a whole block's write makes of the words. -/
def part16 (f : Nat → Int) (b : Int) : Nat → Int := fun j => f (b.toNat * 16 + j)
def putBlk (f : Nat → Int) (nb : Nat) (b : Int) (g : Nat → Int) : Nat → Int := fun i => if inr nb b 0 = true ∧ b.toNat * 16 ≤ i ∧ i < b.toNat * 16 + 16 then g (i - b.toNat * 16) else f i
def getBlk (f : Nat → Int) (nb : Nat) (b : Int) : Nat → Int := fun j => if inr nb b 0 = true then part16 f b j else 0

theorem mem_range {w : World} {p D nb : Nat} {f : Nat → Int} (h : MemAt w p D nb f) {b : Int} (hi : inr nb b 0 = true) : w.rangeAt D (b.toNat * 16) (blk (part16 f b)) := fun j v hv => by
  have hj : j < 16 := by
    have := (List.getElem?_eq_some_iff.1 hv).1
    rwa [blk_len] at this
  have g := inr_iff.1 hi
  rw [blk_get _ hj] at hv
  rw [h.2.2.2.cell (by omega)]
  exact hv
theorem ret_blk2 {P : Program} {w : World} {fn : Func} {tmps : Array Value} {p q : Tmp} {ty e : TypeId} {n : Nat} (hr : fn.results = #[.cell p ty, .tmp q]) {b : Nat} (hp : tmps.getD p undef = .pointer (some ⟨b, 0, none⟩)) {t : TypeId} {f : Nat → Int} (h : BlkAt w b t f)
    (hu : P.underlying ty = some (.array n e)) (hi : (P.info? ty).map (·.size) = some 16) : (results fn tmps).run P w = .ok (.tuple #[.agg (blk f).toArray, tmps.getD q undef]) w := by
  have hp' : tmps[p]?.getD undef = .pointer (some ⟨b, 0, none⟩) := by simpa using hp
  have hl := run_loadVar_row (P := P) w b t ty _ (0, 0) _ (blk_heap h) hu rfl (by rw [hi]; simp [blk_len])
  simp [results, hr, hp', asAddr, hl]

theorem block_any (p D nb : Nat) (f : Nat → Int) (b : Int) (w : World) (h : MemAt w p D nb f) :
    Calls Try.prog 21 #[.pointer (some ⟨p, 0, none⟩), .int .i64 b] w fun e w' => e = .returned (.tuple #[.agg (blk (getBlk f nb b)).toArray, .int .i64 (errOf nb b 0)]) ∧ Below w.heap.size w w' := by
  have hu := Try.underlying51
  have hi36 := (zero_of_info (P := Try.prog) info36').2
  have HI := hide hi36
  clear hi36
  have hM : MemAt (w.alloc (.cells (blk (fun _ => 0)).toArray 51)) p D nb f := h.below ((Below.refl _ _).alloc (Nat.le_refl _) _)
  have Z := hide (blk_new w 51 (fun _ => 0))
  cases hi : inr nb b 0
  · have A := hide (at_no p D nb f b 0 _ hM hi)
    have he : errOf nb b 0 = 5 := by simp [errOf, hi]
    have hg : blk (getBlk f nb b) = blk (fun _ => 0) := blk_congr fun j _ => by simp [getBlk, hi]
    rw [he, hg]
    clear he hg hi hM h
    go_enter Try.func21, Try.ntmps21
    go_wp2_with (first
      | ((with_reducible refine Arr.wpList_alloc_zero rfl 51 rfl _ _ info36' w.heap.size rfl ?_))
      | (go_at_call 38; refine A.out.mono ?_; rintro e wx ⟨rfl, rfl⟩)
      | ((with_reducible refine Great.wpList_readTo rfl (some 16) rfl (.agg (blk (fun _ => 0)).toArray) ?_ ?_); (· as_aux_lemma => kernel_rfl))
      | ((with_reducible refine store_blk rfl 51 _ _ rfl w.heap.size rfl (fun _ => 0) rfl Z.out HI.out ?_)))
    exact bodyPost_ret (v := .tuple #[.agg (blk (fun _ => 0)).toArray, .int .i64 5]) (ret_blk2 (b := w.heap.size) Try.results21 rfl (row_setCells Z.out _) hu HI.out) rfl
      ⟨rfl, below_setCells _ _ _ ((Below.refl _ _).alloc (Nat.le_refl _) _) (Nat.le_refl _)⟩
  · have A := hide (at_ok p D nb f b 0 _ hM hi)
    have he : errOf nb b 0 = 0 := by simp [errOf, hi]
    have hg : blk (getBlk f nb b) = blk (part16 f b) := blk_congr fun j _ => by simp [getBlk, hi]
    have hR := hide (mem_range hM hi)
    obtain ⟨cc, hcc, hc⟩ := hM.2.2.1
    have hs1 := size36 (part16 f b)
    obtain ⟨g0, g1, g2, g3⟩ := inr_iff.1 hi
    rw [he, hg]
    have hN := hM.1
    clear he hg hi hM h
    go_enter Try.func21, Try.ntmps21
    go_wp2_with (first
      | ((with_reducible refine Arr.wpList_alloc_zero rfl 51 rfl _ _ info36' w.heap.size rfl ?_))
      | (go_at_call 38; refine A.out.mono ?_; rintro e wx ⟨rfl, rfl⟩)
      | ((with_reducible refine wpList_load_mid rfl 51 _ rfl D (b.toNat * 16) rfl (blk (part16 f b)) _ hR.out hu rfl hs1 ?_))
      | ((with_reducible refine store_blk rfl 51 _ _ rfl w.heap.size rfl (part16 f b) rfl Z.out HI.out ?_)))
    exact bodyPost_ret (v := .tuple #[.agg (blk (part16 f b)).toArray, .int .i64 0]) (ret_blk2 (b := w.heap.size) Try.results21 rfl (row_setCells Z.out _) hu HI.out) rfl
      ⟨rfl, below_setCells _ _ _ ((Below.refl _ _).alloc (Nat.le_refl _) _) (Nat.le_refl _)⟩

theorem MemAt.congr {w : World} {p D nb : Nat} {f f' : Nat → Int} (h : MemAt w p D nb f) (e : ∀ i, i < nb * 16 → f i = f' i) : MemAt w p D nb f' :=
  ⟨h.1, h.2.1, h.2.2.1, h.2.2.2.congr fun i hi => by rw [e i hi]⟩
theorem only_setCells {a w : World} {D : Nat} : ∀ (vs : List Value) (o : Nat) (w : World), a.grownBy w (some D) → a.grownBy (w.setCells D o vs) (some D)
  | [], _, _, h => h
  | v :: r, o, w, h => only_setCells (a := a) (w := w) r (o + 1) _ (only_setCell h (p := ⟨D, o, none⟩) (.inl rfl) v)

end Go.Proofs.Ytnhfbdjjbmhnkaa.MBlock
