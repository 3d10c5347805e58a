/-
  A Note by value opened: its nine fields.
-/
import Derived.Test.YtnjojcikahiieaaOpens
import Derived.Test.YtnjojcikahiieaaOpenBlk
import Derived.Test.YtnjojcikahiieaaNPut
namespace Go.Proofs.Ytnjojcikahiieaa.OpenNote
open Go.Joins Go.ChangeShapes Go.WideShapes Go.RowKit Go.Deep Base Blks NRec NPut
set_option linter.unusedVariables false

section
variable {H : Type} {enc : TypeId × Value → H} {w : World} {base : Nat} {spare : Nat → Bool} {held : Bool}
theorem drop_one {cs : Array Value} {j : Nat} (h : j < cs.size) : (cs.toList.drop j).take 1 = [cs[j]] := by
  rw [List.drop_eq_getElem_cons (by simpa using h)]
  simp
theorem int_at {P : Program} {cs : Array Value} {j m : Nat} {t : TypeId} {k : IntKind} {x : Option (DataW H × List MemPlace)} (hj : j < cs.size) (ht : P.underlying t = some (.int k)) (hx : x.isSome = true)
    (h : DataW.trod enc P w base spare held m t ((cs.toList.drop j).take 1) = x) : ∃ a, cs[j]? = some (.int k a) ∧ (Lit.int k a).wf = true := by
  rw [drop_one hj] at h
  obtain ⟨y, rfl⟩ := Option.isSome_iff_exists.1 hx
  exact Opens.int_cell ht ⟨m, _, y, Array.getElem?_eq_getElem hj, h⟩
theorem bool_at {P : Program} {cs : Array Value} {j m : Nat} {t : TypeId} {x : Option (DataW H × List MemPlace)} (hj : j < cs.size) (ht : P.underlying t = some .bool) (hx : x.isSome = true)
    (h : DataW.trod enc P w base spare held m t ((cs.toList.drop j).take 1) = x) : ∃ a, cs[j]? = some (.bool a) := by
  rw [drop_one hj] at h
  obtain ⟨y, rfl⟩ := Option.isSome_iff_exists.1 hx
  exact Opens.bool_cell ht ⟨m, _, y, Array.getElem?_eq_getElem hj, h⟩
theorem open_note {r : Reach} {b0 : Nat} {v : Value} {d : DataW H} {p : List MemPlace} (hv : Value.okWide Try.prog w r b0 29 v) (h : DataW.Trod enc Try.prog w base spare held 29 v d p) :
    ∃ n : NT, v = .agg (ntL n).toArray ∧ Ins n ∧ (-9223372036854775808 ≤ n.Fr ∧ n.Fr ≤ 9223372036854775807) ∧ (-9223372036854775808 ≤ n.To ∧ n.To ≤ 9223372036854775807) := by
  obtain ⟨cs, rfl, hsz⟩ := okWide_struct Try.underlying29 hv
  have hC : Try.prog.cellsOf 29 = 24 := by kernel_rfl
  rw [hC] at hsz
  obtain ⟨fuel, hf⟩ := h
  obtain ⟨xs, m, _, _, _, hlen, hg⟩ := DataW.trod_struct Try.underlying29 hf
  have hxs : ∀ i, i < 9 → (xs[i]?).isSome = true := fun i hi => by
    rw [List.getElem?_eq_getElem (by rw [hlen]; exact hi)]
    rfl
  have c1 : ∀ t, t = 5 ∨ t = 3 ∨ t = 23 ∨ t = 24 ∨ t = 4 ∨ t = 25 → Try.prog.cellsOf t = 1 := fun t ht => by
    rcases ht with rfl | rfl | rfl | rfl | rfl | rfl <;> kernel_rfl
  have g0 := hg 0 _ rfl
  have g1 := hg 1 _ rfl
  have g2 := hg 2 _ rfl
  have g3 := hg 3 _ rfl
  have g4 := hg 4 _ rfl
  have g5 := hg 5 _ rfl
  have g6 := hg 6 _ rfl
  have g7 := hg 7 _ rfl
  have g8 : DataW.trod enc Try.prog w base spare held m 27 ((cs.toList.drop 8).take 16) = xs[8]? := by
    have g := hg 8 _ rfl
    rw [show Try.prog.cellsOf _ = 16 by kernel_rfl] at g
    exact g
  rw [c1 _ (by simp)] at g0 g1 g2 g3 g4 g5 g6 g7
  obtain ⟨K, e0, w0⟩ := int_at (cs := cs) (j := 0) (by omega) Try.underlying5 (hxs 0 (by omega)) g0
  obtain ⟨Fr, e1, w1⟩ := int_at (cs := cs) (j := 1) (by omega) Try.underlying3 (hxs 1 (by omega)) g1
  obtain ⟨To, e2, w2⟩ := int_at (cs := cs) (j := 2) (by omega) Try.underlying3 (hxs 2 (by omega)) g2
  obtain ⟨B, e3, w3⟩ := int_at (cs := cs) (j := 3) (by omega) Try.underlying3 (hxs 3 (by omega)) g3
  obtain ⟨St, e4, w4⟩ := int_at (cs := cs) (j := 4) (by omega) Try.underlying23 (hxs 4 (by omega)) g4
  obtain ⟨S, e5, w5⟩ := int_at (cs := cs) (j := 5) (by omega) Try.underlying24 (hxs 5 (by omega)) g5
  obtain ⟨Ha, e6⟩ := bool_at (cs := cs) (j := 6) (by omega) Try.underlying4 (hxs 6 (by omega)) g6
  obtain ⟨Sk, e7⟩ := bool_at (cs := cs) (j := 7) (by omega) Try.underlying4 (hxs 7 (by omega)) g7
  obtain ⟨y8, hy8⟩ := Option.isSome_iff_exists.1 (hxs 8 (by omega))
  rw [hy8] at g8
  obtain ⟨ys, m2, _, _, _, hlen2, hg2⟩ := DataW.trod_array Try.underlying27 g8
  have hcell : ∀ j, ∃ x : Int, j < 16 → cs[8 + j]? = some (.int .u32 x) ∧ (Lit.int .u32 x).wf = true := fun j => by
    by_cases hj : j < 16
    · have h1 := hg2 j hj
      rw [c1 25 (by simp), Nat.mul_one] at h1
      have hd : (List.take 1 (List.drop j (List.take 16 (List.drop 8 cs.toList)))) = (cs.toList.drop (8 + j)).take 1 := by
        rw [List.drop_take, List.take_take, List.drop_drop]
        congr 1
        omega
      rw [hd] at h1
      obtain ⟨x, e, wx⟩ := int_at (cs := cs) (by omega) Try.underlying25 (by rw [List.getElem?_eq_getElem (by rw [hlen2]; exact hj)]; rfl) h1
      exact ⟨x, fun _ => ⟨e, wx⟩⟩
    · exact ⟨0, fun h => absurd h hj⟩
  have key : cs = (ntL ⟨K, Fr, To, B, St, S, Ha, Sk, fun j => Classical.choose (hcell j)⟩).toArray := by
    apply Opens.array_of (by rw [ntL_len]; exact hsz)
    intro j hj
    rw [ntL_len] at hj
    by_cases hj8 : j < 8
    · have : j = 0 ∨ j = 1 ∨ j = 2 ∨ j = 3 ∨ j = 4 ∨ j = 5 ∨ j = 6 ∨ j = 7 := by omega
      rcases this with rfl | rfl | rfl | rfl | rfl | rfl | rfl | rfl <;> assumption
    · obtain ⟨k, rfl⟩ : ∃ k, j = 8 + k := ⟨j - 8, by omega⟩
      rw [(Classical.choose_spec (hcell k) (by omega)).1, ntL_data _ (by omega)]
  have u0 : 0 ≤ K ∧ K ≤ 255 := by simpa [Lit.wf, IntKind.min, IntKind.max, IntKind.signed, IntKind.bits] using w0
  have u1 : -9223372036854775808 ≤ Fr ∧ Fr ≤ 9223372036854775807 := by simpa [Lit.wf, IntKind.min, IntKind.max, IntKind.signed, IntKind.bits] using w1
  have u2 : -9223372036854775808 ≤ To ∧ To ≤ 9223372036854775807 := by simpa [Lit.wf, IntKind.min, IntKind.max, IntKind.signed, IntKind.bits] using w2
  have u4 : 0 ≤ St ∧ St ≤ 18446744073709551615 := by simpa [Lit.wf, IntKind.min, IntKind.max, IntKind.signed, IntKind.bits] using w4
  have u5 : 0 ≤ S ∧ S ≤ 255 := by simpa [Lit.wf, IntKind.min, IntKind.max, IntKind.signed, IntKind.bits] using w5
  have u8 : ∀ j, j < 16 → 0 ≤ Classical.choose (hcell j) ∧ Classical.choose (hcell j) ≤ 4294967295 := fun j hj => by
    have := (Classical.choose_spec (hcell j) hj).2
    simpa [Lit.wf, IntKind.min, IntKind.max, IntKind.signed, IntKind.bits] using this
  exact ⟨_, congrArg Value.agg key, ⟨u0.1, u0.2, u4.1, u4.2, u5.1, u5.2, u8⟩, u1, u2⟩
end
end Go.Proofs.Ytnjojcikahiieaa.OpenNote
