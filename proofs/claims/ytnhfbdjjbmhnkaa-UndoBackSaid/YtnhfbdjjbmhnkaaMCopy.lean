/-
  Copy walked, over slices.Clone (for another layer's seat).
-/
import Derived.Test.YtnhfbdjjbmhnkaaMBlock
import Derived.Deep.AppendLies
namespace Go.Proofs.Ytnhfbdjjbmhnkaa.MCopy
open Go.RowKit Base MMem Blks MBlock
set_option linter.unusedVariables false
set_option linter.unusedSimpArgs false

def wordsL (f : Nat → Int) (n : Nat) : List Value := (List.range n).map fun j => .int .u32 (f j)
theorem wordsL_get (f : Nat → Int) {n j : Nat} (h : j < n) : (wordsL f n)[j]? = some (.int .u32 (f j)) := by simp [wordsL, h]
theorem info36b : (Try.prog.info? 51).map (fun i => (i.zero, i.size, i.bytes)) = some (some (.agg (blk (fun _ => 0)).toArray), 16, 64) := by kernel_rfl

theorem clone_any (D nb c : Nat) (f : Nat → Int) (w : World) (h1 : 1 ≤ nb) (h2 : nb ≤ 256) (h : Row w D 51 (nb * 16) (fun i => .int .u32 (f i))) :
    Calls Try.prog 42 #[.slice (some ⟨D, 0, none⟩) nb c] w fun e w' => ∃ g cap, e = .returned (.slice (some ⟨g, 0, none⟩) nb cap) ∧ nb ≤ cap ∧ w.heap.size ≤ g ∧ g < w'.heap.size ∧ Row w' g 51 (nb * 16) (fun i => .int .u32 (f i)) ∧ Below w.heap.size w w' := by
  obtain ⟨i0, hi0, hz0, hz1, hz2⟩ := info_parts info36b
  have heq := fun (w : World) => Lib.run_eql_slice_nil (P := Try.prog) w 72 51 (some ⟨D, 0, none⟩) nb c 0 0 Try.underlying72
  have HR := hide h
  clear h
  go_enter Try.func42, Try.ntmps42
  have hnews : ∀ j u, (wordsL f (nb * 16))[j]? = some u → (w.alloc (.cells #[] 51)).cell? ((⟨D, 0, none⟩ : Addr).add j) = some u := by
    intro j u hu
    have hj : j < nb * 16 := by
      have := (List.getElem?_eq_some_iff.1 hu).1
      simpa [wordsL] using this
    rw [wordsL_get f hj] at hu
    have e : (⟨D, 0, none⟩ : Addr).add j = ⟨D, j, none⟩ := by unfold Addr.add; split <;> simp_all
    rw [e, World.cell?_alloc_lt _ _ _ HR.out.lt, HR.out.cell hj]
    exact hu
  have HN := hide hnews
  have h0 : (w.alloc (.cells #[] 51)).ownsRow w.heap.size 51 16 (.slice (some ⟨w.heap.size, 0, none⟩) 0 0) 0 [] :=
    ⟨by simp, .inr ⟨w.heap.size, 0, #[], rfl, Nat.le_refl _, heap_alloc_new w _, Nat.le_refl _, by simp [maxLen], by simp, by simp⟩⟩
  have H0 := hide h0
  have hone : ∀ u ∈ wordsL f (nb * 16), u.oneCell' = true := by
    intro u hu
    simp only [wordsL, List.mem_map] at hu
    obtain ⟨j, _, rfl⟩ := hu
    rfl
  have HO := hide hone
  clear hnews h0 hone
  go_wp2_with (at_builtin; refine wpList_append_lies _ rfl (.tmp 5) (.tmp 6) 72 rfl w.heap.size 51 i0 _ 16 64 Try.underlying72 hi0 hz0 hz1 hz2 (by simp [Value.cells, blk_len]) (by omega) (.slice (some ⟨w.heap.size, 0, none⟩) 0 0) 0 [] rfl H0.out ⟨D, 0, none⟩ nb c (wordsL f (nb * 16)) rfl (by simp [wordsL]) HN.out HO.out (by omega) (by unfold maxLen; omega) (by omega) (by simp) (w.heap.size + 1) (by simp) ?_; intro g cap w1 hown hgrow hat hlt; have HOWN := hide hown; have HG := hide hgrow; have HAT := hide hat; clear hown hgrow hat)
  go_ret
  have hown := HOWN.out
  rw [Nat.zero_add, List.nil_append] at hown
  obtain ⟨r1, r2⟩ := Row.of_own hown (f := fun i => .int .u32 (f i)) (fun i hi => wordsL_get f hi)
  have hg : w.heap.size ≤ g := by
    rcases HAT.out with e | e
    · have : w.heap.size = g := by simpa [Value.ownBlock] using e
      omega
    · omega
  refine ⟨g, cap, rfl, r2, hg, hlt, r1, ((Below.refl w.heap.size w).alloc (Nat.le_refl _) _).grown HG.out (by simp) (fun k hk => ?_)⟩
  have : w.heap.size = k := by simpa [Value.ownBlock] using hk
  omega

theorem copy_any (p D nb : Nat) (f : Nat → Int) (w : World) (hn : 1 ≤ nb) (h : MemAt w p D nb f) :
    Calls Try.prog 30 #[.pointer (some ⟨p, 0, none⟩)] w fun e w' => ∃ p' D', e = .returned (.pointer (some ⟨p', 0, none⟩)) ∧ w.heap.size ≤ p' ∧ w.heap.size ≤ D' ∧ MemAt w' p' D' nb f ∧ Below w.heap.size w w' := by
  obtain ⟨h1, h2, ⟨c, h0, h3⟩, h4⟩ := h
  have HR := hide h4
  clear h4 h2
  go_enter Try.func30, Try.ntmps30
  go_wp2_with fail
  refine (clone_any D nb c f w hn h1 HR.out).mono ?_
  rintro e w1 ⟨g, cap, rfl, hcap, hg, hlt, hr, hb⟩
  have HR1 := hide hr
  have HB1 := hide hb
  clear hr hb
  go_wp2
  go_ret
  refine ⟨w1.heap.size, g, rfl, HB1.out.size, hg, ⟨h1, by omega, ⟨cap, hcap, ?_⟩, HR1.out.of_block (Below.heap_alloc w1 _ g hlt)⟩, HB1.out.alloc HB1.out.size _⟩
  simp
end Go.Proofs.Ytnhfbdjjbmhnkaa.MCopy
