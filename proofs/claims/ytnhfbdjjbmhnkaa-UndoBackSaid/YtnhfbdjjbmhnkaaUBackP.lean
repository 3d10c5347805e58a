/-
  What undoing does, in plain words: the first entry of a word holds what the word was.
-/
import Derived.Test.YtnhfbdjjbmhnkaaUOwnP
import Derived.Test.YtnhfbdjjbmhnkaaOpens3
namespace Go.Proofs.Ytnhfbdjjbmhnkaa.UBackP
open Go.RowKit PPlain Base PMay PRefMay PWalk MMem UPlain UWalk UAdd UAt UNew MRef URef ULog UPair Opens UOwnP
set_option linter.unusedVariables false

/-- The log's n entries begin at the word f * 16; d blocks of data lie ahead of it; F0: the data words when the log was empty. -/
structure Inv (F F0 : Nat → Int) (f n d : Nat) (ok : Int → Prop) : Prop where
  oks : ∀ i, i < n → ok (F (f * 16 + i * 2))
  fst : ∀ i, i < n → ∀ j, j < d * 16 → F (f * 16 + i * 2) = 4 * (j : Int) → (∀ i', i' < i → F (f * 16 + i' * 2) ≠ 4 * (j : Int)) → F (f * 16 + (i * 2 + 1)) = F0 j
  rest : ∀ j, j < d * 16 → (∀ i, i < n → F (f * 16 + i * 2) ≠ 4 * (j : Int)) → F j = F0 j
section
variable {F G F0 : Nat → Int} {f n d : Nat} {ok : Int → Prop}
theorem Inv.push (h : Inv F F0 f n d ok) {jj : Nat} {a o : Int} (ha : a = 4 * (jj : Int)) (hok : ok a) (ho : o = F jj) (hj : jj < d * 16)
    (g1 : ∀ i, i < n → G (f * 16 + i * 2) = F (f * 16 + i * 2) ∧ G (f * 16 + (i * 2 + 1)) = F (f * 16 + (i * 2 + 1))) (g2 : G (f * 16 + n * 2) = a ∧ G (f * 16 + (n * 2 + 1)) = o)
    (g3 : ∀ j, j < d * 16 → j ≠ jj → G j = F j) : Inv G F0 f (n + 1) d ok := by
  refine ⟨fun i hi => ?_, fun i hi j hjd e hno => ?_, fun j hjd hno => ?_⟩
  · by_cases e : i = n
    · subst e; rw [g2.1]; exact hok
    · rw [(g1 i (by omega)).1]; exact h.oks i (by omega)
  · have hno' : ∀ i', i' < i → i' < n → F (f * 16 + i' * 2) ≠ 4 * (j : Int) := fun i' hi' hn' => by rw [← (g1 i' hn').1]; exact hno i' hi'
    by_cases en : i = n
    · subst en
      rw [g2.1, ha] at e
      obtain rfl : jj = j := by omega
      rw [g2.2, ho]
      exact h.rest jj hjd fun i' hi' => hno' i' hi' hi'
    · rw [(g1 i (by omega)).2]
      rw [(g1 i (by omega)).1] at e
      exact h.fst i (by omega) j hjd e fun i' hi' => hno' i' hi' (by omega)
  · have e : j ≠ jj := by
      rintro rfl
      exact hno n (by omega) (by rw [g2.1, ha])
    rw [g3 j hjd e]
    exact h.rest j hjd fun i hi => by rw [← (g1 i hi).1]; exact hno i (by omega)
theorem Inv.pop (h : Inv F F0 f (n + 1) d ok) {jj : Nat} (ha : F (f * 16 + n * 2) = 4 * (jj : Int)) (hj : jj < d * 16)
    (g1 : ∀ i, i < n → G (f * 16 + i * 2) = F (f * 16 + i * 2) ∧ G (f * 16 + (i * 2 + 1)) = F (f * 16 + (i * 2 + 1))) (g2 : G jj = F (f * 16 + (n * 2 + 1)))
    (g3 : ∀ j, j < d * 16 → j ≠ jj → G j = F j) : Inv G F0 f n d ok := by
  refine ⟨fun i hi => ?_, fun i hi j hjd e hno => ?_, fun j hjd hno => ?_⟩
  · rw [(g1 i hi).1]; exact h.oks i (by omega)
  · rw [(g1 i hi).2]
    rw [(g1 i hi).1] at e
    exact h.fst i (by omega) j hjd e fun i' hi' => by rw [← (g1 i' (by omega)).1]; exact hno i' hi'
  · have hno' : ∀ i, i < n → F (f * 16 + i * 2) ≠ 4 * (j : Int) := fun i hi => by rw [← (g1 i hi).1]; exact hno i hi
    by_cases e : j = jj
    · subst e
      rw [g2]
      exact h.fst n (by omega) j hjd ha hno'
    · rw [g3 j hjd e]
      refine h.rest j hjd fun i hi => ?_
      by_cases en : i = n
      · subst en; rw [ha]; omega
      · exact hno' i (by omega)
theorem Inv.zero (F : Nat → Int) (f d : Nat) (ok : Int → Prop) : Inv F F f 0 d ok := ⟨fun i hi => by omega, fun i hi => by omega, fun j _ _ => rfl⟩
end

/-- An address that Where takes. -/
def okA (c0 c3 c4 : Int) (a : Int) : Prop := (0 ≤ a ∧ a ≤ 4294967295) ∧ wE c0 c3 c4 a = 0
theorem wE_zero {c0 c3 c4 a : Int} (h : wE c0 c3 c4 a = 0) : a % 4 = 0 ∧ a / 64 < c3 - c0 * c4 ∧ a / 64 < c3 := by
  unfold wE at h
  split at h
  · cases h
  · split at h
    · cases h
    · split at h
      · cases h
      · omega
theorem addE_wE {c0 c3 c4 a logs many : Int} (h : addE c0 c3 c4 a logs many = 0) : wE c0 c3 c4 a = 0 := by
  unfold addE at h
  split at h
  · omega
  · omega
section
variable {c0 c3 c4 a : Int} {nb d : Nat}
/-- The word of such an address. -/
theorem ok_word (h : okA c0 c3 c4 a) (hd : (d : Int) = c3 - c0 * c4) (hn : c3 = nb) : wB c0 c3 c4 a = a / 64 ∧ wW c0 c3 c4 a = a / 4 % 16 ∧ inr nb (a / 64) (a / 4 % 16) = true ∧ idx (a / 64) (a / 4 % 16) = (a / 4).toNat ∧ a = 4 * ((a / 4).toNat : Int) ∧ (a / 4).toNat < d * 16 := by
  obtain ⟨⟨h0, h1⟩, he⟩ := h
  obtain ⟨e1, e2, e3⟩ := wE_zero he
  refine ⟨by simp [wB, he], by simp [wW, he], inr_iff.2 ⟨by omega, by omega, by omega, by omega⟩, by unfold idx; omega, by omega, by omega⟩
end
end Go.Proofs.Ytnhfbdjjbmhnkaa.UBackP
