/-
  A region that draws its order and whose last operation (which waits for all others) writes what the region loads: S need hold behind every operation but the last. The library's wpAnyH asks it of the last one too.
-/
import Derived.Deep.RegionHeld
namespace Go.Proofs.YticlojpdcdkdgaaDoor.LastOp
open Go

section
variable {P : Program} {md : Region.Mode} {ops : Array Oper} {Q : Exit → Act → World → Prop} {S : World → Prop}
/-- Whether an operation waits for all others. -/
def lastB (md : Region.Mode) (ops : Array Oper) (j : Nat) : Bool := (List.range ops.size).all fun i => i == j || (match ops[j]? with | some o => o.after.any fun e => Region.binds md e && e.on == i | none => false)
theorem lastB_spec {i j : Nat} {oj : Oper} (h : lastB md ops j = true) (hj : ops[j]? = some oj) (hi : i < ops.size) (hne : i ≠ j) : ∃ e ∈ oj.after, Region.binds md e = true ∧ e.on = i := by
  have h1 := List.all_eq_true.1 h i (List.mem_range.2 hi)
  simp only [hj, Bool.or_eq_true, beq_iff_eq, Array.any_eq_true, Bool.and_eq_true] at h1
  rcases h1 with h1 | ⟨n, hn, h1, h2⟩
  · exact absurd h1 hne
  · exact ⟨_, Array.getElem_mem hn, h1, h2⟩
def Ok (md : Region.Mode) (ops : Array Oper) (S : World → Prop) (j : Nat) (w : World) : Prop := lastB md ops j = true ∨ S w
def walkL (P : Program) (md : Region.Mode) (ops : Array Oper) (Q : Exit → Act → World → Prop) (S : World → Prop) : Nat → Array Bool → Act → World → Prop
  | 0 => fun listed a w => Region.ready md ops listed = [] ∧ Q .normal a w
  | k + 1 => fun listed a w => (Region.ready md ops listed = [] → Q .normal a w) ∧
      ∀ i, i ∈ Region.ready md ops listed → wpOp P ops Q i (fun a' w' => Ok md ops S i w' ∧ walkL P md ops Q S k (listed.setIfInBounds i true) a' w') a w
theorem walkL_any : ∀ (k : Nat) (listed : Array Bool) (a : Act) (w : World), walkL P md ops Q S k listed a w → wpAny P md ops Q k listed a w
  | 0, _, _, _, h => h
  | k + 1, _, _, _, h => ⟨h.1, fun i hi => wpOp_mono (fun _ _ h' => walkL_any k _ _ _ h'.2) (h.2 i hi)⟩
theorem not_done {i j : Nat} {listed : Array Bool} (hi : i ∈ Region.ready md ops listed) (hne : i ≠ j) : Region.ready md ops (listed.setIfInBounds j true) ≠ [] := fun h => by
  have := ready_mono hi hne
  rw [h] at this
  cases this
theorem dep_free {i : Nat} {oj : Oper} {listed : Array Bool} (hi : i ∈ Region.ready md ops listed) (hj : ∀ e ∈ oj.after, Region.binds md e = true → listed.getD e.on false = true) : ∀ e ∈ oj.after, Region.binds md e = true → e.on ≠ i := by
  rintro e he hb rfl
  have h1 := hj e he hb
  have h0 := (mem_ready.1 hi).1
  simp only [Array.getD_eq_getD_getElem?] at h0 h1
  cases hl : listed[e.on]? with
  | none => rw [hl] at h1; cases h1
  | some b => rw [hl] at h0 h1; simp at h0 h1; rw [h0] at h1; cases h1
theorem first {i : Nat} {oi : Oper} {v : Value} (hi : ops[i]? = some oi) (hsel : ∀ (j : Nat) (o : Oper) cs b, ops[j]? = some o → o.op ≠ .select cs b) (hQ : ∀ c a w, Q (.panic c) (a.put oi.dst v) w → Q (.panic c) a w) :
    ∀ (k : Nat) (listed : Array Bool) (a : Act) (w : World),
      (∀ j oj, ops[j]? = some oj → j ≠ i → listed.getD j true = false → (∀ e ∈ oj.after, Region.binds md e = true → e.on ≠ i) → oi.apart ops oj = true) →
      i ∈ Region.ready md ops listed → YieldsIf P ops S oi v a → S w → walkL P md ops Q S k (listed.setIfInBounds i true) (a.put oi.dst v) w → walkL P md ops Q S (k + 1) listed a w := by
  intro k
  induction k with
  | zero =>
    intro listed a w _ hr hy hS H
    refine ⟨fun h => absurd (h ▸ hr) (by simp), fun j hj => ?_⟩
    by_cases e : i = j
    · subst e
      exact hy.wpOp hi hS ⟨.inr hS, H⟩
    · exact absurd H.1 (not_done hj (Ne.symm e))
  | succ k ih =>
    intro listed a w hfree hr hy hS H
    refine ⟨fun h => absurd (h ▸ hr) (by simp), fun j hj => ?_⟩
    by_cases e : i = j
    · subst e
      exact hy.wpOp hi hS ⟨.inr hS, H⟩
    · obtain ⟨hun, oj, hoj, hdeps⟩ := mem_ready.1 hj
      have hd := dep_free hr hdeps
      have hsz : i < ops.size := (Array.getElem?_eq_some_iff.1 hi).1
      have hnl : lastB md ops j ≠ true := fun h => by
        obtain ⟨ed, h1, h2, h3⟩ := lastB_spec h hoj hsz e
        exact hd ed h1 h2 h3
      have step := wpOp_putIf hoj (hfree j oj hoj (Ne.symm e) hun hd) (fun cs b => hsel i oi cs b hi) (fun cs b => hsel j oj cs b hoj) hQ hy (H.2 j (ready_mono hj (Ne.symm e)))
      refine wpOp_mono (fun a' w' h3 => ?_) step
      obtain ⟨h31, h32, h33⟩ := h3
      rw [Array.setIfInBounds_comm _ _ e] at h33
      have h34 : S w' := h32.resolve_left hnl
      refine ⟨.inr h34, ih _ a' w' (fun m om hm hmi hmun hmd => hfree m om hm hmi ?_ hmd) (ready_mono hr e) h31 h34 h33⟩
      by_cases e2 : j = m
      · subst e2; exact hun
      · rwa [getD_set_ne true e2] at hmun
/-- The moves of a walk. -/
theorem take {i : Nat} {oi : Oper} {v : Value} {k : Nat} {listed : Array Bool} {a : Act} {w : World} (hi : ops[i]? = some oi) (hs : Region.noSelect ops = true) (hf : Region.free md ops listed i = true) (hr : (Region.ready md ops listed).contains i = true)
    (hQ : ∀ c a w, Q (.panic c) (a.put oi.dst v) w → Q (.panic c) a w) (hy : YieldsIf P ops S oi v a) (hS : S w)
    (h : walkL P md ops Q S k (listed.setIfInBounds i true) (a.put oi.dst v) w) : walkL P md ops Q S (k + 1) listed a w :=
  first hi (Region.noSelect_spec hs) hQ k listed a w (Region.free_spec hi hf) (by simpa using hr) hy hS h
theorem one {i : Nat} {o : Oper} {k : Nat} {listed : Array Bool} {a : Act} {w : World} (hr : Region.ready md ops listed = [i]) (ho : ops[i]? = some o)
    (h : ∀ K' : Act → World → Prop, Shut (∀ a w, Ok md ops S i w → walkL P md ops Q S k (listed.setIfInBounds i true) a w → K' a w) → if Region.wanted o (yielded ops a.tmps) = true then Oper.wp P o a w K' Q else K' (a.put o.dst undef) w) : walkL P md ops Q S (k + 1) listed a w := by
  refine ⟨fun h0 => (by rw [hr] at h0; cases h0), fun j hj => ?_⟩
  rw [hr] at hj
  obtain rfl : j = i := by simpa using hj
  exact wpOp_step ho (fun K' hK => h K' (fun a w h1 h2 => hK a w ⟨h1, h2⟩))
theorem done {listed : Array Bool} {a : Act} {w : World} (hr : Region.ready md ops listed = []) (h : Q .normal a w) : ∀ k, walkL P md ops Q S k listed a w
  | 0 => ⟨hr, h⟩
  | _ + 1 => ⟨fun _ => h, by rw [hr]; simp⟩
theorem start {id : Nat} {a : Act} {w : World} (hm : P.follows .mixedOrders = true) (hS : S w.drew) (h : S w.drew → walkL P .any ops Q S ops.size (Array.replicate ops.size false) a w.drew) : (Code.region id ops true).wp P Q a w :=
  wp_region_any hm (walkL_any _ _ _ _ (h hS))
end
end Go.Proofs.YticlojpdcdkdgaaDoor.LastOp
