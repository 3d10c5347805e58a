/-
  A note as a value: its cells, in a block, loaded, stored, compared.
-/
import Derived.Test.YtnjojcikahiieaaProg
import Derived.Test.YtnjojcikahiieaaBase
import Derived.Test.YtnjojcikahiieaaBlks
import Derived.Test.YtnjojcikahiieaaArr
import Derived.Laws.StructEq
namespace Go.Proofs.Ytnjojcikahiieaa.NRec
open Go.RowKit Base Blks
set_option linter.unusedVariables false

structure NT where
  K : Int
  Fr : Int
  To : Int
  B : Int
  St : Int
  S : Int
  Ha : Bool
  Sk : Bool
  f : Nat → Int
def ntL (n : NT) : List Value := .int .u8 n.K :: .int .i64 n.Fr :: .int .i64 n.To :: .int .i64 n.B :: .int .u64 n.St :: .int .u8 n.S :: .bool n.Ha :: .bool n.Sk :: blk n.f
def zeroN : NT := ⟨0, 0, 0, 0, 0, 0, false, false, fun _ => 0⟩
theorem ntL_len (n : NT) : (ntL n).length = 24 := by simp [ntL, blk_len]
theorem ntL_size (n : NT) : (ntL n).toArray.size = 24 := by simp [ntL_len]
theorem ntL_one (n : NT) : ∀ v ∈ ntL n, v.oneCell' = true := by
  intro v hv
  simp only [ntL, List.mem_cons] at hv
  rcases hv with rfl | rfl | rfl | rfl | rfl | rfl | rfl | rfl | hv
  all_goals first | rfl | exact blk_one n.f v hv
theorem ntL_all (n : NT) : (ntL n).toArray.toList.all (·.oneCell') = true := by
  rw [List.all_eq_true]
  exact fun v hv => ntL_one n v (by simpa using hv)
theorem ntL_data (n : NT) {j : Nat} (h : j < 16) : (ntL n)[8 + j]? = some (.int .u32 (n.f j)) := by
  rw [Nat.add_comm]
  simp only [ntL, List.getElem?_cons_succ]
  exact blk_get n.f h

def NAt (w : World) (b : Nat) (n : NT) : Prop := w.heap[b]? = some (.cells (ntL n).toArray 29 (0, 0))
section
variable {w w' : World} {b : Nat} {n : NT}
theorem NAt.lt (h : NAt w b n) : b < w.heap.size := Blk.lt h
theorem NAt.new (w : World) (n : NT) : NAt (w.alloc (.cells (ntL n).toArray 29)) w.heap.size n := heap_alloc_new w _
theorem NAt.below {B : Nat} (h : NAt w b n) (hb : Below B w w') (hg : b < B) : NAt w' b n := (hb.block b hg).trans h
theorem NAt.alloc (h : NAt w b n) (o : Obj) : NAt (w.alloc o) b n := (Below.heap_alloc w o b h.lt).trans h
theorem NAt.drewN (h : NAt w b n) (k : Nat) : NAt (w.drewN k) b n := h
theorem NAt.drew (h : NAt w b n) : NAt w.drew b n := h
theorem NAt.far (h : NAt w b n) {p : Addr} (hp : b ≠ p.block) (u : Value) : NAt (w.setCell p u) b n := (Below.heap_setCell w p u b hp).trans h
theorem NAt.frozen (h : NAt w b n) (i : Nat) : w.frozen? ⟨b, i, none⟩ = false := Blk.frozen h i
theorem NAt.cells (h : NAt w b n) :
    w.cell? ⟨b, 0, none⟩ = some (.int .u8 n.K) ∧ w.cell? ⟨b, 1, none⟩ = some (.int .i64 n.Fr) ∧ w.cell? ⟨b, 2, none⟩ = some (.int .i64 n.To) ∧ w.cell? ⟨b, 3, none⟩ = some (.int .i64 n.B) ∧
    w.cell? ⟨b, 4, none⟩ = some (.int .u64 n.St) ∧ w.cell? ⟨b, 5, none⟩ = some (.int .u8 n.S) ∧ w.cell? ⟨b, 6, none⟩ = some (.bool n.Ha) ∧ w.cell? ⟨b, 7, none⟩ = some (.bool n.Sk) :=
  ⟨Blk.cell h 0, Blk.cell h 1, Blk.cell h 2, Blk.cell h 3, Blk.cell h 4, Blk.cell h 5, Blk.cell h 6, Blk.cell h 7⟩
theorem NAt.word (h : NAt w b n) {j : Nat} (hj : j < 16) : w.cell? ⟨b, 8 + j, none⟩ = some (.int .u32 (n.f j)) := by
  rw [Blk.cell h (8 + j), List.getElem?_toArray]
  exact ntL_data n hj
theorem NAt.range (h : NAt w b n) : w.rangeAt b 8 (blk n.f) := fun j v hv => by
  have hj : j < 16 := by
    have := (List.getElem?_eq_some_iff.1 hv).1
    rwa [blk_len] at this
  rw [blk_get n.f hj] at hv
  rw [h.word hj]
  exact hv
theorem NAt.there (h : NAt w b n) : w.there b 8 16 := fun j hj => ⟨by rw [h.word hj]; rfl, h.frozen _⟩
theorem NAt.set (h : NAt w b n) (i : Nat) (v : Value) (m : NT) (e : (ntL n).set i v = ntL m) : NAt (w.setCell ⟨b, i, none⟩ v) b m := by
  have := Blk.set_ h i v
  rw [List.setIfInBounds_toArray, e] at this
  exact this
theorem NAt.setSt (h : NAt w b n) (x : Int) : NAt (w.setCell ⟨b, 4, none⟩ (.int .u64 x)) b { n with St := x } := h.set 4 _ _ rfl
theorem NAt.setS (h : NAt w b n) (x : Int) : NAt (w.setCell ⟨b, 5, none⟩ (.int .u8 x)) b { n with S := x } := h.set 5 _ _ rfl
theorem NAt.setHa (h : NAt w b n) (x : Bool) : NAt (w.setCell ⟨b, 6, none⟩ (.bool x)) b { n with Ha := x } := h.set 6 _ _ rfl
theorem NAt.setSk (h : NAt w b n) (x : Bool) : NAt (w.setCell ⟨b, 7, none⟩ (.bool x)) b { n with Sk := x } := h.set 7 _ _ rfl
theorem blk_set (f : Nat → Int) (j : Nat) (x : Int) : (blk f).set j (.int .u32 x) = blk (fun i => if i = j then x else f i) := by
  apply List.ext_getElem?
  intro i
  by_cases hi : i < 16
  · rw [blk_get _ hi, List.getElem?_set]
    by_cases e : j = i
    · subst e; simp [blk_len, hi]
    · have e' : ¬ i = j := fun h => e h.symm
      simp [e, e', blk_get f hi]
  · rw [List.getElem?_eq_none (by rw [List.length_set, blk_len]; omega), List.getElem?_eq_none (by rw [blk_len]; omega)]
theorem NAt.setWord (h : NAt w b n) (j : Nat) (x : Int) : NAt (w.setCell ⟨b, 8 + j, none⟩ (.int .u32 x)) b { n with f := fun i => if i = j then x else n.f i } := by
  refine h.set (8 + j) _ _ ?_
  rw [Nat.add_comm]
  simp only [ntL, List.set_cons_succ, blk_set]
theorem NAt.setData (h : NAt w b n) (g : Nat → Int) : NAt (w.setCells b 8 (blk g)) b { n with f := g } := by
  have key : ∀ (k : Nat) (hk : k ≤ 16) (w : World) (m : NT), NAt w b m → NAt (w.setCells b (8 + (16 - k)) ((blk g).drop (16 - k))) b { m with f := fun i => if 16 - k ≤ i ∧ i < 16 then g i else m.f i } := by
    intro k
    induction k with
    | zero =>
      intro _ w m hm
      have e : (blk g).drop (16 - 0) = [] := List.drop_eq_nil_of_le (by rw [blk_len]; omega)
      rw [e]
      have e2 : (fun i => if 16 - 0 ≤ i ∧ i < 16 then g i else m.f i) = m.f := by
        funext i
        rw [if_neg (by omega)]
      rw [e2]
      exact hm
    | succ k ih =>
      intro hk w m hm
      have hj : 16 - (k + 1) < 16 := by omega
      have e : (blk g).drop (16 - (k + 1)) = .int .u32 (g (16 - (k + 1))) :: (blk g).drop (16 - k) := by
        rw [List.drop_eq_getElem_cons (by rw [blk_len]; exact hj)]
        have h1 := blk_get g hj
        rw [List.getElem?_eq_getElem (by rw [blk_len]; exact hj)] at h1
        rw [Option.some.inj h1, show 16 - (k + 1) + 1 = 16 - k by omega]
      rw [e]
      show NAt ((w.setCell ⟨b, 8 + (16 - (k + 1)), none⟩ (.int .u32 (g (16 - (k + 1))))).setCells b (8 + (16 - (k + 1)) + 1) ((blk g).drop (16 - k))) b _
      have h2 := ih (by omega) _ _ (hm.setWord (16 - (k + 1)) (g (16 - (k + 1))))
      rw [show 8 + (16 - (k + 1)) + 1 = 8 + (16 - k) by omega]
      have e3 : (fun i => if 16 - k ≤ i ∧ i < 16 then g i else if i = 16 - (k + 1) then g (16 - (k + 1)) else m.f i) = (fun i => if 16 - (k + 1) ≤ i ∧ i < 16 then g i else m.f i) := by
        funext i
        by_cases c1 : 16 - k ≤ i ∧ i < 16
        · rw [if_pos c1, if_pos (by omega)]
        · rw [if_neg c1]
          by_cases c2 : i = 16 - (k + 1)
          · rw [if_pos c2, if_pos (by omega), c2]
          · rw [if_neg c2, if_neg (by omega)]
      simp only [e3] at h2
      exact h2
  have h3 := key 16 (Nat.le_refl _) w n h
  simp only [Nat.sub_self, List.drop_zero, Nat.add_zero] at h3
  have e : ntL { n with f := fun i => if 0 ≤ i ∧ i < 16 then g i else n.f i } = ntL { n with f := g } := by
    simp only [ntL]
    rw [blk_congr (f := fun i => if 0 ≤ i ∧ i < 16 then g i else n.f i) (g := g) fun j hj => by rw [if_pos (by omega)]]
  unfold NAt at h3 ⊢
  rw [e] at h3
  exact h3
end

def eqN (n m : NT) : Bool := n.K == m.K && (n.Fr == m.Fr && (n.To == m.To && (n.B == m.B && (n.St == m.St && (n.S == m.S && (n.Ha == m.Ha && (n.Sk == m.Sk && (eqB n.f m.f && true))))))))
theorem infoN : (Try.prog.info? 29).map (fun i => (i.zero, i.size)) = some (some (.agg (ntL zeroN).toArray), 24) := by kernel_rfl
theorem sizeN (n : NT) : (Try.prog.info? 29).map (·.size) = some (ntL n).toArray.size := by
  rw [ntL_size]; exact (zero_of_info (P := Try.prog) infoN).2
theorem infoB : (Try.prog.info? 27).map (fun i => (i.zero, i.size)) = some (some (.agg (blk (fun _ => 0)).toArray), 16) := by kernel_rfl
theorem infoE : (Try.prog.info? 25).isSome = true := by kernel_rfl
theorem eqBlock (f g : Nat → Int) (w : World) (d : Nat) : (Op.equalIn (d + 3) 27 (.agg (blk f).toArray) (.agg (blk g).toArray)).run Try.prog w = .ok (eqB f g) w := by
  cases hi : Try.prog.info? 25 with
  | none => have := infoE; rw [hi] at this; cases this
  | some i =>
    rw [run_equalIn_array (w := w) (d + 2) _ _ Try.underlying27 hi, show Try.prog.cellsOf 25 = 1 by kernel_rfl]
    exact run_eqItems_blk (d + 1) Try.underlying25 f g w (List.range 16) (fun j hj => List.mem_range.1 hj)
theorem ntL_get (n : NT) : (ntL n).toArray[0]? = some (.int .u8 n.K) ∧ (ntL n).toArray[1]? = some (.int .i64 n.Fr) ∧ (ntL n).toArray[2]? = some (.int .i64 n.To) ∧ (ntL n).toArray[3]? = some (.int .i64 n.B) ∧
    (ntL n).toArray[4]? = some (.int .u64 n.St) ∧ (ntL n).toArray[5]? = some (.int .u8 n.S) ∧ (ntL n).toArray[6]? = some (.bool n.Ha) ∧ (ntL n).toArray[7]? = some (.bool n.Sk) ∧ (ntL n).toArray.extract 8 24 = (blk n.f).toArray := by
  refine ⟨rfl, rfl, rfl, rfl, rfl, rfl, rfl, rfl, ?_⟩
  apply Array.ext_getElem?
  intro j
  rw [Array.getElem?_extract]
  by_cases hj : j < 16
  · rw [if_pos (by rw [ntL_size]; omega), List.getElem?_toArray, ntL_data n hj, List.getElem?_toArray, blk_get n.f hj]
  · rw [if_neg (by rw [ntL_size]; omega), Array.getElem?_eq_none (by simp [blk_len]; omega)]
section
variable {P : Program} (w : World)
theorem part_cell {t : TypeId} {cs : Array Value} {off : Nat} {v : Value} (ha : (isAgg t).run P w = .ok false w) (hv : cs[off]? = some v) : (part t cs off).run P w = .ok v w := by
  unfold part
  simp [Sem.run_bind, ha, hv]
theorem part_agg {t : TypeId} {cs : Array Value} {off n : Nat} (ha : (isAgg t).run P w = .ok true w) (hs : (P.info? t).map (·.size) = some n) : (part t cs off).run P w = .ok (.agg (cs.extract off (off + n))) w := by
  unfold part
  cases hq : P.info? t with
  | none => simp [hq] at hs
  | some i =>
    have : i.size = n := by simpa [hq] using hs
    simp [Sem.run_bind, ha, sizeOf, typeInfo, hq, this]
theorem eqFields_cons {d : Nat} {xs ys : Array Value} {f : Field} {fs : List Field} {a b : Value} {r : Bool} (hn : f.name ≠ "_") (ha : (part f.type xs f.offset).run P w = .ok a w) (hb : (part f.type ys f.offset).run P w = .ok b w)
    (hr : (Op.equalIn d f.type a b).run P w = .ok r w) {q : Bool} (hq : (Op.eqFields d xs ys fs).run P w = .ok q w) : (Op.eqFields d xs ys (f :: fs)).run P w = .ok (r && q) w := by
  simp only [Op.eqFields, if_pos hn, Sem.run_bind, ha, hb, hr, Result.andThen_ok]
  cases r <;> simp [hq]
theorem isAgg_no {t : TypeId} {d : TypeDesc} (h : P.underlying t = some d) (hd : d.isRow = false) : (isAgg t).run P w = .ok false w := by
  unfold isAgg
  rw [Sem.run_bind, run_underlying h]
  cases d <;> simp_all [TypeDesc.isRow]
theorem isAgg_yes {t : TypeId} {d : TypeDesc} (h : P.underlying t = some d) (hd : d.isRow = true) : (isAgg t).run P w = .ok true w := by
  unfold isAgg
  rw [Sem.run_bind, run_underlying h]
  cases d <;> simp_all [TypeDesc.isRow]
end
theorem fields_of {P : Program} {t : TypeId} {fs : Array Field} (h : P.underlying t = some (.struct fs)) : P.fieldsOf t = fs := by
  simp [Program.fieldsOf, h]
theorem eq_note (n m : NT) (w : World) : (Op.equalIn 10000 29 (.agg (ntL n).toArray) (.agg (ntL m).toArray)).run Try.prog w = .ok (eqN n m) w := by
  have hu := Try.underlying29
  have hf := fields_of hu
  rw [run_equalIn_struct w 9999 _ _ _ (by rw [hf]; exact hu) (by kernel_rfl), hf]
  obtain ⟨a0, a1, a2, a3, a4, a5, a6, a7, a8⟩ := ntL_get n
  obtain ⟨b0, b1, b2, b3, b4, b5, b6, b7, b8⟩ := ntL_get m
  have hB : ∀ k : NT, (part 27 (ntL k).toArray 8).run Try.prog w = .ok (.agg (blk k.f).toArray) w := fun k => by
    rw [part_agg w (isAgg_yes w Try.underlying27 rfl) (zero_of_info (P := Try.prog) infoB).2, (ntL_get k).2.2.2.2.2.2.2.2]
  refine eqFields_cons w (by decide) (part_cell w (isAgg_no w Try.underlying5 rfl) a0) (part_cell w (isAgg_no w Try.underlying5 rfl) b0) (run_equalIn_int w 9998 _ .u8 .u8 _ _ Try.underlying5) ?_
  refine eqFields_cons w (by decide) (part_cell w (isAgg_no w Try.underlying3 rfl) a1) (part_cell w (isAgg_no w Try.underlying3 rfl) b1) (run_equalIn_int w 9998 _ .i64 .i64 _ _ Try.underlying3) ?_
  refine eqFields_cons w (by decide) (part_cell w (isAgg_no w Try.underlying3 rfl) a2) (part_cell w (isAgg_no w Try.underlying3 rfl) b2) (run_equalIn_int w 9998 _ .i64 .i64 _ _ Try.underlying3) ?_
  refine eqFields_cons w (by decide) (part_cell w (isAgg_no w Try.underlying3 rfl) a3) (part_cell w (isAgg_no w Try.underlying3 rfl) b3) (run_equalIn_int w 9998 _ .i64 .i64 _ _ Try.underlying3) ?_
  refine eqFields_cons w (by decide) (part_cell w (isAgg_no w Try.underlying23 rfl) a4) (part_cell w (isAgg_no w Try.underlying23 rfl) b4) (run_equalIn_int w 9998 _ .u64 .u64 _ _ Try.underlying23) ?_
  refine eqFields_cons w (by decide) (part_cell w (isAgg_no w Try.underlying24 rfl) a5) (part_cell w (isAgg_no w Try.underlying24 rfl) b5) (run_equalIn_int w 9998 _ .u8 .u8 _ _ Try.underlying24) ?_
  refine eqFields_cons w (by decide) (part_cell w (isAgg_no w Try.underlying4 rfl) a6) (part_cell w (isAgg_no w Try.underlying4 rfl) b6) (run_equalIn_bool' w 9998 _ _ _ Try.underlying4) ?_
  refine eqFields_cons w (by decide) (part_cell w (isAgg_no w Try.underlying4 rfl) a7) (part_cell w (isAgg_no w Try.underlying4 rfl) b7) (run_equalIn_bool' w 9998 _ _ _ Try.underlying4) ?_
  exact eqFields_cons w (by decide) (hB n) (hB m) (eqBlock n.f m.f w 9996) (by simp [Op.eqFields])
end Go.Proofs.Ytnjojcikahiieaa.NRec
