/-
  Numbers as bytes, the lowest first: number and value of the program, of the document.
-/
import Derived.Test.YtdaglmoibijdeaaDoorProg
import Derived.Test.YtdaglmoibijdeaaDoorBase
import Derived.Test.YtdaglmoibijdeaaDoorWords
import Derived.Great.Walk
import Derived.Laws.IdiomStrings
import Derived.Lib.ConvBytes
namespace Go.Proofs.YtdaglmoibijdeaaDoor.INum
open Go.RowKit Base Words
set_option linter.unusedVariables false
set_option linter.unusedSimpArgs false

def byteN (x : Int) (k : Nat) : Int := x / (256 ^ k : Nat) % 256
def bytesV (x : Int) (m : Nat) : List Value := (List.range m).map fun k => .int .u8 (byteN x k)
theorem bytesV_len (x : Int) (m : Nat) : (bytesV x m).length = m := by simp [bytesV]
theorem bytesV_succ (x : Int) (m : Nat) : bytesV x (m + 1) = bytesV x m ++ [.int .u8 (byteN x m)] := by simp [bytesV, List.range_succ]
/-- What was there is there, but for rows of bytes from 'base' on. -/
structure Grew (base : Nat) (w w' : World) : Prop where
  os : w'.os = w.os
  tape : w'.tape = w.tape
  output : w'.output = w.output
  size : w.heap.size ≤ w'.heap.size
  low : ∀ i, i < base → i < w.heap.size → w'.heap[i]? = w.heap[i]?
  other : ∀ i, i < w.heap.size → (∀ cur, ¬ Blk w i 5 cur) → w'.heap[i]? = w.heap[i]?
section
variable {base : Nat} {w w1 w2 : World}
theorem Grew.refl (base : Nat) (w : World) : Grew base w w := ⟨rfl, rfl, rfl, Nat.le_refl _, fun _ _ _ => rfl, fun _ _ _ => rfl⟩
theorem Grew.trans (h : Grew base w w1) (k : Grew base w1 w2) : Grew base w w2 :=
  ⟨k.os.trans h.os, k.tape.trans h.tape, k.output.trans h.output, Nat.le_trans h.size k.size, fun i hi hl => (k.low i hi (Nat.lt_of_lt_of_le hl h.size)).trans (h.low i hi hl),
    fun i hi hn => (k.other i (Nat.lt_of_lt_of_le hi h.size) (fun cur hc => hn cur (by unfold Blk at hc ⊢; rw [← h.other i hi hn]; exact hc))).trans (h.other i hi hn)⟩
theorem Grew.alloc (h : Grew base w w1) (o : Obj) : Grew base w (w1.alloc o) :=
  ⟨h.os, h.tape, h.output, Nat.le_trans h.size (by simp), fun i hi hl => (Below.heap_alloc w1 o i (Nat.lt_of_lt_of_le hl h.size)).trans (h.low i hi hl), fun i hi hn => (Below.heap_alloc w1 o i (Nat.lt_of_lt_of_le hi h.size)).trans (h.other i hi hn)⟩
theorem Grew.grown (h : Grew base w w1) {row : Option Nat} (hg : w1.grownBy w2 row) (hr : ∀ g, row = some g → base ≤ g ∧ (w.heap.size ≤ g ∨ ∃ cur, Blk w1 g 5 cur)) : Grew base w w2 := by
  refine ⟨hg.os.trans h.os, hg.tape.trans h.tape, hg.output.trans h.output, Nat.le_trans h.size hg.size, fun i hi hl => ?_, fun i hi hn => ?_⟩
  · refine (hg.block i (Nat.lt_of_lt_of_le hl h.size) (fun e => ?_)).trans (h.low i hi hl)
    have := (hr i e.symm).1
    omega
  · refine (hg.block i (Nat.lt_of_lt_of_le hi h.size) (fun e => ?_)).trans (h.other i hi hn)
    rcases (hr i e.symm).2 with h1 | ⟨cur, h1⟩
    · omega
    · exact hn cur (by unfold Blk at h1 ⊢; rw [← h.other i hi hn]; exact h1)
theorem Grew.below (h : Grew base w w1) (hb : base = w.heap.size) : Below w.heap.size w w1 := ⟨h.os, h.tape, h.output, h.size, fun i hi => h.low i (by omega) hi⟩
end
theorem info5 : (Tryd.prog.info? 5).map (fun i => (i.zero, i.size, i.bytes)) = some (some (.int .u8 0), 1, 1) := by kernel_rfl
theorem own_type {w : World} {base : Nat} {e : TypeId} {size : Nat} {v : Value} {xs : List Value} {n : Nat} (h : w.ownsRow base e size v n xs) {g : Nat} (hg : v.ownBlock = some g) : base ≤ g ∧ ∃ cur, Blk w g e cur := by
  rcases h.2 with ⟨rfl, _⟩ | ⟨g', cap, cur, rfl, hb, hh, _⟩
  · simp [Value.ownBlock] at hg
  · obtain rfl : g' = g := by simpa [Value.ownBlock] using hg
    exact ⟨hb, cur, hh⟩
theorem reads_one (w : World) (t : TypeId) (v : Value) : Reads (w.alloc (.cells #[v] t)) (w.heap.size + 1) 1 (some ⟨w.heap.size, 0, none⟩) 1 [v] := by
  have hB := Blk.new w t #[v]
  refine ⟨rfl, fun _ => ⟨⟨w.heap.size, 0, none⟩, rfl, Nat.lt_succ_self _, fun j u hu => ?_⟩⟩
  have e : (⟨w.heap.size, 0, none⟩ : Addr).add j = ⟨w.heap.size, j, none⟩ := by unfold Addr.add; split <;> simp_all
  rw [e, hB.cell j]
  simpa using hu

theorem one_int {k : IntKind} (x : Int) : ∀ u ∈ [Value.int k x], u.oneCell' = true := by
  intro u hu
  simp at hu
  subst hu
  rfl
theorem own_next {w : World} {base : Nat} {v : Value} {n k : Nat} {xs : List Value} {x b : Int} (h : w.ownsRow base 5 1 v (n + k + 1) (xs ++ bytesV x k ++ [.int .u8 b])) (hb : b = byteN x k) : w.ownsRow base 5 1 v (n + (k + 1)) (xs ++ bytesV x (k + 1)) := by
  rw [bytesV_succ, ← List.append_assoc, ← hb]
  exact h
set_option maxHeartbeats 1000000 in
theorem number_any (base : Nat) (v : Value) (n : Nat) (xs : List Value) (x : Int) (m : Nat) (hm : m ≤ 4) (x0 : 0 ≤ x) (x1 : x ≤ 4294967295) (w : World) (hown : w.ownsRow base 5 1 v n xs) (hb : base ≤ w.heap.size) (hn : n ≤ 1000000) :
    Calls Tryd.prog 16 #[v, .int .u32 x, .int .i64 (m : Int)] w fun e w' => ∃ v', e = .returned v' ∧ w'.ownsRow base 5 1 v' (n + m) (xs ++ bytesV x m) ∧ Grew base w w' := by
  obtain ⟨i0, hi0, hz0, hz1, hz2⟩ := info_parts info5
  have H := hide hown
  clear hown
  go_enter Tryd.func16, Tryd.ntmps16
  go_wp2_with fail
  go_loopw [0, 9] (fun s i wr => ∃ (k : Nat) (v' : Value), k ≤ m ∧ i = .int .i64 k ∧ v' = s ∧ Hid (wr.ownsRow base 5 1 v' (n + k) (xs ++ bytesV x k)) ∧ Hid (Grew base w wr)) (fun _ i _ => m - (intOf i).toNat)
  case atStart => exact ⟨0, v, by omega, rfl, rfl, by simpa [bytesV] using H, hide (Grew.refl _ _)⟩
  case round =>
    clear H
    obtain ⟨k, v', hk, rfl, rfl, hO, hG⟩ := hrel
    by_cases hlt : k < m
    · have hk8 : k = 0 ∨ k = 1 ∨ k = 2 ∨ k = 3 := by omega
      have hlt' : (k : Int) < (m : Int) := by omega
      rcases hk8 with rfl | rfl | rfl | rfl
      · have HR := hide (reads_one wr 5 (.int .u8 (x % 256)))
        have HO1 := hide (one_int (k := .u8) (x % 256))
        have HB := hide (show (x % 256 : Int) = byteN x 0 by simp [byteN])
        have hbz := hG.out.size
        have HOWN := hide (hO.out.alloc (.cells #[.int .u8 (x % 256)] 5))
        have hm1 : n + 0 + 1 ≤ maxLen := by unfold maxLen; omega
        have hz : base ≤ (wr.alloc (.cells #[.int .u8 (x % 256)] 5)).heap.size := by simp; omega
        have HZ := hide hz
        have hby : (n + 0 + 1) * 1 ≤ 140737488355328 := by omega
        have HY := hide hby
        clear hz hby
        go_wp2_with (first
          | (at_builtin; refine wpList_append_any _ rfl (.tmp 12) (.tmp 18) 34 rfl base 5 i0 _ 1 1 Tryd.underlying34 hi0 hz0 hz1 hz2 rfl (by omega) v' (n + 0) (xs ++ bytesV x 0) rfl HOWN.out (wr.heap.size + 1) (some ⟨wr.heap.size, 0, none⟩) 1 1 [.int .u8 (x % 256)] rfl HR.out HO1.out hm1 HY.out HZ.out ?_; intro v6 w6 hown6 hg6 hat6; have HOWN6 := hide hown6; have HG6 := hide hg6; clear hown6 hg6 hat6))
        have HO7 := hide (own_next HOWN6.out HB.out)
        have HG7 := hide ((hG.out.alloc (.cells #[.int .u8 (x % 256)] 5)).grown HG6.out fun g hg => ⟨(own_type HOWN.out hg).1, .inr (own_type HOWN.out hg).2⟩)
        clear HR HO1 HB HOWN HZ HY HOWN6 HG6
        go_roundw
        case rel => exact ⟨0 + 1, v6, by omega, by go_num, rfl, HO7, HG7⟩
        case measure => simp [intOf]; omega
      · have HR := hide (reads_one wr 5 (.int .u8 (x / 256 % 256)))
        have HO1 := hide (one_int (k := .u8) (x / 256 % 256))
        have HB := hide (show (x / 256 % 256 : Int) = byteN x 1 by simp [byteN])
        have hbz := hG.out.size
        have HOWN := hide (hO.out.alloc (.cells #[.int .u8 (x / 256 % 256)] 5))
        have hm1 : n + 1 + 1 ≤ maxLen := by unfold maxLen; omega
        have hz : base ≤ (wr.alloc (.cells #[.int .u8 (x / 256 % 256)] 5)).heap.size := by simp; omega
        have HZ := hide hz
        have hby : (n + 1 + 1) * 1 ≤ 140737488355328 := by omega
        have HY := hide hby
        clear hz hby
        go_wp2_with (first
          | (at_builtin; refine wpList_append_any _ rfl (.tmp 12) (.tmp 18) 34 rfl base 5 i0 _ 1 1 Tryd.underlying34 hi0 hz0 hz1 hz2 rfl (by omega) v' (n + 1) (xs ++ bytesV x 1) rfl HOWN.out (wr.heap.size + 1) (some ⟨wr.heap.size, 0, none⟩) 1 1 [.int .u8 (x / 256 % 256)] rfl HR.out HO1.out hm1 HY.out HZ.out ?_; intro v6 w6 hown6 hg6 hat6; have HOWN6 := hide hown6; have HG6 := hide hg6; clear hown6 hg6 hat6))
        have HO7 := hide (own_next HOWN6.out HB.out)
        have HG7 := hide ((hG.out.alloc (.cells #[.int .u8 (x / 256 % 256)] 5)).grown HG6.out fun g hg => ⟨(own_type HOWN.out hg).1, .inr (own_type HOWN.out hg).2⟩)
        clear HR HO1 HB HOWN HZ HY HOWN6 HG6
        go_roundw
        case rel => exact ⟨1 + 1, v6, by omega, by go_num, rfl, HO7, HG7⟩
        case measure => simp [intOf]; omega
      · have HR := hide (reads_one wr 5 (.int .u8 (x / 65536 % 256)))
        have HO1 := hide (one_int (k := .u8) (x / 65536 % 256))
        have HB := hide (show (x / 65536 % 256 : Int) = byteN x 2 by simp [byteN])
        have hbz := hG.out.size
        have HOWN := hide (hO.out.alloc (.cells #[.int .u8 (x / 65536 % 256)] 5))
        have hm1 : n + 2 + 1 ≤ maxLen := by unfold maxLen; omega
        have hz : base ≤ (wr.alloc (.cells #[.int .u8 (x / 65536 % 256)] 5)).heap.size := by simp; omega
        have HZ := hide hz
        have hby : (n + 2 + 1) * 1 ≤ 140737488355328 := by omega
        have HY := hide hby
        clear hz hby
        go_wp2_with (first
          | (at_builtin; refine wpList_append_any _ rfl (.tmp 12) (.tmp 18) 34 rfl base 5 i0 _ 1 1 Tryd.underlying34 hi0 hz0 hz1 hz2 rfl (by omega) v' (n + 2) (xs ++ bytesV x 2) rfl HOWN.out (wr.heap.size + 1) (some ⟨wr.heap.size, 0, none⟩) 1 1 [.int .u8 (x / 65536 % 256)] rfl HR.out HO1.out hm1 HY.out HZ.out ?_; intro v6 w6 hown6 hg6 hat6; have HOWN6 := hide hown6; have HG6 := hide hg6; clear hown6 hg6 hat6))
        have HO7 := hide (own_next HOWN6.out HB.out)
        have HG7 := hide ((hG.out.alloc (.cells #[.int .u8 (x / 65536 % 256)] 5)).grown HG6.out fun g hg => ⟨(own_type HOWN.out hg).1, .inr (own_type HOWN.out hg).2⟩)
        clear HR HO1 HB HOWN HZ HY HOWN6 HG6
        go_roundw
        case rel => exact ⟨2 + 1, v6, by omega, by go_num, rfl, HO7, HG7⟩
        case measure => simp [intOf]; omega
      · have HR := hide (reads_one wr 5 (.int .u8 (x / 16777216)))
        have HO1 := hide (one_int (k := .u8) (x / 16777216))
        have HB := hide (show (x / 16777216 : Int) = byteN x 3 by simp [byteN]; omega)
        have hbz := hG.out.size
        have HOWN := hide (hO.out.alloc (.cells #[.int .u8 (x / 16777216)] 5))
        have hm1 : n + 3 + 1 ≤ maxLen := by unfold maxLen; omega
        have hz : base ≤ (wr.alloc (.cells #[.int .u8 (x / 16777216)] 5)).heap.size := by simp; omega
        have HZ := hide hz
        have hby : (n + 3 + 1) * 1 ≤ 140737488355328 := by omega
        have HY := hide hby
        clear hz hby
        go_wp2_with (first
          | (at_builtin; refine wpList_append_any _ rfl (.tmp 12) (.tmp 18) 34 rfl base 5 i0 _ 1 1 Tryd.underlying34 hi0 hz0 hz1 hz2 rfl (by omega) v' (n + 3) (xs ++ bytesV x 3) rfl HOWN.out (wr.heap.size + 1) (some ⟨wr.heap.size, 0, none⟩) 1 1 [.int .u8 (x / 16777216)] rfl HR.out HO1.out hm1 HY.out HZ.out ?_; intro v6 w6 hown6 hg6 hat6; have HOWN6 := hide hown6; have HG6 := hide hg6; clear hown6 hg6 hat6))
        have HO7 := hide (own_next HOWN6.out HB.out)
        have HG7 := hide ((hG.out.alloc (.cells #[.int .u8 (x / 16777216)] 5)).grown HG6.out fun g hg => ⟨(own_type HOWN.out hg).1, .inr (own_type HOWN.out hg).2⟩)
        clear HR HO1 HB HOWN HZ HY HOWN6 HG6
        go_roundw
        case rel => exact ⟨3 + 1, v6, by omega, by go_num, rfl, HO7, HG7⟩
        case measure => simp [intOf]; omega
    · obtain rfl : k = m := by omega
      have hlt' : ¬ ((k : Int) < (k : Int)) := by omega
      go_wp2_with fail
      go_ret
      exact ⟨_, rfl, hO.out, hG.out⟩
end Go.Proofs.YtdaglmoibijdeaaDoor.INum
