/-
  Put of the program walked: the bytes of a note that may be; of one that may not.
-/
import Derived.Test.YtnjojcikahiieaaNMayAll
import Derived.Test.YtnjojcikahiieaaNNumR
import Derived.Laws.Shifts
namespace Go.Proofs.Ytnjojcikahiieaa.NPut
open Go.RowKit Base Blks Words NRec NSmall NLaw NPlain NNum NVal NNumR NMayAll
set_option linter.unusedVariables false
set_option linter.unusedSimpArgs false
set_option maxRecDepth 100000

theorem index_blk (f : Nat → Int) {k : Nat} (hk : k < 16) (w : World) : (Instr.index 27 (.agg (blk f).toArray) (.int .i64 (k : Int))).run Try.prog w = .ok (.int .u32 (f k)) w := by
  cases hi : Try.prog.info? 25 with
  | none => have := infoE; rw [hi] at this; cases this
  | some i =>
    have hs : i.size = 1 := by
      have h1 : (Try.prog.info? 25).map (·.size) = some 1 := by kernel_rfl
      rw [hi] at h1
      simpa using h1
    have h0 : ¬ ((k : Int) < 0 ∨ (16 : Int) ≤ (k : Int)) := by omega
    have hagg : (isAgg 25).run Try.prog w = .ok false w := isAgg_no w Try.underlying25 rfl
    have hp : (part 25 (blk f).toArray k).run Try.prog w = .ok (.int .u32 (f k)) w := part_cell w hagg (by rw [List.getElem?_toArray, blk_get f hk])
    simp [Instr.index, asIntOf, run_underlying Try.underlying27, h0, sizeOf, typeInfo, hi, hs, hp]
    intro h
    omega

theorem own_new (w : World) (base : Nat) (t : TypeId) (l : List Value) (hb : base ≤ w.heap.size) (hl : l.length ≤ maxLen) : (w.alloc (.cells l.toArray t)).ownsRow base t 1 (.slice (some ⟨w.heap.size, 0, none⟩) l.length l.length) l.length l :=
  ⟨by simp, .inr ⟨w.heap.size, l.length, l.toArray, rfl, hb, heap_alloc_new w _, Nat.le_refl _, hl, by simp, by simp⟩⟩
def bitsN (n : NT) : Int := n.S * 4 + (if n.Ha then 2 else 0) + (if n.Sk then 1 else 0)
/-- The bytes of the words up to the k-th. -/
def dataV (f : Nat → Int) (k : Nat) : List Value := (List.range k).flatMap fun j => bytesV (f j) 4
theorem dataV_succ (f : Nat → Int) (k : Nat) : dataV f (k + 1) = dataV f k ++ bytesV (f k) 4 := by simp [dataV, List.range_succ]
theorem dataV_len (f : Nat → Int) : ∀ k, (dataV f k).length = k * 4
  | 0 => rfl
  | k + 1 => by rw [dataV_succ, List.length_append, dataV_len f k, bytesV_len]; omega
def headV (n : NT) : List Value := [.int .u8 n.K, .int .u8 (n.Fr + 1), .int .u8 (n.To + 1)] ++ bytesV n.B 2 ++ bytesV n.St 8 ++ [.int .u8 (bitsN n)]

/-- What Put keeps: the note's box, the bytes so far. -/
structure QSt (w0 w : World) (N0 : Nat) (n : NT) (v : Value) (k : Nat) (xs : List Value) : Prop where
  N : NAt w N0 n
  own : w.ownsRow w0.heap.size 5 1 v k xs
  bel : Below w0.heap.size w0 w
section
variable {w0 w w' : World} {N0 : Nat} {n : NT} {v v' : Value} {k k' : Nat} {xs xs' : List Value}
theorem note_ne {g : Nat} {cur : Array Value} (h : NAt w N0 n) : ¬ Blk w N0 5 cur := fun hb => Blk.ne_ hb h (by decide) rfl
theorem QSt.grew (h : QSt w0 w N0 n v k xs) (ho : w'.ownsRow w0.heap.size 5 1 v' k' xs') (hg : Grew w0.heap.size w w') : QSt w0 w' N0 n v' k' xs' :=
  ⟨(hg.other N0 h.N.lt (fun cur => note_ne (g := 0) h.N)).trans h.N, ho, ⟨hg.os.trans h.bel.os, hg.tape.trans h.bel.tape, hg.output.trans h.bel.output, Nat.le_trans h.bel.size hg.size, fun i hi => (hg.low i hi (Nat.lt_of_lt_of_le hi h.bel.size)).trans (h.bel.block i hi)⟩⟩
end

/-- A note that may be: its parts' bounds. -/
structure GoodN (n : NT) : Prop where
  K0 : 1 ≤ n.K
  K1 : n.K ≤ 11
  F0 : -1 ≤ n.Fr
  F1 : n.Fr ≤ 15
  T0 : -1 ≤ n.To
  T1 : n.To ≤ 15
  B0 : 0 ≤ n.B
  B1 : n.B ≤ 255
  S0 : 0 ≤ n.S
  S1 : n.S ≤ 3
structure Ins (n : NT) : Prop where
  K0 : 0 ≤ n.K
  K1 : n.K ≤ 255
  St0 : 0 ≤ n.St
  St1 : n.St ≤ 18446744073709551615
  S0 : 0 ≤ n.S
  S1 : n.S ≤ 255
  f : ∀ j, j < 16 → 0 ≤ n.f j ∧ n.f j ≤ 4294967295
theorem good_of {n : NT} (h : mayN n = true) (hs : 0 ≤ n.S) : GoodN n := by
  unfold mayN at h
  simp only [Bool.and_eq_true, decide_eq_true_eq, beq_iff_eq] at h
  obtain ⟨⟨⟨⟨h1, h2⟩, h3⟩, h4⟩, h5⟩ := h
  simp only [coreB, decide_eq_true_eq] at h3
  have hS : n.S ≤ 3 := by
    simp only [restN, Bool.and_eq_true] at h5
    have h6 := h5.1.1.1.2
    split at h6
    · simp at h6; omega
    · simp at h6; omega
  unfold whoN at h3
  unfold atN at h4
  split at h4
  · rename_i hh
    rw [if_pos hh] at h3
    exact ⟨h1.1, h1.2, by omega, by omega, by omega, by omega, h2.1, h2.2, hs, hS⟩
  · rename_i hh
    rw [if_neg hh] at h3
    exact ⟨h1.1, h1.2, by omega, by omega, by omega, by omega, h2.1, h2.2, hs, hS⟩

theorem Put_no (n : NT) (hi : Ins n) (hm : mayN n = false) (w : World) :
    Calls Try.prog 12 #[.agg (ntL n).toArray] w fun e w' => e = .returned (.tuple #[.string ⟨#[]⟩, .int .i64 2]) ∧ Below w.heap.size w w' := by
  have N0 := hide (NAt.new w n)
  have HB := hide ((Below.refl w.heap.size w).alloc (Nat.le_refl _) (.cells (ntL n).toArray 29))
  have M := hide (fun w => may_any n hi.K0 hi.K1 w)
  rw [hm] at M
  clear hi hm
  go_enter Try.func12, Try.ntmps12
  go_wp2_with (first
    | ((with_reducible refine load_note rfl (.tmp 1) rfl w.heap.size rfl N0.out ?_)))
  refine (M.out _).mono ?_
  rintro e w2 ⟨rfl, hb2⟩
  have HB2 := hide (HB.out.trans (hb2.mono HB.out.size))
  go_wp2
  go_ret2
  exact ⟨rfl, HB2.out⟩
theorem or_bits (S : Int) (s0 : 0 ≤ S) (s1 : S ≤ 3) : bits .or .u8 (S * 4) 2 = S * 4 + 2 ∧ bits .or .u8 (S * 4) 1 = S * 4 + 1 ∧ bits .or .u8 (S * 4 + 2) 1 = S * 4 + 2 + 1 := by
  have : S = 0 ∨ S = 1 ∨ S = 2 ∨ S = 3 := by omega
  rcases this with rfl | rfl | rfl | rfl <;> decide
def u8v (b : UInt8) : Value := .int .u8 (b.toNat : Int)
theorem u8v_byte (x : Int) (h0 : 0 ≤ x) (h1 : x ≤ 255) : u8v (UInt8.ofNat x.toNat) = .int .u8 x := by
  unfold u8v
  have : x.toNat < 256 := by omega
  simp [UInt8.toNat_ofNat, Nat.mod_eq_of_lt this]
  omega
theorem bytesV_map (x : Int) (m : Nat) : bytesV x m = (bytesB x m).map u8v := by
  unfold bytesV bytesB
  rw [List.map_map]
  apply List.map_congr_left
  intro k _
  exact (u8v_byte _ (byteN_bd x k).1 (byteN_bd x k).2).symm
def dataB (f : Nat → Int) (k : Nat) : List UInt8 := (List.range k).flatMap fun j => bytesB (f j) 4
theorem dataB_succ (f : Nat → Int) (k : Nat) : dataB f (k + 1) = dataB f k ++ bytesB (f k) 4 := by simp [dataB, List.range_succ]
theorem dataV_map (f : Nat → Int) : ∀ k, dataV f k = (dataB f k).map u8v
  | 0 => rfl
  | k + 1 => by rw [dataV_succ, dataB_succ, List.map_append, dataV_map f k, bytesV_map]
/-- A note's bytes. -/
def headB (n : NT) : List UInt8 := [UInt8.ofNat n.K.toNat, UInt8.ofNat (n.Fr + 1).toNat, UInt8.ofNat (n.To + 1).toNat] ++ bytesB n.B 2 ++ bytesB n.St 8 ++ [UInt8.ofNat (bitsN n).toNat]
def putB (n : NT) : List UInt8 := headB n ++ dataB n.f 16
theorem bits_bd {n : NT} (g : GoodN n) : 0 ≤ bitsN n ∧ bitsN n ≤ 15 := by
  have := g.S0
  have := g.S1
  unfold bitsN
  split <;> split <;> omega
theorem headV_map {n : NT} (g : GoodN n) : headV n = (headB n).map u8v := by
  have := g.K0; have := g.K1; have := g.F0; have := g.F1; have := g.T0; have := g.T1
  have hb := bits_bd g
  unfold headV headB
  simp only [List.map_append, List.map_cons, List.map_nil, bytesV_map]
  rw [u8v_byte n.K (by omega) (by omega), u8v_byte (n.Fr + 1) (by omega) (by omega), u8v_byte (n.To + 1) (by omega) (by omega), u8v_byte (bitsN n) hb.1 (by omega)]
theorem headB_len (n : NT) : (headB n).length = 14 := by simp [headB, bytesB]
theorem putB_len (n : NT) : (putB n).length = 78 := by
  have h : ∀ k, (dataB n.f k).length = k * 4 := fun k => by
    have := dataV_len n.f k
    rw [dataV_map, List.length_map] at this
    exact this
  rw [putB, List.length_append, headB_len, h]

theorem conv_note {n : NT} {w : World} {base gb cap : Nat} (g : GoodN n) (h : w.ownsRow base 5 1 (.slice (some ⟨gb, 0, none⟩) (14 + 16 * 4) cap) (14 + 16 * 4) (headV n ++ dataV n.f 16)) :
    (convert 42 9 (.slice (some ⟨gb, 0, none⟩) (14 + 16 * 4) cap)).run Try.prog w = .ok (.string ⟨(putB n).toArray⟩) w := by
  have hl := putB_len n
  have hx : headV n ++ dataV n.f 16 = (putB n).map u8v := by rw [putB, List.map_append, headV_map g, dataV_map]
  have := run_convert_bytes_back (P := Try.prog) w 42 9 5 ⟨gb, 0, none⟩ cap (putB n) Try.underlying42 Try.underlying5 Try.underlying9 (fun j hj => by
    have hc := h.cells (g := gb) rfl j (u8v ((putB n)[j])) (by rw [hx]; simp [hj])
    exact hc)
  rw [hl] at this
  exact this
set_option maxHeartbeats 4000000 in
theorem Put_ok (n : NT) (hi : Ins n) (hm : mayN n = true) (w : World) :
    Calls Try.prog 12 #[.agg (ntL n).toArray] w fun e w' => e = .returned (.tuple #[.string ⟨(putB n).toArray⟩, .int .i64 0]) ∧ Below w.heap.size w w' := by
  have g := good_of hm hi.S0
  have N0 := hide (NAt.new w n)
  have HB := hide ((Below.refl w.heap.size w).alloc (Nat.le_refl _) (.cells (ntL n).toArray 29))
  have M := hide (fun w => may_any n hi.K0 hi.K1 w)
  rw [hm] at M
  obtain ⟨or1, or2, or3⟩ := or_bits n.S g.S0 g.S1
  have G := hide g
  have I := hide hi
  obtain ⟨k0, k1, f0, f1, t0, t1, b0, b1, s0, s1⟩ := g
  have st0 := hi.St0
  have st1 := hi.St1
  obtain ⟨i0, hi0, hz0, hz1, hz2⟩ := info_parts info5
  clear hi hm
  go_enter Try.func12, Try.ntmps12
  go_wp2_with (first
    | ((with_reducible refine load_note rfl (.tmp 1) rfl w.heap.size rfl N0.out ?_)))
  refine (M.out _).mono ?_
  rintro e w2 ⟨rfl, hb2⟩
  have HB2 := hide (HB.out.trans (hb2.mono HB.out.size))
  have N2 := hide (N0.out.below hb2 (by simp))
  clear hb2 HB N0 M
  obtain ⟨y0, y1, y2, y3, y4, y5, y6, y7⟩ := N2.out.cells
  have O2 := hide (own_new w2 w.heap.size 5 [.int .u8 n.K, .int .u8 (n.Fr + 1), .int .u8 (n.To + 1)] HB2.out.size (by simp [maxLen]))
  have N3 := hide (N2.out.alloc (.cells #[.int .u8 n.K, .int .u8 (n.Fr + 1), .int .u8 (n.To + 1)] 5))
  have HB3 := hide (HB2.out.alloc HB2.out.size (.cells #[.int .u8 n.K, .int .u8 (n.Fr + 1), .int .u8 (n.To + 1)] 5))
  cases hh : n.Ha
  all_goals
    cases hk : n.Sk
    all_goals
      rw [hh] at y6
      rw [hk] at y7
      have HH := hide hh
      have HK := hide hk
      clear hh hk
      go_upto_region 9 with fail
      first
        | rw [show n.S * 4 + 2 + 1 = bitsN n by unfold bitsN; rw [HH.out, HK.out]; simp]
        | rw [show n.S * 4 + 2 = bitsN n by unfold bitsN; rw [HH.out, HK.out]; simp]
        | rw [show n.S * 4 + 1 = bitsN n by unfold bitsN; rw [HH.out, HK.out]; simp]
        | rw [show n.S * 4 = bitsN n by unfold bitsN; rw [HH.out, HK.out]; simp]
      clear y0 y1 y2 y3 y4 y5 y6 y7 HH HK or1 or2 or3 N2 HB2
      have hbn := bits_bd G.out
      obtain ⟨y0, y1, y2, y3, y4, y5, y6, y7⟩ := N3.out.cells
      go_wp2_with fail
      refine (number_any w.heap.size _ 3 _ n.B 2 (by omega) b0 (by omega) _ O2.out HB3.out.size (by omega)).mono ?_
      rintro e w3 ⟨v3, rfl, hown3, hg3⟩
      have Q3 : Hid (QSt w w3 w.heap.size n v3 5 ([.int .u8 n.K, .int .u8 (n.Fr + 1), .int .u8 (n.To + 1)] ++ bytesV n.B 2)) := hide (QSt.grew ⟨N3.out, O2.out, HB3.out⟩ hown3 hg3)
      clear hown3 hg3 y0 y1 y2 y3 y4 y5 y6 y7
      obtain ⟨y0, y1, y2, y3, y4, y5, y6, y7⟩ := Q3.out.N.cells
      go_wp2_with fail
      refine (number_any w.heap.size _ 5 _ n.St 8 (by omega) st0 st1 _ Q3.out.own Q3.out.bel.size (by omega)).mono ?_
      rintro e w4 ⟨v4, rfl, hown4, hg4⟩
      have Q4 := hide (Q3.out.grew hown4 hg4)
      clear hown4 hg4 y0 y1 y2 y3 y4 y5 y6 y7 Q3
      have HR := hide (reads_one w4 5 (.int .u8 (bitsN n)))
      have HO1 := hide (one_int (k := .u8) (bitsN n))
      have HOWN := hide (Q4.out.own.alloc (.cells #[.int .u8 (bitsN n)] 5))
      have hm14 : 5 + 8 + 1 ≤ maxLen := by unfold maxLen; omega
      have hz4 := Q4.out.bel.size
      have hz : w.heap.size ≤ (w4.alloc (.cells #[.int .u8 (bitsN n)] 5)).heap.size := by simp; omega
      have HZ := hide hz
      clear hz hz4
      go_upto_region 12 with (first
        | (at_builtin; refine wpList_append_any _ rfl (.tmp 42) (.tmp 44) 42 rfl w.heap.size 5 i0 _ 1 1 Try.underlying42 hi0 hz0 hz1 hz2 rfl (by omega) v4 (5 + 8) _ rfl HOWN.out (w4.heap.size + 1) (some ⟨w4.heap.size, 0, none⟩) 1 1 [.int .u8 (bitsN n)] rfl HR.out HO1.out hm14 (by omega) HZ.out ?_; intro v5 w5 hown5 hg5 hat5; have HOWN5 := hide hown5; have HG5 := hide hg5; clear hown5 hg5 hat5))
      have Q5 : Hid (QSt w w5 w.heap.size n v5 14 (headV n)) := hide (QSt.grew Q4.out HOWN5.out (((Grew.refl _ w4).alloc _).grown HG5.out fun g hg => ⟨(own_type HOWN.out hg).1, .inr (own_type HOWN.out hg).2⟩))
      clear HR HO1 HOWN HZ HOWN5 HG5 Q4 hm14 hbn
      go_wp2_with (first
        | ((with_reducible refine load_data rfl (.tmp 46) rfl w.heap.size rfl Q5.out.N ?_)))
      go_loopw [5, 48] (fun s i wr => ∃ (k : Nat) (v : Value), k ≤ 16 ∧ v = s ∧ i = .int .i64 k ∧ Hid (QSt w wr w.heap.size n v (14 + k * 4) (headV n ++ dataV n.f k))) (fun _ i _ => 16 - (intOf i).toNat)
      case atStart => exact ⟨0, v5, by omega, rfl, rfl, by simpa [dataV] using Q5⟩
      case round =>
        clear Q5
        obtain ⟨k, v, hk, rfl, rfl, hQ⟩ := hrel
        by_cases hlt : k < 16
        · have hix := fun w => index_blk n.f hlt w
          obtain ⟨fk0, fk1⟩ := I.out.f k hlt
          have HV := hide (dataV_succ n.f k)
          have hlt' : (k : Int) < 16 := by omega
          have hnum := fun (w1 : World) (h : w1.ownsRow w.heap.size 5 1 v (14 + k * 4) (headV n ++ dataV n.f k)) hb => number_any w.heap.size v (14 + k * 4) (headV n ++ dataV n.f k) (n.f k) 4 (by omega) fk0 (by omega) w1 h hb (by omega)
          have HNUM := hide hnum
          clear hnum
          generalize hy : n.f k = y at *
          clear hy
          go_wp2_with fail
          refine (HNUM.out _ hQ.out.own hQ.out.bel.size).mono ?_
          rintro e w6 ⟨v6, rfl, hown6, hg6⟩
          have Q6 := hide (hQ.out.grew hown6 hg6)
          clear hown6 hg6 hix
          go_wp2_with fail
          go_roundw
          case rel =>
            refine ⟨k + 1, v6, by omega, rfl, by go_num, ?_⟩
            rw [HV.out, ← List.append_assoc, show 14 + (k + 1) * 4 = 14 + k * 4 + 4 by omega]
            exact Q6
          case measure => simp [intOf]; omega
        · obtain rfl : k = 16 := by omega
          obtain ⟨g, cap, rfl, hbg, hlt6⟩ := hQ.out.own.form (by omega)
          have hcv := conv_note G.out hQ.out.own
          have HBEL := hide hQ.out.bel
          clear hQ hbg hlt6
          go_wp2
          go_ret2
          exact ⟨rfl, HBEL.out⟩
end Go.Proofs.Ytnjojcikahiieaa.NPut
