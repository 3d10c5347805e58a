/-
  ImageSpoilt walked.
-/
import Derived.Test.YtdaglmoibijdeaaDoorILTakes
import Derived.Test.YtdaglmoibijdeaaDoorILaw
import Derived.Lib.SlBytesRow
import Derived.Laws.BitsAllLaws
namespace Go.Proofs.YtdaglmoibijdeaaDoor.ILSpoilt
open Go Go.RowKit Base Words INum IVal ISum ITake ITakeT ITakeF IIter IPut IEq ILTakes ILaw CodePlain CodeTab
set_option linter.unusedVariables false
set_option linter.unusedSimpArgs false
set_option maxRecDepth 100000

/-- The string with another byte. -/
def modS (t : ByteArray) (k : Nat) (x : Int) : ByteArray := ⟨(t.data.toList.set k (UInt8.ofNat x.toNat)).toArray⟩
theorem modS_size (t : ByteArray) (k : Nat) (x : Int) : (modS t k x).size = t.size := by
  show ((t.data.toList.set k (UInt8.ofNat x.toNat)).toArray).size = t.data.size
  rw [List.size_toArray, List.length_set, Array.length_toList]
theorem bt_data (t : ByteArray) (j : Nat) : bt t j = (t.data.toList[j]?.map (fun b => (b.toNat : Int))).getD 0 := by
  have h := bt_list t.data.toList j
  rw [Array.toArray_toList] at h
  exact h
theorem bt_mod (t : ByteArray) (k : Nat) (x : Int) (hk : k < t.size) (x0 : 0 ≤ x) (x1 : x ≤ 255) (j : Nat) : bt (modS t k x) j = if j = k then x else bt t j := by
  unfold modS
  rw [bt_list, List.getElem?_set]
  by_cases h : k = j
  · subst h
    rw [if_pos rfl, if_pos (by rw [Array.length_toList]; exact hk), if_pos rfl]
    have : x.toNat < 256 := by omega
    simp [UInt8.toNat_ofNat, Nat.mod_eq_of_lt this]
    omega
  · rw [if_neg h, if_neg (fun e => h e.symm), bt_data]
def BA (w : World) (B : Nat) (s : ByteArray) : Prop := ∀ j, j < s.size → w.cell? ⟨B, j, none⟩ = some (.int .u8 (bt s j))
theorem ba_new (w : World) (s : ByteArray) : BA (Lib.bytesWorld w 5 s) w.heap.size s := fun j hj => by
  rw [Lib.bytesWorld_cell w 5 s j hj, bt_at s hj]
  have : (s.data.toList.getD j 0) = s[j]'hj := by
    rw [List.getD_eq_getElem?_getD, List.getElem?_eq_getElem (by rw [Array.length_toList]; exact hj)]
    rfl
  rw [this]
theorem ba_frozen (w : World) (s : ByteArray) (j : Nat) (hj : j < s.size) : (Lib.bytesWorld w 5 s).frozen? ⟨w.heap.size, j, none⟩ = false := by
  have hc := ba_new w s j hj
  have hn := Lib.bytesWorld_at_new w 5 s
  have hlt : j < (Lib.bytesCells w 5 s).size := by
    unfold World.cell? at hc
    rw [hn] at hc
    simp at hc
    rcases Nat.lt_or_ge j (Lib.bytesCells w 5 s).size with h | h
    · exact h
    · rw [Array.getElem?_eq_none h] at hc
      cases hc
  unfold World.frozen?
  rw [hn]
  simp
  omega
theorem ba_set {w : World} {B : Nat} {t : ByteArray} {k : Nat} {x : Int} (h : BA w B t) (hk : k < t.size) (x0 : 0 ≤ x) (x1 : x ≤ 255) : BA (w.setCell ⟨B, k, none⟩ (.int .u8 x)) B (modS t k x) := fun j hj => by
  rw [modS_size] at hj
  rw [bt_mod t k x hk x0 x1]
  by_cases e : j = k
  · subst e
    rw [if_pos rfl]
    exact World.cell?_setCell_same _ _ _ (h j hj)
  · rw [if_neg e, World.cell?_setCell_other _ _ _ _ (fun q => e (by injection q with _ q2; omega))]
    exact h j hj
theorem ba_back {w : World} {B : Nat} {s : ByteArray} (h : BA w B s) (n cap : Nat) (hn : n = s.size) :
    (convert 34 9 (.slice (some ⟨B, 0, none⟩) n cap)).run Tryd.prog w = .ok (.string s) w := by
  subst hn
  exact Lib.run_convert_whole (P := Tryd.prog) w 34 5 9 Tryd.underlying34 Tryd.underlying5 Tryd.underlying9 B 0 s (fun i hi => by
    rw [Nat.zero_add, h i hi, bt_at s hi]) cap
theorem xor_bd {x b : Int} (x0 : 0 ≤ x) (x1 : x ≤ 255) (b0 : 0 ≤ b) (b1 : b ≤ 255) : 0 ≤ bits .xor .u8 x b ∧ bits .xor .u8 x b ≤ 255 := by
  rw [u8_xor x b x0 (by omega) b0 (by omega)]
  have : x.toNat ^^^ b.toNat < 2 ^ 8 := Nat.xor_lt_two_pow (by omega) (by omega)
  omega
theorem xor_zero' {x : Int} (x0 : 0 ≤ x) (x1 : x ≤ 255) : bits .xor .u8 x 0 = x := by
  rw [u8_xor x 0 x0 (by omega) (by omega) (by omega)]
  simp
  omega
theorem xor_ne {x b : Int} (x0 : 0 ≤ x) (x1 : x ≤ 255) (b0 : 0 ≤ b) (b1 : b ≤ 255) (hb : b ≠ 0) : bits .xor .u8 x b ≠ x := by
  rw [u8_xor x b x0 (by omega) b0 (by omega)]
  intro h
  have e : x.toNat ^^^ b.toNat = x.toNat := by omega
  have e2 : x.toNat ^^^ (x.toNat ^^^ b.toNat) = x.toNat ^^^ x.toNat := by rw [e]
  rw [← Nat.xor_assoc, Nat.xor_self, Nat.zero_xor] at e2
  omega
theorem mod_same (t : ByteArray) (k : Nat) (hk : k < t.size) : modS t k (bits .xor .u8 (bt t k) 0) = t := by
  obtain ⟨x0, x1⟩ := bt_bd t k
  rw [xor_zero' x0 x1]
  refine bt_ext (modS_size _ _ _) fun j hj => ?_
  rw [bt_mod t k _ hk x0 x1]
  by_cases e : j = k
  · subst e; rw [if_pos rfl]
  · rw [if_neg e]
theorem mod_other (t : ByteArray) (k : Nat) (hk : k < t.size) {b : Int} (b0 : 0 ≤ b) (b1 : b ≤ 255) (hb : b ≠ 0) (ht : eT t = 0) : eT (modS t k (bits .xor .u8 (bt t k) b)) ≠ 0 := by
  obtain ⟨x0, x1⟩ := bt_bd t k
  obtain ⟨y0, y1⟩ := xor_bd x0 x1 b0 b1
  refine spoilt ht (modS_size _ _ _) hk ?_ fun j hj => ?_
  · rw [bt_mod t k _ hk y0 y1, if_pos rfl]
    exact xor_ne x0 x1 b0 b1 hb
  · rw [bt_mod t k _ hk y0 y1, if_neg hj]
theorem add_none (t more : ByteArray) (h : more.size = 0) : t ++ more = t := by
  refine bt_ext (by rw [ByteArray.size_append]; omega) fun j hj => ?_
  have hj2 : j < t.size := by rw [ByteArray.size_append] at hj; omega
  rw [bt_at _ (j := j) (by rw [ByteArray.size_append]; omega), bt_at t hj2]
  rw [ByteArray.getElem_append_left hj2]
theorem more_eq {more : ByteArray} (h : more.size = 0) : (more.toList == []) = true := by
  rw [beq_iff_eq, ByteArray.toList_eq]
  have h2 : more.data.size = 0 := h
  exact List.eq_nil_of_length_eq_zero (by rw [Array.length_toList]; exact h2)
theorem more_ne {more : ByteArray} (h : more.size ≠ 0) : (more.toList == []) = false := by
  rw [beq_eq_false_iff_ne, ByteArray.toList_eq]
  intro e
  apply h
  have h2 : more.data.toList.length = 0 := by rw [e]; rfl
  rw [Array.length_toList] at h2
  exact h2
theorem bytes_below' {w0 w : World} {s : ByteArray} (h : Below w0.heap.size w0 w) : Below w0.heap.size w0 (Lib.bytesWorld w 5 s) := by
  have hz := Lib.bytesWorld_size w 5 s
  refine ⟨h.os, h.tape, h.output, by have := h.size; omega, fun k hk => ?_⟩
  rw [Lib.bytesWorld_at_old w 5 s k (Nat.lt_of_lt_of_le hk h.size)]
  exact h.block k hk
set_option maxHeartbeats 1000000 in
theorem spoilt_any (l : List Int) (A : Option Addr) (c : Nat) (a b : Int) (more : ByteArray) (hin : ∀ x ∈ l, 0 ≤ x ∧ x < 4294967296) (hl : l.length ≤ maxLen) (a0 : -9223372036854775808 ≤ a) (a1 : a ≤ 9223372036854775807) (b0 : 0 ≤ b) (b1 : b ≤ 255) (hs : more.size ≤ maxLen) (w : World) (hR : WordsAt w A l) (hT : Tab w) :
    Calls Tryd.prog 7 #[.slice A l.length c, .int .i64 a, .int .u8 b, .string more] w fun e w' => e = .returned (.bool true) ∧ Below w.heap.size w w' := by
  unfold maxLen at hs hl
  have WK := hide (fun w hT => works_any w hT)
  have HT := hide hT
  have HR := hide hR
  clear hT hR
  by_cases h1 : 2000 < l.length
  · have h1' : (2000 : Int) < (l.length : Int) := by omega
    go_enter Tryd.func7, Tryd.ntmps7
    go_wp2_with fail
    refine (WK.out _ HT.out).mono ?_
    rintro e w1 ⟨rfl, hb1⟩
    go_wp2_with fail
    go_ret
    exact ⟨rfl, hb1⟩
  · have h1' : ¬ (2000 : Int) < (l.length : Int) := by omega
    by_cases h2 : 1000 < more.size
    · have h2' : (1000 : Int) < (more.size : Int) := by omega
      go_enter Tryd.func7, Tryd.ntmps7
      go_wp2_with fail
      refine (WK.out _ HT.out).mono ?_
      rintro e w1 ⟨rfl, hb1⟩
      go_wp2_with fail
      go_ret
      exact ⟨rfl, hb1⟩
    · have h2' : ¬ (1000 : Int) < (more.size : Int) := by omega
      have P1 := hide (Put_any l hin A c w HT.out (words_reads HR.out))
      rcases Bool.eq_false_or_eq_true (goodL l) with hg | hg
      · have HTP := take_put l hg hin
        have hz : (putS l).size ≤ 9 + 4 * 2000 := by rw [(put_yes hg).1, show (⟨(img l).toArray⟩ : ByteArray) = imS l from rfl, imS_size]; omega
        rw [(put_yes hg).2] at P1
        have het := HTP.1
        clear HTP hg
        generalize putS l = t at *
        by_cases ha : a < 0
        · clear het
          go_enter Tryd.func7, Tryd.ntmps7
          go_wp2_with fail
          refine P1.out.mono ?_
          rintro e w1 ⟨rfl, hb1⟩
          have HB1 := hide hb1
          clear hb1
          go_wp2_with fail
          refine (WK.out _ (HT.out.below HB1.out)).mono ?_
          rintro e w2 ⟨rfl, hb2⟩
          have HB2 := hide (below_then HB1.out hb2)
          clear hb2
          go_wp2_with fail
          go_ret
          exact ⟨rfl, HB2.out⟩
        · obtain ⟨k, rfl⟩ := Int.eq_ofNat_of_zero_le (show 0 ≤ a by omega)
          by_cases hk : t.size ≤ k
          · have hk' : (t.size : Int) ≤ (k : Int) := by omega
            clear het
            go_enter Tryd.func7, Tryd.ntmps7
            go_wp2_with fail
            refine P1.out.mono ?_
            rintro e w1 ⟨rfl, hb1⟩
            have HB1 := hide hb1
            clear hb1
            go_wp2_with fail
            refine (WK.out _ (HT.out.below HB1.out)).mono ?_
            rintro e w2 ⟨rfl, hb2⟩
            have HB2 := hide (below_then HB1.out hb2)
            clear hb2
            go_wp2_with fail
            go_ret
            exact ⟨rfl, HB2.out⟩
          · have hk' : ¬ (t.size : Int) ≤ (k : Int) := by omega
            have hkl : k < t.size := by omega
            have hkl' : (k : Int) < (t.size : Int) := by omega
            have HCUT := cut_short het hkl
            have TC := hide (fun w hT => Take_any (t.extract 0 k) (by unfold maxLen; rw [ByteArray.size_extract]; omega) w hT)
            have TM := hide (fun w hT => Take_any (t ++ more) (by unfold maxLen; rw [ByteArray.size_append]; omega) w hT)
            have TB := hide (fun w hT => Take_any (modS t k (bits .xor .u8 (bt t k) b)) (by unfold maxLen; rw [modS_size]; omega) w hT)
            have hec : (eT (t.extract 0 k) != 0) = true := by rw [bne_iff_ne]; exact HCUT
            have hsl : ∀ W, (Instr.slice 9 (.string t) none (some (.int .i64 (k : Int))) none).run Tryd.prog W = .ok (.string (t.extract 0 k)) W := fun W => by
              have h := run_slice_string_h (P := Tryd.prog) W 9 t Tryd.underlying9 .i64 (k : Int) (by omega) (by omega)
              rw [Int.toNat_natCast] at h
              exact h
            have hcat : ¬ 9223372036854775807 < t.size + more.size := by omega
            have hcv := fun w => Lib.run_convert_string_bytes (P := Tryd.prog) w 9 34 5 t Tryd.underlying9 Tryd.underlying34 Tryd.underlying5
            obtain ⟨x0, x1⟩ := bt_bd t k
            obtain ⟨y0, y1⟩ := xor_bd x0 x1 b0 b1
            by_cases hb : b = 0
            · by_cases hm : more.size = 0
              · subst hb
                rw [mod_same t k hkl, het] at TB
                have hmq := more_eq hm
                rw [add_none t more hm, het] at TM
                have hadd := add_none t more hm
                generalize eT (t.extract 0 k) = ec at *
                clear HCUT het
                have hxz := xor_zero' x0 x1
                go_enter Tryd.func7, Tryd.ntmps7
                go_wp2_with fail
                refine P1.out.mono ?_
                rintro e w1 ⟨rfl, hb1⟩
                have HB1 := hide hb1
                clear hb1
                go_upto_region 7 with fail
                have HBA := hide (ba_new w1 t)
                have hfr := ba_frozen w1 t k hkl
                have hck := HBA.out k hkl
                have HBB := hide (bytes_below' (s := t) HB1.out)
                have HBZ := hide (HB1.out.size)
                generalize Lib.bytesWorld w1 5 t = wB at *
                generalize grownCap w1 t.size 0 5 = cap at *
                generalize w1.heap.size = B at *
                clear hcv HB1
                have HBC := hide (HBB.out.setCell (p := ⟨B, k, none⟩) HBZ.out (.int .u8 (bits .xor .u8 (bt t k) 0)))
                have hcb := ba_back (ba_set HBA.out hkl y0 y1) t.size cap (modS_size _ _ _).symm
                rw [mod_same t k hkl] at hcb
                rw [xor_zero' x0 x1] at hcb HBC
                clear HBA
                go_upto_region 8 with fail
                generalize wB.setCell ⟨B, k, none⟩ (.int .u8 (bt t k)) = wC at *
                clear hck hfr
                go_wp2_with fail
                refine (TB.out _ (HT.out.below HBC.out)).mono ?_
                rintro e w2 ⟨v2, rfl, hown2, hb2⟩
                obtain ⟨A2, c2, rfl⟩ := own_slice hown2
                have HB2 := hide (below_then HBC.out hb2)
                clear hb2 hown2 hcb
                go_wp2_with fail
                refine (TC.out _ (HT.out.below HB2.out)).mono ?_
                rintro e w3 ⟨v3, rfl, _, hb3⟩
                have HB3 := hide (below_then HB2.out hb3)
                clear hb3
                go_wp2_with fail
                refine (TM.out _ (HT.out.below HB3.out)).mono ?_
                rintro e w4 ⟨v4, rfl, _, hb4⟩
                have HB4 := hide (below_then HB3.out hb4)
                clear hb4
                go_wp2_with fail
                refine (WK.out _ (HT.out.below HB4.out)).mono ?_
                rintro e w5 ⟨rfl, hb5⟩
                have HB5 := hide (below_then HB4.out hb5)
                clear hb5
                go_wp2_with fail
                go_ret
                exact ⟨rfl, HB5.out⟩
              · subst hb
                rw [mod_same t k hkl, het] at TB
                have hmq := more_ne hm
                have HML := made_long het hm
                have hem : (eT (t ++ more) == 0) = false := by rw [beq_eq_false_iff_ne]; exact HML
                clear HML
                generalize eT (t ++ more) = em at *
                generalize eT (t.extract 0 k) = ec at *
                clear HCUT het
                have hxz := xor_zero' x0 x1
                go_enter Tryd.func7, Tryd.ntmps7
                go_wp2_with fail
                refine P1.out.mono ?_
                rintro e w1 ⟨rfl, hb1⟩
                have HB1 := hide hb1
                clear hb1
                go_upto_region 7 with fail
                have HBA := hide (ba_new w1 t)
                have hfr := ba_frozen w1 t k hkl
                have hck := HBA.out k hkl
                have HBB := hide (bytes_below' (s := t) HB1.out)
                have HBZ := hide (HB1.out.size)
                generalize Lib.bytesWorld w1 5 t = wB at *
                generalize grownCap w1 t.size 0 5 = cap at *
                generalize w1.heap.size = B at *
                clear hcv HB1
                have HBC := hide (HBB.out.setCell (p := ⟨B, k, none⟩) HBZ.out (.int .u8 (bits .xor .u8 (bt t k) 0)))
                have hcb := ba_back (ba_set HBA.out hkl y0 y1) t.size cap (modS_size _ _ _).symm
                rw [mod_same t k hkl] at hcb
                rw [xor_zero' x0 x1] at hcb HBC
                clear HBA
                go_upto_region 8 with fail
                generalize wB.setCell ⟨B, k, none⟩ (.int .u8 (bt t k)) = wC at *
                clear hck hfr
                go_wp2_with fail
                refine (TB.out _ (HT.out.below HBC.out)).mono ?_
                rintro e w2 ⟨v2, rfl, hown2, hb2⟩
                obtain ⟨A2, c2, rfl⟩ := own_slice hown2
                have HB2 := hide (below_then HBC.out hb2)
                clear hb2 hown2 hcb
                go_wp2_with fail
                refine (TC.out _ (HT.out.below HB2.out)).mono ?_
                rintro e w3 ⟨v3, rfl, _, hb3⟩
                have HB3 := hide (below_then HB2.out hb3)
                clear hb3
                go_wp2_with fail
                refine (TM.out _ (HT.out.below HB3.out)).mono ?_
                rintro e w4 ⟨v4, rfl, _, hb4⟩
                have HB4 := hide (below_then HB3.out hb4)
                clear hb4
                go_wp2_with fail
                refine (WK.out _ (HT.out.below HB4.out)).mono ?_
                rintro e w5 ⟨rfl, hb5⟩
                have HB5 := hide (below_then HB4.out hb5)
                clear hb5
                go_wp2_with fail
                go_ret
                exact ⟨rfl, HB5.out⟩
            · by_cases hm : more.size = 0
              · have HMO := mod_other t k hkl b0 b1 hb het
                have hbb : (b == 0) = false := by rw [beq_eq_false_iff_ne]; exact hb
                rw [out_none HMO] at TB
                have he1 : (eT (modS t k (bits .xor .u8 (bt t k) b)) == 0) = false := by rw [beq_eq_false_iff_ne]; exact HMO
                have he2 : (eT (modS t k (bits .xor .u8 (bt t k) b)) != 0) = true := by rw [bne_iff_ne]; exact HMO
                clear HMO
                generalize eT (modS t k (bits .xor .u8 (bt t k) b)) = eb at *
                have hmq := more_eq hm
                rw [add_none t more hm, het] at TM
                have hadd := add_none t more hm
                generalize eT (t.extract 0 k) = ec at *
                clear HCUT het
                go_enter Tryd.func7, Tryd.ntmps7
                go_wp2_with fail
                refine P1.out.mono ?_
                rintro e w1 ⟨rfl, hb1⟩
                have HB1 := hide hb1
                clear hb1
                go_upto_region 7 with fail
                have HBA := hide (ba_new w1 t)
                have hfr := ba_frozen w1 t k hkl
                have hck := HBA.out k hkl
                have HBB := hide (bytes_below' (s := t) HB1.out)
                have HBZ := hide (HB1.out.size)
                generalize Lib.bytesWorld w1 5 t = wB at *
                generalize grownCap w1 t.size 0 5 = cap at *
                generalize w1.heap.size = B at *
                clear hcv HB1
                have HBC := hide (HBB.out.setCell (p := ⟨B, k, none⟩) HBZ.out (.int .u8 (bits .xor .u8 (bt t k) b)))
                have hcb := ba_back (ba_set HBA.out hkl y0 y1) t.size cap (modS_size _ _ _).symm
                clear HBA
                go_upto_region 8 with fail
                generalize wB.setCell ⟨B, k, none⟩ (.int .u8 (bits .xor .u8 (bt t k) b)) = wC at *
                clear hck hfr
                go_wp2_with fail
                refine (TB.out _ (HT.out.below HBC.out)).mono ?_
                rintro e w2 ⟨v2, rfl, hown2, hb2⟩
                obtain ⟨A2, c2, rfl⟩ := own_slice hown2
                have HB2 := hide (below_then HBC.out hb2)
                clear hb2 hown2 hcb
                go_wp2_with fail
                refine (TC.out _ (HT.out.below HB2.out)).mono ?_
                rintro e w3 ⟨v3, rfl, _, hb3⟩
                have HB3 := hide (below_then HB2.out hb3)
                clear hb3
                go_wp2_with fail
                refine (TM.out _ (HT.out.below HB3.out)).mono ?_
                rintro e w4 ⟨v4, rfl, _, hb4⟩
                have HB4 := hide (below_then HB3.out hb4)
                clear hb4
                go_wp2_with fail
                refine (WK.out _ (HT.out.below HB4.out)).mono ?_
                rintro e w5 ⟨rfl, hb5⟩
                have HB5 := hide (below_then HB4.out hb5)
                clear hb5
                go_wp2_with fail
                go_ret
                exact ⟨rfl, HB5.out⟩
              · have HMO := mod_other t k hkl b0 b1 hb het
                have hbb : (b == 0) = false := by rw [beq_eq_false_iff_ne]; exact hb
                rw [out_none HMO] at TB
                have he1 : (eT (modS t k (bits .xor .u8 (bt t k) b)) == 0) = false := by rw [beq_eq_false_iff_ne]; exact HMO
                have he2 : (eT (modS t k (bits .xor .u8 (bt t k) b)) != 0) = true := by rw [bne_iff_ne]; exact HMO
                clear HMO
                generalize eT (modS t k (bits .xor .u8 (bt t k) b)) = eb at *
                have hmq := more_ne hm
                have HML := made_long het hm
                have hem : (eT (t ++ more) == 0) = false := by rw [beq_eq_false_iff_ne]; exact HML
                clear HML
                generalize eT (t ++ more) = em at *
                generalize eT (t.extract 0 k) = ec at *
                clear HCUT het
                go_enter Tryd.func7, Tryd.ntmps7
                go_wp2_with fail
                refine P1.out.mono ?_
                rintro e w1 ⟨rfl, hb1⟩
                have HB1 := hide hb1
                clear hb1
                go_upto_region 7 with fail
                have HBA := hide (ba_new w1 t)
                have hfr := ba_frozen w1 t k hkl
                have hck := HBA.out k hkl
                have HBB := hide (bytes_below' (s := t) HB1.out)
                have HBZ := hide (HB1.out.size)
                generalize Lib.bytesWorld w1 5 t = wB at *
                generalize grownCap w1 t.size 0 5 = cap at *
                generalize w1.heap.size = B at *
                clear hcv HB1
                have HBC := hide (HBB.out.setCell (p := ⟨B, k, none⟩) HBZ.out (.int .u8 (bits .xor .u8 (bt t k) b)))
                have hcb := ba_back (ba_set HBA.out hkl y0 y1) t.size cap (modS_size _ _ _).symm
                clear HBA
                go_upto_region 8 with fail
                generalize wB.setCell ⟨B, k, none⟩ (.int .u8 (bits .xor .u8 (bt t k) b)) = wC at *
                clear hck hfr
                go_wp2_with fail
                refine (TB.out _ (HT.out.below HBC.out)).mono ?_
                rintro e w2 ⟨v2, rfl, hown2, hb2⟩
                obtain ⟨A2, c2, rfl⟩ := own_slice hown2
                have HB2 := hide (below_then HBC.out hb2)
                clear hb2 hown2 hcb
                go_wp2_with fail
                refine (TC.out _ (HT.out.below HB2.out)).mono ?_
                rintro e w3 ⟨v3, rfl, _, hb3⟩
                have HB3 := hide (below_then HB2.out hb3)
                clear hb3
                go_wp2_with fail
                refine (TM.out _ (HT.out.below HB3.out)).mono ?_
                rintro e w4 ⟨v4, rfl, _, hb4⟩
                have HB4 := hide (below_then HB3.out hb4)
                clear hb4
                go_wp2_with fail
                refine (WK.out _ (HT.out.below HB4.out)).mono ?_
                rintro e w5 ⟨rfl, hb5⟩
                have HB5 := hide (below_then HB4.out hb5)
                clear hb5
                go_wp2_with fail
                go_ret
                exact ⟨rfl, HB5.out⟩
      · have hE : putE l = 2 := (put_no hg).2
        rw [hE] at P1
        clear hE hg
        generalize putS l = t at *
        go_enter Tryd.func7, Tryd.ntmps7
        go_wp2_with fail
        refine P1.out.mono ?_
        rintro e w1 ⟨rfl, hb1⟩
        have HB1 := hide hb1
        clear hb1
        go_wp2_with fail
        refine (WK.out _ (HT.out.below HB1.out)).mono ?_
        rintro e w2 ⟨rfl, hb2⟩
        have HB2 := hide (below_then HB1.out hb2)
        clear hb2
        go_wp2_with fail
        go_ret
        exact ⟨rfl, HB2.out⟩
end Go.Proofs.YtdaglmoibijdeaaDoor.ILSpoilt
