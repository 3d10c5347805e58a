/-
  Put of the program walked; what it puts, in plain words.
-/
import Derived.Test.YtdaglmoibijdeaaDoorIFirst
import Derived.Laws.IdiomStrings
import Derived.Great.Walk
namespace Go.Proofs.YtdaglmoibijdeaaDoor.IPut
open Go Go.RowKit Base Words INum IVal ISum ITake ITakeT IFirst CodePlain CodeTab
set_option linter.unusedVariables false
set_option linter.unusedSimpArgs false
set_option maxRecDepth 100000

def u8v (b : UInt8) : Value := .int .u8 (b.toNat : Int)
theorem u8v_byte (x : Int) (h0 : 0 ≤ x) (h1 : x ≤ 255) : u8v (UInt8.ofNat x.toNat) = .int .u8 x := by
  unfold u8v
  have : x.toNat < 256 := by omega
  simp [UInt8.toNat_ofNat, Nat.mod_eq_of_lt this]
  omega
theorem bytesV_map (x : Int) (m : Nat) : bytesV x m = (bytesB x m).map u8v := by
  unfold bytesV bytesB
  rw [List.map_map]
  apply List.map_congr_left
  intro k _
  exact (u8v_byte _ (byteN_bd x k).1 (byteN_bd x k).2).symm
theorem bytesB_len (x : Int) (m : Nat) : (bytesB x m).length = m := by simp [bytesB]
def bodyB (l : List Int) : List UInt8 := l.flatMap fun x => bytesB x 4
theorem bodyB_len : ∀ l : List Int, (bodyB l).length = 4 * l.length
  | [] => rfl
  | x :: l => by
    have h : bodyB (x :: l) = bytesB x 4 ++ bodyB l := rfl
    rw [h, List.length_append, bytesB_len, bodyB_len l, List.length_cons]
    omega
theorem bodyB_snoc (l : List Int) (x : Int) : bodyB (l ++ [x]) = bodyB l ++ bytesB x 4 := by simp [bodyB]
def imgB (l : List Int) : List UInt8 := [85, 84, 1] ++ bytesB (l.length : Int) 2 ++ bodyB l
theorem imgB_len (l : List Int) : (imgB l).length = 5 + 4 * l.length := by simp [imgB, bytesB_len, bodyB_len]; omega
def sumL (bs : List UInt8) : Int := sumF (bt ⟨bs.toArray⟩) bs.length
def img (l : List Int) : List UInt8 := imgB l ++ bytesB (sumL (imgB l)) 4
theorem img_len (l : List Int) : (img l).length = 9 + 4 * l.length := by rw [img, List.length_append, imgB_len, bytesB_len]; omega
def goodL (l : List Int) : Bool := decide (l.length ≤ 1024) && l.all isB
def putS (l : List Int) : ByteArray := if goodL l = true then ⟨(img l).toArray⟩ else ⟨#[]⟩
def putE (l : List Int) : Int := if goodL l = true then 0 else 2
theorem put_yes {l : List Int} (h : goodL l = true) : putS l = ⟨(img l).toArray⟩ ∧ putE l = 0 := by simp [putS, putE, h]
theorem put_no {l : List Int} (h : goodL l = false) : putS l = ⟨#[]⟩ ∧ putE l = 2 := by simp [putS, putE, h]
/-- The bytes so far. -/
structure PS (w0 w : World) (v : Value) (bs : List UInt8) : Prop where
  own : w.ownsRow w0.heap.size 5 1 v bs.length (bs.map u8v)
  bel : Below w0.heap.size w0 w
theorem below_grew {base : Nat} {w0 w w' : World} (h : Below base w0 w) (hb : base ≤ w.heap.size) (hg : Grew base w w') : Below base w0 w' :=
  ⟨hg.os.trans h.os, hg.tape.trans h.tape, hg.output.trans h.output, Nat.le_trans h.size hg.size, fun i hi => (hg.low i hi (by omega)).trans (h.block i hi)⟩
theorem PS.below {w0 w w' : World} {v : Value} {bs : List UInt8} (h : PS w0 w v bs) (hb : Below w.heap.size w w') : PS w0 w' v bs := ⟨own_below h.own hb, below_then h.bel hb⟩
theorem PS.alloc {w0 w : World} {v : Value} {bs : List UInt8} (h : PS w0 w v bs) (o : Obj) : PS w0 (w.alloc o) v bs := h.below ((Below.refl _ _).alloc (Nat.le_refl _) _)
theorem number_ps {w0 w : World} {v : Value} {bs : List UInt8} (h : PS w0 w v bs) (x : Int) (m : Nat) (hm : m ≤ 4) (x0 : 0 ≤ x) (x1 : x ≤ 4294967295) (hn : bs.length ≤ 1000000) :
    Calls Tryd.prog 16 #[v, .int .u32 x, .int .i64 (m : Int)] w fun e w' => ∃ v', e = .returned v' ∧ PS w0 w' v' (bs ++ bytesB x m) := by
  refine (number_any w0.heap.size v bs.length (bs.map u8v) x m hm x0 x1 w h.own h.bel.size hn).mono ?_
  rintro e w' ⟨v', rfl, ho, hg⟩
  refine ⟨v', rfl, ?_, below_grew h.bel h.bel.size hg⟩
  rw [List.length_append, bytesB_len, List.map_append, ← bytesV_map]
  exact ho
theorem own_new (w : World) (base : Nat) (t : TypeId) (l : List Value) (hb : base ≤ w.heap.size) (hl : l.length ≤ maxLen) : (w.alloc (.cells l.toArray t)).ownsRow base t 1 (.slice (some ⟨w.heap.size, 0, none⟩) l.length l.length) l.length l :=
  ⟨by simp, .inr ⟨w.heap.size, l.length, l.toArray, rfl, hb, heap_alloc_new w _, Nat.le_refl _, hl, by simp, by simp⟩⟩
/-- The world that bears the first bytes, marked. -/
def headW (w : World) : World := w.alloc (.cells #[.int .u8 85, .int .u8 84, .int .u8 1] 5 (3, 4))
theorem head_number (w : World) (x : Int) (x0 : 0 ≤ x) (x1 : x ≤ 65535) :
    Calls Tryd.prog 16 #[.slice (some ⟨w.heap.size, 0, none⟩) 3 3, .int .u32 x, .int .i64 2] (headW w) fun e w' => ∃ v', e = .returned v' ∧ PS w w' v' ([85, 84, 1] ++ bytesB x 2) := by
  have hsz : (headW w).heap.size = w.heap.size + 1 := World.size_alloc _ _
  refine (number_first w.heap.size 3 [.int .u8 85, .int .u8 84, .int .u8 1] rfl x x0 x1 (by omega) (headW w) (by omega) (fun j u hj => ?_)).mono ?_
  · have hh : (headW w).heap[w.heap.size]? = some (.cells #[.int .u8 85, .int .u8 84, .int .u8 1] 5 (3, 4)) := World.alloc_heap_new w _
    rw [cell_of_row (headW w) w.heap.size j _ _ _ hh]
    simpa using hj
  · rintro e w' ⟨v', rfl, ho, hb⟩
    refine ⟨v', rfl, ?_, ((Below.refl w.heap.size w).alloc (Nat.le_refl _) _).trans (hb.mono (by omega))⟩
    have h := own_mono ho (base' := w.heap.size) (by omega)
    rw [bytesV_map] at h
    rw [List.length_append, bytesB_len, List.map_append]
    exact h
theorem conv_ps {w0 w : World} {gb cap : Nat} {n : Nat} {bs : List UInt8} (h : PS w0 w (.slice (some ⟨gb, 0, none⟩) n cap) bs) (hn : n = bs.length) :
    (convert 34 9 (.slice (some ⟨gb, 0, none⟩) n cap)).run Tryd.prog w = .ok (.string ⟨bs.toArray⟩) w := by
  subst hn
  exact run_convert_bytes_back (P := Tryd.prog) w 34 9 5 ⟨gb, 0, none⟩ cap bs Tryd.underlying34 Tryd.underlying5 Tryd.underlying9 (fun j hj =>
    h.own.cells (g := gb) rfl j (u8v (bs[j])) (by simp [hj]))
theorem sumL_bd (bs : List UInt8) : 0 ≤ sumL bs ∧ sumL bs ≤ 4294967295 := sumF_bd _ _
theorem sum_list (bs : List UInt8) (h : bs.length ≤ 1000000) (w : World) : Calls Tryd.prog 11 #[.string ⟨bs.toArray⟩] w fun e w' => e = .returned (.int .u32 (sumL bs)) ∧ w = w' := by
  have hz : (⟨bs.toArray⟩ : ByteArray).size = bs.length := by simp [ByteArray.size]
  have := Sum_any ⟨bs.toArray⟩ (by rw [hz]; unfold maxLen; omega) w
  rw [hz] at this
  exact this
theorem Put_long (A : Option Addr) (n c : Nat) (hn : 1024 < n) (w : World) :
    Calls Tryd.prog 8 #[.slice A n c] w fun e w' => e = .returned (.tuple #[.string ⟨#[]⟩, .int .i64 2]) ∧ w = w' := by
  have hi : (1024 : Int) < (n : Int) := by omega
  go_enter Tryd.func8, Tryd.ntmps8
  go_wp2
  go_ret2
  exact ⟨rfl, rfl⟩
theorem Put_short (l : List Int) (hl : l.length ≤ 1024) (hin : ∀ x ∈ l, 0 ≤ x ∧ x < 4294967296) (A : Option Addr) (c : Nat) (w : World) (hT : Tab w) (hR : Reads w w.heap.size 1 A l.length (rowV l)) :
    Calls Tryd.prog 8 #[.slice A l.length c] w fun e w' => e = .returned (.tuple #[.string (putS l), .int .i64 (putE l)]) ∧ Below w.heap.size w w' := by
  have P0 := hide (head_number w (l.length : Int) (by omega) (by omega))
  have HR := hide hR
  have hi : ¬ (1024 : Int) < (l.length : Int) := by omega
  have hi2 : (0 : Int) ≤ (l.length : Int) := by omega
  have kc : (convert 34 34 (.slice (some ⟨w.heap.size, 0, none⟩) 3 3)).run Tryd.prog (w.alloc (.cells #[.int .u8 85, .int .u8 84, .int .u8 1] 5)) = .ok (.slice (some ⟨w.heap.size, 0, none⟩) 3 3) (headW w) :=
    Lib.run_convert_bytes_const (P := Tryd.prog) w 34 5 #[.int .u8 85, .int .u8 84, .int .u8 1] 3 3 Tryd.underlying34 Tryd.underlying5
  clear hR
  go_enter Tryd.func8, Tryd.ntmps8
  go_wp2_with fail
  refine P0.out.mono ?_
  rintro e w1 ⟨v1, rfl, P1⟩
  have HP1 := hide P1
  clear P1
  go_wp2_with fail
  go_loopw [4, 20] (fun b i wr => ∃ (k : Nat) (v : Value), k ≤ l.length ∧ i = .int .i64 k ∧ v = b ∧ Hid (PS w wr v ([85, 84, 1] ++ bytesB (l.length : Int) 2 ++ bodyB (l.take k))) ∧ Hid ((l.take k).all isB = true)) (fun _ i _ => l.length - (intOf i).toNat)
  case atStart => exact ⟨0, v1, by omega, rfl, rfl, by simpa [bodyB] using HP1, hide rfl⟩
  case round =>
    obtain ⟨k, v, hk, rfl, rfl, hP, hA⟩ := hrel
    by_cases hlt : k < l.length
    · obtain ⟨ad, u, rfl, hadb, hu, hcell⟩ := HR.out.at_ hlt
      have hu' : u = .int .u32 l[k] := by
        simp [rowV, hlt] at hu
        exact hu.symm
      subst hu'
      have hcw : wr.cell? (ad.add k) = some (.int .u32 l[k]) := (hP.out.bel.cell (p := ad.add k) (by rw [block_of_add]; exact hadb)).trans hcell
      obtain ⟨x0, x1⟩ := hin l[k] (List.getElem_mem hlt)
      have hlt' : (k : Int) < (l.length : Int) := by omega
      have TK := hide (CodeTake.take_any l[k] x0 x1 wr (hT.below hP.out.bel))
      have HALL := hide (fun (h : isB l[k] = false) => all_no hlt h)
      have HANY := hide (fun (h : isB l[k] = true) => all_yes hlt hA.out h)
      have HTK := hide (List.take_succ_eq_append_getElem hlt)
      have HLT := hide (show (l.take k).length ≤ 1024 by rw [List.length_take]; omega)
      clear hcell hadb hA
      generalize l[k] = x at *
      obtain ⟨co, ca, cb, cc, cn, hv⟩ := takeV_form x
      rw [hv] at TK
      clear hv
      rcases Bool.eq_false_or_eq_true (isB x) with hb | hb
      · rw [takeE_yes hb] at TK
        have HG := hide (HANY.out hb)
        clear hb HANY HALL
        go_wp2_with fail
        refine TK.out.mono ?_
        rintro e w6 ⟨rfl, hb6⟩
        have HP6 := hide ((hP.out.below hb6).alloc (.cells #[.int .u8 co, .int .i64 ca, .int .i64 cb, .int .i64 cc, .int .i64 cn] 38))
        clear hb6
        go_wp2_with fail
        refine (number_ps HP6.out x 4 (by omega) x0 (by omega) (by rw [List.length_append, List.length_append, bytesB_len, bodyB_len]; have := HLT.out; simp only [List.length_cons, List.length_nil]; omega)).mono ?_
        rintro e w7 ⟨v7, rfl, P7⟩
        have HP7 := hide P7
        clear P7
        go_wp2_with fail
        go_roundw
        case rel =>
          refine ⟨k + 1, v7, by omega, by go_num, rfl, ?_, HG⟩
          rw [HTK.out, bodyB_snoc, ← List.append_assoc]
          exact HP7
        case measure => simp [intOf]; omega
      · rw [takeE_no hb] at TK
        have hg : goodL l = false := by unfold goodL; rw [HALL.out hb]; simp
        have HQ := hide (put_no hg)
        clear hb HANY HALL hg
        go_wp2_with fail
        refine TK.out.mono ?_
        rintro e w6 ⟨rfl, hb6⟩
        have HB6 := hide (((hP.out.below hb6).alloc (.cells #[.int .u8 co, .int .i64 ca, .int .i64 cb, .int .i64 cc, .int .i64 cn] 38)).bel)
        clear hb6
        go_wp2_with fail
        go_ret2
        exact ⟨by rw [HQ.out.1, HQ.out.2]; rfl, HB6.out⟩
    · obtain rfl : k = l.length := by omega
      have hlt' : ¬ ((l.length : Int) < (l.length : Int)) := by omega
      rw [List.take_length] at hP hA
      have hg : goodL l = true := by unfold goodL; rw [hA.out, decide_eq_true hl]; rfl
      have HQ := hide (put_yes hg)
      have HB0 : Hid (PS w wr v (imgB l)) := hP
      have hil : (imgB l).length = 5 + 4 * l.length := imgB_len l
      have HIM := hide (show img l = imgB l ++ bytesB (sumL (imgB l)) 4 from rfl)
      clear hP hA hg
      generalize imgB l = bs at *
      have hpos : 0 < bs.length := by omega
      have hbs : bs.length ≤ 1000000 := by omega
      obtain ⟨g, cap, hv, _, _⟩ := HB0.out.own.form hpos
      subst hv
      have hcv := conv_ps HB0.out rfl
      have SM := hide (fun w => sum_list bs hbs w)
      obtain ⟨u0, u1⟩ := sumL_bd bs
      have NM := hide (number_ps HB0.out (sumL bs) 4 (by omega) u0 (by omega) hbs)
      have HPOS := hide hpos
      clear hil hpos hbs
      generalize sumL bs = su at *
      go_wp2_with fail
      refine (SM.out _).mono ?_
      rintro e w6 ⟨rfl, rfl⟩
      go_wp2_with fail
      refine NM.out.mono ?_
      rintro e w7 ⟨v7, rfl, P7⟩
      have HP7 := hide P7
      clear P7 hcv
      have hpos7 : 0 < (bs ++ bytesB su 4).length := by rw [List.length_append]; have := HPOS.out; omega
      generalize bs ++ bytesB su 4 = bs7 at *
      obtain ⟨g7, cap7, hv7, _, _⟩ := HP7.out.own.form hpos7
      subst hv7
      have hcv7 := conv_ps HP7.out rfl
      clear hpos7
      go_wp2_with fail
      go_ret2
      exact ⟨by rw [HQ.out.1, HQ.out.2, HIM.out]; rfl, HP7.out.bel⟩
/-- Put of the program, of any words. -/
theorem Put_any (l : List Int) (hin : ∀ x ∈ l, 0 ≤ x ∧ x < 4294967296) (A : Option Addr) (c : Nat) (w : World) (hT : Tab w) (hR : Reads w w.heap.size 1 A l.length (rowV l)) :
    Calls Tryd.prog 8 #[.slice A l.length c] w fun e w' => e = .returned (.tuple #[.string (putS l), .int .i64 (putE l)]) ∧ Below w.heap.size w w' := by
  by_cases h : l.length ≤ 1024
  · exact Put_short l h hin A c w hT hR
  · have hg : goodL l = false := by unfold goodL; rw [decide_eq_false h]; rfl
    rw [(put_no hg).1, (put_no hg).2]
    refine (Put_long A l.length c (by omega) w).mono ?_
    rintro e w' ⟨rfl, rfl⟩
    exact ⟨rfl, Below.refl _ _⟩
end Go.Proofs.YtdaglmoibijdeaaDoor.IPut
