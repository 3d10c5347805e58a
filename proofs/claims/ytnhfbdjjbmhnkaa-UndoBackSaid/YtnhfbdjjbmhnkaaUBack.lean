/-
  UndoBack walked: if ahead of each write what is there is added, then writing back what was there, from the last one on, makes all data words what they were. It returns true.
-/
import Derived.Test.YtnhfbdjjbmhnkaaUBackP
import Derived.Deep.RegionHeld3
namespace Go.Proofs.Ytnhfbdjjbmhnkaa.UBack
open Go.RowKit PPlain Base PMay PRefMay PWalk MMem UPlain UWalk UAdd UAt UNew MRef MCopy URef ULog UPair Opens Opens3 Blks MBlock UOwnP UBackP
set_option linter.unusedVariables false
set_option linter.unusedSimpArgs false
set_option maxRecDepth 100000

section
variable (c0 c1 c2 c3 c4 c5 c6 c7 core : Int) (As At : Option Addr) (ns cs nt ct : Nat) (w : World)
theorem long (hn : ns ≤ maxLen) (ht : nt ≤ maxLen) (h : 300 < ns ∨ 300 < nt) : Calls Try.prog 7 #[.agg #[.int .i64 c0, .int .i64 c1, .int .i64 c2, .int .i64 c3, .int .i64 c4, .int .i64 c5, .int .i64 c6, .int .i64 c7], .int .i64 core, .slice As ns cs, .slice At nt ct] w fun e w' => e = .returned (.bool true) ∧ Below w.heap.size w w' := by
  unfold maxLen at hn ht
  have HB := hide ((Below.refl w.heap.size w).alloc (Nat.le_refl _) (.cells #[.int .i64 c0, .int .i64 c1, .int .i64 c2, .int .i64 c3, .int .i64 c4, .int .i64 c5, .int .i64 c6, .int .i64 c7] 23))
  by_cases h1 : 300 < ns
  · clear h
    go_enter Try.func7, Try.ntmps7
    go_wp2_with fail
    refine (works_any _).mono ?_
    rintro e w1 ⟨rfl, hb1⟩
    go_wp2
    go_ret
    exact ⟨rfl, below_then HB.out hb1⟩
  · have h2 : 300 < nt := by omega
    clear h
    go_enter Try.func7, Try.ntmps7
    go_wp2_with fail
    refine (works_any _).mono ?_
    rintro e w1 ⟨rfl, hb1⟩
    go_wp2
    go_ret
    exact ⟨rfl, below_then HB.out hb1⟩
theorem nomem (hn : ns ≤ 300) (ht : nt ≤ 300) (hb : c3 < 1 ∨ 256 < c3) : Calls Try.prog 7 #[.agg #[.int .i64 c0, .int .i64 c1, .int .i64 c2, .int .i64 c3, .int .i64 c4, .int .i64 c5, .int .i64 c6, .int .i64 c7], .int .i64 core, .slice As ns cs, .slice At nt ct] w fun e w' => e = .returned (.bool true) ∧ Below w.heap.size w w' := by
  have HB := hide ((Below.refl w.heap.size w).alloc (Nat.le_refl _) (.cells #[.int .i64 c0, .int .i64 c1, .int .i64 c2, .int .i64 c3, .int .i64 c4, .int .i64 c5, .int .i64 c6, .int .i64 c7] 23))
  have HN := hide hb
  clear hb
  go_enter Try.func7, Try.ntmps7
  go_wp2_with fail
  refine (MMem.New_no c3 HN.out _).mono ?_
  rintro e w1 ⟨rfl, rfl⟩
  go_wp2_with fail
  refine (works_any _).mono ?_
  rintro e w1 ⟨rfl, hb1⟩
  go_wp2
  go_ret
  exact ⟨rfl, below_then HB.out hb1⟩

/-- Memory and the plan's box, ahead of the log. -/
structure MS (w0 w : World) (p D nb : Nat) (F : Nat → Int) (B : Nat) (cs : Array Value) : Prop where
  mem : MemAt w p D nb F
  B : Blk w B 23 cs
  bel : Below w0.heap.size w0 w
  gD : w0.heap.size ≤ D
  gp : w0.heap.size ≤ p
theorem MS.cells {w0 w : World} {p D nb : Nat} {F : Nat → Int} {B : Nat} {v0 v1 v2 v3 v4 v5 v6 v7 : Value} (h : MS w0 w p D nb F B #[v0, v1, v2, v3, v4, v5, v6, v7]) :
    w.cell? ⟨B, 0, none⟩ = some v0 ∧ w.cell? ⟨B, 1, none⟩ = some v1 ∧ w.cell? ⟨B, 2, none⟩ = some v2 ∧ w.cell? ⟨B, 3, none⟩ = some v3 ∧ w.cell? ⟨B, 4, none⟩ = some v4 ∧ w.cell? ⟨B, 5, none⟩ = some v5 ∧ w.cell? ⟨B, 6, none⟩ = some v6 ∧ w.cell? ⟨B, 7, none⟩ = some v7 :=
  ⟨h.B.cell 0, h.B.cell 1, h.B.cell 2, h.B.cell 3, h.B.cell 4, h.B.cell 5, h.B.cell 6, h.B.cell 7⟩

/-- The state from the copy on: the log and its box, the copy. -/
structure BS (w0 w : World) (l : Nat) (c0 c1 c2 c3 c4 c5 c6 c7 : Int) (p : Nat) (first many : Int) (D nb : Nat) (F : Nat → Int) (B : Nat) (cs : Array Value) (p' D' : Nat) (F0 : Nat → Int) : Prop where
  S : LB w0 w l c0 c1 c2 c3 c4 c5 c6 c7 p first many D nb F B cs
  was : MemAt w p' D' nb F0
  ne : p' ≠ D ∧ p' ≠ l ∧ D' ≠ D ∧ D' ≠ l
theorem mem_two {w w' : World} {p D nb : Nat} {F : Nat → Int} (h : MemAt w p D nb F) {a b : Nat} (ht : Two a b w w') (pa : p ≠ a) (pb : p ≠ b) (Da : D ≠ a) (Db : D ≠ b) : MemAt w' p D nb F := by
  obtain ⟨h1, h2, ⟨c, h0, h3⟩, h4⟩ := h
  exact ⟨h1, h2, ⟨c, h0, (World.cell?_of_block (w := w) (ht.block p (block_lt_of_cell h3) pa pb)).trans h3⟩, h4.of_block (ht.block D h4.lt Da Db)⟩
section
variable {w0 w w' : World} {l : Nat} {c0 c1 c2 c3 c4 c5 c6 c7 : Int} {p : Nat} {first many many' : Int} {D nb : Nat} {F F' : Nat → Int} {B : Nat} {cs : Array Value} {p' D' : Nat} {F0 : Nat → Int}
theorem BS.below (h : BS w0 w l c0 c1 c2 c3 c4 c5 c6 c7 p first many D nb F B cs p' D' F0) (hb : Below w.heap.size w w') : BS w0 w' l c0 c1 c2 c3 c4 c5 c6 c7 p first many D nb F B cs p' D' F0 := ⟨h.S.below hb, h.was.below hb, h.ne⟩
theorem BS.move (h : BS w0 w l c0 c1 c2 c3 c4 c5 c6 c7 p first many D nb F B cs p' D' F0) (hL : LSt w0 w' l c0 c1 c2 c3 c4 c5 c6 c7 p first c4 many' D nb F') (ht : Two D l w w') : BS w0 w' l c0 c1 c2 c3 c4 c5 c6 c7 p first many' D nb F' B cs p' D' F0 :=
  ⟨h.S.move hL ht, mem_two h.was ht h.ne.1 h.ne.2.1 h.ne.2.2.1 h.ne.2.2.2, h.ne⟩
theorem BS.setM (h : BS w0 w l c0 c1 c2 c3 c4 c5 c6 c7 p first many D nb F B cs p' D' F0) (hM : MemAt w' p D nb F') (hg : w.grownBy w' (some D)) : BS w0 w' l c0 c1 c2 c3 c4 c5 c6 c7 p first many D nb F' B cs p' D' F0 :=
  h.move (h.S.L.move (h.S.L.log.grown hg h.S.L.n1) hM (Two.of_grown hg) h.S.L.m0 h.S.L.m1) (Two.of_grown hg)
end
theorem putE_get (F : Nat → Int) (f n : Nat) (a o : Int) : (∀ i, i < n → putE F (f * 16 + n * 2) a o 2 (f * 16 + i * 2) = F (f * 16 + i * 2) ∧ putE F (f * 16 + n * 2) a o 2 (f * 16 + (i * 2 + 1)) = F (f * 16 + (i * 2 + 1))) ∧
    (putE F (f * 16 + n * 2) a o 2 (f * 16 + n * 2) = a ∧ putE F (f * 16 + n * 2) a o 2 (f * 16 + (n * 2 + 1)) = o) ∧ ∀ j, j < f * 16 → putE F (f * 16 + n * 2) a o 2 j = F j := by
  refine ⟨fun i hi => ⟨?_, ?_⟩, ⟨by simp [putE], ?_⟩, fun j hj => ?_⟩
  · have e1 : f * 16 + i * 2 ≠ f * 16 + n * 2 := by omega
    have e2 : f * 16 + i * 2 ≠ f * 16 + n * 2 + 1 := by omega
    simp only [putE, e1, e2, false_and, if_false]
  · have e1 : f * 16 + (i * 2 + 1) ≠ f * 16 + n * 2 := by omega
    have e2 : f * 16 + (i * 2 + 1) ≠ f * 16 + n * 2 + 1 := by omega
    simp only [putE, e1, e2, false_and, if_false]
  · simp [putE, show f * 16 + (n * 2 + 1) ≠ f * 16 + n * 2 by omega, show f * 16 + (n * 2 + 1) = f * 16 + n * 2 + 1 by omega]
  · simp [putE, show j ≠ f * 16 + n * 2 by omega, show j ≠ f * 16 + n * 2 + 1 by omega]
theorem upd_get {F : Nat → Int} {nb : Nat} {b k x : Int} {jj : Nat} (hi : inr nb b k = true) (hx : idx b k = jj) : upd F nb b k x jj = x ∧ ∀ j, j ≠ jj → upd F nb b k x j = F j := by
  refine ⟨by simp [upd, hi, hx], fun j hj => by simp [upd, hx, hj]⟩
theorem inv_push {F F0 : Nat → Int} {f n d nb : Nat} {ok : Int → Prop} (h : Inv F F0 f n d ok) {jj : Nat} {a o b k x : Int} (ha : a = 4 * (jj : Int)) (hok : ok a) (ho : o = F jj) (hj : jj < d * 16) (hd : d ≤ f)
    (hi : inr nb b k = true) (hx : idx b k = jj) : Inv (upd (putE F (f * 16 + n * 2) a o 2) nb b k x) F0 f (n + 1) d ok := by
  obtain ⟨p1, ⟨p2, p3⟩, p4⟩ := putE_get F f n a o
  obtain ⟨u1, u2⟩ := upd_get (F := putE F (f * 16 + n * 2) a o 2) (x := x) hi hx
  refine h.push ha hok ho hj (fun i hi => ⟨?_, ?_⟩) ⟨?_, ?_⟩ fun j hj' hne => ?_
  · rw [u2 _ (by omega), (p1 i hi).1]
  · rw [u2 _ (by omega), (p1 i hi).2]
  · rw [u2 _ (by omega), p2]
  · rw [u2 _ (by omega), p3]
  · rw [u2 _ hne, p4 j (by omega)]
theorem inv_pop {F F0 : Nat → Int} {f n d nb : Nat} {ok : Int → Prop} (h : Inv F F0 f (n + 1) d ok) {jj : Nat} {b k : Int} (ha : F (f * 16 + n * 2) = 4 * (jj : Int)) (hj : jj < d * 16) (hd : d ≤ f)
    (hi : inr nb b k = true) (hx : idx b k = jj) : Inv (upd F nb b k (F (f * 16 + (n * 2 + 1)))) F0 f n d ok := by
  obtain ⟨u1, u2⟩ := upd_get (F := F) (x := F (f * 16 + (n * 2 + 1))) hi hx
  exact h.pop ha hj (fun i hi => ⟨u2 _ (by omega), u2 _ (by omega)⟩) u1 fun j hj' hne => u2 _ hne

set_option maxHeartbeats 8000000 in
theorem main (nb : Nat) (hn : ns ≤ 300) (hnt : nt ≤ 300) (n1 : 1 ≤ nb) (n2 : nb ≤ 256) (s0 s1 s2 : Nat → Int) (hR : Rows3 w w.heap.size .i64 .i64 .u32 As ns s0 s1 s2) (t0 t1 t2 : Nat → Int) (hT : Rows3 w w.heap.size .i64 .i64 .u32 At nt t0 t1 t2) :
    Calls Try.prog 7 #[.agg #[.int .i64 c0, .int .i64 c1, .int .i64 c2, .int .i64 (nb : Int), .int .i64 c4, .int .i64 c5, .int .i64 c6, .int .i64 c7], .int .i64 core, .slice As ns cs, .slice At nt ct] w fun e w' => e = .returned (.bool true) ∧ Below w.heap.size w w' := by
  have HR := hide hR
  have HT := hide hT
  have C0 := hide (cfg_first w c0 c1 c2 nb c4 c5 c6 c7)
  have B0 := hide (Blk.new w 23 #[.int .i64 c0, .int .i64 c1, .int .i64 c2, .int .i64 (nb : Int), .int .i64 c4, .int .i64 c5, .int .i64 c6, .int .i64 c7])
  clear hR hT
  go_enter Try.func7, Try.ntmps7
  go_wp2_with fail
  refine (mnew nb n1 n2 _).mono ?_
  rintro e w1 ⟨p, D, rfl, hM, hs, hb1⟩
  have C1 := cfg_below (cfg_next hb1 C0.out)
  have S1 : Hid (MS w w1 p D nb (fun _ => 0) w.heap.size #[.int .i64 c0, .int .i64 c1, .int .i64 c2, .int .i64 (nb : Int), .int .i64 c4, .int .i64 c5, .int .i64 c6, .int .i64 c7]) := by
    have hs1 := hs
    simp at hs1
    exact hide ⟨hM, B0.out.below hb1 (by simp), C1, by omega, by omega⟩
  clear hM hs hb1 C0 B0 C1
  go_wp2_with fail
  go_loopw [53] (fun i wr => ∃ (j : Nat) (F : Nat → Int), j ≤ ns ∧ i = .int .i64 j ∧ Hid (MS w wr p D nb F w.heap.size #[.int .i64 c0, .int .i64 c1, .int .i64 c2, .int .i64 (nb : Int), .int .i64 c4, .int .i64 c5, .int .i64 c6, .int .i64 c7])) (fun i _ => ns - (intOf i).toNat)
  case atStart => exact ⟨0, fun _ => 0, by omega, rfl, S1⟩
  case round =>
    clear S1
    obtain ⟨j, F, hj, rfl, hS⟩ := hrel
    by_cases hlt : j < ns
    · obtain ⟨bb, off, rfl, hbb, hcs⟩ := (Rows3.below HR.out hS.out.bel).1 (by omega)
      obtain ⟨q0, q1, q2⟩ := hcs j hlt
      clear hcs
      have hb0 := (Below.refl wr.heap.size wr).alloc (Nat.le_refl _) (.cells #[.int .i64 (s0 j), .int .i64 (s1 j), .int .u32 (s2 j)] 66)
      have S0 : Hid (MS w (wr.alloc (.cells #[.int .i64 (s0 j), .int .i64 (s1 j), .int .u32 (s2 j)] 66)) p D nb F w.heap.size #[.int .i64 c0, .int .i64 c1, .int .i64 c2, .int .i64 (nb : Int), .int .i64 c4, .int .i64 c5, .int .i64 c6, .int .i64 c7]) :=
        hide ⟨hS.out.mem.below hb0, hS.out.B.below hb0 hS.out.B.lt, below_then hS.out.bel hb0, hS.out.gD, hS.out.gp⟩
      clear hS hb0
      generalize s0 j = o0 at *
      generalize s1 j = o1 at *
      generalize s2 j = o2 at *
      have hn1 : (j : Int) < (ns : Int) := by omega
      go_wp2_with fail
      refine (SetWord_any p D nb F o0 o1 o2 _ S0.out.mem).mono ?_
      rintro e w5 ⟨rfl, hM5, hg5⟩
      have S5 : Hid (MS w w5 p D nb (upd F nb o0 o1 o2) w.heap.size #[.int .i64 c0, .int .i64 c1, .int .i64 c2, .int .i64 (nb : Int), .int .i64 c4, .int .i64 c5, .int .i64 c6, .int .i64 c7]) :=
        hide ⟨hM5, S0.out.B.grown hg5 (by
          intro e
          injection e with e
          exact blk_ne S0.out.B S0.out.mem.2.2.2 (by decide) e), S0.out.bel.grown hg5 S0.out.bel.size (fun g hg => by
          injection hg with hg
          subst hg
          exact S0.out.gD), S0.out.gD, S0.out.gp⟩
      clear hM5 hg5 S0
      go_wp2_with fail
      go_roundw
      case rel => exact ⟨j + 1, _, by omega, by go_num, S5⟩
      case measure => simp [intOf]; omega
    · have hge : ¬ ((j : Int) < (ns : Int)) := by omega
      obtain ⟨wo, rfl⟩ : ∃ wo : World, wo = wr := ⟨_, rfl⟩
      obtain ⟨y0, y1, y2, y3, y4, y5, y6, y7⟩ := hS.out.cells
      by_cases hm : mayB c0 c1 c2 nb c4 c5 c6 c7 = true ∧ 0 ≤ core ∧ core < c0
      · obtain ⟨hm, k0, k1⟩ := hm
        have fb := first_bd c0 c1 c2 nb c4 c5 c6 c7 core hm k0 k1
        obtain ⟨fN, hfN⟩ := Int.eq_ofNat_of_zero_le (show 0 ≤ firstOf c0 nb c4 core by omega)
        obtain ⟨d, hd⟩ := Int.eq_ofNat_of_zero_le (show 0 ≤ (nb : Int) - c0 * c4 by have := (may_bounds hm).2.2.2.2.2.2; omega)
        have hdf : d ≤ fN := by
          have e1 : 0 ≤ core * c4 := Int.mul_nonneg k0 (by have := (may_bounds hm).2.2.2.2.1; omega)
          unfold firstOf at hfN
          omega
        have hdn : d ≤ nb := by
          have := (may_bounds hm).2.2.2.2.2.2
          omega
        have HF := hide hfN
        have HD := hide hd
        have HDF := hide (And.intro hdf hdn)
        have HMAY := hide hm
        have HDATA := hide (fun w => Data_true c0 c1 c2 nb c4 c5 c6 c7 hm w)
        rw [show (nb : Int) - c0 * c4 = (d : Int) from hd] at HDATA
        have HWH := hide (fun a (h : okA c0 nb c4 a) w => Where_any c0 c1 c2 nb c4 c5 c6 c7 a hm h.1.1 h.1.2 w)
        clear hm fb hfN hd hdf hdn
        go_wp2_with fail
        refine (New_yes c0 c1 c2 c4 c5 c6 c7 core nb HMAY.out k0 k1 p D F w wo hS.out.mem hS.out.bel hS.out.gD).mono ?_
        rintro e w3 ⟨l, rfl, hl, hL, hb3⟩
        rw [HF.out] at hL
        have S3 : Hid (LB w w3 l c0 c1 c2 nb c4 c5 c6 c7 p (fN : Int) 0 D nb F w.heap.size #[.int .i64 c0, .int .i64 c1, .int .i64 c2, .int .i64 (nb : Int), .int .i64 c4, .int .i64 c5, .int .i64 c6, .int .i64 c7]) := hide ⟨hL, hS.out.B.below hb3 hS.out.B.lt⟩
        clear y0 y1 y2 y3 y4 y5 y6 y7 hb3 hl hL hS
        go_wp2_with fail
        refine (copy_any p D nb F _ n1 S3.out.L.mem).mono ?_
        rintro e w4 ⟨p', D', rfl, hp', hD', hM4, hb4⟩
        have S4 : Hid (BS w w4 l c0 c1 c2 nb c4 c5 c6 c7 p (fN : Int) ((0 : Nat) : Int) D nb F w.heap.size #[.int .i64 c0, .int .i64 c1, .int .i64 c2, .int .i64 (nb : Int), .int .i64 c4, .int .i64 c5, .int .i64 c6, .int .i64 c7] p' D' F) := by
          have a1 := S3.out.L.mem.2.2.2.lt
          have a2 := Row.lt S3.out.L.log
          exact hide ⟨S3.out.below hb4, hM4, by omega, by omega, by omega, by omega⟩
        have I4 : Hid (Inv F F fN 0 d (okA c0 nb c4)) := hide (Inv.zero F fN d _)
        clear S3 hp' hD' hM4 hb4
        obtain ⟨F0, hF0⟩ : ∃ F0 : Nat → Int, F0 = F := ⟨_, rfl⟩
        have S5 : Hid (BS w w4 l c0 c1 c2 nb c4 c5 c6 c7 p (fN : Int) ((0 : Nat) : Int) D nb F w.heap.size #[.int .i64 c0, .int .i64 c1, .int .i64 c2, .int .i64 (nb : Int), .int .i64 c4, .int .i64 c5, .int .i64 c6, .int .i64 c7] p' D' F0) := by rw [hF0]; exact S4
        have I5 : Hid (Inv F F0 fN 0 d (okA c0 nb c4)) := by rw [hF0]; exact I4
        clear S4 I4 hF0
        go_wp2_with fail
        go_loopw [80] (fun i wr => ∃ (j n : Nat) (F : Nat → Int), j ≤ nt ∧ i = .int .i64 j ∧ Hid (BS w wr l c0 c1 c2 nb c4 c5 c6 c7 p (fN : Int) (n : Int) D nb F w.heap.size #[.int .i64 c0, .int .i64 c1, .int .i64 c2, .int .i64 (nb : Int), .int .i64 c4, .int .i64 c5, .int .i64 c6, .int .i64 c7] p' D' F0) ∧ Hid (Inv F F0 fN n d (okA c0 nb c4))) (fun i _ => nt - (intOf i).toNat)
        case atStart => exact ⟨0, 0, F, by omega, rfl, S5, I5⟩
        case round =>
          clear S5 I5 F
          obtain ⟨j, n, F, hj, rfl, hS, hI⟩ := hrel
          by_cases hlt : j < nt
          · obtain ⟨bb, off, rfl, hbb, hcs⟩ := (Rows3.below HT.out hS.out.S.L.bel).1 (by omega)
            obtain ⟨q0, q1, q2⟩ := hcs j hlt
            clear hcs
            have hb0 := (Below.refl wr.heap.size wr).alloc (Nat.le_refl _) (.cells #[.int .i64 (t0 j), .int .i64 (t1 j), .int .u32 (t2 j)] 66)
            have S0 := hide (hS.out.below hb0)
            have X0 := hide (Blk.new wr 66 #[.int .i64 (t0 j), .int .i64 (t1 j), .int .u32 (t2 j)])
            clear hS hb0
            generalize t0 j = o0 at *
            generalize t1 j = o1 at *
            generalize t2 j = o2 at *
            have hn1 : (j : Int) < (nt : Int) := by omega
            by_cases hin : (0 ≤ o0 ∧ o0 ≤ 255) ∧ 0 ≤ o1 ∧ o1 ≤ 15
            · obtain ⟨⟨h00, h01⟩, h10, h11⟩ := hin
              have AD := hide (fun w => Addr_true o0 o1 h00 h01 h10 h11 w)
              have ea : 64 * o0 + 4 * o1 = 4 * ((16 * o0 + o1).toNat : Int) := by omega
              have ha0 : 0 ≤ 64 * o0 + 4 * o1 := by omega
              have ha1 : 64 * o0 + 4 * o1 ≤ 4294967295 := by omega
              have e64 : (64 * o0 + 4 * o1) / 64 = o0 := by omega
              have e4 : (64 * o0 + 4 * o1) / 4 % 16 = o1 := by omega
              have ej : ((64 * o0 + 4 * o1) / 4).toNat = (16 * o0 + o1).toNat := by omega
              have EA := hide (And.intro ea (And.intro e64 (And.intro e4 ej)))
              clear ea e64 e4 ej
              generalize 64 * o0 + 4 * o1 = a at *
              generalize (16 * o0 + o1).toNat = jj at *
              have HA := hide (And.intro ha0 ha1)
              clear ha0 ha1
              have WD := hide (Word_any p D nb F o0 o1 _ S0.out.S.L.mem)
              by_cases he : addE c0 nb c4 a c4 n = 0
              · have hok : okA c0 nb c4 a := ⟨HA.out, addE_wE he⟩
                obtain ⟨r1, r2, r3, r4, r5, r6⟩ := ok_word (nb := nb) (d := d) hok HD.out.symm rfl
                obtain ⟨f1, f2, f3, f4⟩ := EA.out
                rw [f2, f3] at r3 r4
                rw [f4] at r4 r6
                have eo : errOf nb o0 o1 = 0 := by simp only [errOf, r3, if_true]
                have go : getOf F nb o0 o1 = F jj := by simp only [getOf, r3, if_true, r4]
                rw [eo, go] at WD
                have hn8 := addE_zero he
                have AA := hide (S0.out.S.L.Add_any a (F jj) HA.out.1 HA.out.2)
                have IN := hide (inv_push (x := o2) hI.out f1 hok rfl r6 HDF.out.1 r3 r4)
                have eb := base_nat fN n
                rw [he] at AA
                simp only [addN, addF, if_true, eb] at AA
                have SW := hide (fun w h => SetWord_any p D nb (putE F (fN * 16 + n * 2) a (F jj) 2) o0 o1 o2 w h)
                rw [eo] at SW
                clear r1 r2 r3 r4 r5 r6 f1 f2 f3 f4 eo go hn8 eb hok he hI
                generalize F jj = old at *
                generalize putE F (fN * 16 + n * 2) a old 2 = F1 at *
                generalize upd F1 nb o0 o1 o2 = F2 at *
                have u0 := X0.out.cell 0
                have u1 := X0.out.cell 1
                have u2 := X0.out.cell 2
                simp at u0 u1 u2
                go_wp2_with fail
                refine (AD.out _).mono ?_
                rintro e wx ⟨rfl, rfl⟩
                go_wp2_with fail
                refine WD.out.mono ?_
                rintro e wx ⟨rfl, rfl⟩
                go_wp2_with fail
                refine AA.out.mono ?_
                rintro e w5 ⟨rfl, hL5, ht5⟩
                have S5 := hide (S0.out.move hL5 ht5)
                have X5 := hide ((ht5.block _ X0.out.lt (blk_ne X0.out S0.out.S.L.mem.2.2.2 (by decide)) (blk_ne X0.out S0.out.S.L.log (by decide))).trans X0.out)
                have v0 := Blk.cell X5.out 0
                have v1 := Blk.cell X5.out 1
                have v2 := Blk.cell X5.out 2
                simp at v0 v1 v2
                clear u0 u1 u2 hL5 ht5 S0 X0 X5 WD AA
                go_wp2_with fail
                refine (SW.out _ S5.out.S.L.mem).mono ?_
                rintro e w6 ⟨rfl, hM6, hg6⟩
                have S6 := hide (S5.out.setM hM6 hg6)
                clear hM6 hg6 S5 v0 v1 v2 SW
                have hc1 : ((n + 1 : Nat) : Int) = (n : Int) + 1 := by omega
                rw [← hc1] at S6
                clear hc1
                go_wp2_with fail
                go_roundw
                case rel => exact ⟨j + 1, n + 1, _, by omega, by go_num, S6, IN⟩
                case measure => simp [intOf]; omega
              · have he2 : (addE c0 nb c4 a c4 n == 0) = false := by rw [beq_eq_false_iff_ne]; exact he
                generalize getOf F nb o0 o1 = old at *
                generalize errOf nb o0 o1 = er at *
                have AA := hide (S0.out.S.L.Add_any a old HA.out.1 HA.out.2)
                simp only [addN, addF, if_neg he] at AA
                clear he
                generalize addE c0 nb c4 a c4 n = ea at *
                have u0 := X0.out.cell 0
                have u1 := X0.out.cell 1
                have u2 := X0.out.cell 2
                simp at u0 u1 u2
                go_wp2_with fail
                refine (AD.out _).mono ?_
                rintro e wx ⟨rfl, rfl⟩
                go_wp2_with fail
                refine WD.out.mono ?_
                rintro e wx ⟨rfl, rfl⟩
                go_wp2_with fail
                refine AA.out.mono ?_
                rintro e w5 ⟨rfl, hL5, ht5⟩
                have S5 := hide (S0.out.move hL5 ht5)
                clear u0 u1 u2 hL5 ht5 S0 X0 WD AA
                go_wp2_with fail
                go_roundw
                case rel => exact ⟨j + 1, n, F, by omega, by go_num, S5, hI⟩
                case measure => simp [intOf]; omega
            · have AD := hide (fun w => Addr_false o0 o1 (by omega) w)
              clear hin
              have u0 := X0.out.cell 0
              have u1 := X0.out.cell 1
              have u2 := X0.out.cell 2
              simp at u0 u1 u2
              go_wp2_with fail
              refine (AD.out _).mono ?_
              rintro e wx ⟨rfl, rfl⟩
              go_wp2_with fail
              go_roundw
              case rel => exact ⟨j + 1, n, F, by omega, by go_num, S0, hI⟩
              case measure => simp [intOf]; omega
          · have hge : ¬ ((j : Int) < (nt : Int)) := by omega
            go_wp2_with fail
            refine (hS.out.S.L.Len_all).mono ?_
            rintro e wx ⟨rfl, rfl⟩
            obtain ⟨wq, rfl⟩ : ∃ wq : World, wq = wr := ⟨_, rfl⟩
            go_wp2_with fail
            go_loopw [21] (fun i wr => ∃ (n : Nat) (F : Nat → Int), i = .int .i64 n ∧ Hid (BS w wr l c0 c1 c2 nb c4 c5 c6 c7 p (fN : Int) (n : Int) D nb F w.heap.size #[.int .i64 c0, .int .i64 c1, .int .i64 c2, .int .i64 (nb : Int), .int .i64 c4, .int .i64 c5, .int .i64 c6, .int .i64 c7] p' D' F0) ∧ Hid (Inv F F0 fN n d (okA c0 nb c4))) (fun i _ => (intOf i).toNat)
            case atStart => exact ⟨n, F, rfl, hS, hI⟩
            case round =>
              clear hS hI F
              obtain ⟨n, F, rfl, hS, hI⟩ := hrel
              rcases Nat.eq_zero_or_pos n with hz | hz
              · subst hz
                have HW : Hid (∀ b : Nat, b < d → getBlk F nb (b : Int) = getBlk F0 nb (b : Int) ∨ blk (getBlk F nb (b : Int)) = blk (getBlk F0 nb (b : Int))) := hide fun b hb => .inr (blk_congr fun k hk => by
                  have := hI.out.rest (b * 16 + k) (by omega) (fun i hi => by omega)
                  simp only [getBlk, part16, Int.toNat_natCast, this])
                obtain ⟨y0, y1, y2, y3, y4, y5, y6, y7⟩ := hS.out.S.cells
                go_wp2_with fail
                refine (hS.out.S.L.Len_all).mono ?_
                rintro e wx ⟨rfl, rfl⟩
                go_wp2_with fail
                refine (HDATA.out _).mono ?_
                rintro e w5 ⟨rfl, hb5⟩
                have hM0 := hide (hS.out.S.L.mem.below hb5)
                have hQ0 := hide (hS.out.was.below hb5)
                have hB0 := hide (below_then hS.out.S.L.bel hb5)
                have HDN := hide HDF.out.2
                have d256 : d ≤ 256 := by have := HDF.out.2; omega
                clear y0 y1 y2 y3 y4 y5 y6 y7 hS hb5 hI
                go_wp2_with fail
                go_loopw [167] (fun i wr => ∃ b : Nat, b ≤ d ∧ i = .int .i64 b ∧ Hid (MemAt wr p D nb F) ∧ Hid (MemAt wr p' D' nb F0) ∧ Hid (Below w.heap.size w wr)) (fun i _ => d - (intOf i).toNat)
                case atStart => exact ⟨0, by omega, rfl, hM0, hQ0, hB0⟩
                case round =>
                  clear hM0 hQ0 hB0
                  obtain ⟨b, hb, rfl, hM, hQ, hB⟩ := hrel
                  by_cases hlt : b < d
                  · have hi : inr nb (b : Int) 0 = true := by have := HDN.out; exact inr_iff.2 ⟨by omega, by omega, by omega, by omega⟩
                    have hbe : blk (getBlk F nb (b : Int)) = blk (getBlk F0 nb (b : Int)) := by
                      rcases HW.out b hlt with e | e
                      · rw [e]
                      · exact e
                    have hW1 := MBlock.block_any p D nb F (b : Int) _ hM.out
                    have hW2 := fun w (h : MemAt w p' D' nb F0) => MBlock.block_any p' D' nb F0 (b : Int) w h
                    rw [show errOf nb (b : Int) 0 = 0 by simp [errOf, hi], hbe] at hW1
                    rw [show errOf nb (b : Int) 0 = 0 by simp [errOf, hi]] at hW2
                    have hW1 := hide hW1
                    have hW2 := hide hW2
                    have hu := Try.underlying51
                    have HI := hide (zero_of_info (P := Try.prog) info36').2
                    have hq : ∀ w, (Op.equalIn 10000 51 (.agg (blk (getBlk F0 nb b)).toArray) (.agg (blk (getBlk F0 nb b)).toArray)).run Try.prog w = .ok true w := fun w => by rw [eq36, eqB_true (fun _ _ => rfl)]
                    clear hbe
                    generalize getBlk F0 nb (b : Int) = v at *
                    clear hi
                    have hblt : (b : Int) < (d : Int) := by omega
                    go_wp2_with fail
                    refine hW1.out.mono ?_
                    rintro e w3 ⟨rfl, hb3⟩
                    have M3 := hide ((hM.out.below hb3).below ((Below.refl w3.heap.size w3).alloc (Nat.le_refl _) (.cells (blk v).toArray 51)))
                    have Q3 := hide ((hQ.out.below hb3).below ((Below.refl w3.heap.size w3).alloc (Nat.le_refl _) (.cells (blk v).toArray 51)))
                    have B3 := hide (below_then (below_then hB.out hb3) ((Below.refl w3.heap.size w3).alloc (Nat.le_refl _) (.cells (blk v).toArray 51)))
                    have C3 := hide (blk_new w3 51 v)
                    clear hb3
                    go_wp2_with (first
                      | ((with_reducible refine Arr.wpList_alloc_zero rfl 51 (by rfl) _ _ info36' w3.heap.size rfl ?_))
                      | ((with_reducible refine Arr.wpList_store_last rfl 51 _ _ rfl _ _ w3.heap.size rfl rfl rfl HI.out ?_ ?_ ?_ ?_); (· simp [blk_len]); (· simp [blk_len]); (· simpa using blk_one v)))
                    refine (hW2.out _ Q3.out).mono ?_
                    rintro e w5 ⟨rfl, hb5⟩
                    have M5 := hide ((M3.out.below hb5).below ((Below.refl w5.heap.size w5).alloc (Nat.le_refl _) (.cells (blk v).toArray 51)))
                    have Q5 := hide ((Q3.out.below hb5).below ((Below.refl w5.heap.size w5).alloc (Nat.le_refl _) (.cells (blk v).toArray 51)))
                    have B5 := hide (below_then (below_then B3.out hb5) ((Below.refl w5.heap.size w5).alloc (Nat.le_refl _) (.cells (blk v).toArray 51)))
                    have C5 := hide (blk_new w5 51 v)
                    have C4 := hide ((C3.out.of_block (hb5.block _ C3.out.lt)).alloc (.cells (blk v).toArray 51))
                    clear hb5
                    go_wp2_with (first
                      | ((with_reducible refine Arr.wpList_alloc_zero rfl 51 (by rfl) _ _ info36' w5.heap.size rfl ?_))
                      | ((with_reducible refine Arr.wpList_store_last rfl 51 _ _ rfl _ _ w5.heap.size rfl rfl rfl HI.out ?_ ?_ ?_ ?_); (· simp [blk_len]); (· simp [blk_len]); (· simpa using blk_one v))
                      | ((refine load_blk rfl 51 (.tmp 29) rfl w3.heap.size rfl C4.out hu HI.out ?_))
                      | ((refine load_blk rfl 51 (.tmp 31) rfl w5.heap.size rfl C5.out hu HI.out ?_)))
                    go_roundw
                    case rel => exact ⟨b + 1, by omega, by go_num, M5, Q5, B5⟩
                    case measure => simp [intOf]; omega
                  · have hblt : ¬ ((b : Int) < (d : Int)) := by omega
                    go_wp2_with fail
                    refine (works_any _).mono ?_
                    rintro e w7 ⟨rfl, hb7⟩
                    go_wp2
                    go_ret
                    exact ⟨rfl, below_then hB.out hb7⟩
              · obtain ⟨m, rfl⟩ : ∃ m, n = m + 1 := ⟨n - 1, by omega⟩
                have hok := hI.out.oks m (by omega)
                have m32 : m ≤ 32 := by have := hS.out.S.L.m1; have := hS.out.S.L.lg; omega
                obtain ⟨r1, r2, r3, r4, r5, r6⟩ := ok_word (nb := nb) (d := d) hok HD.out.symm rfl
                have IN := hide (inv_pop hI.out r5 r6 HDF.out.1 r3 r4)
                have eb := base_nat fN m
                have hm1 : ((m + 1 : Nat) : Int) - 1 = (m : Int) := by omega
                have eA : atA F (fN : Int) ((m + 1 : Nat) : Int) (((m + 1 : Nat) : Int) - 1) = F (fN * 16 + m * 2) := by simp only [atA]; rw [hm1, if_pos ⟨by omega, by omega⟩, eb]
                have eB : atB F (fN : Int) ((m + 1 : Nat) : Int) (((m + 1 : Nat) : Int) - 1) = F (fN * 16 + (m * 2 + 1)) := by simp only [atB]; rw [hm1, if_pos ⟨by omega, by omega⟩, eb]; rfl
                have eE : atE ((m + 1 : Nat) : Int) (((m + 1 : Nat) : Int) - 1) = 0 := by simp only [atE]; rw [if_pos ⟨by omega, by omega⟩]
                have eo : errOf nb (F (fN * 16 + m * 2) / 64) (F (fN * 16 + m * 2) / 4 % 16) = 0 := by simp only [errOf, r3, if_true]
                have SW := hide (fun w h => SetWord_any p D nb F (F (fN * 16 + m * 2) / 64) (F (fN * 16 + m * 2) / 4 % 16) (F (fN * 16 + (m * 2 + 1))) w h)
                rw [eo] at SW
                have WH := HWH.out _ hok
                rw [hok.2, r1, r2] at WH
                have WH := hide WH
                have LA := hide (hS.out.S.L.last_at _ _ _ eA eB eE)
                clear r1 r2 r3 r4 r5 r6 eA eB eE eo eb hok hI hm1
                generalize upd F nb (F (fN * 16 + m * 2) / 64) (F (fN * 16 + m * 2) / 4 % 16) (F (fN * 16 + (m * 2 + 1))) = F2 at *
                generalize F (fN * 16 + m * 2) / 64 = wb at *
                generalize F (fN * 16 + m * 2) / 4 % 16 = ww at *
                generalize F (fN * 16 + m * 2) = a at *
                generalize F (fN * 16 + (m * 2 + 1)) = old at *
                have hpe : popE ((m + 1 : Nat) : Int) = 0 := by unfold popE; rw [if_neg (by omega)]
                have HPE := hide hpe
                clear hpe
                go_wp2_with fail
                refine (hS.out.S.L.Len_all).mono ?_
                rintro e wx ⟨rfl, rfl⟩
                go_wp2_with fail
                refine LA.out.mono ?_
                rintro e w5 ⟨rfl, hb5⟩
                have S5 := hide (hS.out.below hb5)
                obtain ⟨y0, y1, y2, y3, y4, y5, y6, y7⟩ := S5.out.S.cells
                clear hb5 hS LA
                go_wp2_with fail
                refine (WH.out _).mono ?_
                rintro e w6 ⟨rfl, hb6⟩
                have S6 := hide (S5.out.below hb6)
                clear y0 y1 y2 y3 y4 y5 y6 y7 hb6 S5
                go_wp2_with fail
                refine (SW.out _ S6.out.S.L.mem).mono ?_
                rintro e w7 ⟨rfl, hM7, hg7⟩
                have S7 := hide (S6.out.setM hM7 hg7)
                clear hM7 hg7 S6 SW WH
                go_wp2_with fail
                refine (S7.out.S.L.Pop_any).mono ?_
                rintro e w8 ⟨rfl, hL8, ht8⟩
                have S8 := hide (S7.out.move hL8 ht8)
                rw [popM_N, show popM (m + 1) = m from rfl] at S8
                rw [HPE.out]
                clear hL8 ht8 S7
                go_wp2_with fail
                refine (S8.out.S.L.Len_all).mono ?_
                rintro e wx ⟨rfl, rfl⟩
                go_wp2_with fail
                go_roundw
                case rel => exact ⟨m, F2, by go_num, S8, IN⟩
                case measure => simp [intOf]
      · obtain ⟨er, her, P, R⟩ := New_none c0 c1 c2 nb c4 c5 c6 c7 core nb n1 n2 (fun e => hm ⟨e.1, e.2.1⟩)
        have HP := hide P
        clear P R hm
        go_wp2_with fail
        refine (HP.out p D _ _ hS.out.mem).mono ?_
        rintro e w3 ⟨rfl, hb3⟩
        have C3 := hide (below_then hS.out.bel hb3)
        clear y0 y1 y2 y3 y4 y5 y6 y7 hb3 hS
        go_wp2_with fail
        refine (works_any _).mono ?_
        rintro e w5 ⟨rfl, hb5⟩
        go_wp2
        go_ret
        exact ⟨rfl, below_then C3.out hb5⟩
theorem whole (hn : ns ≤ maxLen) (hnt : nt ≤ maxLen) (s0 s1 s2 : Nat → Int) (hR : Rows3 w w.heap.size .i64 .i64 .u32 As ns s0 s1 s2) (t0 t1 t2 : Nat → Int) (hT : Rows3 w w.heap.size .i64 .i64 .u32 At nt t0 t1 t2) :
    Calls Try.prog 7 #[.agg #[.int .i64 c0, .int .i64 c1, .int .i64 c2, .int .i64 c3, .int .i64 c4, .int .i64 c5, .int .i64 c6, .int .i64 c7], .int .i64 core, .slice As ns cs, .slice At nt ct] w fun e w' => e = .returned (.bool true) ∧ Below w.heap.size w w' := by
  by_cases h : ns ≤ 300 ∧ nt ≤ 300
  · by_cases hb : c3 < 1 ∨ 256 < c3
    · exact nomem c0 c1 c2 c3 c4 c5 c6 c7 core As At ns cs nt ct w h.1 h.2 hb
    · obtain ⟨nb, rfl⟩ := Int.eq_ofNat_of_zero_le (show 0 ≤ c3 by omega)
      exact main c0 c1 c2 c4 c5 c6 c7 core As At ns cs nt ct w nb h.1 h.2 (by omega) (by omega) s0 s1 s2 hR t0 t1 t2 hT
  · exact long c0 c1 c2 c3 c4 c5 c6 c7 core As At ns cs nt ct w hn hnt (by omega)
end
end Go.Proofs.Ytnhfbdjjbmhnkaa.UBack
