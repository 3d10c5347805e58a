/-
  The program's log beside the document's log, each with its memory, as one state.
-/
import Derived.Test.YtnhfbdjjbmhnkaaULog
namespace Go.Proofs.Ytnhfbdjjbmhnkaa.UPair
open Go.RowKit PPlain Base PMay PRefMay PWalk MMem UPlain UWalk UAdd UAt UNew MRef URef ULog
set_option linter.unusedVariables false
set_option linter.unusedSimpArgs false

theorem quiet_left {P : Program} {f : FuncId} {args : Array Value} {w : World} {n : Nat} {v : Value}
    (h : Calls P f args (w.drewN n) fun e w' => e = .returned v ∧ w.drewN n = w') : Calls P f args (w.drewN n) fun e w'' => e = .returned v ∧ ∃ m, w'' = w.drewN m :=
  h.mono fun _ _ ⟨he, hm⟩ => ⟨he, n, hm.symm⟩

theorem base_nat (f n : Nat) : base (f : Int) (n : Int) = f * 16 + n * 2 := by unfold base; omega
def addM (e : Int) (n : Nat) : Nat := if e = 0 then n + 1 else n
def popM (n : Nat) : Nat := n - 1
theorem addM_N (e : Int) (n : Nat) : addN e (n : Int) = (addM e n : Nat) := by unfold addN addM; split <;> simp
theorem popM_N (n : Nat) : popN (n : Int) = (popM n : Nat) := by unfold popN popM; split <;> omega

structure PSt (w0 w : World) (l : Nat) (c0 c1 c2 c3 c4 c5 c6 c7 : Int) (p : Nat) (f : Nat) (many : Int) (D nb : Nat) (F : Nat → Int) (q r RD : Nat) (core : Int) (A : Option Addr) (n c : Nat) (E G : Nat → Int) : Prop where
  L : LSt w0 w l c0 c1 c2 c3 c4 c5 c6 c7 p (f : Int) c4 many D nb F
  rlog : RLogAt w q c0 c1 c2 c3 c4 c5 c6 c7 core (.slice A n c)
  ref : RefAt w r RD nb G
  ent : Ent w A n E
  rd : ∀ j, j < n * 2 → E j = G (f * 16 + j)
  hc : n ≤ c
  hn : (n : Int) ≤ 8 * c4
  hco : (0 ≤ core ∧ core < c0) ∧ firstOf c0 c3 c4 core = (f : Int)
  sep : (w0.heap.size ≤ q ∧ w0.heap.size ≤ RD) ∧ (q ≠ RD ∧ q ≠ r ∧ q ≠ l ∧ q ≠ D ∧ q ≠ p) ∧ (RD ≠ l ∧ RD ≠ D ∧ RD ≠ p) ∧ (r ≠ l ∧ r ≠ D)
section
variable {w0 w w' : World} {l : Nat} {c0 c1 c2 c3 c4 c5 c6 c7 : Int} {p : Nat} {f : Nat} {many many' : Int} {D nb : Nat} {F F' : Nat → Int} {q r RD : Nat} {core : Int} {A : Option Addr} {n c : Nat} {E G : Nat → Int}
theorem PSt.below (h : PSt w0 w l c0 c1 c2 c3 c4 c5 c6 c7 p f many D nb F q r RD core A n c E G) (hb : Below w.heap.size w w') : PSt w0 w' l c0 c1 c2 c3 c4 c5 c6 c7 p f many D nb F q r RD core A n c E G :=
  { h with L := h.L.below hb, rlog := h.rlog.below hb (Row.lt h.rlog), ref := h.ref.below hb, ent := h.ent.below hb }
theorem PSt.drew (h : PSt w0 w l c0 c1 c2 c3 c4 c5 c6 c7 p f many D nb F q r RD core A n c E G) : PSt w0 w.drew l c0 c1 c2 c3 c4 c5 c6 c7 p f many D nb F q r RD core A n c E G :=
  { h with L := h.L.drew, rlog := h.rlog, ref := h.ref, ent := h.ent }
theorem PSt.drewN (h : PSt w0 w l c0 c1 c2 c3 c4 c5 c6 c7 p f many D nb F q r RD core A n c E G) (k : Nat) : PSt w0 (w.drewN k) l c0 c1 c2 c3 c4 c5 c6 c7 p f many D nb F q r RD core A n c E G :=
  { h with L := h.L.drewN k, rlog := h.rlog, ref := h.ref, ent := h.ent }
theorem PSt.setL (h : PSt w0 w l c0 c1 c2 c3 c4 c5 c6 c7 p f many D nb F q r RD core A n c E G) (hL : LSt w0 w' l c0 c1 c2 c3 c4 c5 c6 c7 p (f : Int) c4 many' D nb F') (ht : Two D l w w') :
    PSt w0 w' l c0 c1 c2 c3 c4 c5 c6 c7 p f many' D nb F' q r RD core A n c E G := by
  obtain ⟨⟨s1, s2⟩, ⟨s3, s4, s5, s6, s7⟩, ⟨s8, s9, s10⟩, s11, s12⟩ := h.sep
  have hk : ∀ i, i < w.heap.size → i ≠ D → i ≠ l → w'.heap[i]? = w.heap[i]? := ht.block
  obtain ⟨h1, h2, h3, h4⟩ := h.ref
  refine { h with L := hL, rlog := h.rlog.keep (hk q (Row.lt h.rlog) s6 s5), ref := ⟨h1, h2, (World.cell?_of_block (w := w) (hk r (block_lt_of_cell h3) s12 s11)).trans h3, h4.of_block (hk RD h4.lt s9 s8)⟩, ent := h.ent.keep fun g hg => hk g hg.lt ?_ ?_ }
  · rintro rfl
    obtain ⟨S, F', _, e2, _⟩ := hg
    obtain ⟨S', F'', _, e4, _⟩ := h.L.mem.2.2.2
    exact absurd (types_ne e2 e4) (by decide)
  · rintro rfl
    obtain ⟨S, F', _, e2, _⟩ := hg
    obtain ⟨S', F'', _, e4, _⟩ := h.L.log
    exact absurd (types_ne e2 e4) (by decide)
theorem PSt.cells (h : PSt w0 w l c0 c1 c2 c3 c4 c5 c6 c7 p f many D nb F q r RD core A n c E G) : w.cell? ⟨q, 9, none⟩ = some (.slice A n c) ∧ w.frozen? ⟨q, 9, none⟩ = false := by
  obtain ⟨x0, x1, x2, x3, x4, x5, x6, x7, x8, x9, x10⟩ := h.rlog.cells
  exact ⟨x9, x10⟩
theorem PSt.n31 (h : PSt w0 w l c0 c1 c2 c3 c4 c5 c6 c7 p f many D nb F q r RD core A n c E G) : n ≤ 32 := by
  have := h.hn
  have := h.L.lg
  omega
/-- The reference turned: its log, its memory, its entries. -/
theorem PSt.setR (h : PSt w0 w l c0 c1 c2 c3 c4 c5 c6 c7 p f many D nb F q r RD core A n c E G) {A' : Option Addr} {n' c' : Nat} {E' G' : Nat → Int} (hl : RLogAt w' q c0 c1 c2 c3 c4 c5 c6 c7 core (.slice A' n' c')) (hr : RefAt w' r RD nb G') (he : Ent w' A' n' E')
    (rd : ∀ j, j < n' * 2 → E' j = G' (f * 16 + j)) (hc : n' ≤ c') (hn : (n' : Int) ≤ 8 * c4) (ht : Two RD q w w') : PSt w0 w' l c0 c1 c2 c3 c4 c5 c6 c7 p f many D nb F q r RD core A' n' c' E' G' := by
  obtain ⟨⟨s1, s2⟩, ⟨s3, s4, s5, s6, s7⟩, ⟨s8, s9, s10⟩, s11, s12⟩ := h.sep
  exact { h with L := h.L.other ht s2 s1 (Ne.symm s8) (Ne.symm s5) (Ne.symm s10) (Ne.symm s7) (Ne.symm s9) (Ne.symm s6), rlog := hl, ref := hr, ent := he, rd := rd, hc := hc, hn := hn }
theorem PSt.setQ (h : PSt w0 w l c0 c1 c2 c3 c4 c5 c6 c7 p f many D nb F q r RD core A n c E G) {A' : Option Addr} {n' c' : Nat} {E' : Nat → Int} (hl : RLogAt w' q c0 c1 c2 c3 c4 c5 c6 c7 core (.slice A' n' c')) (hg : w.grownBy w' (some q))
    (he : Ent w A' n' E') (rd : ∀ j, j < n' * 2 → E' j = G (f * 16 + j)) (hc : n' ≤ c') (hn : (n' : Int) ≤ 8 * c4) : PSt w0 w' l c0 c1 c2 c3 c4 c5 c6 c7 p f many D nb F q r RD core A' n' c' E' G := by
  obtain ⟨⟨s1, s2⟩, ⟨s3, s4, s5, s6, s7⟩, ⟨s8, s9, s10⟩, s11, s12⟩ := h.sep
  have ht : Two RD q w w' := ⟨hg.os, hg.tape, hg.output, hg.size, fun i hi _ h2 => hg.block i hi (fun e => h2 (by injection e))⟩
  refine h.setR hl (h.ref.other hg (Ne.symm s4) (Ne.symm s3)) (he.keep fun g hG => hg.block g hG.lt (fun e => ?_)) rd hc hn ht
  injection e with e
  subst e
  obtain ⟨S, F', _, e2, _⟩ := hG
  obtain ⟨S', F'', _, e4, _⟩ := h.rlog
  exact absurd (types_ne e2 e4) (by decide)

theorem PSt.RAdd_any (h : PSt w0 w l c0 c1 c2 c3 c4 c5 c6 c7 p f many D nb F q r RD core A n c E G) (addr old : Int) (h0 : 0 ≤ addr) (h1 : addr ≤ 4294967295) :
    Calls Try.prog 24 #[.pointer (some ⟨q, 0, none⟩), .pointer (some ⟨r, 0, none⟩), .int .u32 addr, .int .u32 old] w fun e w' => e = .returned (.int .i64 (addE c0 c3 c4 addr c4 n)) ∧
      ∃ A' c' E', PSt w0 w' l c0 c1 c2 c3 c4 c5 c6 c7 p f many D nb F q r RD core A' (addM (addE c0 c3 c4 addr c4 n) n) c' E' (addF G f n addr old (addE c0 c3 c4 addr c4 n)) ∧ Two RD q w w' := by
  have n31 := h.n31
  have lg := h.L.lg
  have hn := h.hn
  by_cases he : wE c0 c3 c4 addr = 0
  · by_cases hf : (n : Int) = 8 * c4
    · have e : addE c0 c3 c4 addr c4 n = 7 := by simp [addE, he, hf]
      rw [e]
      refine (RAdd_full q c0 c1 c2 c3 c4 c5 c6 c7 core A n c w addr old _ h.L.may h0 h1 he (by omega) (by rw [beq_iff_eq]; omega) h.rlog).mono ?_
      rintro e w' ⟨rfl, hb⟩
      exact ⟨rfl, A, c, E, by simpa [addM, addF] using h.below hb, Two.of_below hb⟩
    · have e : addE c0 c3 c4 addr c4 n = 0 := by simp [addE, he, hf]
      rw [e]
      have hlg := h.L.hlg
      have e2 := base_nat f n
      have hL := fun w => LogR_true c0 c1 c2 c3 c4 c5 c6 c7 core h.L.may h.hco.1.1 h.hco.1.2 w
      rw [show c3 - c0 * c4 + core * c4 = (f : Int) from h.hco.2] at hL
      refine (RAdd_ok q r RD nb G c0 c1 c2 c3 c4 c5 c6 c7 core A n c E w addr old f h.L.may h0 h1 he (by rw [beq_eq_false_iff_ne]; omega) (by omega) (by omega) c4 (hide hL) h.rlog h.ref h.ent h.sep.2.1.1 h.sep.2.1.2.1).mono ?_
      rintro e w' ⟨rfl, A', c', hc', hR⟩
      refine ⟨rfl, A', c', addEnt E n addr old, ?_, hR.two⟩
      have := h.setR hR.log hR.mem hR.ent (fun j hj => ?_) hc' (by omega) hR.two
      · simpa [addM, addF, e2] using this
      · simp only [addEnt, putE]
        by_cases e1 : j = n * 2
        · simp [e1]
        · by_cases e3 : j = n * 2 + 1
          · simp [e3, ← Nat.add_assoc]
          · have := h.rd j (by omega)
            simp [e1, e3, this, show f * 16 + j ≠ f * 16 + n * 2 + 1 by omega]
  · have e : addE c0 c3 c4 addr c4 n = wE c0 c3 c4 addr := by simp [addE, he]
    rw [e]
    refine (RAdd_bad q c0 c1 c2 c3 c4 c5 c6 c7 core A n c w addr old _ h.L.may h0 h1 (by rw [bne_iff_ne]; exact he) h.rlog).mono ?_
    rintro e w' ⟨rfl, hb⟩
    exact ⟨rfl, A, c, E, by simpa [addM, addF, he] using h.below hb, Two.of_below hb⟩
theorem PSt.RPop_any (h : PSt w0 w l c0 c1 c2 c3 c4 c5 c6 c7 p f many D nb F q r RD core A n c E G) :
    Calls Try.prog 25 #[.pointer (some ⟨q, 0, none⟩)] w fun e w' => e = .returned (.int .i64 (popE n)) ∧ PSt w0 w' l c0 c1 c2 c3 c4 c5 c6 c7 p f many D nb F q r RD core A (popM n) c E G := by
  rcases Nat.eq_zero_or_pos n with hz | hz
  · subst hz
    refine (RPop_none q c0 c1 c2 c3 c4 c5 c6 c7 core A c w h.rlog).mono ?_
    rintro e w' ⟨rfl, rfl⟩
    exact ⟨by simp [popE], h⟩
  · obtain ⟨m, rfl⟩ : ∃ m, n = m + 1 := ⟨n - 1, by omega⟩
    have n31 := h.n31
    have hn := h.hn
    have hc := h.hc
    refine (RPop_one q c0 c1 c2 c3 c4 c5 c6 c7 core A m c w (by omega) hc h.rlog).mono ?_
    rintro e w' ⟨rfl, hl, hg⟩
    rw [show popM (m + 1) = m from rfl]
    refine ⟨?_, h.setQ hl hg (h.ent.less (by omega)) (fun j hj => h.rd j (by omega)) (by omega) (by omega)⟩
    unfold popE
    rw [if_neg (by omega)]
theorem PSt.RAt_any (h : PSt w0 w l c0 c1 c2 c3 c4 c5 c6 c7 p f many D nb F q r RD core A n c E G) (i : Int) :
    Calls Try.prog 26 #[.pointer (some ⟨q, 0, none⟩), .int .i64 i] w fun e w' => e = .returned (.tuple #[.int .u32 (atA G f n i), .int .u32 (atB G f n i), .int .i64 (atE n i)]) ∧ ∃ k, w' = w.drewN k := by
  have n31 := h.n31
  by_cases hi : 0 ≤ i ∧ i < n
  · simp only [atA, atB, atE, if_pos hi]
    obtain ⟨k, rfl⟩ := Int.eq_ofNat_of_zero_le hi.1
    have hk : k < n := by omega
    rw [base_nat]
    rcases h.ent with h0 | ⟨g, hA, hrow⟩
    · omega
    · have hl := h.rlog
      subst hA
      have := RAt_ok q c0 c1 c2 c3 c4 c5 c6 c7 core n c E w k g (by omega) hk hl hrow
      rw [h.rd (k * 2) (by omega), h.rd (k * 2 + 1) (by omega)] at this
      rw [Nat.add_assoc]
      exact this
  · simp only [atA, atB, atE, if_neg hi]
    refine (RAt_no q c0 c1 c2 c3 c4 c5 c6 c7 core A n c w i (by omega) (by omega) h.rlog).mono ?_
    rintro e w' ⟨rfl, rfl⟩
    exact ⟨rfl, 0, rfl⟩
theorem PSt.RRoom_all (h : PSt w0 w l c0 c1 c2 c3 c4 c5 c6 c7 p f many D nb F q r RD core A n c E G) :
    Calls Try.prog 27 #[.pointer (some ⟨q, 0, none⟩)] w fun e w' => e = .returned (.int .i64 (8 * c4 - n)) ∧ ∃ n, w' = w.drewN n := by
  have n31 := h.n31
  have lg := h.L.lg
  exact RRoom_any q c0 c1 c2 c3 c4 c5 c6 c7 core A n c w (by omega) lg.1 lg.2 h.rlog
end

theorem mnew (n : Nat) (h0 : 1 ≤ n) (h1 : n ≤ 256) (w : World) :
    Calls Try.prog 9 #[.int .i64 (n : Int)] w fun e w' => ∃ p D, e = .returned (.tuple #[.pointer (some ⟨p, 0, none⟩), .int .i64 0]) ∧ MemAt w' p D n (fun _ => 0) ∧ (w.heap.size ≤ p ∧ w.heap.size ≤ D ∧ p < w'.heap.size ∧ D < w'.heap.size) ∧ Below w.heap.size w w' := by
  refine (MMem.New_ok n h0 h1 w).mono ?_
  rintro e w' ⟨rfl, hM, hb⟩
  exact ⟨_, _, rfl, hM, ⟨by omega, Nat.le_refl _, block_lt_of_cell hM.2.2.1.choose_spec.2, hM.2.2.2.lt⟩, hb⟩
theorem rnew (n : Nat) (h0 : 1 ≤ n) (h1 : n ≤ 256) (w : World) :
    Calls Try.prog 22 #[.int .i64 (n : Int)] w fun e w' => ∃ r RD, e = .returned (.tuple #[.pointer (some ⟨r, 0, none⟩), .int .i64 0]) ∧ RefAt w' r RD n (fun _ => 0) ∧ (w.heap.size ≤ r ∧ w.heap.size ≤ RD ∧ r < w'.heap.size ∧ RD < w'.heap.size) ∧ Below w.heap.size w w' := by
  refine (MRef.New_ok n h0 h1 w).mono ?_
  rintro e w' ⟨rfl, hM, hb⟩
  exact ⟨_, _, rfl, hM, ⟨by omega, Nat.le_refl _, block_lt_of_cell hM.2.2.1, hM.2.2.2.lt⟩, hb⟩

/-- The pair beside one more block (the call that is carried out). -/
structure OSt (w0 w : World) (l : Nat) (c0 c1 c2 c3 c4 c5 c6 c7 : Int) (p : Nat) (f : Nat) (many : Int) (D nb : Nat) (F : Nat → Int) (q r RD : Nat) (core : Int) (A : Option Addr) (n c : Nat) (E G : Nat → Int) (B : Nat) (cs : Array Value) : Prop where
  P : PSt w0 w l c0 c1 c2 c3 c4 c5 c6 c7 p f many D nb F q r RD core A n c E G
  B : Blk w B 38 cs
section
variable {w0 w w' : World} {l : Nat} {c0 c1 c2 c3 c4 c5 c6 c7 : Int} {p : Nat} {f : Nat} {many many' : Int} {D nb : Nat} {F F' : Nat → Int} {q r RD : Nat} {core : Int} {A A' : Option Addr} {n n' c c' : Nat} {E E' G G' : Nat → Int} {B : Nat} {cs : Array Value}
theorem blk_ne {w : World} {g b : Nat} {t t' : TypeId} {cs : Array Value} {m : Nat} {f : Nat → Value} (h : Blk w g t cs) (h' : Row w b t' m f) (hne : t ≠ t') : g ≠ b := by
  rintro rfl
  obtain ⟨S, F, _, ⟨c, e, _⟩, _⟩ := h'
  unfold Blk at h
  rw [h] at e
  injection e with e
  injection e with _ e
  exact hne e
theorem OSt.drew (h : OSt w0 w l c0 c1 c2 c3 c4 c5 c6 c7 p f many D nb F q r RD core A n c E G B cs) : OSt w0 w.drew l c0 c1 c2 c3 c4 c5 c6 c7 p f many D nb F q r RD core A n c E G B cs := ⟨h.P.drew, h.B⟩
theorem OSt.setL (h : OSt w0 w l c0 c1 c2 c3 c4 c5 c6 c7 p f many D nb F q r RD core A n c E G B cs) (hL : LSt w0 w' l c0 c1 c2 c3 c4 c5 c6 c7 p (f : Int) c4 many' D nb F') (ht : Two D l w w') :
    OSt w0 w' l c0 c1 c2 c3 c4 c5 c6 c7 p f many' D nb F' q r RD core A n c E G B cs :=
  ⟨h.P.setL hL ht, (ht.block B h.B.lt (blk_ne h.B h.P.L.mem.2.2.2 (by decide)) (blk_ne h.B h.P.L.log (by decide))).trans h.B⟩
theorem OSt.setR (h : OSt w0 w l c0 c1 c2 c3 c4 c5 c6 c7 p f many D nb F q r RD core A n c E G B cs) (hP : PSt w0 w' l c0 c1 c2 c3 c4 c5 c6 c7 p f many D nb F q r RD core A' n' c' E' G') (ht : Two RD q w w') :
    OSt w0 w' l c0 c1 c2 c3 c4 c5 c6 c7 p f many D nb F q r RD core A' n' c' E' G' B cs :=
  ⟨hP, (ht.block B h.B.lt (blk_ne h.B (Row.mk' h.P.ref.2.2.2) (by decide)) (blk_ne h.B h.P.rlog (by decide))).trans h.B⟩
theorem OSt.cells {v0 v1 v2 v3 : Value} (h : OSt w0 w l c0 c1 c2 c3 c4 c5 c6 c7 p f many D nb F q r RD core A n c E G B #[v0, v1, v2, v3]) :
    w.cell? ⟨B, 0, none⟩ = some v0 ∧ w.cell? ⟨B, 1, none⟩ = some v1 ∧ w.cell? ⟨B, 2, none⟩ = some v2 ∧ w.cell? ⟨B, 3, none⟩ = some v3 := ⟨h.B.cell 0, h.B.cell 1, h.B.cell 2, h.B.cell 3⟩
end
end Go.Proofs.Ytnhfbdjjbmhnkaa.UPair
