/-
  Take of the layer 'code' walked, over the table of the forms.
-/
import Derived.Test.YtdaglmoibijdeaaDoorCodePut
namespace Go.Proofs.YtdaglmoibijdeaaDoor.CodeTake
open Go.RowKit Base CodePlain CodeBits CodeSign CodeTab CodePut
set_option linter.unusedVariables false
set_option linter.unusedSimpArgs false
set_option maxHeartbeats 1000000

theorem ret_row2 {P : Program} {w : World} {fn : Func} {tmps : Array Value} {p q : Tmp} {ty : TypeId} {fs : Array Field} (hr : fn.results = #[.cell p ty, .tmp q]) {b : Nat} (hp : tmps.getD p undef = .pointer (some ⟨b, 0, none⟩)) {t : TypeId} {cs : Array Value} (h : Blk w b t cs)
    (hu : P.underlying ty = some (.struct fs)) (hi : (P.info? ty).map (·.size) = some cs.size) : (results fn tmps).run P w = .ok (.tuple #[.agg cs, tmps.getD q undef]) w := by
  have hp' : tmps[p]?.getD undef = .pointer (some ⟨b, 0, none⟩) := by simpa using hp
  have hl := run_loadVar_row (P := P) w b t ty _ (0, 0) _ h hu rfl hi
  simp [results, hr, hp', asAddr, hl]
theorem isz : (Tryd.prog.info? 38).map (·.size) = some 5 := by kernel_rfl

/-- What Take answers. -/
def takeV (x : Int) : Value := if isB x = true then code5 (tK x) (tA (formN (tK x)) x) (tB (formN (tK x)) x) (tC (formN (tK x)) x) (tN (formN (tK x)) x) else .agg #[.int .u8 0, .int .i64 0, .int .i64 0, .int .i64 0, .int .i64 0]
def takeE (x : Int) : Int := if isB x = true then 0 else 6
theorem take0_bad (x : Int) (hx0 : 0 ≤ x) (hx1 : x < 4294967296) (hk : tK x < 22) (hf : formN (tK x) = 0) (w : World) (hT : Tab w)
    (hp : ∀ w, Tab w → Calls Tryd.prog 25 #[.agg #[.int .u8 (x / 67108864), .int .i64 (0), .int .i64 (0), .int .i64 (0), .int .i64 (0)]] w fun e w' => e = .returned (.tuple #[.int .u32 0, .int .i64 2]) ∧ Below w.heap.size w w')
    :
    Calls Tryd.prog 17 #[.int .u32 x] w fun e w' => e = .returned (.tuple #[.agg #[.int .u8 0, .int .i64 0, .int .i64 0, .int .i64 0, .int .i64 0], .int .i64 6]) ∧ Below w.heap.size w w' := by
  have hcell := hT.cell hk hf
  have hlt := hT.lt
  have m1 := PBits.u32_mask (x / 4194304) 4 15 (by omega) (by omega) (by omega) (by decide)
  have m2 := PBits.u32_mask (x / 262144) 4 15 (by omega) (by omega) (by omega) (by decide)
  have m3 := PBits.u32_mask (x / 16384) 4 15 (by omega) (by omega) (by omega) (by decide)
  simp only [show ((2 : Int) ^ 4) = 16 by decide] at m1 m2 m3
  unfold tK at hcell hk
  have k0 : 0 ≤ x / 67108864 := by omega
  have k1 : x / 67108864 < 22 := by omega
  have HP := hide hp
  have HT := hide (hT.below ((((Below.refl w.heap.size w).alloc (Nat.le_refl _) (.cells #[.int .u8 0, .int .i64 0, .int .i64 0, .int .i64 0, .int .i64 0] 38)).alloc (by simp) (.cells #[.int .u8 (x / 67108864), .int .i64 (0), .int .i64 (0), .int .i64 (0), .int .i64 (0)] 38))))
  have S14 := hide (fun w => signed14 x hx0 hx1 w)
  have S22 := hide (fun w => signed22 x hx0 hx1 w)
  clear hf hT hp hk
  go_enter Tryd.func17, Tryd.ntmps17
  go_wp2_with (first
    | (go_at_call 23; refine (S22.out _).mono ?_; rintro e wx ⟨rfl, rfl⟩)
    | (go_at_call 24; refine (bits22 x _).mono ?_; rintro e wx ⟨rfl, rfl⟩)
    | (go_at_call 25; refine (HP.out _ HT.out).mono ?_; rintro e w1 ⟨rfl, hb1⟩; have B4 := (Blk.new_at (w.alloc (.cells #[.int .u8 0, .int .i64 0, .int .i64 0, .int .i64 0, .int .i64 0] 38)) 38 #[.int .u8 (x / 67108864), .int .i64 (0), .int .i64 (0), .int .i64 (0), .int .i64 (0)] (N := w.heap.size + 1) (by simp)).below hb1 (by simp); have c4 := c5_of B4; have B2 := hide (((Blk.new w 38 #[.int .u8 0, .int .i64 0, .int .i64 0, .int .i64 0, .int .i64 0]).alloc (.cells #[.int .u8 (x / 67108864), .int .i64 (0), .int .i64 (0), .int .i64 (0), .int .i64 (0)] 38)).below hb1 (by simp; omega)); have c2 := c5_of B2.out; have fz := fun i => B2.out.frozen i; have W2 := hide ((((Below.refl w.heap.size w).alloc (Nat.le_refl _) (.cells #[.int .u8 0, .int .i64 0, .int .i64 0, .int .i64 0, .int .i64 0] 38)).alloc (by simp) (.cells #[.int .u8 (x / 67108864), .int .i64 (0), .int .i64 (0), .int .i64 (0), .int .i64 (0)] 38)).trans (hb1.mono (by simp; omega))); clear hb1 B4))
  exact bodyPost_ret (v := .tuple #[.agg #[.int .u8 0, .int .i64 0, .int .i64 0, .int .i64 0, .int .i64 0], .int .i64 6]) (ret_row2 Tryd.results17 rfl (((((B2.out.set_ 0 (.int .u8 0)).set_ 1 (.int .i64 0)).set_ 2 (.int .i64 0)).set_ 3 (.int .i64 0)).set_ 4 (.int .i64 0)) Tryd.underlying38 isz) rfl
    ⟨rfl, (((((W2.out.setCell (p := ⟨w.heap.size, 0, none⟩) (Nat.le_refl _) (.int .u8 0)).setCell (p := ⟨w.heap.size, 1, none⟩) (Nat.le_refl _) (.int .i64 0)).setCell (p := ⟨w.heap.size, 2, none⟩) (Nat.le_refl _) (.int .i64 0)).setCell (p := ⟨w.heap.size, 3, none⟩) (Nat.le_refl _) (.int .i64 0)).setCell (p := ⟨w.heap.size, 4, none⟩) (Nat.le_refl _) (.int .i64 0))⟩
theorem take0_other (x y : Int) (hx0 : 0 ≤ x) (hx1 : x < 4294967296) (hk : tK x < 22) (hf : formN (tK x) = 0) (w : World) (hT : Tab w)
    (hp : ∀ w, Tab w → Calls Tryd.prog 25 #[.agg #[.int .u8 (x / 67108864), .int .i64 (0), .int .i64 (0), .int .i64 (0), .int .i64 (0)]] w fun e w' => e = .returned (.tuple #[.int .u32 y, .int .i64 0]) ∧ Below w.heap.size w w')
    (hy : (y == x) = false) :
    Calls Tryd.prog 17 #[.int .u32 x] w fun e w' => e = .returned (.tuple #[.agg #[.int .u8 0, .int .i64 0, .int .i64 0, .int .i64 0, .int .i64 0], .int .i64 6]) ∧ Below w.heap.size w w' := by
  have hcell := hT.cell hk hf
  have hlt := hT.lt
  have m1 := PBits.u32_mask (x / 4194304) 4 15 (by omega) (by omega) (by omega) (by decide)
  have m2 := PBits.u32_mask (x / 262144) 4 15 (by omega) (by omega) (by omega) (by decide)
  have m3 := PBits.u32_mask (x / 16384) 4 15 (by omega) (by omega) (by omega) (by decide)
  simp only [show ((2 : Int) ^ 4) = 16 by decide] at m1 m2 m3
  unfold tK at hcell hk
  have k0 : 0 ≤ x / 67108864 := by omega
  have k1 : x / 67108864 < 22 := by omega
  have HP := hide hp
  have HT := hide (hT.below ((((Below.refl w.heap.size w).alloc (Nat.le_refl _) (.cells #[.int .u8 0, .int .i64 0, .int .i64 0, .int .i64 0, .int .i64 0] 38)).alloc (by simp) (.cells #[.int .u8 (x / 67108864), .int .i64 (0), .int .i64 (0), .int .i64 (0), .int .i64 (0)] 38))))
  have S14 := hide (fun w => signed14 x hx0 hx1 w)
  have S22 := hide (fun w => signed22 x hx0 hx1 w)
  clear hf hT hp hk
  go_enter Tryd.func17, Tryd.ntmps17
  go_wp2_with (first
    | (go_at_call 23; refine (S22.out _).mono ?_; rintro e wx ⟨rfl, rfl⟩)
    | (go_at_call 24; refine (bits22 x _).mono ?_; rintro e wx ⟨rfl, rfl⟩)
    | (go_at_call 25; refine (HP.out _ HT.out).mono ?_; rintro e w1 ⟨rfl, hb1⟩; have B4 := (Blk.new_at (w.alloc (.cells #[.int .u8 0, .int .i64 0, .int .i64 0, .int .i64 0, .int .i64 0] 38)) 38 #[.int .u8 (x / 67108864), .int .i64 (0), .int .i64 (0), .int .i64 (0), .int .i64 (0)] (N := w.heap.size + 1) (by simp)).below hb1 (by simp); have c4 := c5_of B4; have B2 := hide (((Blk.new w 38 #[.int .u8 0, .int .i64 0, .int .i64 0, .int .i64 0, .int .i64 0]).alloc (.cells #[.int .u8 (x / 67108864), .int .i64 (0), .int .i64 (0), .int .i64 (0), .int .i64 (0)] 38)).below hb1 (by simp; omega)); have c2 := c5_of B2.out; have fz := fun i => B2.out.frozen i; have W2 := hide ((((Below.refl w.heap.size w).alloc (Nat.le_refl _) (.cells #[.int .u8 0, .int .i64 0, .int .i64 0, .int .i64 0, .int .i64 0] 38)).alloc (by simp) (.cells #[.int .u8 (x / 67108864), .int .i64 (0), .int .i64 (0), .int .i64 (0), .int .i64 (0)] 38)).trans (hb1.mono (by simp; omega))); clear hb1 B4))
  exact bodyPost_ret (v := .tuple #[.agg #[.int .u8 0, .int .i64 0, .int .i64 0, .int .i64 0, .int .i64 0], .int .i64 6]) (ret_row2 Tryd.results17 rfl (((((B2.out.set_ 0 (.int .u8 0)).set_ 1 (.int .i64 0)).set_ 2 (.int .i64 0)).set_ 3 (.int .i64 0)).set_ 4 (.int .i64 0)) Tryd.underlying38 isz) rfl
    ⟨rfl, (((((W2.out.setCell (p := ⟨w.heap.size, 0, none⟩) (Nat.le_refl _) (.int .u8 0)).setCell (p := ⟨w.heap.size, 1, none⟩) (Nat.le_refl _) (.int .i64 0)).setCell (p := ⟨w.heap.size, 2, none⟩) (Nat.le_refl _) (.int .i64 0)).setCell (p := ⟨w.heap.size, 3, none⟩) (Nat.le_refl _) (.int .i64 0)).setCell (p := ⟨w.heap.size, 4, none⟩) (Nat.le_refl _) (.int .i64 0))⟩
theorem take0_ok (x : Int) (hx0 : 0 ≤ x) (hx1 : x < 4294967296) (hk : tK x < 22) (hf : formN (tK x) = 0) (w : World) (hT : Tab w)
    (hp : ∀ w, Tab w → Calls Tryd.prog 25 #[.agg #[.int .u8 (x / 67108864), .int .i64 (0), .int .i64 (0), .int .i64 (0), .int .i64 (0)]] w fun e w' => e = .returned (.tuple #[.int .u32 x, .int .i64 0]) ∧ Below w.heap.size w w')
    :
    Calls Tryd.prog 17 #[.int .u32 x] w fun e w' => e = .returned (.tuple #[.agg #[.int .u8 (x / 67108864), .int .i64 (0), .int .i64 (0), .int .i64 (0), .int .i64 (0)], .int .i64 0]) ∧ Below w.heap.size w w' := by
  have hcell := hT.cell hk hf
  have hlt := hT.lt
  have m1 := PBits.u32_mask (x / 4194304) 4 15 (by omega) (by omega) (by omega) (by decide)
  have m2 := PBits.u32_mask (x / 262144) 4 15 (by omega) (by omega) (by omega) (by decide)
  have m3 := PBits.u32_mask (x / 16384) 4 15 (by omega) (by omega) (by omega) (by decide)
  simp only [show ((2 : Int) ^ 4) = 16 by decide] at m1 m2 m3
  unfold tK at hcell hk
  have k0 : 0 ≤ x / 67108864 := by omega
  have k1 : x / 67108864 < 22 := by omega
  have HP := hide hp
  have HT := hide (hT.below ((((Below.refl w.heap.size w).alloc (Nat.le_refl _) (.cells #[.int .u8 0, .int .i64 0, .int .i64 0, .int .i64 0, .int .i64 0] 38)).alloc (by simp) (.cells #[.int .u8 (x / 67108864), .int .i64 (0), .int .i64 (0), .int .i64 (0), .int .i64 (0)] 38))))
  have S14 := hide (fun w => signed14 x hx0 hx1 w)
  have S22 := hide (fun w => signed22 x hx0 hx1 w)
  clear hf hT hp hk
  go_enter Tryd.func17, Tryd.ntmps17
  go_wp2_with (first
    | (go_at_call 23; refine (S22.out _).mono ?_; rintro e wx ⟨rfl, rfl⟩)
    | (go_at_call 24; refine (bits22 x _).mono ?_; rintro e wx ⟨rfl, rfl⟩)
    | (go_at_call 25; refine (HP.out _ HT.out).mono ?_; rintro e w1 ⟨rfl, hb1⟩; have B4 := (Blk.new_at (w.alloc (.cells #[.int .u8 0, .int .i64 0, .int .i64 0, .int .i64 0, .int .i64 0] 38)) 38 #[.int .u8 (x / 67108864), .int .i64 (0), .int .i64 (0), .int .i64 (0), .int .i64 (0)] (N := w.heap.size + 1) (by simp)).below hb1 (by simp); have c4 := c5_of B4; have B2 := hide (((Blk.new w 38 #[.int .u8 0, .int .i64 0, .int .i64 0, .int .i64 0, .int .i64 0]).alloc (.cells #[.int .u8 (x / 67108864), .int .i64 (0), .int .i64 (0), .int .i64 (0), .int .i64 (0)] 38)).below hb1 (by simp; omega)); have c2 := c5_of B2.out; have fz := fun i => B2.out.frozen i; have W2 := hide ((((Below.refl w.heap.size w).alloc (Nat.le_refl _) (.cells #[.int .u8 0, .int .i64 0, .int .i64 0, .int .i64 0, .int .i64 0] 38)).alloc (by simp) (.cells #[.int .u8 (x / 67108864), .int .i64 (0), .int .i64 (0), .int .i64 (0), .int .i64 (0)] 38)).trans (hb1.mono (by simp; omega))); clear hb1 B4))
  exact bodyPost_ret (v := .tuple #[.agg #[.int .u8 (x / 67108864), .int .i64 (0), .int .i64 (0), .int .i64 (0), .int .i64 (0)], .int .i64 0]) (ret_row2 Tryd.results17 rfl (((((B2.out.set_ 0 (.int .u8 (x / 67108864))).set_ 1 (.int .i64 (0))).set_ 2 (.int .i64 (0))).set_ 3 (.int .i64 (0))).set_ 4 (.int .i64 (0))) Tryd.underlying38 isz) rfl
    ⟨rfl, (((((W2.out.setCell (p := ⟨w.heap.size, 0, none⟩) (Nat.le_refl _) (.int .u8 (x / 67108864))).setCell (p := ⟨w.heap.size, 1, none⟩) (Nat.le_refl _) (.int .i64 (0))).setCell (p := ⟨w.heap.size, 2, none⟩) (Nat.le_refl _) (.int .i64 (0))).setCell (p := ⟨w.heap.size, 3, none⟩) (Nat.le_refl _) (.int .i64 (0))).setCell (p := ⟨w.heap.size, 4, none⟩) (Nat.le_refl _) (.int .i64 (0)))⟩
theorem take0 (x : Int) (hx0 : 0 ≤ x) (hx1 : x < 4294967296) (hk : tK x < 22) (hf : formN (tK x) = 0) (w : World) (hT : Tab w) :
    Calls Tryd.prog 17 #[.int .u32 x] w fun e w' => e = .returned (.tuple #[takeV x, .int .i64 (takeE x)]) ∧ Below w.heap.size w w' := by
  have hA : tA (formN (tK x)) x = 0 := by simp [tA, hf]
  have hB : tB (formN (tK x)) x = 0 := by simp [tB, hf]
  have hC : tC (formN (tK x)) x = 0 := by simp [tC, hf]
  have hN : tN (formN (tK x)) x = 0 := by simp [tN, hf]
  have hK : ((tK x : Nat) : Int) = x / 67108864 := by unfold tK; omega
  have hI : isB x = (mayB (tK x) (0) (0) (0) (0) && decide (word (tK x) (0) (0) (0) (0) = x)) := by unfold isB; rw [hA, hB, hC, hN]
  have hp := fun w hT => put_any (tK x) (0) (0) (0) (0) (by omega) w hT
  unfold code5 at hp
  rw [hK] at hp
  unfold takeV takeE code5
  rw [hA, hB, hC, hN, hI, hK]
  cases hm : mayB (tK x) (0) (0) (0) (0)
  · rw [show putX (tK x) (0) (0) (0) (0) = 0 by simp [putX, hm], show errX (tK x) (0) (0) (0) (0) = 2 by simp [errX, hm]] at hp
    exact take0_bad x hx0 hx1 hk hf w hT hp
  · rw [show putX (tK x) (0) (0) (0) (0) = word (tK x) (0) (0) (0) (0) by simp [putX, hm], show errX (tK x) (0) (0) (0) (0) = 0 by simp [errX, hm]] at hp
    by_cases he : word (tK x) (0) (0) (0) (0) = x
    · rw [he] at hp ⊢
      rw [decide_eq_true (rfl : x = x)]
      exact take0_ok x hx0 hx1 hk hf w hT hp
    · rw [decide_eq_false he]
      exact take0_other x _ hx0 hx1 hk hf w hT hp (by rw [beq_eq_false_iff_ne]; exact he)
theorem take1_bad (x : Int) (hx0 : 0 ≤ x) (hx1 : x < 4294967296) (hk : tK x < 22) (hf : formN (tK x) = 1) (w : World) (hT : Tab w)
    (hp : ∀ w, Tab w → Calls Tryd.prog 25 #[.agg #[.int .u8 (x / 67108864), .int .i64 (x / 4194304 % 16), .int .i64 (x / 262144 % 16), .int .i64 (x / 16384 % 16), .int .i64 (0)]] w fun e w' => e = .returned (.tuple #[.int .u32 0, .int .i64 2]) ∧ Below w.heap.size w w')
    :
    Calls Tryd.prog 17 #[.int .u32 x] w fun e w' => e = .returned (.tuple #[.agg #[.int .u8 0, .int .i64 0, .int .i64 0, .int .i64 0, .int .i64 0], .int .i64 6]) ∧ Below w.heap.size w w' := by
  have hcell := hT.cell hk hf
  have hlt := hT.lt
  have m1 := PBits.u32_mask (x / 4194304) 4 15 (by omega) (by omega) (by omega) (by decide)
  have m2 := PBits.u32_mask (x / 262144) 4 15 (by omega) (by omega) (by omega) (by decide)
  have m3 := PBits.u32_mask (x / 16384) 4 15 (by omega) (by omega) (by omega) (by decide)
  simp only [show ((2 : Int) ^ 4) = 16 by decide] at m1 m2 m3
  unfold tK at hcell hk
  have k0 : 0 ≤ x / 67108864 := by omega
  have k1 : x / 67108864 < 22 := by omega
  have HP := hide hp
  have HT := hide (hT.below ((((Below.refl w.heap.size w).alloc (Nat.le_refl _) (.cells #[.int .u8 0, .int .i64 0, .int .i64 0, .int .i64 0, .int .i64 0] 38)).alloc (by simp) (.cells #[.int .u8 (x / 67108864), .int .i64 (x / 4194304 % 16), .int .i64 (x / 262144 % 16), .int .i64 (x / 16384 % 16), .int .i64 (0)] 38))))
  have S14 := hide (fun w => signed14 x hx0 hx1 w)
  have S22 := hide (fun w => signed22 x hx0 hx1 w)
  clear hf hT hp hk
  go_enter Tryd.func17, Tryd.ntmps17
  go_wp2_with (first
    | (go_at_call 23; refine (S22.out _).mono ?_; rintro e wx ⟨rfl, rfl⟩)
    | (go_at_call 24; refine (bits22 x _).mono ?_; rintro e wx ⟨rfl, rfl⟩)
    | (go_at_call 25; refine (HP.out _ HT.out).mono ?_; rintro e w1 ⟨rfl, hb1⟩; have B4 := (Blk.new_at (w.alloc (.cells #[.int .u8 0, .int .i64 0, .int .i64 0, .int .i64 0, .int .i64 0] 38)) 38 #[.int .u8 (x / 67108864), .int .i64 (x / 4194304 % 16), .int .i64 (x / 262144 % 16), .int .i64 (x / 16384 % 16), .int .i64 (0)] (N := w.heap.size + 1) (by simp)).below hb1 (by simp); have c4 := c5_of B4; have B2 := hide (((Blk.new w 38 #[.int .u8 0, .int .i64 0, .int .i64 0, .int .i64 0, .int .i64 0]).alloc (.cells #[.int .u8 (x / 67108864), .int .i64 (x / 4194304 % 16), .int .i64 (x / 262144 % 16), .int .i64 (x / 16384 % 16), .int .i64 (0)] 38)).below hb1 (by simp; omega)); have c2 := c5_of B2.out; have fz := fun i => B2.out.frozen i; have W2 := hide ((((Below.refl w.heap.size w).alloc (Nat.le_refl _) (.cells #[.int .u8 0, .int .i64 0, .int .i64 0, .int .i64 0, .int .i64 0] 38)).alloc (by simp) (.cells #[.int .u8 (x / 67108864), .int .i64 (x / 4194304 % 16), .int .i64 (x / 262144 % 16), .int .i64 (x / 16384 % 16), .int .i64 (0)] 38)).trans (hb1.mono (by simp; omega))); clear hb1 B4))
  exact bodyPost_ret (v := .tuple #[.agg #[.int .u8 0, .int .i64 0, .int .i64 0, .int .i64 0, .int .i64 0], .int .i64 6]) (ret_row2 Tryd.results17 rfl (((((B2.out.set_ 0 (.int .u8 0)).set_ 1 (.int .i64 0)).set_ 2 (.int .i64 0)).set_ 3 (.int .i64 0)).set_ 4 (.int .i64 0)) Tryd.underlying38 isz) rfl
    ⟨rfl, (((((W2.out.setCell (p := ⟨w.heap.size, 0, none⟩) (Nat.le_refl _) (.int .u8 0)).setCell (p := ⟨w.heap.size, 1, none⟩) (Nat.le_refl _) (.int .i64 0)).setCell (p := ⟨w.heap.size, 2, none⟩) (Nat.le_refl _) (.int .i64 0)).setCell (p := ⟨w.heap.size, 3, none⟩) (Nat.le_refl _) (.int .i64 0)).setCell (p := ⟨w.heap.size, 4, none⟩) (Nat.le_refl _) (.int .i64 0))⟩
theorem take1_other (x y : Int) (hx0 : 0 ≤ x) (hx1 : x < 4294967296) (hk : tK x < 22) (hf : formN (tK x) = 1) (w : World) (hT : Tab w)
    (hp : ∀ w, Tab w → Calls Tryd.prog 25 #[.agg #[.int .u8 (x / 67108864), .int .i64 (x / 4194304 % 16), .int .i64 (x / 262144 % 16), .int .i64 (x / 16384 % 16), .int .i64 (0)]] w fun e w' => e = .returned (.tuple #[.int .u32 y, .int .i64 0]) ∧ Below w.heap.size w w')
    (hy : (y == x) = false) :
    Calls Tryd.prog 17 #[.int .u32 x] w fun e w' => e = .returned (.tuple #[.agg #[.int .u8 0, .int .i64 0, .int .i64 0, .int .i64 0, .int .i64 0], .int .i64 6]) ∧ Below w.heap.size w w' := by
  have hcell := hT.cell hk hf
  have hlt := hT.lt
  have m1 := PBits.u32_mask (x / 4194304) 4 15 (by omega) (by omega) (by omega) (by decide)
  have m2 := PBits.u32_mask (x / 262144) 4 15 (by omega) (by omega) (by omega) (by decide)
  have m3 := PBits.u32_mask (x / 16384) 4 15 (by omega) (by omega) (by omega) (by decide)
  simp only [show ((2 : Int) ^ 4) = 16 by decide] at m1 m2 m3
  unfold tK at hcell hk
  have k0 : 0 ≤ x / 67108864 := by omega
  have k1 : x / 67108864 < 22 := by omega
  have HP := hide hp
  have HT := hide (hT.below ((((Below.refl w.heap.size w).alloc (Nat.le_refl _) (.cells #[.int .u8 0, .int .i64 0, .int .i64 0, .int .i64 0, .int .i64 0] 38)).alloc (by simp) (.cells #[.int .u8 (x / 67108864), .int .i64 (x / 4194304 % 16), .int .i64 (x / 262144 % 16), .int .i64 (x / 16384 % 16), .int .i64 (0)] 38))))
  have S14 := hide (fun w => signed14 x hx0 hx1 w)
  have S22 := hide (fun w => signed22 x hx0 hx1 w)
  clear hf hT hp hk
  go_enter Tryd.func17, Tryd.ntmps17
  go_wp2_with (first
    | (go_at_call 23; refine (S22.out _).mono ?_; rintro e wx ⟨rfl, rfl⟩)
    | (go_at_call 24; refine (bits22 x _).mono ?_; rintro e wx ⟨rfl, rfl⟩)
    | (go_at_call 25; refine (HP.out _ HT.out).mono ?_; rintro e w1 ⟨rfl, hb1⟩; have B4 := (Blk.new_at (w.alloc (.cells #[.int .u8 0, .int .i64 0, .int .i64 0, .int .i64 0, .int .i64 0] 38)) 38 #[.int .u8 (x / 67108864), .int .i64 (x / 4194304 % 16), .int .i64 (x / 262144 % 16), .int .i64 (x / 16384 % 16), .int .i64 (0)] (N := w.heap.size + 1) (by simp)).below hb1 (by simp); have c4 := c5_of B4; have B2 := hide (((Blk.new w 38 #[.int .u8 0, .int .i64 0, .int .i64 0, .int .i64 0, .int .i64 0]).alloc (.cells #[.int .u8 (x / 67108864), .int .i64 (x / 4194304 % 16), .int .i64 (x / 262144 % 16), .int .i64 (x / 16384 % 16), .int .i64 (0)] 38)).below hb1 (by simp; omega)); have c2 := c5_of B2.out; have fz := fun i => B2.out.frozen i; have W2 := hide ((((Below.refl w.heap.size w).alloc (Nat.le_refl _) (.cells #[.int .u8 0, .int .i64 0, .int .i64 0, .int .i64 0, .int .i64 0] 38)).alloc (by simp) (.cells #[.int .u8 (x / 67108864), .int .i64 (x / 4194304 % 16), .int .i64 (x / 262144 % 16), .int .i64 (x / 16384 % 16), .int .i64 (0)] 38)).trans (hb1.mono (by simp; omega))); clear hb1 B4))
  exact bodyPost_ret (v := .tuple #[.agg #[.int .u8 0, .int .i64 0, .int .i64 0, .int .i64 0, .int .i64 0], .int .i64 6]) (ret_row2 Tryd.results17 rfl (((((B2.out.set_ 0 (.int .u8 0)).set_ 1 (.int .i64 0)).set_ 2 (.int .i64 0)).set_ 3 (.int .i64 0)).set_ 4 (.int .i64 0)) Tryd.underlying38 isz) rfl
    ⟨rfl, (((((W2.out.setCell (p := ⟨w.heap.size, 0, none⟩) (Nat.le_refl _) (.int .u8 0)).setCell (p := ⟨w.heap.size, 1, none⟩) (Nat.le_refl _) (.int .i64 0)).setCell (p := ⟨w.heap.size, 2, none⟩) (Nat.le_refl _) (.int .i64 0)).setCell (p := ⟨w.heap.size, 3, none⟩) (Nat.le_refl _) (.int .i64 0)).setCell (p := ⟨w.heap.size, 4, none⟩) (Nat.le_refl _) (.int .i64 0))⟩
theorem take1_ok (x : Int) (hx0 : 0 ≤ x) (hx1 : x < 4294967296) (hk : tK x < 22) (hf : formN (tK x) = 1) (w : World) (hT : Tab w)
    (hp : ∀ w, Tab w → Calls Tryd.prog 25 #[.agg #[.int .u8 (x / 67108864), .int .i64 (x / 4194304 % 16), .int .i64 (x / 262144 % 16), .int .i64 (x / 16384 % 16), .int .i64 (0)]] w fun e w' => e = .returned (.tuple #[.int .u32 x, .int .i64 0]) ∧ Below w.heap.size w w')
    :
    Calls Tryd.prog 17 #[.int .u32 x] w fun e w' => e = .returned (.tuple #[.agg #[.int .u8 (x / 67108864), .int .i64 (x / 4194304 % 16), .int .i64 (x / 262144 % 16), .int .i64 (x / 16384 % 16), .int .i64 (0)], .int .i64 0]) ∧ Below w.heap.size w w' := by
  have hcell := hT.cell hk hf
  have hlt := hT.lt
  have m1 := PBits.u32_mask (x / 4194304) 4 15 (by omega) (by omega) (by omega) (by decide)
  have m2 := PBits.u32_mask (x / 262144) 4 15 (by omega) (by omega) (by omega) (by decide)
  have m3 := PBits.u32_mask (x / 16384) 4 15 (by omega) (by omega) (by omega) (by decide)
  simp only [show ((2 : Int) ^ 4) = 16 by decide] at m1 m2 m3
  unfold tK at hcell hk
  have k0 : 0 ≤ x / 67108864 := by omega
  have k1 : x / 67108864 < 22 := by omega
  have HP := hide hp
  have HT := hide (hT.below ((((Below.refl w.heap.size w).alloc (Nat.le_refl _) (.cells #[.int .u8 0, .int .i64 0, .int .i64 0, .int .i64 0, .int .i64 0] 38)).alloc (by simp) (.cells #[.int .u8 (x / 67108864), .int .i64 (x / 4194304 % 16), .int .i64 (x / 262144 % 16), .int .i64 (x / 16384 % 16), .int .i64 (0)] 38))))
  have S14 := hide (fun w => signed14 x hx0 hx1 w)
  have S22 := hide (fun w => signed22 x hx0 hx1 w)
  clear hf hT hp hk
  go_enter Tryd.func17, Tryd.ntmps17
  go_wp2_with (first
    | (go_at_call 23; refine (S22.out _).mono ?_; rintro e wx ⟨rfl, rfl⟩)
    | (go_at_call 24; refine (bits22 x _).mono ?_; rintro e wx ⟨rfl, rfl⟩)
    | (go_at_call 25; refine (HP.out _ HT.out).mono ?_; rintro e w1 ⟨rfl, hb1⟩; have B4 := (Blk.new_at (w.alloc (.cells #[.int .u8 0, .int .i64 0, .int .i64 0, .int .i64 0, .int .i64 0] 38)) 38 #[.int .u8 (x / 67108864), .int .i64 (x / 4194304 % 16), .int .i64 (x / 262144 % 16), .int .i64 (x / 16384 % 16), .int .i64 (0)] (N := w.heap.size + 1) (by simp)).below hb1 (by simp); have c4 := c5_of B4; have B2 := hide (((Blk.new w 38 #[.int .u8 0, .int .i64 0, .int .i64 0, .int .i64 0, .int .i64 0]).alloc (.cells #[.int .u8 (x / 67108864), .int .i64 (x / 4194304 % 16), .int .i64 (x / 262144 % 16), .int .i64 (x / 16384 % 16), .int .i64 (0)] 38)).below hb1 (by simp; omega)); have c2 := c5_of B2.out; have fz := fun i => B2.out.frozen i; have W2 := hide ((((Below.refl w.heap.size w).alloc (Nat.le_refl _) (.cells #[.int .u8 0, .int .i64 0, .int .i64 0, .int .i64 0, .int .i64 0] 38)).alloc (by simp) (.cells #[.int .u8 (x / 67108864), .int .i64 (x / 4194304 % 16), .int .i64 (x / 262144 % 16), .int .i64 (x / 16384 % 16), .int .i64 (0)] 38)).trans (hb1.mono (by simp; omega))); clear hb1 B4))
  exact bodyPost_ret (v := .tuple #[.agg #[.int .u8 (x / 67108864), .int .i64 (x / 4194304 % 16), .int .i64 (x / 262144 % 16), .int .i64 (x / 16384 % 16), .int .i64 (0)], .int .i64 0]) (ret_row2 Tryd.results17 rfl (((((B2.out.set_ 0 (.int .u8 (x / 67108864))).set_ 1 (.int .i64 (x / 4194304 % 16))).set_ 2 (.int .i64 (x / 262144 % 16))).set_ 3 (.int .i64 (x / 16384 % 16))).set_ 4 (.int .i64 (0))) Tryd.underlying38 isz) rfl
    ⟨rfl, (((((W2.out.setCell (p := ⟨w.heap.size, 0, none⟩) (Nat.le_refl _) (.int .u8 (x / 67108864))).setCell (p := ⟨w.heap.size, 1, none⟩) (Nat.le_refl _) (.int .i64 (x / 4194304 % 16))).setCell (p := ⟨w.heap.size, 2, none⟩) (Nat.le_refl _) (.int .i64 (x / 262144 % 16))).setCell (p := ⟨w.heap.size, 3, none⟩) (Nat.le_refl _) (.int .i64 (x / 16384 % 16))).setCell (p := ⟨w.heap.size, 4, none⟩) (Nat.le_refl _) (.int .i64 (0)))⟩
theorem take1 (x : Int) (hx0 : 0 ≤ x) (hx1 : x < 4294967296) (hk : tK x < 22) (hf : formN (tK x) = 1) (w : World) (hT : Tab w) :
    Calls Tryd.prog 17 #[.int .u32 x] w fun e w' => e = .returned (.tuple #[takeV x, .int .i64 (takeE x)]) ∧ Below w.heap.size w w' := by
  have hA : tA (formN (tK x)) x = x / 4194304 % 16 := by simp [tA, hf]
  have hB : tB (formN (tK x)) x = x / 262144 % 16 := by simp [tB, hf]
  have hC : tC (formN (tK x)) x = x / 16384 % 16 := by simp [tC, hf]
  have hN : tN (formN (tK x)) x = 0 := by simp [tN, hf]
  have hK : ((tK x : Nat) : Int) = x / 67108864 := by unfold tK; omega
  have hI : isB x = (mayB (tK x) (x / 4194304 % 16) (x / 262144 % 16) (x / 16384 % 16) (0) && decide (word (tK x) (x / 4194304 % 16) (x / 262144 % 16) (x / 16384 % 16) (0) = x)) := by unfold isB; rw [hA, hB, hC, hN]
  have hp := fun w hT => put_any (tK x) (x / 4194304 % 16) (x / 262144 % 16) (x / 16384 % 16) (0) (by omega) w hT
  unfold code5 at hp
  rw [hK] at hp
  unfold takeV takeE code5
  rw [hA, hB, hC, hN, hI, hK]
  cases hm : mayB (tK x) (x / 4194304 % 16) (x / 262144 % 16) (x / 16384 % 16) (0)
  · rw [show putX (tK x) (x / 4194304 % 16) (x / 262144 % 16) (x / 16384 % 16) (0) = 0 by simp [putX, hm], show errX (tK x) (x / 4194304 % 16) (x / 262144 % 16) (x / 16384 % 16) (0) = 2 by simp [errX, hm]] at hp
    exact take1_bad x hx0 hx1 hk hf w hT hp
  · rw [show putX (tK x) (x / 4194304 % 16) (x / 262144 % 16) (x / 16384 % 16) (0) = word (tK x) (x / 4194304 % 16) (x / 262144 % 16) (x / 16384 % 16) (0) by simp [putX, hm], show errX (tK x) (x / 4194304 % 16) (x / 262144 % 16) (x / 16384 % 16) (0) = 0 by simp [errX, hm]] at hp
    by_cases he : word (tK x) (x / 4194304 % 16) (x / 262144 % 16) (x / 16384 % 16) (0) = x
    · rw [he] at hp ⊢
      rw [decide_eq_true (rfl : x = x)]
      exact take1_ok x hx0 hx1 hk hf w hT hp
    · rw [decide_eq_false he]
      exact take1_other x _ hx0 hx1 hk hf w hT hp (by rw [beq_eq_false_iff_ne]; exact he)
theorem take2_bad (x : Int) (hx0 : 0 ≤ x) (hx1 : x < 4294967296) (hk : tK x < 22) (hf : formN (tK x) = 2) (w : World) (hT : Tab w)
    (hp : ∀ w, Tab w → Calls Tryd.prog 25 #[.agg #[.int .u8 (x / 67108864), .int .i64 (x / 4194304 % 16), .int .i64 (x / 262144 % 16), .int .i64 (0), .int .i64 (sgn (x % 16384) 8192)]] w fun e w' => e = .returned (.tuple #[.int .u32 0, .int .i64 2]) ∧ Below w.heap.size w w')
    :
    Calls Tryd.prog 17 #[.int .u32 x] w fun e w' => e = .returned (.tuple #[.agg #[.int .u8 0, .int .i64 0, .int .i64 0, .int .i64 0, .int .i64 0], .int .i64 6]) ∧ Below w.heap.size w w' := by
  have hcell := hT.cell hk hf
  have hlt := hT.lt
  have m1 := PBits.u32_mask (x / 4194304) 4 15 (by omega) (by omega) (by omega) (by decide)
  have m2 := PBits.u32_mask (x / 262144) 4 15 (by omega) (by omega) (by omega) (by decide)
  have m3 := PBits.u32_mask (x / 16384) 4 15 (by omega) (by omega) (by omega) (by decide)
  simp only [show ((2 : Int) ^ 4) = 16 by decide] at m1 m2 m3
  unfold tK at hcell hk
  have k0 : 0 ≤ x / 67108864 := by omega
  have k1 : x / 67108864 < 22 := by omega
  have HP := hide hp
  have HT := hide (hT.below ((((Below.refl w.heap.size w).alloc (Nat.le_refl _) (.cells #[.int .u8 0, .int .i64 0, .int .i64 0, .int .i64 0, .int .i64 0] 38)).alloc (by simp) (.cells #[.int .u8 (x / 67108864), .int .i64 (x / 4194304 % 16), .int .i64 (x / 262144 % 16), .int .i64 (0), .int .i64 (sgn (x % 16384) 8192)] 38))))
  have S14 := hide (fun w => signed14 x hx0 hx1 w)
  have S22 := hide (fun w => signed22 x hx0 hx1 w)
  clear hf hT hp hk
  go_enter Tryd.func17, Tryd.ntmps17
  go_wp2_with (first
    | (go_at_call 23; refine (S14.out _).mono ?_; rintro e wx ⟨rfl, rfl⟩)
    | (go_at_call 24; refine (bits22 x _).mono ?_; rintro e wx ⟨rfl, rfl⟩)
    | (go_at_call 25; refine (HP.out _ HT.out).mono ?_; rintro e w1 ⟨rfl, hb1⟩; have B4 := (Blk.new_at (w.alloc (.cells #[.int .u8 0, .int .i64 0, .int .i64 0, .int .i64 0, .int .i64 0] 38)) 38 #[.int .u8 (x / 67108864), .int .i64 (x / 4194304 % 16), .int .i64 (x / 262144 % 16), .int .i64 (0), .int .i64 (sgn (x % 16384) 8192)] (N := w.heap.size + 1) (by simp)).below hb1 (by simp); have c4 := c5_of B4; have B2 := hide (((Blk.new w 38 #[.int .u8 0, .int .i64 0, .int .i64 0, .int .i64 0, .int .i64 0]).alloc (.cells #[.int .u8 (x / 67108864), .int .i64 (x / 4194304 % 16), .int .i64 (x / 262144 % 16), .int .i64 (0), .int .i64 (sgn (x % 16384) 8192)] 38)).below hb1 (by simp; omega)); have c2 := c5_of B2.out; have fz := fun i => B2.out.frozen i; have W2 := hide ((((Below.refl w.heap.size w).alloc (Nat.le_refl _) (.cells #[.int .u8 0, .int .i64 0, .int .i64 0, .int .i64 0, .int .i64 0] 38)).alloc (by simp) (.cells #[.int .u8 (x / 67108864), .int .i64 (x / 4194304 % 16), .int .i64 (x / 262144 % 16), .int .i64 (0), .int .i64 (sgn (x % 16384) 8192)] 38)).trans (hb1.mono (by simp; omega))); clear hb1 B4))
  exact bodyPost_ret (v := .tuple #[.agg #[.int .u8 0, .int .i64 0, .int .i64 0, .int .i64 0, .int .i64 0], .int .i64 6]) (ret_row2 Tryd.results17 rfl (((((B2.out.set_ 0 (.int .u8 0)).set_ 1 (.int .i64 0)).set_ 2 (.int .i64 0)).set_ 3 (.int .i64 0)).set_ 4 (.int .i64 0)) Tryd.underlying38 isz) rfl
    ⟨rfl, (((((W2.out.setCell (p := ⟨w.heap.size, 0, none⟩) (Nat.le_refl _) (.int .u8 0)).setCell (p := ⟨w.heap.size, 1, none⟩) (Nat.le_refl _) (.int .i64 0)).setCell (p := ⟨w.heap.size, 2, none⟩) (Nat.le_refl _) (.int .i64 0)).setCell (p := ⟨w.heap.size, 3, none⟩) (Nat.le_refl _) (.int .i64 0)).setCell (p := ⟨w.heap.size, 4, none⟩) (Nat.le_refl _) (.int .i64 0))⟩
theorem take2_other (x y : Int) (hx0 : 0 ≤ x) (hx1 : x < 4294967296) (hk : tK x < 22) (hf : formN (tK x) = 2) (w : World) (hT : Tab w)
    (hp : ∀ w, Tab w → Calls Tryd.prog 25 #[.agg #[.int .u8 (x / 67108864), .int .i64 (x / 4194304 % 16), .int .i64 (x / 262144 % 16), .int .i64 (0), .int .i64 (sgn (x % 16384) 8192)]] w fun e w' => e = .returned (.tuple #[.int .u32 y, .int .i64 0]) ∧ Below w.heap.size w w')
    (hy : (y == x) = false) :
    Calls Tryd.prog 17 #[.int .u32 x] w fun e w' => e = .returned (.tuple #[.agg #[.int .u8 0, .int .i64 0, .int .i64 0, .int .i64 0, .int .i64 0], .int .i64 6]) ∧ Below w.heap.size w w' := by
  have hcell := hT.cell hk hf
  have hlt := hT.lt
  have m1 := PBits.u32_mask (x / 4194304) 4 15 (by omega) (by omega) (by omega) (by decide)
  have m2 := PBits.u32_mask (x / 262144) 4 15 (by omega) (by omega) (by omega) (by decide)
  have m3 := PBits.u32_mask (x / 16384) 4 15 (by omega) (by omega) (by omega) (by decide)
  simp only [show ((2 : Int) ^ 4) = 16 by decide] at m1 m2 m3
  unfold tK at hcell hk
  have k0 : 0 ≤ x / 67108864 := by omega
  have k1 : x / 67108864 < 22 := by omega
  have HP := hide hp
  have HT := hide (hT.below ((((Below.refl w.heap.size w).alloc (Nat.le_refl _) (.cells #[.int .u8 0, .int .i64 0, .int .i64 0, .int .i64 0, .int .i64 0] 38)).alloc (by simp) (.cells #[.int .u8 (x / 67108864), .int .i64 (x / 4194304 % 16), .int .i64 (x / 262144 % 16), .int .i64 (0), .int .i64 (sgn (x % 16384) 8192)] 38))))
  have S14 := hide (fun w => signed14 x hx0 hx1 w)
  have S22 := hide (fun w => signed22 x hx0 hx1 w)
  clear hf hT hp hk
  go_enter Tryd.func17, Tryd.ntmps17
  go_wp2_with (first
    | (go_at_call 23; refine (S14.out _).mono ?_; rintro e wx ⟨rfl, rfl⟩)
    | (go_at_call 24; refine (bits22 x _).mono ?_; rintro e wx ⟨rfl, rfl⟩)
    | (go_at_call 25; refine (HP.out _ HT.out).mono ?_; rintro e w1 ⟨rfl, hb1⟩; have B4 := (Blk.new_at (w.alloc (.cells #[.int .u8 0, .int .i64 0, .int .i64 0, .int .i64 0, .int .i64 0] 38)) 38 #[.int .u8 (x / 67108864), .int .i64 (x / 4194304 % 16), .int .i64 (x / 262144 % 16), .int .i64 (0), .int .i64 (sgn (x % 16384) 8192)] (N := w.heap.size + 1) (by simp)).below hb1 (by simp); have c4 := c5_of B4; have B2 := hide (((Blk.new w 38 #[.int .u8 0, .int .i64 0, .int .i64 0, .int .i64 0, .int .i64 0]).alloc (.cells #[.int .u8 (x / 67108864), .int .i64 (x / 4194304 % 16), .int .i64 (x / 262144 % 16), .int .i64 (0), .int .i64 (sgn (x % 16384) 8192)] 38)).below hb1 (by simp; omega)); have c2 := c5_of B2.out; have fz := fun i => B2.out.frozen i; have W2 := hide ((((Below.refl w.heap.size w).alloc (Nat.le_refl _) (.cells #[.int .u8 0, .int .i64 0, .int .i64 0, .int .i64 0, .int .i64 0] 38)).alloc (by simp) (.cells #[.int .u8 (x / 67108864), .int .i64 (x / 4194304 % 16), .int .i64 (x / 262144 % 16), .int .i64 (0), .int .i64 (sgn (x % 16384) 8192)] 38)).trans (hb1.mono (by simp; omega))); clear hb1 B4))
  exact bodyPost_ret (v := .tuple #[.agg #[.int .u8 0, .int .i64 0, .int .i64 0, .int .i64 0, .int .i64 0], .int .i64 6]) (ret_row2 Tryd.results17 rfl (((((B2.out.set_ 0 (.int .u8 0)).set_ 1 (.int .i64 0)).set_ 2 (.int .i64 0)).set_ 3 (.int .i64 0)).set_ 4 (.int .i64 0)) Tryd.underlying38 isz) rfl
    ⟨rfl, (((((W2.out.setCell (p := ⟨w.heap.size, 0, none⟩) (Nat.le_refl _) (.int .u8 0)).setCell (p := ⟨w.heap.size, 1, none⟩) (Nat.le_refl _) (.int .i64 0)).setCell (p := ⟨w.heap.size, 2, none⟩) (Nat.le_refl _) (.int .i64 0)).setCell (p := ⟨w.heap.size, 3, none⟩) (Nat.le_refl _) (.int .i64 0)).setCell (p := ⟨w.heap.size, 4, none⟩) (Nat.le_refl _) (.int .i64 0))⟩
theorem take2_ok (x : Int) (hx0 : 0 ≤ x) (hx1 : x < 4294967296) (hk : tK x < 22) (hf : formN (tK x) = 2) (w : World) (hT : Tab w)
    (hp : ∀ w, Tab w → Calls Tryd.prog 25 #[.agg #[.int .u8 (x / 67108864), .int .i64 (x / 4194304 % 16), .int .i64 (x / 262144 % 16), .int .i64 (0), .int .i64 (sgn (x % 16384) 8192)]] w fun e w' => e = .returned (.tuple #[.int .u32 x, .int .i64 0]) ∧ Below w.heap.size w w')
    :
    Calls Tryd.prog 17 #[.int .u32 x] w fun e w' => e = .returned (.tuple #[.agg #[.int .u8 (x / 67108864), .int .i64 (x / 4194304 % 16), .int .i64 (x / 262144 % 16), .int .i64 (0), .int .i64 (sgn (x % 16384) 8192)], .int .i64 0]) ∧ Below w.heap.size w w' := by
  have hcell := hT.cell hk hf
  have hlt := hT.lt
  have m1 := PBits.u32_mask (x / 4194304) 4 15 (by omega) (by omega) (by omega) (by decide)
  have m2 := PBits.u32_mask (x / 262144) 4 15 (by omega) (by omega) (by omega) (by decide)
  have m3 := PBits.u32_mask (x / 16384) 4 15 (by omega) (by omega) (by omega) (by decide)
  simp only [show ((2 : Int) ^ 4) = 16 by decide] at m1 m2 m3
  unfold tK at hcell hk
  have k0 : 0 ≤ x / 67108864 := by omega
  have k1 : x / 67108864 < 22 := by omega
  have HP := hide hp
  have HT := hide (hT.below ((((Below.refl w.heap.size w).alloc (Nat.le_refl _) (.cells #[.int .u8 0, .int .i64 0, .int .i64 0, .int .i64 0, .int .i64 0] 38)).alloc (by simp) (.cells #[.int .u8 (x / 67108864), .int .i64 (x / 4194304 % 16), .int .i64 (x / 262144 % 16), .int .i64 (0), .int .i64 (sgn (x % 16384) 8192)] 38))))
  have S14 := hide (fun w => signed14 x hx0 hx1 w)
  have S22 := hide (fun w => signed22 x hx0 hx1 w)
  clear hf hT hp hk
  go_enter Tryd.func17, Tryd.ntmps17
  go_wp2_with (first
    | (go_at_call 23; refine (S14.out _).mono ?_; rintro e wx ⟨rfl, rfl⟩)
    | (go_at_call 24; refine (bits22 x _).mono ?_; rintro e wx ⟨rfl, rfl⟩)
    | (go_at_call 25; refine (HP.out _ HT.out).mono ?_; rintro e w1 ⟨rfl, hb1⟩; have B4 := (Blk.new_at (w.alloc (.cells #[.int .u8 0, .int .i64 0, .int .i64 0, .int .i64 0, .int .i64 0] 38)) 38 #[.int .u8 (x / 67108864), .int .i64 (x / 4194304 % 16), .int .i64 (x / 262144 % 16), .int .i64 (0), .int .i64 (sgn (x % 16384) 8192)] (N := w.heap.size + 1) (by simp)).below hb1 (by simp); have c4 := c5_of B4; have B2 := hide (((Blk.new w 38 #[.int .u8 0, .int .i64 0, .int .i64 0, .int .i64 0, .int .i64 0]).alloc (.cells #[.int .u8 (x / 67108864), .int .i64 (x / 4194304 % 16), .int .i64 (x / 262144 % 16), .int .i64 (0), .int .i64 (sgn (x % 16384) 8192)] 38)).below hb1 (by simp; omega)); have c2 := c5_of B2.out; have fz := fun i => B2.out.frozen i; have W2 := hide ((((Below.refl w.heap.size w).alloc (Nat.le_refl _) (.cells #[.int .u8 0, .int .i64 0, .int .i64 0, .int .i64 0, .int .i64 0] 38)).alloc (by simp) (.cells #[.int .u8 (x / 67108864), .int .i64 (x / 4194304 % 16), .int .i64 (x / 262144 % 16), .int .i64 (0), .int .i64 (sgn (x % 16384) 8192)] 38)).trans (hb1.mono (by simp; omega))); clear hb1 B4))
  exact bodyPost_ret (v := .tuple #[.agg #[.int .u8 (x / 67108864), .int .i64 (x / 4194304 % 16), .int .i64 (x / 262144 % 16), .int .i64 (0), .int .i64 (sgn (x % 16384) 8192)], .int .i64 0]) (ret_row2 Tryd.results17 rfl (((((B2.out.set_ 0 (.int .u8 (x / 67108864))).set_ 1 (.int .i64 (x / 4194304 % 16))).set_ 2 (.int .i64 (x / 262144 % 16))).set_ 3 (.int .i64 (0))).set_ 4 (.int .i64 (sgn (x % 16384) 8192))) Tryd.underlying38 isz) rfl
    ⟨rfl, (((((W2.out.setCell (p := ⟨w.heap.size, 0, none⟩) (Nat.le_refl _) (.int .u8 (x / 67108864))).setCell (p := ⟨w.heap.size, 1, none⟩) (Nat.le_refl _) (.int .i64 (x / 4194304 % 16))).setCell (p := ⟨w.heap.size, 2, none⟩) (Nat.le_refl _) (.int .i64 (x / 262144 % 16))).setCell (p := ⟨w.heap.size, 3, none⟩) (Nat.le_refl _) (.int .i64 (0))).setCell (p := ⟨w.heap.size, 4, none⟩) (Nat.le_refl _) (.int .i64 (sgn (x % 16384) 8192)))⟩
theorem take2 (x : Int) (hx0 : 0 ≤ x) (hx1 : x < 4294967296) (hk : tK x < 22) (hf : formN (tK x) = 2) (w : World) (hT : Tab w) :
    Calls Tryd.prog 17 #[.int .u32 x] w fun e w' => e = .returned (.tuple #[takeV x, .int .i64 (takeE x)]) ∧ Below w.heap.size w w' := by
  have hA : tA (formN (tK x)) x = x / 4194304 % 16 := by simp [tA, hf]
  have hB : tB (formN (tK x)) x = x / 262144 % 16 := by simp [tB, hf]
  have hC : tC (formN (tK x)) x = 0 := by simp [tC, hf]
  have hN : tN (formN (tK x)) x = sgn (x % 16384) 8192 := by simp [tN, hf]
  have hK : ((tK x : Nat) : Int) = x / 67108864 := by unfold tK; omega
  have hI : isB x = (mayB (tK x) (x / 4194304 % 16) (x / 262144 % 16) (0) (sgn (x % 16384) 8192) && decide (word (tK x) (x / 4194304 % 16) (x / 262144 % 16) (0) (sgn (x % 16384) 8192) = x)) := by unfold isB; rw [hA, hB, hC, hN]
  have hp := fun w hT => put_any (tK x) (x / 4194304 % 16) (x / 262144 % 16) (0) (sgn (x % 16384) 8192) (by omega) w hT
  unfold code5 at hp
  rw [hK] at hp
  unfold takeV takeE code5
  rw [hA, hB, hC, hN, hI, hK]
  cases hm : mayB (tK x) (x / 4194304 % 16) (x / 262144 % 16) (0) (sgn (x % 16384) 8192)
  · rw [show putX (tK x) (x / 4194304 % 16) (x / 262144 % 16) (0) (sgn (x % 16384) 8192) = 0 by simp [putX, hm], show errX (tK x) (x / 4194304 % 16) (x / 262144 % 16) (0) (sgn (x % 16384) 8192) = 2 by simp [errX, hm]] at hp
    exact take2_bad x hx0 hx1 hk hf w hT hp
  · rw [show putX (tK x) (x / 4194304 % 16) (x / 262144 % 16) (0) (sgn (x % 16384) 8192) = word (tK x) (x / 4194304 % 16) (x / 262144 % 16) (0) (sgn (x % 16384) 8192) by simp [putX, hm], show errX (tK x) (x / 4194304 % 16) (x / 262144 % 16) (0) (sgn (x % 16384) 8192) = 0 by simp [errX, hm]] at hp
    by_cases he : word (tK x) (x / 4194304 % 16) (x / 262144 % 16) (0) (sgn (x % 16384) 8192) = x
    · rw [he] at hp ⊢
      rw [decide_eq_true (rfl : x = x)]
      exact take2_ok x hx0 hx1 hk hf w hT hp
    · rw [decide_eq_false he]
      exact take2_other x _ hx0 hx1 hk hf w hT hp (by rw [beq_eq_false_iff_ne]; exact he)
theorem take3_bad (x : Int) (hx0 : 0 ≤ x) (hx1 : x < 4294967296) (hk : tK x < 22) (hf : formN (tK x) = 3) (w : World) (hT : Tab w)
    (hp : ∀ w, Tab w → Calls Tryd.prog 25 #[.agg #[.int .u8 (x / 67108864), .int .i64 (x / 4194304 % 16), .int .i64 (0), .int .i64 (0), .int .i64 (sgn (x % 4194304) 2097152)]] w fun e w' => e = .returned (.tuple #[.int .u32 0, .int .i64 2]) ∧ Below w.heap.size w w')
    :
    Calls Tryd.prog 17 #[.int .u32 x] w fun e w' => e = .returned (.tuple #[.agg #[.int .u8 0, .int .i64 0, .int .i64 0, .int .i64 0, .int .i64 0], .int .i64 6]) ∧ Below w.heap.size w w' := by
  have hcell := hT.cell hk hf
  have hlt := hT.lt
  have m1 := PBits.u32_mask (x / 4194304) 4 15 (by omega) (by omega) (by omega) (by decide)
  have m2 := PBits.u32_mask (x / 262144) 4 15 (by omega) (by omega) (by omega) (by decide)
  have m3 := PBits.u32_mask (x / 16384) 4 15 (by omega) (by omega) (by omega) (by decide)
  simp only [show ((2 : Int) ^ 4) = 16 by decide] at m1 m2 m3
  unfold tK at hcell hk
  have k0 : 0 ≤ x / 67108864 := by omega
  have k1 : x / 67108864 < 22 := by omega
  have HP := hide hp
  have HT := hide (hT.below ((((Below.refl w.heap.size w).alloc (Nat.le_refl _) (.cells #[.int .u8 0, .int .i64 0, .int .i64 0, .int .i64 0, .int .i64 0] 38)).alloc (by simp) (.cells #[.int .u8 (x / 67108864), .int .i64 (x / 4194304 % 16), .int .i64 (0), .int .i64 (0), .int .i64 (sgn (x % 4194304) 2097152)] 38))))
  have S14 := hide (fun w => signed14 x hx0 hx1 w)
  have S22 := hide (fun w => signed22 x hx0 hx1 w)
  clear hf hT hp hk
  go_enter Tryd.func17, Tryd.ntmps17
  go_wp2_with (first
    | (go_at_call 23; refine (S22.out _).mono ?_; rintro e wx ⟨rfl, rfl⟩)
    | (go_at_call 24; refine (bits22 x _).mono ?_; rintro e wx ⟨rfl, rfl⟩)
    | (go_at_call 25; refine (HP.out _ HT.out).mono ?_; rintro e w1 ⟨rfl, hb1⟩; have B4 := (Blk.new_at (w.alloc (.cells #[.int .u8 0, .int .i64 0, .int .i64 0, .int .i64 0, .int .i64 0] 38)) 38 #[.int .u8 (x / 67108864), .int .i64 (x / 4194304 % 16), .int .i64 (0), .int .i64 (0), .int .i64 (sgn (x % 4194304) 2097152)] (N := w.heap.size + 1) (by simp)).below hb1 (by simp); have c4 := c5_of B4; have B2 := hide (((Blk.new w 38 #[.int .u8 0, .int .i64 0, .int .i64 0, .int .i64 0, .int .i64 0]).alloc (.cells #[.int .u8 (x / 67108864), .int .i64 (x / 4194304 % 16), .int .i64 (0), .int .i64 (0), .int .i64 (sgn (x % 4194304) 2097152)] 38)).below hb1 (by simp; omega)); have c2 := c5_of B2.out; have fz := fun i => B2.out.frozen i; have W2 := hide ((((Below.refl w.heap.size w).alloc (Nat.le_refl _) (.cells #[.int .u8 0, .int .i64 0, .int .i64 0, .int .i64 0, .int .i64 0] 38)).alloc (by simp) (.cells #[.int .u8 (x / 67108864), .int .i64 (x / 4194304 % 16), .int .i64 (0), .int .i64 (0), .int .i64 (sgn (x % 4194304) 2097152)] 38)).trans (hb1.mono (by simp; omega))); clear hb1 B4))
  exact bodyPost_ret (v := .tuple #[.agg #[.int .u8 0, .int .i64 0, .int .i64 0, .int .i64 0, .int .i64 0], .int .i64 6]) (ret_row2 Tryd.results17 rfl (((((B2.out.set_ 0 (.int .u8 0)).set_ 1 (.int .i64 0)).set_ 2 (.int .i64 0)).set_ 3 (.int .i64 0)).set_ 4 (.int .i64 0)) Tryd.underlying38 isz) rfl
    ⟨rfl, (((((W2.out.setCell (p := ⟨w.heap.size, 0, none⟩) (Nat.le_refl _) (.int .u8 0)).setCell (p := ⟨w.heap.size, 1, none⟩) (Nat.le_refl _) (.int .i64 0)).setCell (p := ⟨w.heap.size, 2, none⟩) (Nat.le_refl _) (.int .i64 0)).setCell (p := ⟨w.heap.size, 3, none⟩) (Nat.le_refl _) (.int .i64 0)).setCell (p := ⟨w.heap.size, 4, none⟩) (Nat.le_refl _) (.int .i64 0))⟩
theorem take3_other (x y : Int) (hx0 : 0 ≤ x) (hx1 : x < 4294967296) (hk : tK x < 22) (hf : formN (tK x) = 3) (w : World) (hT : Tab w)
    (hp : ∀ w, Tab w → Calls Tryd.prog 25 #[.agg #[.int .u8 (x / 67108864), .int .i64 (x / 4194304 % 16), .int .i64 (0), .int .i64 (0), .int .i64 (sgn (x % 4194304) 2097152)]] w fun e w' => e = .returned (.tuple #[.int .u32 y, .int .i64 0]) ∧ Below w.heap.size w w')
    (hy : (y == x) = false) :
    Calls Tryd.prog 17 #[.int .u32 x] w fun e w' => e = .returned (.tuple #[.agg #[.int .u8 0, .int .i64 0, .int .i64 0, .int .i64 0, .int .i64 0], .int .i64 6]) ∧ Below w.heap.size w w' := by
  have hcell := hT.cell hk hf
  have hlt := hT.lt
  have m1 := PBits.u32_mask (x / 4194304) 4 15 (by omega) (by omega) (by omega) (by decide)
  have m2 := PBits.u32_mask (x / 262144) 4 15 (by omega) (by omega) (by omega) (by decide)
  have m3 := PBits.u32_mask (x / 16384) 4 15 (by omega) (by omega) (by omega) (by decide)
  simp only [show ((2 : Int) ^ 4) = 16 by decide] at m1 m2 m3
  unfold tK at hcell hk
  have k0 : 0 ≤ x / 67108864 := by omega
  have k1 : x / 67108864 < 22 := by omega
  have HP := hide hp
  have HT := hide (hT.below ((((Below.refl w.heap.size w).alloc (Nat.le_refl _) (.cells #[.int .u8 0, .int .i64 0, .int .i64 0, .int .i64 0, .int .i64 0] 38)).alloc (by simp) (.cells #[.int .u8 (x / 67108864), .int .i64 (x / 4194304 % 16), .int .i64 (0), .int .i64 (0), .int .i64 (sgn (x % 4194304) 2097152)] 38))))
  have S14 := hide (fun w => signed14 x hx0 hx1 w)
  have S22 := hide (fun w => signed22 x hx0 hx1 w)
  clear hf hT hp hk
  go_enter Tryd.func17, Tryd.ntmps17
  go_wp2_with (first
    | (go_at_call 23; refine (S22.out _).mono ?_; rintro e wx ⟨rfl, rfl⟩)
    | (go_at_call 24; refine (bits22 x _).mono ?_; rintro e wx ⟨rfl, rfl⟩)
    | (go_at_call 25; refine (HP.out _ HT.out).mono ?_; rintro e w1 ⟨rfl, hb1⟩; have B4 := (Blk.new_at (w.alloc (.cells #[.int .u8 0, .int .i64 0, .int .i64 0, .int .i64 0, .int .i64 0] 38)) 38 #[.int .u8 (x / 67108864), .int .i64 (x / 4194304 % 16), .int .i64 (0), .int .i64 (0), .int .i64 (sgn (x % 4194304) 2097152)] (N := w.heap.size + 1) (by simp)).below hb1 (by simp); have c4 := c5_of B4; have B2 := hide (((Blk.new w 38 #[.int .u8 0, .int .i64 0, .int .i64 0, .int .i64 0, .int .i64 0]).alloc (.cells #[.int .u8 (x / 67108864), .int .i64 (x / 4194304 % 16), .int .i64 (0), .int .i64 (0), .int .i64 (sgn (x % 4194304) 2097152)] 38)).below hb1 (by simp; omega)); have c2 := c5_of B2.out; have fz := fun i => B2.out.frozen i; have W2 := hide ((((Below.refl w.heap.size w).alloc (Nat.le_refl _) (.cells #[.int .u8 0, .int .i64 0, .int .i64 0, .int .i64 0, .int .i64 0] 38)).alloc (by simp) (.cells #[.int .u8 (x / 67108864), .int .i64 (x / 4194304 % 16), .int .i64 (0), .int .i64 (0), .int .i64 (sgn (x % 4194304) 2097152)] 38)).trans (hb1.mono (by simp; omega))); clear hb1 B4))
  exact bodyPost_ret (v := .tuple #[.agg #[.int .u8 0, .int .i64 0, .int .i64 0, .int .i64 0, .int .i64 0], .int .i64 6]) (ret_row2 Tryd.results17 rfl (((((B2.out.set_ 0 (.int .u8 0)).set_ 1 (.int .i64 0)).set_ 2 (.int .i64 0)).set_ 3 (.int .i64 0)).set_ 4 (.int .i64 0)) Tryd.underlying38 isz) rfl
    ⟨rfl, (((((W2.out.setCell (p := ⟨w.heap.size, 0, none⟩) (Nat.le_refl _) (.int .u8 0)).setCell (p := ⟨w.heap.size, 1, none⟩) (Nat.le_refl _) (.int .i64 0)).setCell (p := ⟨w.heap.size, 2, none⟩) (Nat.le_refl _) (.int .i64 0)).setCell (p := ⟨w.heap.size, 3, none⟩) (Nat.le_refl _) (.int .i64 0)).setCell (p := ⟨w.heap.size, 4, none⟩) (Nat.le_refl _) (.int .i64 0))⟩
theorem take3_ok (x : Int) (hx0 : 0 ≤ x) (hx1 : x < 4294967296) (hk : tK x < 22) (hf : formN (tK x) = 3) (w : World) (hT : Tab w)
    (hp : ∀ w, Tab w → Calls Tryd.prog 25 #[.agg #[.int .u8 (x / 67108864), .int .i64 (x / 4194304 % 16), .int .i64 (0), .int .i64 (0), .int .i64 (sgn (x % 4194304) 2097152)]] w fun e w' => e = .returned (.tuple #[.int .u32 x, .int .i64 0]) ∧ Below w.heap.size w w')
    :
    Calls Tryd.prog 17 #[.int .u32 x] w fun e w' => e = .returned (.tuple #[.agg #[.int .u8 (x / 67108864), .int .i64 (x / 4194304 % 16), .int .i64 (0), .int .i64 (0), .int .i64 (sgn (x % 4194304) 2097152)], .int .i64 0]) ∧ Below w.heap.size w w' := by
  have hcell := hT.cell hk hf
  have hlt := hT.lt
  have m1 := PBits.u32_mask (x / 4194304) 4 15 (by omega) (by omega) (by omega) (by decide)
  have m2 := PBits.u32_mask (x / 262144) 4 15 (by omega) (by omega) (by omega) (by decide)
  have m3 := PBits.u32_mask (x / 16384) 4 15 (by omega) (by omega) (by omega) (by decide)
  simp only [show ((2 : Int) ^ 4) = 16 by decide] at m1 m2 m3
  unfold tK at hcell hk
  have k0 : 0 ≤ x / 67108864 := by omega
  have k1 : x / 67108864 < 22 := by omega
  have HP := hide hp
  have HT := hide (hT.below ((((Below.refl w.heap.size w).alloc (Nat.le_refl _) (.cells #[.int .u8 0, .int .i64 0, .int .i64 0, .int .i64 0, .int .i64 0] 38)).alloc (by simp) (.cells #[.int .u8 (x / 67108864), .int .i64 (x / 4194304 % 16), .int .i64 (0), .int .i64 (0), .int .i64 (sgn (x % 4194304) 2097152)] 38))))
  have S14 := hide (fun w => signed14 x hx0 hx1 w)
  have S22 := hide (fun w => signed22 x hx0 hx1 w)
  clear hf hT hp hk
  go_enter Tryd.func17, Tryd.ntmps17
  go_wp2_with (first
    | (go_at_call 23; refine (S22.out _).mono ?_; rintro e wx ⟨rfl, rfl⟩)
    | (go_at_call 24; refine (bits22 x _).mono ?_; rintro e wx ⟨rfl, rfl⟩)
    | (go_at_call 25; refine (HP.out _ HT.out).mono ?_; rintro e w1 ⟨rfl, hb1⟩; have B4 := (Blk.new_at (w.alloc (.cells #[.int .u8 0, .int .i64 0, .int .i64 0, .int .i64 0, .int .i64 0] 38)) 38 #[.int .u8 (x / 67108864), .int .i64 (x / 4194304 % 16), .int .i64 (0), .int .i64 (0), .int .i64 (sgn (x % 4194304) 2097152)] (N := w.heap.size + 1) (by simp)).below hb1 (by simp); have c4 := c5_of B4; have B2 := hide (((Blk.new w 38 #[.int .u8 0, .int .i64 0, .int .i64 0, .int .i64 0, .int .i64 0]).alloc (.cells #[.int .u8 (x / 67108864), .int .i64 (x / 4194304 % 16), .int .i64 (0), .int .i64 (0), .int .i64 (sgn (x % 4194304) 2097152)] 38)).below hb1 (by simp; omega)); have c2 := c5_of B2.out; have fz := fun i => B2.out.frozen i; have W2 := hide ((((Below.refl w.heap.size w).alloc (Nat.le_refl _) (.cells #[.int .u8 0, .int .i64 0, .int .i64 0, .int .i64 0, .int .i64 0] 38)).alloc (by simp) (.cells #[.int .u8 (x / 67108864), .int .i64 (x / 4194304 % 16), .int .i64 (0), .int .i64 (0), .int .i64 (sgn (x % 4194304) 2097152)] 38)).trans (hb1.mono (by simp; omega))); clear hb1 B4))
  exact bodyPost_ret (v := .tuple #[.agg #[.int .u8 (x / 67108864), .int .i64 (x / 4194304 % 16), .int .i64 (0), .int .i64 (0), .int .i64 (sgn (x % 4194304) 2097152)], .int .i64 0]) (ret_row2 Tryd.results17 rfl (((((B2.out.set_ 0 (.int .u8 (x / 67108864))).set_ 1 (.int .i64 (x / 4194304 % 16))).set_ 2 (.int .i64 (0))).set_ 3 (.int .i64 (0))).set_ 4 (.int .i64 (sgn (x % 4194304) 2097152))) Tryd.underlying38 isz) rfl
    ⟨rfl, (((((W2.out.setCell (p := ⟨w.heap.size, 0, none⟩) (Nat.le_refl _) (.int .u8 (x / 67108864))).setCell (p := ⟨w.heap.size, 1, none⟩) (Nat.le_refl _) (.int .i64 (x / 4194304 % 16))).setCell (p := ⟨w.heap.size, 2, none⟩) (Nat.le_refl _) (.int .i64 (0))).setCell (p := ⟨w.heap.size, 3, none⟩) (Nat.le_refl _) (.int .i64 (0))).setCell (p := ⟨w.heap.size, 4, none⟩) (Nat.le_refl _) (.int .i64 (sgn (x % 4194304) 2097152)))⟩
theorem take3 (x : Int) (hx0 : 0 ≤ x) (hx1 : x < 4294967296) (hk : tK x < 22) (hf : formN (tK x) = 3) (w : World) (hT : Tab w) :
    Calls Tryd.prog 17 #[.int .u32 x] w fun e w' => e = .returned (.tuple #[takeV x, .int .i64 (takeE x)]) ∧ Below w.heap.size w w' := by
  have hA : tA (formN (tK x)) x = x / 4194304 % 16 := by simp [tA, hf]
  have hB : tB (formN (tK x)) x = 0 := by simp [tB, hf]
  have hC : tC (formN (tK x)) x = 0 := by simp [tC, hf]
  have hN : tN (formN (tK x)) x = sgn (x % 4194304) 2097152 := by simp [tN, hf]
  have hK : ((tK x : Nat) : Int) = x / 67108864 := by unfold tK; omega
  have hI : isB x = (mayB (tK x) (x / 4194304 % 16) (0) (0) (sgn (x % 4194304) 2097152) && decide (word (tK x) (x / 4194304 % 16) (0) (0) (sgn (x % 4194304) 2097152) = x)) := by unfold isB; rw [hA, hB, hC, hN]
  have hp := fun w hT => put_any (tK x) (x / 4194304 % 16) (0) (0) (sgn (x % 4194304) 2097152) (by omega) w hT
  unfold code5 at hp
  rw [hK] at hp
  unfold takeV takeE code5
  rw [hA, hB, hC, hN, hI, hK]
  cases hm : mayB (tK x) (x / 4194304 % 16) (0) (0) (sgn (x % 4194304) 2097152)
  · rw [show putX (tK x) (x / 4194304 % 16) (0) (0) (sgn (x % 4194304) 2097152) = 0 by simp [putX, hm], show errX (tK x) (x / 4194304 % 16) (0) (0) (sgn (x % 4194304) 2097152) = 2 by simp [errX, hm]] at hp
    exact take3_bad x hx0 hx1 hk hf w hT hp
  · rw [show putX (tK x) (x / 4194304 % 16) (0) (0) (sgn (x % 4194304) 2097152) = word (tK x) (x / 4194304 % 16) (0) (0) (sgn (x % 4194304) 2097152) by simp [putX, hm], show errX (tK x) (x / 4194304 % 16) (0) (0) (sgn (x % 4194304) 2097152) = 0 by simp [errX, hm]] at hp
    by_cases he : word (tK x) (x / 4194304 % 16) (0) (0) (sgn (x % 4194304) 2097152) = x
    · rw [he] at hp ⊢
      rw [decide_eq_true (rfl : x = x)]
      exact take3_ok x hx0 hx1 hk hf w hT hp
    · rw [decide_eq_false he]
      exact take3_other x _ hx0 hx1 hk hf w hT hp (by rw [beq_eq_false_iff_ne]; exact he)
theorem take4_bad (x : Int) (hx0 : 0 ≤ x) (hx1 : x < 4294967296) (hk : tK x < 22) (hf : formN (tK x) = 4) (w : World) (hT : Tab w)
    (hp : ∀ w, Tab w → Calls Tryd.prog 25 #[.agg #[.int .u8 (x / 67108864), .int .i64 (0), .int .i64 (0), .int .i64 (0), .int .i64 (sgn (x % 4194304) 2097152)]] w fun e w' => e = .returned (.tuple #[.int .u32 0, .int .i64 2]) ∧ Below w.heap.size w w')
    :
    Calls Tryd.prog 17 #[.int .u32 x] w fun e w' => e = .returned (.tuple #[.agg #[.int .u8 0, .int .i64 0, .int .i64 0, .int .i64 0, .int .i64 0], .int .i64 6]) ∧ Below w.heap.size w w' := by
  have hcell := hT.cell hk hf
  have hlt := hT.lt
  have m1 := PBits.u32_mask (x / 4194304) 4 15 (by omega) (by omega) (by omega) (by decide)
  have m2 := PBits.u32_mask (x / 262144) 4 15 (by omega) (by omega) (by omega) (by decide)
  have m3 := PBits.u32_mask (x / 16384) 4 15 (by omega) (by omega) (by omega) (by decide)
  simp only [show ((2 : Int) ^ 4) = 16 by decide] at m1 m2 m3
  unfold tK at hcell hk
  have k0 : 0 ≤ x / 67108864 := by omega
  have k1 : x / 67108864 < 22 := by omega
  have HP := hide hp
  have HT := hide (hT.below ((((Below.refl w.heap.size w).alloc (Nat.le_refl _) (.cells #[.int .u8 0, .int .i64 0, .int .i64 0, .int .i64 0, .int .i64 0] 38)).alloc (by simp) (.cells #[.int .u8 (x / 67108864), .int .i64 (0), .int .i64 (0), .int .i64 (0), .int .i64 (sgn (x % 4194304) 2097152)] 38))))
  have S14 := hide (fun w => signed14 x hx0 hx1 w)
  have S22 := hide (fun w => signed22 x hx0 hx1 w)
  clear hf hT hp hk
  go_enter Tryd.func17, Tryd.ntmps17
  go_wp2_with (first
    | (go_at_call 23; refine (S22.out _).mono ?_; rintro e wx ⟨rfl, rfl⟩)
    | (go_at_call 24; refine (bits22 x _).mono ?_; rintro e wx ⟨rfl, rfl⟩)
    | (go_at_call 25; refine (HP.out _ HT.out).mono ?_; rintro e w1 ⟨rfl, hb1⟩; have B4 := (Blk.new_at (w.alloc (.cells #[.int .u8 0, .int .i64 0, .int .i64 0, .int .i64 0, .int .i64 0] 38)) 38 #[.int .u8 (x / 67108864), .int .i64 (0), .int .i64 (0), .int .i64 (0), .int .i64 (sgn (x % 4194304) 2097152)] (N := w.heap.size + 1) (by simp)).below hb1 (by simp); have c4 := c5_of B4; have B2 := hide (((Blk.new w 38 #[.int .u8 0, .int .i64 0, .int .i64 0, .int .i64 0, .int .i64 0]).alloc (.cells #[.int .u8 (x / 67108864), .int .i64 (0), .int .i64 (0), .int .i64 (0), .int .i64 (sgn (x % 4194304) 2097152)] 38)).below hb1 (by simp; omega)); have c2 := c5_of B2.out; have fz := fun i => B2.out.frozen i; have W2 := hide ((((Below.refl w.heap.size w).alloc (Nat.le_refl _) (.cells #[.int .u8 0, .int .i64 0, .int .i64 0, .int .i64 0, .int .i64 0] 38)).alloc (by simp) (.cells #[.int .u8 (x / 67108864), .int .i64 (0), .int .i64 (0), .int .i64 (0), .int .i64 (sgn (x % 4194304) 2097152)] 38)).trans (hb1.mono (by simp; omega))); clear hb1 B4))
  exact bodyPost_ret (v := .tuple #[.agg #[.int .u8 0, .int .i64 0, .int .i64 0, .int .i64 0, .int .i64 0], .int .i64 6]) (ret_row2 Tryd.results17 rfl (((((B2.out.set_ 0 (.int .u8 0)).set_ 1 (.int .i64 0)).set_ 2 (.int .i64 0)).set_ 3 (.int .i64 0)).set_ 4 (.int .i64 0)) Tryd.underlying38 isz) rfl
    ⟨rfl, (((((W2.out.setCell (p := ⟨w.heap.size, 0, none⟩) (Nat.le_refl _) (.int .u8 0)).setCell (p := ⟨w.heap.size, 1, none⟩) (Nat.le_refl _) (.int .i64 0)).setCell (p := ⟨w.heap.size, 2, none⟩) (Nat.le_refl _) (.int .i64 0)).setCell (p := ⟨w.heap.size, 3, none⟩) (Nat.le_refl _) (.int .i64 0)).setCell (p := ⟨w.heap.size, 4, none⟩) (Nat.le_refl _) (.int .i64 0))⟩
theorem take4_other (x y : Int) (hx0 : 0 ≤ x) (hx1 : x < 4294967296) (hk : tK x < 22) (hf : formN (tK x) = 4) (w : World) (hT : Tab w)
    (hp : ∀ w, Tab w → Calls Tryd.prog 25 #[.agg #[.int .u8 (x / 67108864), .int .i64 (0), .int .i64 (0), .int .i64 (0), .int .i64 (sgn (x % 4194304) 2097152)]] w fun e w' => e = .returned (.tuple #[.int .u32 y, .int .i64 0]) ∧ Below w.heap.size w w')
    (hy : (y == x) = false) :
    Calls Tryd.prog 17 #[.int .u32 x] w fun e w' => e = .returned (.tuple #[.agg #[.int .u8 0, .int .i64 0, .int .i64 0, .int .i64 0, .int .i64 0], .int .i64 6]) ∧ Below w.heap.size w w' := by
  have hcell := hT.cell hk hf
  have hlt := hT.lt
  have m1 := PBits.u32_mask (x / 4194304) 4 15 (by omega) (by omega) (by omega) (by decide)
  have m2 := PBits.u32_mask (x / 262144) 4 15 (by omega) (by omega) (by omega) (by decide)
  have m3 := PBits.u32_mask (x / 16384) 4 15 (by omega) (by omega) (by omega) (by decide)
  simp only [show ((2 : Int) ^ 4) = 16 by decide] at m1 m2 m3
  unfold tK at hcell hk
  have k0 : 0 ≤ x / 67108864 := by omega
  have k1 : x / 67108864 < 22 := by omega
  have HP := hide hp
  have HT := hide (hT.below ((((Below.refl w.heap.size w).alloc (Nat.le_refl _) (.cells #[.int .u8 0, .int .i64 0, .int .i64 0, .int .i64 0, .int .i64 0] 38)).alloc (by simp) (.cells #[.int .u8 (x / 67108864), .int .i64 (0), .int .i64 (0), .int .i64 (0), .int .i64 (sgn (x % 4194304) 2097152)] 38))))
  have S14 := hide (fun w => signed14 x hx0 hx1 w)
  have S22 := hide (fun w => signed22 x hx0 hx1 w)
  clear hf hT hp hk
  go_enter Tryd.func17, Tryd.ntmps17
  go_wp2_with (first
    | (go_at_call 23; refine (S22.out _).mono ?_; rintro e wx ⟨rfl, rfl⟩)
    | (go_at_call 24; refine (bits22 x _).mono ?_; rintro e wx ⟨rfl, rfl⟩)
    | (go_at_call 25; refine (HP.out _ HT.out).mono ?_; rintro e w1 ⟨rfl, hb1⟩; have B4 := (Blk.new_at (w.alloc (.cells #[.int .u8 0, .int .i64 0, .int .i64 0, .int .i64 0, .int .i64 0] 38)) 38 #[.int .u8 (x / 67108864), .int .i64 (0), .int .i64 (0), .int .i64 (0), .int .i64 (sgn (x % 4194304) 2097152)] (N := w.heap.size + 1) (by simp)).below hb1 (by simp); have c4 := c5_of B4; have B2 := hide (((Blk.new w 38 #[.int .u8 0, .int .i64 0, .int .i64 0, .int .i64 0, .int .i64 0]).alloc (.cells #[.int .u8 (x / 67108864), .int .i64 (0), .int .i64 (0), .int .i64 (0), .int .i64 (sgn (x % 4194304) 2097152)] 38)).below hb1 (by simp; omega)); have c2 := c5_of B2.out; have fz := fun i => B2.out.frozen i; have W2 := hide ((((Below.refl w.heap.size w).alloc (Nat.le_refl _) (.cells #[.int .u8 0, .int .i64 0, .int .i64 0, .int .i64 0, .int .i64 0] 38)).alloc (by simp) (.cells #[.int .u8 (x / 67108864), .int .i64 (0), .int .i64 (0), .int .i64 (0), .int .i64 (sgn (x % 4194304) 2097152)] 38)).trans (hb1.mono (by simp; omega))); clear hb1 B4))
  exact bodyPost_ret (v := .tuple #[.agg #[.int .u8 0, .int .i64 0, .int .i64 0, .int .i64 0, .int .i64 0], .int .i64 6]) (ret_row2 Tryd.results17 rfl (((((B2.out.set_ 0 (.int .u8 0)).set_ 1 (.int .i64 0)).set_ 2 (.int .i64 0)).set_ 3 (.int .i64 0)).set_ 4 (.int .i64 0)) Tryd.underlying38 isz) rfl
    ⟨rfl, (((((W2.out.setCell (p := ⟨w.heap.size, 0, none⟩) (Nat.le_refl _) (.int .u8 0)).setCell (p := ⟨w.heap.size, 1, none⟩) (Nat.le_refl _) (.int .i64 0)).setCell (p := ⟨w.heap.size, 2, none⟩) (Nat.le_refl _) (.int .i64 0)).setCell (p := ⟨w.heap.size, 3, none⟩) (Nat.le_refl _) (.int .i64 0)).setCell (p := ⟨w.heap.size, 4, none⟩) (Nat.le_refl _) (.int .i64 0))⟩
theorem take4_ok (x : Int) (hx0 : 0 ≤ x) (hx1 : x < 4294967296) (hk : tK x < 22) (hf : formN (tK x) = 4) (w : World) (hT : Tab w)
    (hp : ∀ w, Tab w → Calls Tryd.prog 25 #[.agg #[.int .u8 (x / 67108864), .int .i64 (0), .int .i64 (0), .int .i64 (0), .int .i64 (sgn (x % 4194304) 2097152)]] w fun e w' => e = .returned (.tuple #[.int .u32 x, .int .i64 0]) ∧ Below w.heap.size w w')
    :
    Calls Tryd.prog 17 #[.int .u32 x] w fun e w' => e = .returned (.tuple #[.agg #[.int .u8 (x / 67108864), .int .i64 (0), .int .i64 (0), .int .i64 (0), .int .i64 (sgn (x % 4194304) 2097152)], .int .i64 0]) ∧ Below w.heap.size w w' := by
  have hcell := hT.cell hk hf
  have hlt := hT.lt
  have m1 := PBits.u32_mask (x / 4194304) 4 15 (by omega) (by omega) (by omega) (by decide)
  have m2 := PBits.u32_mask (x / 262144) 4 15 (by omega) (by omega) (by omega) (by decide)
  have m3 := PBits.u32_mask (x / 16384) 4 15 (by omega) (by omega) (by omega) (by decide)
  simp only [show ((2 : Int) ^ 4) = 16 by decide] at m1 m2 m3
  unfold tK at hcell hk
  have k0 : 0 ≤ x / 67108864 := by omega
  have k1 : x / 67108864 < 22 := by omega
  have HP := hide hp
  have HT := hide (hT.below ((((Below.refl w.heap.size w).alloc (Nat.le_refl _) (.cells #[.int .u8 0, .int .i64 0, .int .i64 0, .int .i64 0, .int .i64 0] 38)).alloc (by simp) (.cells #[.int .u8 (x / 67108864), .int .i64 (0), .int .i64 (0), .int .i64 (0), .int .i64 (sgn (x % 4194304) 2097152)] 38))))
  have S14 := hide (fun w => signed14 x hx0 hx1 w)
  have S22 := hide (fun w => signed22 x hx0 hx1 w)
  clear hf hT hp hk
  go_enter Tryd.func17, Tryd.ntmps17
  go_wp2_with (first
    | (go_at_call 23; refine (S22.out _).mono ?_; rintro e wx ⟨rfl, rfl⟩)
    | (go_at_call 24; refine (bits22 x _).mono ?_; rintro e wx ⟨rfl, rfl⟩)
    | (go_at_call 25; refine (HP.out _ HT.out).mono ?_; rintro e w1 ⟨rfl, hb1⟩; have B4 := (Blk.new_at (w.alloc (.cells #[.int .u8 0, .int .i64 0, .int .i64 0, .int .i64 0, .int .i64 0] 38)) 38 #[.int .u8 (x / 67108864), .int .i64 (0), .int .i64 (0), .int .i64 (0), .int .i64 (sgn (x % 4194304) 2097152)] (N := w.heap.size + 1) (by simp)).below hb1 (by simp); have c4 := c5_of B4; have B2 := hide (((Blk.new w 38 #[.int .u8 0, .int .i64 0, .int .i64 0, .int .i64 0, .int .i64 0]).alloc (.cells #[.int .u8 (x / 67108864), .int .i64 (0), .int .i64 (0), .int .i64 (0), .int .i64 (sgn (x % 4194304) 2097152)] 38)).below hb1 (by simp; omega)); have c2 := c5_of B2.out; have fz := fun i => B2.out.frozen i; have W2 := hide ((((Below.refl w.heap.size w).alloc (Nat.le_refl _) (.cells #[.int .u8 0, .int .i64 0, .int .i64 0, .int .i64 0, .int .i64 0] 38)).alloc (by simp) (.cells #[.int .u8 (x / 67108864), .int .i64 (0), .int .i64 (0), .int .i64 (0), .int .i64 (sgn (x % 4194304) 2097152)] 38)).trans (hb1.mono (by simp; omega))); clear hb1 B4))
  exact bodyPost_ret (v := .tuple #[.agg #[.int .u8 (x / 67108864), .int .i64 (0), .int .i64 (0), .int .i64 (0), .int .i64 (sgn (x % 4194304) 2097152)], .int .i64 0]) (ret_row2 Tryd.results17 rfl (((((B2.out.set_ 0 (.int .u8 (x / 67108864))).set_ 1 (.int .i64 (0))).set_ 2 (.int .i64 (0))).set_ 3 (.int .i64 (0))).set_ 4 (.int .i64 (sgn (x % 4194304) 2097152))) Tryd.underlying38 isz) rfl
    ⟨rfl, (((((W2.out.setCell (p := ⟨w.heap.size, 0, none⟩) (Nat.le_refl _) (.int .u8 (x / 67108864))).setCell (p := ⟨w.heap.size, 1, none⟩) (Nat.le_refl _) (.int .i64 (0))).setCell (p := ⟨w.heap.size, 2, none⟩) (Nat.le_refl _) (.int .i64 (0))).setCell (p := ⟨w.heap.size, 3, none⟩) (Nat.le_refl _) (.int .i64 (0))).setCell (p := ⟨w.heap.size, 4, none⟩) (Nat.le_refl _) (.int .i64 (sgn (x % 4194304) 2097152)))⟩
theorem take4 (x : Int) (hx0 : 0 ≤ x) (hx1 : x < 4294967296) (hk : tK x < 22) (hf : formN (tK x) = 4) (w : World) (hT : Tab w) :
    Calls Tryd.prog 17 #[.int .u32 x] w fun e w' => e = .returned (.tuple #[takeV x, .int .i64 (takeE x)]) ∧ Below w.heap.size w w' := by
  have hA : tA (formN (tK x)) x = 0 := by simp [tA, hf]
  have hB : tB (formN (tK x)) x = 0 := by simp [tB, hf]
  have hC : tC (formN (tK x)) x = 0 := by simp [tC, hf]
  have hN : tN (formN (tK x)) x = sgn (x % 4194304) 2097152 := by simp [tN, hf]
  have hK : ((tK x : Nat) : Int) = x / 67108864 := by unfold tK; omega
  have hI : isB x = (mayB (tK x) (0) (0) (0) (sgn (x % 4194304) 2097152) && decide (word (tK x) (0) (0) (0) (sgn (x % 4194304) 2097152) = x)) := by unfold isB; rw [hA, hB, hC, hN]
  have hp := fun w hT => put_any (tK x) (0) (0) (0) (sgn (x % 4194304) 2097152) (by omega) w hT
  unfold code5 at hp
  rw [hK] at hp
  unfold takeV takeE code5
  rw [hA, hB, hC, hN, hI, hK]
  cases hm : mayB (tK x) (0) (0) (0) (sgn (x % 4194304) 2097152)
  · rw [show putX (tK x) (0) (0) (0) (sgn (x % 4194304) 2097152) = 0 by simp [putX, hm], show errX (tK x) (0) (0) (0) (sgn (x % 4194304) 2097152) = 2 by simp [errX, hm]] at hp
    exact take4_bad x hx0 hx1 hk hf w hT hp
  · rw [show putX (tK x) (0) (0) (0) (sgn (x % 4194304) 2097152) = word (tK x) (0) (0) (0) (sgn (x % 4194304) 2097152) by simp [putX, hm], show errX (tK x) (0) (0) (0) (sgn (x % 4194304) 2097152) = 0 by simp [errX, hm]] at hp
    by_cases he : word (tK x) (0) (0) (0) (sgn (x % 4194304) 2097152) = x
    · rw [he] at hp ⊢
      rw [decide_eq_true (rfl : x = x)]
      exact take4_ok x hx0 hx1 hk hf w hT hp
    · rw [decide_eq_false he]
      exact take4_other x _ hx0 hx1 hk hf w hT hp (by rw [beq_eq_false_iff_ne]; exact he)
theorem take5_bad (x : Int) (hx0 : 0 ≤ x) (hx1 : x < 4294967296) (hk : tK x < 22) (hf : formN (tK x) = 5) (w : World) (hT : Tab w)
    (hp : ∀ w, Tab w → Calls Tryd.prog 25 #[.agg #[.int .u8 (x / 67108864), .int .i64 (0), .int .i64 (0), .int .i64 (0), .int .i64 (x % 4194304)]] w fun e w' => e = .returned (.tuple #[.int .u32 0, .int .i64 2]) ∧ Below w.heap.size w w')
    :
    Calls Tryd.prog 17 #[.int .u32 x] w fun e w' => e = .returned (.tuple #[.agg #[.int .u8 0, .int .i64 0, .int .i64 0, .int .i64 0, .int .i64 0], .int .i64 6]) ∧ Below w.heap.size w w' := by
  have hcell := hT.cell hk hf
  have hlt := hT.lt
  have m1 := PBits.u32_mask (x / 4194304) 4 15 (by omega) (by omega) (by omega) (by decide)
  have m2 := PBits.u32_mask (x / 262144) 4 15 (by omega) (by omega) (by omega) (by decide)
  have m3 := PBits.u32_mask (x / 16384) 4 15 (by omega) (by omega) (by omega) (by decide)
  simp only [show ((2 : Int) ^ 4) = 16 by decide] at m1 m2 m3
  unfold tK at hcell hk
  have k0 : 0 ≤ x / 67108864 := by omega
  have k1 : x / 67108864 < 22 := by omega
  have HP := hide hp
  have HT := hide (hT.below ((((Below.refl w.heap.size w).alloc (Nat.le_refl _) (.cells #[.int .u8 0, .int .i64 0, .int .i64 0, .int .i64 0, .int .i64 0] 38)).alloc (by simp) (.cells #[.int .u8 (x / 67108864), .int .i64 (0), .int .i64 (0), .int .i64 (0), .int .i64 (x % 4194304)] 38))))
  have S14 := hide (fun w => signed14 x hx0 hx1 w)
  have S22 := hide (fun w => signed22 x hx0 hx1 w)
  clear hf hT hp hk
  go_enter Tryd.func17, Tryd.ntmps17
  go_wp2_with (first
    | (go_at_call 23; refine (S22.out _).mono ?_; rintro e wx ⟨rfl, rfl⟩)
    | (go_at_call 24; refine (bits22 x _).mono ?_; rintro e wx ⟨rfl, rfl⟩)
    | (go_at_call 25; refine (HP.out _ HT.out).mono ?_; rintro e w1 ⟨rfl, hb1⟩; have B4 := (Blk.new_at (w.alloc (.cells #[.int .u8 0, .int .i64 0, .int .i64 0, .int .i64 0, .int .i64 0] 38)) 38 #[.int .u8 (x / 67108864), .int .i64 (0), .int .i64 (0), .int .i64 (0), .int .i64 (x % 4194304)] (N := w.heap.size + 1) (by simp)).below hb1 (by simp); have c4 := c5_of B4; have B2 := hide (((Blk.new w 38 #[.int .u8 0, .int .i64 0, .int .i64 0, .int .i64 0, .int .i64 0]).alloc (.cells #[.int .u8 (x / 67108864), .int .i64 (0), .int .i64 (0), .int .i64 (0), .int .i64 (x % 4194304)] 38)).below hb1 (by simp; omega)); have c2 := c5_of B2.out; have fz := fun i => B2.out.frozen i; have W2 := hide ((((Below.refl w.heap.size w).alloc (Nat.le_refl _) (.cells #[.int .u8 0, .int .i64 0, .int .i64 0, .int .i64 0, .int .i64 0] 38)).alloc (by simp) (.cells #[.int .u8 (x / 67108864), .int .i64 (0), .int .i64 (0), .int .i64 (0), .int .i64 (x % 4194304)] 38)).trans (hb1.mono (by simp; omega))); clear hb1 B4))
  exact bodyPost_ret (v := .tuple #[.agg #[.int .u8 0, .int .i64 0, .int .i64 0, .int .i64 0, .int .i64 0], .int .i64 6]) (ret_row2 Tryd.results17 rfl (((((B2.out.set_ 0 (.int .u8 0)).set_ 1 (.int .i64 0)).set_ 2 (.int .i64 0)).set_ 3 (.int .i64 0)).set_ 4 (.int .i64 0)) Tryd.underlying38 isz) rfl
    ⟨rfl, (((((W2.out.setCell (p := ⟨w.heap.size, 0, none⟩) (Nat.le_refl _) (.int .u8 0)).setCell (p := ⟨w.heap.size, 1, none⟩) (Nat.le_refl _) (.int .i64 0)).setCell (p := ⟨w.heap.size, 2, none⟩) (Nat.le_refl _) (.int .i64 0)).setCell (p := ⟨w.heap.size, 3, none⟩) (Nat.le_refl _) (.int .i64 0)).setCell (p := ⟨w.heap.size, 4, none⟩) (Nat.le_refl _) (.int .i64 0))⟩
theorem take5_other (x y : Int) (hx0 : 0 ≤ x) (hx1 : x < 4294967296) (hk : tK x < 22) (hf : formN (tK x) = 5) (w : World) (hT : Tab w)
    (hp : ∀ w, Tab w → Calls Tryd.prog 25 #[.agg #[.int .u8 (x / 67108864), .int .i64 (0), .int .i64 (0), .int .i64 (0), .int .i64 (x % 4194304)]] w fun e w' => e = .returned (.tuple #[.int .u32 y, .int .i64 0]) ∧ Below w.heap.size w w')
    (hy : (y == x) = false) :
    Calls Tryd.prog 17 #[.int .u32 x] w fun e w' => e = .returned (.tuple #[.agg #[.int .u8 0, .int .i64 0, .int .i64 0, .int .i64 0, .int .i64 0], .int .i64 6]) ∧ Below w.heap.size w w' := by
  have hcell := hT.cell hk hf
  have hlt := hT.lt
  have m1 := PBits.u32_mask (x / 4194304) 4 15 (by omega) (by omega) (by omega) (by decide)
  have m2 := PBits.u32_mask (x / 262144) 4 15 (by omega) (by omega) (by omega) (by decide)
  have m3 := PBits.u32_mask (x / 16384) 4 15 (by omega) (by omega) (by omega) (by decide)
  simp only [show ((2 : Int) ^ 4) = 16 by decide] at m1 m2 m3
  unfold tK at hcell hk
  have k0 : 0 ≤ x / 67108864 := by omega
  have k1 : x / 67108864 < 22 := by omega
  have HP := hide hp
  have HT := hide (hT.below ((((Below.refl w.heap.size w).alloc (Nat.le_refl _) (.cells #[.int .u8 0, .int .i64 0, .int .i64 0, .int .i64 0, .int .i64 0] 38)).alloc (by simp) (.cells #[.int .u8 (x / 67108864), .int .i64 (0), .int .i64 (0), .int .i64 (0), .int .i64 (x % 4194304)] 38))))
  have S14 := hide (fun w => signed14 x hx0 hx1 w)
  have S22 := hide (fun w => signed22 x hx0 hx1 w)
  clear hf hT hp hk
  go_enter Tryd.func17, Tryd.ntmps17
  go_wp2_with (first
    | (go_at_call 23; refine (S22.out _).mono ?_; rintro e wx ⟨rfl, rfl⟩)
    | (go_at_call 24; refine (bits22 x _).mono ?_; rintro e wx ⟨rfl, rfl⟩)
    | (go_at_call 25; refine (HP.out _ HT.out).mono ?_; rintro e w1 ⟨rfl, hb1⟩; have B4 := (Blk.new_at (w.alloc (.cells #[.int .u8 0, .int .i64 0, .int .i64 0, .int .i64 0, .int .i64 0] 38)) 38 #[.int .u8 (x / 67108864), .int .i64 (0), .int .i64 (0), .int .i64 (0), .int .i64 (x % 4194304)] (N := w.heap.size + 1) (by simp)).below hb1 (by simp); have c4 := c5_of B4; have B2 := hide (((Blk.new w 38 #[.int .u8 0, .int .i64 0, .int .i64 0, .int .i64 0, .int .i64 0]).alloc (.cells #[.int .u8 (x / 67108864), .int .i64 (0), .int .i64 (0), .int .i64 (0), .int .i64 (x % 4194304)] 38)).below hb1 (by simp; omega)); have c2 := c5_of B2.out; have fz := fun i => B2.out.frozen i; have W2 := hide ((((Below.refl w.heap.size w).alloc (Nat.le_refl _) (.cells #[.int .u8 0, .int .i64 0, .int .i64 0, .int .i64 0, .int .i64 0] 38)).alloc (by simp) (.cells #[.int .u8 (x / 67108864), .int .i64 (0), .int .i64 (0), .int .i64 (0), .int .i64 (x % 4194304)] 38)).trans (hb1.mono (by simp; omega))); clear hb1 B4))
  exact bodyPost_ret (v := .tuple #[.agg #[.int .u8 0, .int .i64 0, .int .i64 0, .int .i64 0, .int .i64 0], .int .i64 6]) (ret_row2 Tryd.results17 rfl (((((B2.out.set_ 0 (.int .u8 0)).set_ 1 (.int .i64 0)).set_ 2 (.int .i64 0)).set_ 3 (.int .i64 0)).set_ 4 (.int .i64 0)) Tryd.underlying38 isz) rfl
    ⟨rfl, (((((W2.out.setCell (p := ⟨w.heap.size, 0, none⟩) (Nat.le_refl _) (.int .u8 0)).setCell (p := ⟨w.heap.size, 1, none⟩) (Nat.le_refl _) (.int .i64 0)).setCell (p := ⟨w.heap.size, 2, none⟩) (Nat.le_refl _) (.int .i64 0)).setCell (p := ⟨w.heap.size, 3, none⟩) (Nat.le_refl _) (.int .i64 0)).setCell (p := ⟨w.heap.size, 4, none⟩) (Nat.le_refl _) (.int .i64 0))⟩
theorem take5_ok (x : Int) (hx0 : 0 ≤ x) (hx1 : x < 4294967296) (hk : tK x < 22) (hf : formN (tK x) = 5) (w : World) (hT : Tab w)
    (hp : ∀ w, Tab w → Calls Tryd.prog 25 #[.agg #[.int .u8 (x / 67108864), .int .i64 (0), .int .i64 (0), .int .i64 (0), .int .i64 (x % 4194304)]] w fun e w' => e = .returned (.tuple #[.int .u32 x, .int .i64 0]) ∧ Below w.heap.size w w')
    :
    Calls Tryd.prog 17 #[.int .u32 x] w fun e w' => e = .returned (.tuple #[.agg #[.int .u8 (x / 67108864), .int .i64 (0), .int .i64 (0), .int .i64 (0), .int .i64 (x % 4194304)], .int .i64 0]) ∧ Below w.heap.size w w' := by
  have hcell := hT.cell hk hf
  have hlt := hT.lt
  have m1 := PBits.u32_mask (x / 4194304) 4 15 (by omega) (by omega) (by omega) (by decide)
  have m2 := PBits.u32_mask (x / 262144) 4 15 (by omega) (by omega) (by omega) (by decide)
  have m3 := PBits.u32_mask (x / 16384) 4 15 (by omega) (by omega) (by omega) (by decide)
  simp only [show ((2 : Int) ^ 4) = 16 by decide] at m1 m2 m3
  unfold tK at hcell hk
  have k0 : 0 ≤ x / 67108864 := by omega
  have k1 : x / 67108864 < 22 := by omega
  have HP := hide hp
  have HT := hide (hT.below ((((Below.refl w.heap.size w).alloc (Nat.le_refl _) (.cells #[.int .u8 0, .int .i64 0, .int .i64 0, .int .i64 0, .int .i64 0] 38)).alloc (by simp) (.cells #[.int .u8 (x / 67108864), .int .i64 (0), .int .i64 (0), .int .i64 (0), .int .i64 (x % 4194304)] 38))))
  have S14 := hide (fun w => signed14 x hx0 hx1 w)
  have S22 := hide (fun w => signed22 x hx0 hx1 w)
  clear hf hT hp hk
  go_enter Tryd.func17, Tryd.ntmps17
  go_wp2_with (first
    | (go_at_call 23; refine (S22.out _).mono ?_; rintro e wx ⟨rfl, rfl⟩)
    | (go_at_call 24; refine (bits22 x _).mono ?_; rintro e wx ⟨rfl, rfl⟩)
    | (go_at_call 25; refine (HP.out _ HT.out).mono ?_; rintro e w1 ⟨rfl, hb1⟩; have B4 := (Blk.new_at (w.alloc (.cells #[.int .u8 0, .int .i64 0, .int .i64 0, .int .i64 0, .int .i64 0] 38)) 38 #[.int .u8 (x / 67108864), .int .i64 (0), .int .i64 (0), .int .i64 (0), .int .i64 (x % 4194304)] (N := w.heap.size + 1) (by simp)).below hb1 (by simp); have c4 := c5_of B4; have B2 := hide (((Blk.new w 38 #[.int .u8 0, .int .i64 0, .int .i64 0, .int .i64 0, .int .i64 0]).alloc (.cells #[.int .u8 (x / 67108864), .int .i64 (0), .int .i64 (0), .int .i64 (0), .int .i64 (x % 4194304)] 38)).below hb1 (by simp; omega)); have c2 := c5_of B2.out; have fz := fun i => B2.out.frozen i; have W2 := hide ((((Below.refl w.heap.size w).alloc (Nat.le_refl _) (.cells #[.int .u8 0, .int .i64 0, .int .i64 0, .int .i64 0, .int .i64 0] 38)).alloc (by simp) (.cells #[.int .u8 (x / 67108864), .int .i64 (0), .int .i64 (0), .int .i64 (0), .int .i64 (x % 4194304)] 38)).trans (hb1.mono (by simp; omega))); clear hb1 B4))
  exact bodyPost_ret (v := .tuple #[.agg #[.int .u8 (x / 67108864), .int .i64 (0), .int .i64 (0), .int .i64 (0), .int .i64 (x % 4194304)], .int .i64 0]) (ret_row2 Tryd.results17 rfl (((((B2.out.set_ 0 (.int .u8 (x / 67108864))).set_ 1 (.int .i64 (0))).set_ 2 (.int .i64 (0))).set_ 3 (.int .i64 (0))).set_ 4 (.int .i64 (x % 4194304))) Tryd.underlying38 isz) rfl
    ⟨rfl, (((((W2.out.setCell (p := ⟨w.heap.size, 0, none⟩) (Nat.le_refl _) (.int .u8 (x / 67108864))).setCell (p := ⟨w.heap.size, 1, none⟩) (Nat.le_refl _) (.int .i64 (0))).setCell (p := ⟨w.heap.size, 2, none⟩) (Nat.le_refl _) (.int .i64 (0))).setCell (p := ⟨w.heap.size, 3, none⟩) (Nat.le_refl _) (.int .i64 (0))).setCell (p := ⟨w.heap.size, 4, none⟩) (Nat.le_refl _) (.int .i64 (x % 4194304)))⟩
theorem take5 (x : Int) (hx0 : 0 ≤ x) (hx1 : x < 4294967296) (hk : tK x < 22) (hf : formN (tK x) = 5) (w : World) (hT : Tab w) :
    Calls Tryd.prog 17 #[.int .u32 x] w fun e w' => e = .returned (.tuple #[takeV x, .int .i64 (takeE x)]) ∧ Below w.heap.size w w' := by
  have hA : tA (formN (tK x)) x = 0 := by simp [tA, hf]
  have hB : tB (formN (tK x)) x = 0 := by simp [tB, hf]
  have hC : tC (formN (tK x)) x = 0 := by simp [tC, hf]
  have hN : tN (formN (tK x)) x = x % 4194304 := by simp [tN, hf]
  have hK : ((tK x : Nat) : Int) = x / 67108864 := by unfold tK; omega
  have hI : isB x = (mayB (tK x) (0) (0) (0) (x % 4194304) && decide (word (tK x) (0) (0) (0) (x % 4194304) = x)) := by unfold isB; rw [hA, hB, hC, hN]
  have hp := fun w hT => put_any (tK x) (0) (0) (0) (x % 4194304) (by omega) w hT
  unfold code5 at hp
  rw [hK] at hp
  unfold takeV takeE code5
  rw [hA, hB, hC, hN, hI, hK]
  cases hm : mayB (tK x) (0) (0) (0) (x % 4194304)
  · rw [show putX (tK x) (0) (0) (0) (x % 4194304) = 0 by simp [putX, hm], show errX (tK x) (0) (0) (0) (x % 4194304) = 2 by simp [errX, hm]] at hp
    exact take5_bad x hx0 hx1 hk hf w hT hp
  · rw [show putX (tK x) (0) (0) (0) (x % 4194304) = word (tK x) (0) (0) (0) (x % 4194304) by simp [putX, hm], show errX (tK x) (0) (0) (0) (x % 4194304) = 0 by simp [errX, hm]] at hp
    by_cases he : word (tK x) (0) (0) (0) (x % 4194304) = x
    · rw [he] at hp ⊢
      rw [decide_eq_true (rfl : x = x)]
      exact take5_ok x hx0 hx1 hk hf w hT hp
    · rw [decide_eq_false he]
      exact take5_other x _ hx0 hx1 hk hf w hT hp (by rw [beq_eq_false_iff_ne]; exact he)
theorem take6_bad (x : Int) (hx0 : 0 ≤ x) (hx1 : x < 4294967296) (hk : tK x < 22) (hf : formN (tK x) = 6) (w : World) (hT : Tab w)
    (hp : ∀ w, Tab w → Calls Tryd.prog 25 #[.agg #[.int .u8 (x / 67108864), .int .i64 (x / 4194304 % 16), .int .i64 (0), .int .i64 (0), .int .i64 (0)]] w fun e w' => e = .returned (.tuple #[.int .u32 0, .int .i64 2]) ∧ Below w.heap.size w w')
    :
    Calls Tryd.prog 17 #[.int .u32 x] w fun e w' => e = .returned (.tuple #[.agg #[.int .u8 0, .int .i64 0, .int .i64 0, .int .i64 0, .int .i64 0], .int .i64 6]) ∧ Below w.heap.size w w' := by
  have hcell := hT.cell hk hf
  have hlt := hT.lt
  have m1 := PBits.u32_mask (x / 4194304) 4 15 (by omega) (by omega) (by omega) (by decide)
  have m2 := PBits.u32_mask (x / 262144) 4 15 (by omega) (by omega) (by omega) (by decide)
  have m3 := PBits.u32_mask (x / 16384) 4 15 (by omega) (by omega) (by omega) (by decide)
  simp only [show ((2 : Int) ^ 4) = 16 by decide] at m1 m2 m3
  unfold tK at hcell hk
  have k0 : 0 ≤ x / 67108864 := by omega
  have k1 : x / 67108864 < 22 := by omega
  have HP := hide hp
  have HT := hide (hT.below ((((Below.refl w.heap.size w).alloc (Nat.le_refl _) (.cells #[.int .u8 0, .int .i64 0, .int .i64 0, .int .i64 0, .int .i64 0] 38)).alloc (by simp) (.cells #[.int .u8 (x / 67108864), .int .i64 (x / 4194304 % 16), .int .i64 (0), .int .i64 (0), .int .i64 (0)] 38))))
  have S14 := hide (fun w => signed14 x hx0 hx1 w)
  have S22 := hide (fun w => signed22 x hx0 hx1 w)
  clear hf hT hp hk
  go_enter Tryd.func17, Tryd.ntmps17
  go_wp2_with (first
    | (go_at_call 23; refine (S22.out _).mono ?_; rintro e wx ⟨rfl, rfl⟩)
    | (go_at_call 24; refine (bits22 x _).mono ?_; rintro e wx ⟨rfl, rfl⟩)
    | (go_at_call 25; refine (HP.out _ HT.out).mono ?_; rintro e w1 ⟨rfl, hb1⟩; have B4 := (Blk.new_at (w.alloc (.cells #[.int .u8 0, .int .i64 0, .int .i64 0, .int .i64 0, .int .i64 0] 38)) 38 #[.int .u8 (x / 67108864), .int .i64 (x / 4194304 % 16), .int .i64 (0), .int .i64 (0), .int .i64 (0)] (N := w.heap.size + 1) (by simp)).below hb1 (by simp); have c4 := c5_of B4; have B2 := hide (((Blk.new w 38 #[.int .u8 0, .int .i64 0, .int .i64 0, .int .i64 0, .int .i64 0]).alloc (.cells #[.int .u8 (x / 67108864), .int .i64 (x / 4194304 % 16), .int .i64 (0), .int .i64 (0), .int .i64 (0)] 38)).below hb1 (by simp; omega)); have c2 := c5_of B2.out; have fz := fun i => B2.out.frozen i; have W2 := hide ((((Below.refl w.heap.size w).alloc (Nat.le_refl _) (.cells #[.int .u8 0, .int .i64 0, .int .i64 0, .int .i64 0, .int .i64 0] 38)).alloc (by simp) (.cells #[.int .u8 (x / 67108864), .int .i64 (x / 4194304 % 16), .int .i64 (0), .int .i64 (0), .int .i64 (0)] 38)).trans (hb1.mono (by simp; omega))); clear hb1 B4))
  exact bodyPost_ret (v := .tuple #[.agg #[.int .u8 0, .int .i64 0, .int .i64 0, .int .i64 0, .int .i64 0], .int .i64 6]) (ret_row2 Tryd.results17 rfl (((((B2.out.set_ 0 (.int .u8 0)).set_ 1 (.int .i64 0)).set_ 2 (.int .i64 0)).set_ 3 (.int .i64 0)).set_ 4 (.int .i64 0)) Tryd.underlying38 isz) rfl
    ⟨rfl, (((((W2.out.setCell (p := ⟨w.heap.size, 0, none⟩) (Nat.le_refl _) (.int .u8 0)).setCell (p := ⟨w.heap.size, 1, none⟩) (Nat.le_refl _) (.int .i64 0)).setCell (p := ⟨w.heap.size, 2, none⟩) (Nat.le_refl _) (.int .i64 0)).setCell (p := ⟨w.heap.size, 3, none⟩) (Nat.le_refl _) (.int .i64 0)).setCell (p := ⟨w.heap.size, 4, none⟩) (Nat.le_refl _) (.int .i64 0))⟩
theorem take6_other (x y : Int) (hx0 : 0 ≤ x) (hx1 : x < 4294967296) (hk : tK x < 22) (hf : formN (tK x) = 6) (w : World) (hT : Tab w)
    (hp : ∀ w, Tab w → Calls Tryd.prog 25 #[.agg #[.int .u8 (x / 67108864), .int .i64 (x / 4194304 % 16), .int .i64 (0), .int .i64 (0), .int .i64 (0)]] w fun e w' => e = .returned (.tuple #[.int .u32 y, .int .i64 0]) ∧ Below w.heap.size w w')
    (hy : (y == x) = false) :
    Calls Tryd.prog 17 #[.int .u32 x] w fun e w' => e = .returned (.tuple #[.agg #[.int .u8 0, .int .i64 0, .int .i64 0, .int .i64 0, .int .i64 0], .int .i64 6]) ∧ Below w.heap.size w w' := by
  have hcell := hT.cell hk hf
  have hlt := hT.lt
  have m1 := PBits.u32_mask (x / 4194304) 4 15 (by omega) (by omega) (by omega) (by decide)
  have m2 := PBits.u32_mask (x / 262144) 4 15 (by omega) (by omega) (by omega) (by decide)
  have m3 := PBits.u32_mask (x / 16384) 4 15 (by omega) (by omega) (by omega) (by decide)
  simp only [show ((2 : Int) ^ 4) = 16 by decide] at m1 m2 m3
  unfold tK at hcell hk
  have k0 : 0 ≤ x / 67108864 := by omega
  have k1 : x / 67108864 < 22 := by omega
  have HP := hide hp
  have HT := hide (hT.below ((((Below.refl w.heap.size w).alloc (Nat.le_refl _) (.cells #[.int .u8 0, .int .i64 0, .int .i64 0, .int .i64 0, .int .i64 0] 38)).alloc (by simp) (.cells #[.int .u8 (x / 67108864), .int .i64 (x / 4194304 % 16), .int .i64 (0), .int .i64 (0), .int .i64 (0)] 38))))
  have S14 := hide (fun w => signed14 x hx0 hx1 w)
  have S22 := hide (fun w => signed22 x hx0 hx1 w)
  clear hf hT hp hk
  go_enter Tryd.func17, Tryd.ntmps17
  go_wp2_with (first
    | (go_at_call 23; refine (S22.out _).mono ?_; rintro e wx ⟨rfl, rfl⟩)
    | (go_at_call 24; refine (bits22 x _).mono ?_; rintro e wx ⟨rfl, rfl⟩)
    | (go_at_call 25; refine (HP.out _ HT.out).mono ?_; rintro e w1 ⟨rfl, hb1⟩; have B4 := (Blk.new_at (w.alloc (.cells #[.int .u8 0, .int .i64 0, .int .i64 0, .int .i64 0, .int .i64 0] 38)) 38 #[.int .u8 (x / 67108864), .int .i64 (x / 4194304 % 16), .int .i64 (0), .int .i64 (0), .int .i64 (0)] (N := w.heap.size + 1) (by simp)).below hb1 (by simp); have c4 := c5_of B4; have B2 := hide (((Blk.new w 38 #[.int .u8 0, .int .i64 0, .int .i64 0, .int .i64 0, .int .i64 0]).alloc (.cells #[.int .u8 (x / 67108864), .int .i64 (x / 4194304 % 16), .int .i64 (0), .int .i64 (0), .int .i64 (0)] 38)).below hb1 (by simp; omega)); have c2 := c5_of B2.out; have fz := fun i => B2.out.frozen i; have W2 := hide ((((Below.refl w.heap.size w).alloc (Nat.le_refl _) (.cells #[.int .u8 0, .int .i64 0, .int .i64 0, .int .i64 0, .int .i64 0] 38)).alloc (by simp) (.cells #[.int .u8 (x / 67108864), .int .i64 (x / 4194304 % 16), .int .i64 (0), .int .i64 (0), .int .i64 (0)] 38)).trans (hb1.mono (by simp; omega))); clear hb1 B4))
  exact bodyPost_ret (v := .tuple #[.agg #[.int .u8 0, .int .i64 0, .int .i64 0, .int .i64 0, .int .i64 0], .int .i64 6]) (ret_row2 Tryd.results17 rfl (((((B2.out.set_ 0 (.int .u8 0)).set_ 1 (.int .i64 0)).set_ 2 (.int .i64 0)).set_ 3 (.int .i64 0)).set_ 4 (.int .i64 0)) Tryd.underlying38 isz) rfl
    ⟨rfl, (((((W2.out.setCell (p := ⟨w.heap.size, 0, none⟩) (Nat.le_refl _) (.int .u8 0)).setCell (p := ⟨w.heap.size, 1, none⟩) (Nat.le_refl _) (.int .i64 0)).setCell (p := ⟨w.heap.size, 2, none⟩) (Nat.le_refl _) (.int .i64 0)).setCell (p := ⟨w.heap.size, 3, none⟩) (Nat.le_refl _) (.int .i64 0)).setCell (p := ⟨w.heap.size, 4, none⟩) (Nat.le_refl _) (.int .i64 0))⟩
theorem take6_ok (x : Int) (hx0 : 0 ≤ x) (hx1 : x < 4294967296) (hk : tK x < 22) (hf : formN (tK x) = 6) (w : World) (hT : Tab w)
    (hp : ∀ w, Tab w → Calls Tryd.prog 25 #[.agg #[.int .u8 (x / 67108864), .int .i64 (x / 4194304 % 16), .int .i64 (0), .int .i64 (0), .int .i64 (0)]] w fun e w' => e = .returned (.tuple #[.int .u32 x, .int .i64 0]) ∧ Below w.heap.size w w')
    :
    Calls Tryd.prog 17 #[.int .u32 x] w fun e w' => e = .returned (.tuple #[.agg #[.int .u8 (x / 67108864), .int .i64 (x / 4194304 % 16), .int .i64 (0), .int .i64 (0), .int .i64 (0)], .int .i64 0]) ∧ Below w.heap.size w w' := by
  have hcell := hT.cell hk hf
  have hlt := hT.lt
  have m1 := PBits.u32_mask (x / 4194304) 4 15 (by omega) (by omega) (by omega) (by decide)
  have m2 := PBits.u32_mask (x / 262144) 4 15 (by omega) (by omega) (by omega) (by decide)
  have m3 := PBits.u32_mask (x / 16384) 4 15 (by omega) (by omega) (by omega) (by decide)
  simp only [show ((2 : Int) ^ 4) = 16 by decide] at m1 m2 m3
  unfold tK at hcell hk
  have k0 : 0 ≤ x / 67108864 := by omega
  have k1 : x / 67108864 < 22 := by omega
  have HP := hide hp
  have HT := hide (hT.below ((((Below.refl w.heap.size w).alloc (Nat.le_refl _) (.cells #[.int .u8 0, .int .i64 0, .int .i64 0, .int .i64 0, .int .i64 0] 38)).alloc (by simp) (.cells #[.int .u8 (x / 67108864), .int .i64 (x / 4194304 % 16), .int .i64 (0), .int .i64 (0), .int .i64 (0)] 38))))
  have S14 := hide (fun w => signed14 x hx0 hx1 w)
  have S22 := hide (fun w => signed22 x hx0 hx1 w)
  clear hf hT hp hk
  go_enter Tryd.func17, Tryd.ntmps17
  go_wp2_with (first
    | (go_at_call 23; refine (S22.out _).mono ?_; rintro e wx ⟨rfl, rfl⟩)
    | (go_at_call 24; refine (bits22 x _).mono ?_; rintro e wx ⟨rfl, rfl⟩)
    | (go_at_call 25; refine (HP.out _ HT.out).mono ?_; rintro e w1 ⟨rfl, hb1⟩; have B4 := (Blk.new_at (w.alloc (.cells #[.int .u8 0, .int .i64 0, .int .i64 0, .int .i64 0, .int .i64 0] 38)) 38 #[.int .u8 (x / 67108864), .int .i64 (x / 4194304 % 16), .int .i64 (0), .int .i64 (0), .int .i64 (0)] (N := w.heap.size + 1) (by simp)).below hb1 (by simp); have c4 := c5_of B4; have B2 := hide (((Blk.new w 38 #[.int .u8 0, .int .i64 0, .int .i64 0, .int .i64 0, .int .i64 0]).alloc (.cells #[.int .u8 (x / 67108864), .int .i64 (x / 4194304 % 16), .int .i64 (0), .int .i64 (0), .int .i64 (0)] 38)).below hb1 (by simp; omega)); have c2 := c5_of B2.out; have fz := fun i => B2.out.frozen i; have W2 := hide ((((Below.refl w.heap.size w).alloc (Nat.le_refl _) (.cells #[.int .u8 0, .int .i64 0, .int .i64 0, .int .i64 0, .int .i64 0] 38)).alloc (by simp) (.cells #[.int .u8 (x / 67108864), .int .i64 (x / 4194304 % 16), .int .i64 (0), .int .i64 (0), .int .i64 (0)] 38)).trans (hb1.mono (by simp; omega))); clear hb1 B4))
  exact bodyPost_ret (v := .tuple #[.agg #[.int .u8 (x / 67108864), .int .i64 (x / 4194304 % 16), .int .i64 (0), .int .i64 (0), .int .i64 (0)], .int .i64 0]) (ret_row2 Tryd.results17 rfl (((((B2.out.set_ 0 (.int .u8 (x / 67108864))).set_ 1 (.int .i64 (x / 4194304 % 16))).set_ 2 (.int .i64 (0))).set_ 3 (.int .i64 (0))).set_ 4 (.int .i64 (0))) Tryd.underlying38 isz) rfl
    ⟨rfl, (((((W2.out.setCell (p := ⟨w.heap.size, 0, none⟩) (Nat.le_refl _) (.int .u8 (x / 67108864))).setCell (p := ⟨w.heap.size, 1, none⟩) (Nat.le_refl _) (.int .i64 (x / 4194304 % 16))).setCell (p := ⟨w.heap.size, 2, none⟩) (Nat.le_refl _) (.int .i64 (0))).setCell (p := ⟨w.heap.size, 3, none⟩) (Nat.le_refl _) (.int .i64 (0))).setCell (p := ⟨w.heap.size, 4, none⟩) (Nat.le_refl _) (.int .i64 (0)))⟩
theorem take6 (x : Int) (hx0 : 0 ≤ x) (hx1 : x < 4294967296) (hk : tK x < 22) (hf : formN (tK x) = 6) (w : World) (hT : Tab w) :
    Calls Tryd.prog 17 #[.int .u32 x] w fun e w' => e = .returned (.tuple #[takeV x, .int .i64 (takeE x)]) ∧ Below w.heap.size w w' := by
  have hA : tA (formN (tK x)) x = x / 4194304 % 16 := by simp [tA, hf]
  have hB : tB (formN (tK x)) x = 0 := by simp [tB, hf]
  have hC : tC (formN (tK x)) x = 0 := by simp [tC, hf]
  have hN : tN (formN (tK x)) x = 0 := by simp [tN, hf]
  have hK : ((tK x : Nat) : Int) = x / 67108864 := by unfold tK; omega
  have hI : isB x = (mayB (tK x) (x / 4194304 % 16) (0) (0) (0) && decide (word (tK x) (x / 4194304 % 16) (0) (0) (0) = x)) := by unfold isB; rw [hA, hB, hC, hN]
  have hp := fun w hT => put_any (tK x) (x / 4194304 % 16) (0) (0) (0) (by omega) w hT
  unfold code5 at hp
  rw [hK] at hp
  unfold takeV takeE code5
  rw [hA, hB, hC, hN, hI, hK]
  cases hm : mayB (tK x) (x / 4194304 % 16) (0) (0) (0)
  · rw [show putX (tK x) (x / 4194304 % 16) (0) (0) (0) = 0 by simp [putX, hm], show errX (tK x) (x / 4194304 % 16) (0) (0) (0) = 2 by simp [errX, hm]] at hp
    exact take6_bad x hx0 hx1 hk hf w hT hp
  · rw [show putX (tK x) (x / 4194304 % 16) (0) (0) (0) = word (tK x) (x / 4194304 % 16) (0) (0) (0) by simp [putX, hm], show errX (tK x) (x / 4194304 % 16) (0) (0) (0) = 0 by simp [errX, hm]] at hp
    by_cases he : word (tK x) (x / 4194304 % 16) (0) (0) (0) = x
    · rw [he] at hp ⊢
      rw [decide_eq_true (rfl : x = x)]
      exact take6_ok x hx0 hx1 hk hf w hT hp
    · rw [decide_eq_false he]
      exact take6_other x _ hx0 hx1 hk hf w hT hp (by rw [beq_eq_false_iff_ne]; exact he)
theorem take_any (x : Int) (hx0 : 0 ≤ x) (hx1 : x < 4294967296) (w : World) (hT : Tab w) :
    Calls Tryd.prog 17 #[.int .u32 x] w fun e w' => e = .returned (.tuple #[takeV x, .int .i64 (takeE x)]) ∧ Below w.heap.size w w' := by
  by_cases hk : tK x < 22
  · have hl := formN_lt (tK x)
    have : formN (tK x) = 0 ∨ formN (tK x) = 1 ∨ formN (tK x) = 2 ∨ formN (tK x) = 3 ∨ formN (tK x) = 4 ∨ formN (tK x) = 5 ∨ formN (tK x) = 6 := by omega
    rcases this with h | h | h | h | h | h | h
    · exact take0 x hx0 hx1 hk h w hT
    · exact take1 x hx0 hx1 hk h w hT
    · exact take2 x hx0 hx1 hk h w hT
    · exact take3 x hx0 hx1 hk h w hT
    · exact take4 x hx0 hx1 hk h w hT
    · exact take5 x hx0 hx1 hk h w hT
    · exact take6 x hx0 hx1 hk h w hT
  · have hi : isB x = false := by simp [isB, mayB, hk]
    have hk2 : 22 ≤ x / 67108864 := by unfold tK at hk; omega
    have hk3 : x / 67108864 < 64 := by omega
    have B2 := hide ((Blk.new w 38 #[.int .u8 0, .int .i64 0, .int .i64 0, .int .i64 0, .int .i64 0]).alloc (.cells #[.int .u8 (x / 67108864), .int .i64 0, .int .i64 0, .int .i64 0, .int .i64 0] 38))
    simp only [takeV, takeE, hi]
    clear hi hT hk
    go_enter Tryd.func17, Tryd.ntmps17
    go_wp2
    exact bodyPost_ret (v := .tuple #[.agg #[.int .u8 0, .int .i64 0, .int .i64 0, .int .i64 0, .int .i64 0], .int .i64 6]) (ret_row2 Tryd.results17 rfl B2.out Tryd.underlying38 isz) rfl ⟨rfl, ((Below.refl _ _).alloc (Nat.le_refl _) _).alloc (by simp) _⟩
end Go.Proofs.YtdaglmoibijdeaaDoor.CodeTake
