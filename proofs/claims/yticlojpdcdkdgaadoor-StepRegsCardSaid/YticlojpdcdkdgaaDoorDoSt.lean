/-
  What Do of the layer 'step' carries from call to call; what it computes, in plain Lean.
-/
import Derived.Test.YticlojpdcdkdgaaDoorOf
import Derived.Test.YticlojpdcdkdgaaDoorCodeMay
import Derived.Test.YticlojpdcdkdgaaDoorCodeRefMay
import Derived.ScopeJumps
import Derived.WalkMore
namespace Go.Proofs.YticlojpdcdkdgaaDoor.DoSt
open Go.RowKit Base Blks CodePlain CodeBits CodeTab Regs
set_option linter.unusedVariables false

/-- The registers with the register 0 zero. -/
def zf (f : Nat → Int) : Nat → Int := fun j => if j = 0 then 0 else f j
/-- The state: the registers lie in block w0.heap.size, the instruction, the result and the zero registers in the next three. -/
structure DoSt (w0 w : World) (F : Nat → Int) (cs : Array Value) : Prop where
  regs : BlkAt w w0.heap.size 23 F
  code : Blk w (w0.heap.size + 1) 29 cs
  out : BlkAt w (w0.heap.size + 1 + 1) 23 (fun _ => 0)
  zero : BlkAt w (w0.heap.size + 1 + 1 + 1) 23 (fun _ => 0)
  tab : Tab w
  glt : 0 < w0.heap.size
  bel : Below w0.heap.size w0 w
section
variable {w0 w w' : World} {F : Nat → Int} {cs : Array Value}
theorem DoSt.below (h : DoSt w0 w F cs) (hb : Below w.heap.size w w') : DoSt w0 w' F cs :=
  ⟨h.regs.of_block (hb.block _ h.regs.lt), h.code.below hb h.code.lt, h.out.of_block (hb.block _ h.out.lt), h.zero.of_block (hb.block _ h.zero.lt), h.tab.below hb, h.glt, below_then h.bel hb⟩
theorem DoSt.drew (h : DoSt w0 w F cs) : DoSt w0 w.drew F cs := ⟨h.regs, h.code, h.out, h.zero, h.tab, h.glt, h.bel.drew⟩
theorem tab_setCells : ∀ (vs : List Value) (o B : Nat) (w : World), Tab w → 0 ≠ B → Tab (w.setCells B o vs)
  | [], _, _, _, h, _ => h
  | v :: r, o, B, w, h, hb => tab_setCells r (o + 1) B _ (fun k hk => (World.cell?_setCell_other _ _ _ _ (fun e => hb (by injection e with e1; exact e1.symm))).trans (h k hk)) hb
theorem blk_setCells : ∀ (vs : List Value) (o B g : Nat) (t : TypeId) (c : Array Value) (w : World), Blk w g t c → g ≠ B → Blk (w.setCells B o vs) g t c
  | [], _, _, _, _, _, _, h, _ => h
  | v :: r, o, B, g, t, c, w, h, hb => blk_setCells r (o + 1) B g t c _ (h.far (p := ⟨B, o, none⟩) hb v) hb
theorem row_setOthers {b n : Nat} {t : TypeId} {f : Nat → Value} : ∀ (vs : List Value) (o B : Nat) (w : World), w.rowIs b t n f → b ≠ B → (w.setCells B o vs).rowIs b t n f
  | [], _, _, _, h, _ => h
  | v :: r, o, B, w, h, hb => row_setOthers r (o + 1) B _ (h.setOther (a := ⟨B, o, none⟩) (by simpa using hb) v) hb
theorem DoSt.setRegs (h : DoSt w0 w F cs) (G : Nat → Int) : DoSt w0 (w.setCells w0.heap.size 0 (blk G)) G cs :=
  ⟨row_setCells h.regs G, blk_setCells _ _ _ _ _ _ _ h.code (by omega), row_setOthers _ _ _ _ h.out (by omega), row_setOthers _ _ _ _ h.zero (by omega), tab_setCells _ _ _ _ h.tab (by have := h.glt; omega), h.glt, below_setCells _ _ _ h.bel (Nat.le_refl _)⟩
theorem DoSt.set0 (h : DoSt w0 w F cs) : DoSt w0 (w.setCell ⟨w0.heap.size, 0, none⟩ (.int .u32 0)) (zf F) cs := by
  refine ⟨row_set h.regs 0 0, h.code.far (p := ⟨w0.heap.size, 0, none⟩) (by simp) _, h.out.setOther (by simp; omega) _, h.zero.setOther (by simp; omega) _, ?_, h.glt, h.bel.setCell (p := ⟨w0.heap.size, 0, none⟩) (Nat.le_refl _) _⟩
  exact fun k hk => (World.cell?_setCell_other _ _ _ _ (fun e => by have := h.glt; injection e with e1; omega)).trans (h.tab k hk)
theorem DoSt.new (w : World) (hT : Tab w) (f : Nat → Int) (cs : Array Value) :
    DoSt w ((((w.alloc (.cells (blk f).toArray 23)).alloc (.cells cs 29)).alloc (.cells (blk (fun _ => 0)).toArray 23)).alloc (.cells (blk (fun _ => 0)).toArray 23)) f cs := by
  have hb := ((((Below.refl w.heap.size w).alloc (Nat.le_refl _) (.cells (blk f).toArray 23)).alloc (by simp) (.cells cs 29)).alloc (by simp; omega) (.cells (blk (fun _ => 0)).toArray 23)).alloc (by simp; omega) (.cells (blk (fun _ => 0)).toArray 23)
  refine ⟨(((blk_new w _ f).alloc _).alloc _).alloc _, ((Blk.new_at _ _ cs (by simp)).alloc _).alloc _, ?_, ?_, hT.below hb, hT.lt, hb⟩
  · have h := blk_new ((w.alloc (.cells (blk f).toArray 23)).alloc (.cells cs 29)) 23 (fun _ => 0)
    rw [World.size_alloc, World.size_alloc] at h
    exact h.alloc _
  · have h := blk_new (((w.alloc (.cells (blk f).toArray 23)).alloc (.cells cs 29)).alloc (.cells (blk (fun _ => 0)).toArray 23)) 23 (fun _ => 0)
    rw [World.size_alloc, World.size_alloc, World.size_alloc] at h
    exact h
end
theorem n_bd {k : Nat} {a b c n : Int} (hm : mayB k a b c n = true) : -2097152 ≤ n ∧ n < 2097152 := by
  have h := mayP_of hm
  have hl := formN_lt k
  unfold MayP at h
  generalize formN k = f at *
  obtain ⟨_, _, _, _, _, _, h2, h3, h5, h0⟩ := h
  have : f = 0 ∨ f = 1 ∨ f = 2 ∨ f = 3 ∨ f = 4 ∨ f = 5 ∨ f = 6 := by omega
  rcases this with h | h | h | h | h | h | h <;> subst h <;> simp at * <;> omega
theorem sizeR (F : Nat → Int) : (Tryd.prog.info? 23).map (·.size) = some (blk F).length := by rw [(zero_of_info (P := Tryd.prog) infoR).2, blk_len]
theorem ret_blk3 {P : Program} {w : World} {fn : Func} {tmps : Array Value} {p q r : Tmp} {ty e : TypeId} {n : Nat} (hr : fn.results = #[.cell p ty, .tmp q, .tmp r]) {b : Nat} (hp : tmps.getD p undef = .pointer (some ⟨b, 0, none⟩)) {t : TypeId} {f : Nat → Int} (h : BlkAt w b t f)
    (hu : P.underlying ty = some (.array n e)) (hi : (P.info? ty).map (·.size) = some 16) : (results fn tmps).run P w = .ok (.tuple #[.agg (blk f).toArray, tmps.getD q undef, tmps.getD r undef]) w := by
  have hp' : tmps[p]?.getD undef = .pointer (some ⟨b, 0, none⟩) := by simpa using hp
  have hl := run_loadVar_row (P := P) w b t ty _ (0, 0) _ (blk_heap h) hu rfl (by rw [hi]; simp [blk_len])
  simp [results, hr, hp', asAddr, hl]
/-- A scope in which the run may jump ahead to one label: what stands behind the label is walked at the jump. -/
theorem wp_scope_fwd {P : Program} {a : Act} {w : World} {Q : Exit → Act → World → Prop} {c rest : Code} (l : Nat) (hf : findLabel c l = some rest)
    (h : ∀ J : Act → World → Prop, (∀ a w, rest.wp P (Exit.jump l (fun _ _ => False) Q) a w → J a w) → c.wp P (Exit.jump l J Q) a w) : (Code.scope c).wp P Q a w := by
  refine wp_scope_jumps l (fun a w => rest.wp P (Exit.jump l (fun _ _ => False) Q) a w) (fun _ _ => 0) hf (h _ (fun _ _ h => h)) (fun a w hJ => ?_)
  refine Code.wp_mono (fun e a w he => ?_) hJ
  cases e <;> first | exact he | exact he.2.elim
theorem jump_ret {l : Nat} {J : Act → World → Prop} {Q : Exit → Act → World → Prop} {a : Act} {w : World} : Exit.jump l J Q .ret a w = Q .ret a w := rfl
theorem jump_goto {l : Nat} {J : Act → World → Prop} {Q : Exit → Act → World → Prop} {a : Act} {w : World} (h : J a w) : Exit.jump l J Q (.goto l) a w := ⟨rfl, h⟩
end Go.Proofs.YticlojpdcdkdgaaDoor.DoSt
