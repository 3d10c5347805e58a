/-
  The small functions of the laws of the layer 'code' walked: add, works.
-/
import Derived.Test.YtgodjedijkfciaaDoorCodeRef
import Derived.Deep.RegionHeld3
namespace Go.Proofs.YtgodjedijkfciaaDoor.Works
open Go.RowKit Base CodePlain CodeBits CodeTab CodePut CodeTake
set_option linter.unusedVariables false

/-- What a law carries from call to call: the table, what was there before, an instruction in a block of its own. -/
def St (w0 w : World) (B : Nat) (cs : Array Value) : Prop := Tab w ∧ Below w0.heap.size w0 w ∧ Blk w B 27 cs
theorem St.below {w0 w w' : World} {B : Nat} {cs : Array Value} (h : Hid (St w0 w B cs)) (hb : Below w.heap.size w w') : Hid (St w0 w' B cs) :=
  hide ⟨h.out.1.below hb, below_then h.out.2.1 hb, h.out.2.2.below hb h.out.2.2.lt⟩
theorem St.drew {w0 w : World} {B : Nat} {cs : Array Value} (h : Hid (St w0 w B cs)) : Hid (St w0 w.drew B cs) := hide ⟨h.out.1, h.out.2.1.drew, h.out.2.2⟩
theorem St.tab {w0 w : World} {B : Nat} {cs : Array Value} (h : Hid (St w0 w B cs)) : Tab w := h.out.1
theorem St.bel {w0 w : World} {B : Nat} {cs : Array Value} (h : Hid (St w0 w B cs)) : Below w0.heap.size w0 w := h.out.2.1
theorem St.c5 {w0 w : World} {B : Nat} {v0 v1 v2 v3 v4 : Value} (h : Hid (St w0 w B #[v0, v1, v2, v3, v4])) : C5 w B v0 v1 v2 v3 v4 := c5_of h.out.2.2
theorem St.new {w0 w : World} (hT : Tab w) (hb : Below w0.heap.size w0 w) (cs : Array Value) : Hid (St w0 (w.alloc (.cells cs 27)) w.heap.size cs) :=
  hide ⟨hT.below ((Below.refl _ _).alloc (Nat.le_refl _) _), hb.alloc hb.size _, Blk.new w _ cs⟩

theorem add_any (w : World) : Calls Tryd.prog 17 #[] w fun e w' => e = .returned (.agg #[.int .u8 1, .int .i64 1, .int .i64 2, .int .i64 3, .int .i64 0]) ∧ Below w.heap.size w w' := by
  go_enter Tryd.func17, Tryd.ntmps17
  go_wp2
  exact bodyPost_ret (v := .agg #[.int .u8 1, .int .i64 1, .int .i64 2, .int .i64 3, .int .i64 0]) (by simp [results, Tryd.results17, go_sem]) rfl ⟨rfl, (Below.refl _ _).alloc (Nat.le_refl _) _⟩
theorem works_any (w : World) (hT : Tab w) : Calls Tryd.prog 10 #[] w fun e w' => e = .returned (.bool true) ∧ Below w.heap.size w w' := by
  have HP := hide (fun w hT => put_any 1 1 2 3 0 (by omega) w hT)
  rw [show putX 1 1 2 3 0 = 71876608 by decide, show errX 1 1 2 3 0 = 0 by decide] at HP
  have HK := hide (fun w hT => take_any 71876608 (by omega) (by omega) w hT)
  rw [show takeV 71876608 = .agg #[.int .u8 1, .int .i64 1, .int .i64 2, .int .i64 3, .int .i64 0] from rfl, show takeE 71876608 = 0 by decide] at HK
  have HT := hide hT
  clear hT
  unfold code5 at HP
  go_enter Tryd.func10, Tryd.ntmps10
  go_wp2_with fail
  refine (add_any _).mono ?_
  rintro e w1 ⟨rfl, hb1⟩
  have T1 := hide (HT.out.below hb1)
  go_wp2_with fail
  refine (HP.out _ T1.out).mono ?_
  rintro e w2 ⟨rfl, hb2⟩
  have T2 := hide (T1.out.below hb2)
  have B2 := hide (below_then hb1 hb2)
  clear hb1 hb2
  go_wp2_with fail
  refine (HK.out _ T2.out).mono ?_
  rintro e w3 ⟨rfl, hb3⟩
  have S3 := St.drew (St.new (T2.out.below hb3) (below_then B2.out hb3) #[.int .u8 1, .int .i64 1, .int .i64 2, .int .i64 3, .int .i64 0])
  have hc := St.c5 S3
  clear hb3
  go_wp2_with fail
  go_region_held3 (fun w' => w'.cell? ⟨w3.heap.size, 0, none⟩ = some (.int .u8 1) ∧ w'.cell? ⟨w3.heap.size, 1, none⟩ = some (.int .i64 1) ∧ w'.cell? ⟨w3.heap.size, 2, none⟩ = some (.int .i64 2) ∧ w'.cell? ⟨w3.heap.size, 3, none⟩ = some (.int .i64 3) ∧ w'.cell? ⟨w3.heap.size, 4, none⟩ = some (.int .i64 0)) (first | exact hc | exact St.c5 (by assumption))
    (first | (go_at_call 17; refine (add_any _).mono ?_; rintro e w4 ⟨rfl, hb4⟩; have S4 := St.below (by assumption) hb4; clear hb4))
  all_goals
    go_wp2
    go_ret
    exact ⟨rfl, St.bel (by assumption)⟩
end Go.Proofs.YtgodjedijkfciaaDoor.Works
