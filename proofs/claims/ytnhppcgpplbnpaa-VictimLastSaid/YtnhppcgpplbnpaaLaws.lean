/-
  The laws of the layer 'victim' walked: each call of VictimKnown, VictimUses, VictimTells, VictimLast returns true, whatever memory of 8 bits, ways and way.
-/
import Derived.Test.YtnhppcgpplbnpaaWalk
namespace Go.Proofs.Ytnhppcgpplbnpaa.Laws
open Go.RowKit Plain Walk
set_option linter.unusedVariables false

theorem works_any (w : World) : Calls Try.prog 10 #[] w fun e w' => e = .returned (.bool true) ∧ Below w.heap.size w w' := by
  have v1 : vicv 3 4 = 2 := by decide
  have v2 : vice 4 = 0 := by decide
  have v3 : usev 0 4 0 = 3 := by decide
  have v4 : usee 4 0 = 0 := by decide
  go_enter Try.func10, Try.ntmps10
  go_wp2_with (first | (go_at_call 8; refine (use_any 0 4 0 (by omega) (by omega) _).mono ?_; rintro e w1 ⟨rfl, hb1⟩) | (go_at_call 9; refine (vic_any 3 4 (by omega) (by omega) _).mono ?_; rintro e w2 ⟨rfl, hb2⟩))
  go_ret
  exact ⟨rfl, hb2.trans (hb1.mono hb2.size)⟩

theorem known (w : World) : Calls Try.prog 3 #[] w fun e w' => e = .returned (.bool true) ∧ Below w.heap.size w w' := by
  have v1 : usev 0 4 3 = 0 := by decide
  have v2 : usee 4 3 = 0 := by decide
  have v3 : vicv 0 4 = 0 := by decide
  have v4 : vice 4 = 0 := by decide
  have v5 : vicv 1 2 = 1 := by decide
  have v6 : vice 2 = 0 := by decide
  have v7 : vicv 7 1 = 0 := by decide
  have v8 : vice 1 = 0 := by decide
  have v9 : vice 3 = 2 := by decide
  have v10 : vicv 0 3 = 0 := by decide
  go_enter Try.func3, Try.ntmps3
  go_wp2_with fail
  refine (use_any 0 4 3 (by omega) (by omega) _).mono ?_
  rintro e w1 ⟨rfl, hb1⟩
  go_wp2_with fail
  refine (vic_any 0 4 (by omega) (by omega) _).mono ?_
  rintro e w2 ⟨rfl, hb2⟩
  go_wp2_with fail
  refine (vic_any 1 2 (by omega) (by omega) _).mono ?_
  rintro e w3 ⟨rfl, hb3⟩
  go_wp2_with fail
  refine (vic_any 7 1 (by omega) (by omega) _).mono ?_
  rintro e w4 ⟨rfl, hb4⟩
  go_wp2_with fail
  refine (vic_any 0 3 (by omega) (by omega) _).mono ?_
  rintro e w5 ⟨rfl, hb5⟩
  go_wp2_with fail
  refine (works_any _).mono ?_
  rintro e w6 ⟨rfl, hb6⟩
  go_wp2
  go_ret
  have s1 := hb1.size
  have s2 := hb2.size
  have s3 := hb3.size
  have s4 := hb4.size
  have s5 := hb5.size
  exact ⟨rfl, ((((hb1.trans (hb2.mono (by omega))).trans (hb3.mono (by omega))).trans (hb4.mono (by omega))).trans (hb5.mono (by omega))).trans (hb6.mono (by omega))⟩

theorem uses (m ways way : Int) (hm0 : 0 ≤ m) (hm1 : m ≤ 255) (w : World) : Calls Try.prog 4 #[.int .u8 m, .int .i64 ways, .int .i64 way] w fun e w' => e = .returned (.bool true) ∧ Below w.heap.size w w' := by
  go_enter Try.func4, Try.ntmps4
  go_wp2_with fail
  refine (use_any m ways way hm0 hm1 _).mono ?_
  rintro e w1 ⟨rfl, hb1⟩
  go_wp2_with fail
  refine (ref_any m ways way hm0 hm1 _).mono ?_
  rintro e w2 ⟨rfl, hb2⟩
  go_wp2_with fail
  refine (works_any _).mono ?_
  rintro e w3 ⟨rfl, hb3⟩
  go_wp2
  go_ret
  have s1 := hb1.size
  have s2 := hb2.size
  exact ⟨rfl, (hb1.trans (hb2.mono (by omega))).trans (hb3.mono (by omega))⟩

theorem tells (m ways : Int) (hm0 : 0 ≤ m) (hm1 : m ≤ 255) (w : World) : Calls Try.prog 5 #[.int .u8 m, .int .i64 ways] w fun e w' => e = .returned (.bool true) ∧ Below w.heap.size w w' := by
  go_enter Try.func5, Try.ntmps5
  go_wp2_with fail
  refine (vic_any m ways hm0 hm1 _).mono ?_
  rintro e w1 ⟨rfl, hb1⟩
  go_wp2_with fail
  refine (rvic_any m ways hm0 hm1 _).mono ?_
  rintro e w2 ⟨rfl, hb2⟩
  go_wp2_with fail
  refine (works_any _).mono ?_
  rintro e w3 ⟨rfl, hb3⟩
  go_wp2
  go_ret
  have s1 := hb1.size
  have s2 := hb2.size
  exact ⟨rfl, (hb1.trans (hb2.mono (by omega))).trans (hb3.mono (by omega))⟩
end Go.Proofs.Ytnhppcgpplbnpaa.Laws
