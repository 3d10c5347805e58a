/-
  Put of the document walked: the same bytes.
-/
import Derived.Test.YtnjojcikahiieaaNPut
import Derived.Deep.RegionHeld3
import Derived.IntWalk
namespace Go.Proofs.Ytnjojcikahiieaa.NPutR
open Go.RowKit Base Blks Words NRec NSmall NLaw NPlain NNum NVal NNumR NMayAll NPut
set_option linter.unusedVariables false
set_option linter.unusedSimpArgs false
set_option maxRecDepth 100000

theorem numberR_1 (x : Int) (x0 : 0 ≤ x) (x1 : x ≤ 18446744073709551615) (w : World) : Calls Try.prog 24 #[.int .u64 x, .int .i64 1] w fun e w' => e = .returned (.string ⟨(bytesB x 1).toArray⟩) ∧ Below w.heap.size w w' := numberR_any x 1 (by omega) x0 x1 w
theorem numberR_2 (x : Int) (x0 : 0 ≤ x) (x1 : x ≤ 18446744073709551615) (w : World) : Calls Try.prog 24 #[.int .u64 x, .int .i64 2] w fun e w' => e = .returned (.string ⟨(bytesB x 2).toArray⟩) ∧ Below w.heap.size w w' := numberR_any x 2 (by omega) x0 x1 w
theorem numberR_4 (x : Int) (x0 : 0 ≤ x) (x1 : x ≤ 18446744073709551615) (w : World) : Calls Try.prog 24 #[.int .u64 x, .int .i64 4] w fun e w' => e = .returned (.string ⟨(bytesB x 4).toArray⟩) ∧ Below w.heap.size w w' := numberR_any x 4 (by omega) x0 x1 w
theorem numberR_8 (x : Int) (x0 : 0 ≤ x) (x1 : x ≤ 18446744073709551615) (w : World) : Calls Try.prog 24 #[.int .u64 x, .int .i64 8] w fun e w' => e = .returned (.string ⟨(bytesB x 8).toArray⟩) ∧ Below w.heap.size w w' := numberR_any x 8 (by omega) x0 x1 w
theorem numberR_at (x : Int) (m : Nat) (hm : m ≤ 8) (x0 : 0 ≤ x) (x1 : x ≤ 18446744073709551615) (w : World) : Calls Try.prog 24 #[.int .u64 x, .int .i64 (m : Int)] w fun e w' => ∃ a : ByteArray, e = .returned (.string a) ∧ a = ⟨(bytesB x m).toArray⟩ ∧ a.size = m ∧ Below w.heap.size w w' :=
  (numberR_any x m hm x0 x1 w).mono fun e w' h => ⟨_, h.1, rfl, by simp [bytesB, ByteArray.size], h.2⟩
theorem u64_in (x : Int) (h0 : 0 ≤ x) (h1 : x ≤ 18446744073709551615) : IntKind.u64.wrap x = x := by
  unfold IntKind.wrap
  simp [IntKind.signed, IntKind.bits]
  omega
theorem bytesB_one (x : Int) (h0 : 0 ≤ x) (h1 : x ≤ 255) : bytesB x 1 = [UInt8.ofNat x.toNat] := by
  have : byteN x 0 = x := by unfold byteN; simp; omega
  simp [bytesB, this]
theorem headB_sum {n : NT} (g : GoodN n) : headB n = bytesB n.K 1 ++ bytesB (n.Fr + 1) 1 ++ bytesB (n.To + 1) 1 ++ bytesB n.B 2 ++ bytesB n.St 8 ++ bytesB (bitsN n) 1 := by
  have := g.K0; have := g.K1; have := g.F0; have := g.F1; have := g.T0; have := g.T1
  have hb := bits_bd g
  rw [bytesB_one n.K (by omega) (by omega), bytesB_one (n.Fr + 1) (by omega) (by omega), bytesB_one (n.To + 1) (by omega) (by omega), bytesB_one (bitsN n) hb.1 (by omega)]
  simp [headB]
structure QB (w0 w : World) (N0 : Nat) (n : NT) : Prop where
  N : NAt w N0 n
  bel : Below w0.heap.size w0 w
theorem QB.below {w0 w w' : World} {N0 : Nat} {n : NT} (h : QB w0 w N0 n) (hb : Below w.heap.size w w') : QB w0 w' N0 n := ⟨h.N.below hb h.N.lt, below_then h.bel hb⟩
theorem QB.drew {w0 w : World} {N0 : Nat} {n : NT} (h : QB w0 w N0 n) : QB w0 w.drew N0 n := ⟨h.N, h.bel.drew⟩
theorem QB.cells {w0 w : World} {N0 : Nat} {n : NT} (h : QB w0 w N0 n) : w.cell? ⟨N0, 0, none⟩ = some (.int .u8 n.K) ∧ w.cell? ⟨N0, 1, none⟩ = some (.int .i64 n.Fr) ∧ w.cell? ⟨N0, 2, none⟩ = some (.int .i64 n.To) ∧ w.cell? ⟨N0, 3, none⟩ = some (.int .i64 n.B) ∧
    w.cell? ⟨N0, 4, none⟩ = some (.int .u64 n.St) := by
  obtain ⟨y0, y1, y2, y3, y4, y5, y6, y7⟩ := h.N.cells
  exact ⟨y0, y1, y2, y3, y4⟩

theorem PutR_no (n : NT) (hi : Ins n) (hm : mayN n = false) (w : World) :
    Calls Try.prog 16 #[.agg (ntL n).toArray] w fun e w' => e = .returned (.tuple #[.string ⟨#[]⟩, .int .i64 2]) ∧ Below w.heap.size w w' := by
  have N0 := hide (NAt.new w n)
  have HB := hide ((Below.refl w.heap.size w).alloc (Nat.le_refl _) (.cells (ntL n).toArray 29))
  have M := hide (fun w => doc_any n hi.K0 hi.K1 w)
  rw [hm] at M
  clear hi hm
  go_enter Try.func16, Try.ntmps16
  go_wp2_with (first
    | ((with_reducible refine load_note rfl (.tmp 1) rfl w.heap.size rfl N0.out ?_)))
  refine (M.out _).mono ?_
  rintro e w2 ⟨rfl, hb2⟩
  have HB2 := hide (HB.out.trans (hb2.mono HB.out.size))
  go_wp2
  go_ret2
  exact ⟨rfl, HB2.out⟩
set_option maxHeartbeats 4000000 in
theorem PutR_ok (n : NT) (hi : Ins n) (hm : mayN n = true) (w : World) :
    Calls Try.prog 16 #[.agg (ntL n).toArray] w fun e w' => e = .returned (.tuple #[.string ⟨(putB n).toArray⟩, .int .i64 0]) ∧ Below w.heap.size w w' := by
  have g := good_of hm hi.S0
  have N0 := hide (NAt.new w n)
  have HB := hide ((Below.refl w.heap.size w).alloc (Nat.le_refl _) (.cells (ntL n).toArray 29))
  have M := hide (fun w => doc_any n hi.K0 hi.K1 w)
  rw [hm] at M
  have G := hide g
  have I := hide hi
  obtain ⟨k0, k1, f0, f1, t0, t1, b0, b1, s0, s1⟩ := g
  have st0 := hi.St0
  have st1 := hi.St1
  clear hi hm
  go_enter Try.func16, Try.ntmps16
  go_wp2_with (first
    | ((with_reducible refine load_note rfl (.tmp 1) rfl w.heap.size rfl N0.out ?_)))
  refine (M.out _).mono ?_
  rintro e w2 ⟨rfl, hb2⟩
  have Q2 : Hid (QB w w2 w.heap.size n) := hide ⟨N0.out.below hb2 (by simp), HB.out.trans (hb2.mono HB.out.size)⟩
  clear hb2 HB N0 M
  obtain ⟨y0, y1, y2, y3, y4, y5, y6, y7⟩ := Q2.out.N.cells
  cases hh : n.Ha
  all_goals
    cases hk : n.Sk
    all_goals
      rw [hh] at y6
      rw [hk] at y7
      have HH := hide hh
      have HK := hide hk
      clear hh hk
      go_upto_region 8 with fail
      first
        | rw [show 4 * n.S + 2 + 1 = bitsN n by unfold bitsN; rw [HH.out, HK.out]; (try simp); (try omega)]
        | rw [show 4 * n.S + 2 = bitsN n by unfold bitsN; rw [HH.out, HK.out]; (try simp); (try omega)]
        | rw [show 4 * n.S + 1 = bitsN n by unfold bitsN; rw [HH.out, HK.out]; (try simp); (try omega)]
        | rw [show 4 * n.S = bitsN n by unfold bitsN; rw [HH.out, HK.out]; (try simp); (try omega)]
      clear y0 y1 y2 y3 y4 y5 y6 y7 HH HK
      have hbn := bits_bd G.out
      have S3 := hide Q2.out.drew
      have hc := S3.out.cells
      have hw1 : IntKind.i64.wrap (n.Fr + 1) = n.Fr + 1 := IntWalk.i64_in _ (by omega)
      have hw2 : IntKind.i64.wrap (n.To + 1) = n.To + 1 := IntWalk.i64_in _ (by omega)
      have hu1 : IntKind.u64.wrap n.K = n.K := u64_in _ (by omega) (by omega)
      have hu2 : IntKind.u64.wrap (n.Fr + 1) = n.Fr + 1 := u64_in _ (by omega) (by omega)
      have hu3 : IntKind.u64.wrap (n.To + 1) = n.To + 1 := u64_in _ (by omega) (by omega)
      have hu4 : IntKind.u64.wrap n.B = n.B := u64_in _ (by omega) (by omega)
      have hp1 : 0 ≤ n.Fr + 1 := by omega
      have hp2 : 0 ≤ n.To + 1 := by omega
      -- REGION
      refine wp_region_held_drew (S := (fun w' => (w'.cell? ⟨w.heap.size, 0, none⟩ = some (.int .u8 n.K) ∧ w'.cell? ⟨w.heap.size, 1, none⟩ = some (.int .i64 n.Fr) ∧ w'.cell? ⟨w.heap.size, 2, none⟩ = some (.int .i64 n.To) ∧ w'.cell? ⟨w.heap.size, 3, none⟩ = some (.int .i64 n.B) ∧ w'.cell? ⟨w.heap.size, 4, none⟩ = some (.int .u64 n.St)))) (by kernel_rfl) hc (fun hH0 => ?_)
      refine wpAnyH_take (i := 0) (v := ?_) rfl (by kernel_rfl) (by kernel_rfl) (by kernel_rfl) (fun _ _ _ h => h) (Or.inl ⟨by rfl, fun w hSw => ?_⟩) hH0 ?_
      rotate_left
      · clear hSw
        go_simp
        try with_reducible rfl
      try simp only [Act.put, List.getElem_toArray, List.getElem_cons_zero, List.getElem_cons_succ, List.setIfInBounds_toArray, List.set_cons_zero, List.set_cons_succ]
      refine wpAnyH_take (i := 1) (v := ?_) rfl (by kernel_rfl) (by kernel_rfl) (by kernel_rfl) (fun _ _ _ h => h) (Or.inl ⟨by rfl, fun w hSw => ?_⟩) hH0 ?_
      rotate_left
      · obtain ⟨c0, c1, c2, c3, c4⟩ := hSw
        go_simp
        try with_reducible rfl
      try simp only [Act.put, List.getElem_toArray, List.getElem_cons_zero, List.getElem_cons_succ, List.setIfInBounds_toArray, List.set_cons_zero, List.set_cons_succ]
      refine wpAnyH_take (i := 2) (v := ?_) rfl (by kernel_rfl) (by kernel_rfl) (by kernel_rfl) (fun _ _ _ h => h) (Or.inl ⟨by rfl, fun w hSw => ?_⟩) hH0 ?_
      rotate_left
      · clear hSw
        go_simp
        try with_reducible rfl
      try simp only [Act.put, List.getElem_toArray, List.getElem_cons_zero, List.getElem_cons_succ, List.setIfInBounds_toArray, List.set_cons_zero, List.set_cons_succ]
      refine wpAnyH_take (i := 4) (v := ?_) rfl (by kernel_rfl) (by kernel_rfl) (by kernel_rfl) (fun _ _ _ h => h) (Or.inl ⟨by rfl, fun w hSw => ?_⟩) hH0 ?_
      rotate_left
      · clear hSw
        go_simp
        try with_reducible rfl
      try simp only [Act.put, List.getElem_toArray, List.getElem_cons_zero, List.getElem_cons_succ, List.setIfInBounds_toArray, List.set_cons_zero, List.set_cons_succ]
      refine wpAnyH_take (i := 5) (v := ?_) rfl (by kernel_rfl) (by kernel_rfl) (by kernel_rfl) (fun _ _ _ h => h) (Or.inl ⟨by rfl, fun w hSw => ?_⟩) hH0 ?_
      rotate_left
      · obtain ⟨c0, c1, c2, c3, c4⟩ := hSw
        go_simp
        try with_reducible rfl
      try simp only [Act.put, List.getElem_toArray, List.getElem_cons_zero, List.getElem_cons_succ, List.setIfInBounds_toArray, List.set_cons_zero, List.set_cons_succ]
      refine wpAnyH_take (i := 6) (v := ?_) rfl (by kernel_rfl) (by kernel_rfl) (by kernel_rfl) (fun _ _ _ h => h) (Or.inl ⟨by rfl, fun w hSw => ?_⟩) hH0 ?_
      rotate_left
      · clear hSw
        go_simp
        try with_reducible rfl
      try simp only [Act.put, List.getElem_toArray, List.getElem_cons_zero, List.getElem_cons_succ, List.setIfInBounds_toArray, List.set_cons_zero, List.set_cons_succ]
      refine wpAnyH_take (i := 7) (v := ?_) rfl (by kernel_rfl) (by kernel_rfl) (by kernel_rfl) (fun _ _ _ h => h) (Or.inl ⟨by rfl, fun w hSw => ?_⟩) hH0 ?_
      rotate_left
      · clear hSw
        go_simp
        try with_reducible rfl
      try simp only [Act.put, List.getElem_toArray, List.getElem_cons_zero, List.getElem_cons_succ, List.setIfInBounds_toArray, List.set_cons_zero, List.set_cons_succ]
      refine wpAnyH_take (i := 10) (v := ?_) rfl (by kernel_rfl) (by kernel_rfl) (by kernel_rfl) (fun _ _ _ h => h) (Or.inl ⟨by rfl, fun w hSw => ?_⟩) hH0 ?_
      rotate_left
      · clear hSw
        go_simp
        try with_reducible rfl
      try simp only [Act.put, List.getElem_toArray, List.getElem_cons_zero, List.getElem_cons_succ, List.setIfInBounds_toArray, List.set_cons_zero, List.set_cons_succ]
      refine wpAnyH_take (i := 11) (v := ?_) rfl (by kernel_rfl) (by kernel_rfl) (by kernel_rfl) (fun _ _ _ h => h) (Or.inl ⟨by rfl, fun w hSw => ?_⟩) hH0 ?_
      rotate_left
      · obtain ⟨c0, c1, c2, c3, c4⟩ := hSw
        go_simp
        try with_reducible rfl
      try simp only [Act.put, List.getElem_toArray, List.getElem_cons_zero, List.getElem_cons_succ, List.setIfInBounds_toArray, List.set_cons_zero, List.set_cons_succ]
      refine wpAnyH_take (i := 12) (v := ?_) rfl (by kernel_rfl) (by kernel_rfl) (by kernel_rfl) (fun _ _ _ h => h) (Or.inl ⟨by rfl, fun w hSw => ?_⟩) hH0 ?_
      rotate_left
      · clear hSw
        go_simp
        try with_reducible rfl
      try simp only [Act.put, List.getElem_toArray, List.getElem_cons_zero, List.getElem_cons_succ, List.setIfInBounds_toArray, List.set_cons_zero, List.set_cons_succ]
      refine wpAnyH_take (i := 13) (v := ?_) rfl (by kernel_rfl) (by kernel_rfl) (by kernel_rfl) (fun _ _ _ h => h) (Or.inl ⟨by rfl, fun w hSw => ?_⟩) hH0 ?_
      rotate_left
      · clear hSw
        go_simp
        try with_reducible rfl
      try simp only [Act.put, List.getElem_toArray, List.getElem_cons_zero, List.getElem_cons_succ, List.setIfInBounds_toArray, List.set_cons_zero, List.set_cons_succ]
      refine wpAnyH_take (i := 16) (v := ?_) rfl (by kernel_rfl) (by kernel_rfl) (by kernel_rfl) (fun _ _ _ h => h) (Or.inl ⟨by rfl, fun w hSw => ?_⟩) hH0 ?_
      rotate_left
      · clear hSw
        go_simp
        try with_reducible rfl
      try simp only [Act.put, List.getElem_toArray, List.getElem_cons_zero, List.getElem_cons_succ, List.setIfInBounds_toArray, List.set_cons_zero, List.set_cons_succ]
      refine wpAnyH_take (i := 17) (v := ?_) rfl (by kernel_rfl) (by kernel_rfl) (by kernel_rfl) (fun _ _ _ h => h) (Or.inl ⟨by rfl, fun w hSw => ?_⟩) hH0 ?_
      rotate_left
      · obtain ⟨c0, c1, c2, c3, c4⟩ := hSw
        go_simp
        try with_reducible rfl
      try simp only [Act.put, List.getElem_toArray, List.getElem_cons_zero, List.getElem_cons_succ, List.setIfInBounds_toArray, List.set_cons_zero, List.set_cons_succ]
      refine wpAnyH_take (i := 18) (v := ?_) rfl (by kernel_rfl) (by kernel_rfl) (by kernel_rfl) (fun _ _ _ h => h) (Or.inl ⟨by rfl, fun w hSw => ?_⟩) hH0 ?_
      rotate_left
      · clear hSw
        go_simp
        try with_reducible rfl
      try simp only [Act.put, List.getElem_toArray, List.getElem_cons_zero, List.getElem_cons_succ, List.setIfInBounds_toArray, List.set_cons_zero, List.set_cons_succ]
      refine wpAnyH_take (i := 21) (v := ?_) rfl (by kernel_rfl) (by kernel_rfl) (by kernel_rfl) (fun _ _ _ h => h) (Or.inl ⟨by rfl, fun w hSw => ?_⟩) hH0 ?_
      rotate_left
      · clear hSw
        go_simp
        try with_reducible rfl
      try simp only [Act.put, List.getElem_toArray, List.getElem_cons_zero, List.getElem_cons_succ, List.setIfInBounds_toArray, List.set_cons_zero, List.set_cons_succ]
      refine wpAnyH_take (i := 22) (v := ?_) rfl (by kernel_rfl) (by kernel_rfl) (by kernel_rfl) (fun _ _ _ h => h) (Or.inl ⟨by rfl, fun w hSw => ?_⟩) hH0 ?_
      rotate_left
      · obtain ⟨c0, c1, c2, c3, c4⟩ := hSw
        go_simp
        try with_reducible rfl
      try simp only [Act.put, List.getElem_toArray, List.getElem_cons_zero, List.getElem_cons_succ, List.setIfInBounds_toArray, List.set_cons_zero, List.set_cons_succ]
      refine wpAnyH_take (i := 25) (v := ?_) rfl (by kernel_rfl) (by kernel_rfl) (by kernel_rfl) (fun _ _ _ h => h) (Or.inl ⟨by rfl, fun w hSw => ?_⟩) hH0 ?_
      rotate_left
      · clear hSw
        go_simp
        try with_reducible rfl
      try simp only [Act.put, List.getElem_toArray, List.getElem_cons_zero, List.getElem_cons_succ, List.setIfInBounds_toArray, List.set_cons_zero, List.set_cons_succ]
      refine wpAnyH_ready (rs := [3]) (by kernel_rfl) (by simp) ?_
      refine AllReadyH.cons (o := _) rfl (fun K hK => ?_) AllReadyH.nil
      go_simp
      refine (numberR_at n.K 1 (by omega) (by omega) (by omega) _).mono ?_
      rintro e wm1 ⟨a1, rfl, ha1, hz1, hbm⟩
      have HA1 := hide ha1
      have S4 := hide (S3.out.below hbm)
      clear ha1 hbm S3
      refine hK.out _ _ (QB.cells S4.out) (fun hH1 => ?_)
      clear hK K
      try simp only [Act.put, List.getElem_toArray, List.getElem_cons_zero, List.getElem_cons_succ, List.setIfInBounds_toArray, List.set_cons_zero, List.set_cons_succ]
      refine wpAnyH_ready (rs := [8]) (by kernel_rfl) (by simp) ?_
      refine AllReadyH.cons (o := _) rfl (fun K hK => ?_) AllReadyH.nil
      go_simp
      refine (numberR_at (n.Fr + 1) 1 (by omega) (by omega) (by omega) _).mono ?_
      rintro e wm2 ⟨a2, rfl, ha2, hz2, hbm⟩
      have HA2 := hide ha2
      have S5 := hide (S4.out.below hbm)
      clear ha2 hbm S4
      have hs2 : (a1 ++ a2).size = 2 := by rw [ByteArray.size_append, hz1, hz2]
      refine hK.out _ _ (QB.cells S5.out) (fun hH2 => ?_)
      clear hK K
      try simp only [Act.put, List.getElem_toArray, List.getElem_cons_zero, List.getElem_cons_succ, List.setIfInBounds_toArray, List.set_cons_zero, List.set_cons_succ]
      refine wpAnyH_take (i := 9) (v := ?_) rfl (by kernel_rfl) (by kernel_rfl) (by kernel_rfl) (fun _ _ _ h => h) (Or.inl ⟨by rfl, fun w hSw => ?_⟩) hH2 ?_
      rotate_left
      · clear hSw
        go_simp
        try with_reducible rfl
      try simp only [Act.put, List.getElem_toArray, List.getElem_cons_zero, List.getElem_cons_succ, List.setIfInBounds_toArray, List.set_cons_zero, List.set_cons_succ]
      refine wpAnyH_ready (rs := [14]) (by kernel_rfl) (by simp) ?_
      refine AllReadyH.cons (o := _) rfl (fun K hK => ?_) AllReadyH.nil
      go_simp
      refine (numberR_at (n.To + 1) 1 (by omega) (by omega) (by omega) _).mono ?_
      rintro e wm3 ⟨a3, rfl, ha3, hz3, hbm⟩
      have HA3 := hide ha3
      have S6 := hide (S5.out.below hbm)
      clear ha3 hbm S5
      have hs3 : ((a1 ++ a2) ++ a3).size = 3 := by rw [ByteArray.size_append, hs2, hz3]
      refine hK.out _ _ (QB.cells S6.out) (fun hH3 => ?_)
      clear hK K
      try simp only [Act.put, List.getElem_toArray, List.getElem_cons_zero, List.getElem_cons_succ, List.setIfInBounds_toArray, List.set_cons_zero, List.set_cons_succ]
      refine wpAnyH_take (i := 15) (v := ?_) rfl (by kernel_rfl) (by kernel_rfl) (by kernel_rfl) (fun _ _ _ h => h) (Or.inl ⟨by rfl, fun w hSw => ?_⟩) hH3 ?_
      rotate_left
      · clear hSw
        go_simp
        try with_reducible rfl
      try simp only [Act.put, List.getElem_toArray, List.getElem_cons_zero, List.getElem_cons_succ, List.setIfInBounds_toArray, List.set_cons_zero, List.set_cons_succ]
      refine wpAnyH_ready (rs := [19]) (by kernel_rfl) (by simp) ?_
      refine AllReadyH.cons (o := _) rfl (fun K hK => ?_) AllReadyH.nil
      go_simp
      refine (numberR_at n.B 2 (by omega) (by omega) (by omega) _).mono ?_
      rintro e wm4 ⟨a4, rfl, ha4, hz4, hbm⟩
      have HA4 := hide ha4
      have S7 := hide (S6.out.below hbm)
      clear ha4 hbm S6
      have hs4 : (((a1 ++ a2) ++ a3) ++ a4).size = 5 := by rw [ByteArray.size_append, hs3, hz4]
      refine hK.out _ _ (QB.cells S7.out) (fun hH4 => ?_)
      clear hK K
      try simp only [Act.put, List.getElem_toArray, List.getElem_cons_zero, List.getElem_cons_succ, List.setIfInBounds_toArray, List.set_cons_zero, List.set_cons_succ]
      refine wpAnyH_take (i := 20) (v := ?_) rfl (by kernel_rfl) (by kernel_rfl) (by kernel_rfl) (fun _ _ _ h => h) (Or.inl ⟨by rfl, fun w hSw => ?_⟩) hH4 ?_
      rotate_left
      · clear hSw
        go_simp
        try with_reducible rfl
      try simp only [Act.put, List.getElem_toArray, List.getElem_cons_zero, List.getElem_cons_succ, List.setIfInBounds_toArray, List.set_cons_zero, List.set_cons_succ]
      refine wpAnyH_ready (rs := [23]) (by kernel_rfl) (by simp) ?_
      refine AllReadyH.cons (o := _) rfl (fun K hK => ?_) AllReadyH.nil
      go_simp
      refine (numberR_at n.St 8 (by omega) (by omega) (by omega) _).mono ?_
      rintro e wm5 ⟨a5, rfl, ha5, hz5, hbm⟩
      have HA5 := hide ha5
      have S8 := hide (S7.out.below hbm)
      clear ha5 hbm S7
      have hs5 : ((((a1 ++ a2) ++ a3) ++ a4) ++ a5).size = 13 := by rw [ByteArray.size_append, hs4, hz5]
      refine hK.out _ _ (QB.cells S8.out) (fun hH5 => ?_)
      clear hK K
      try simp only [Act.put, List.getElem_toArray, List.getElem_cons_zero, List.getElem_cons_succ, List.setIfInBounds_toArray, List.set_cons_zero, List.set_cons_succ]
      refine wpAnyH_take (i := 24) (v := ?_) rfl (by kernel_rfl) (by kernel_rfl) (by kernel_rfl) (fun _ _ _ h => h) (Or.inl ⟨by rfl, fun w hSw => ?_⟩) hH5 ?_
      rotate_left
      · clear hSw
        go_simp
        try with_reducible rfl
      try simp only [Act.put, List.getElem_toArray, List.getElem_cons_zero, List.getElem_cons_succ, List.setIfInBounds_toArray, List.set_cons_zero, List.set_cons_succ]
      refine wpAnyH_ready (rs := [26]) (by kernel_rfl) (by simp) ?_
      refine AllReadyH.cons (o := _) rfl (fun K hK => ?_) AllReadyH.nil
      go_simp
      refine (numberR_at (bitsN n) 1 (by omega) (by omega) (by omega) _).mono ?_
      rintro e wm6 ⟨a6, rfl, ha6, hz6, hbm⟩
      have HA6 := hide ha6
      have S9 := hide (S8.out.below hbm)
      clear ha6 hbm S8
      have hs6 : (((((a1 ++ a2) ++ a3) ++ a4) ++ a5) ++ a6).size = 14 := by rw [ByteArray.size_append, hs5, hz6]
      refine hK.out _ _ (QB.cells S9.out) (fun hH6 => ?_)
      clear hK K
      try simp only [Act.put, List.getElem_toArray, List.getElem_cons_zero, List.getElem_cons_succ, List.setIfInBounds_toArray, List.set_cons_zero, List.set_cons_succ]
      refine wpAnyH_take (i := 27) (v := ?_) rfl (by kernel_rfl) (by kernel_rfl) (by kernel_rfl) (fun _ _ _ h => h) (Or.inl ⟨by rfl, fun w hSw => ?_⟩) hH6 ?_
      rotate_left
      · clear hSw
        go_simp
        try with_reducible rfl
      try simp only [Act.put, List.getElem_toArray, List.getElem_cons_zero, List.getElem_cons_succ, List.setIfInBounds_toArray, List.set_cons_zero, List.set_cons_succ]
      refine wpAnyH_take (i := 28) (v := ?_) rfl (by kernel_rfl) (by kernel_rfl) (by kernel_rfl) (fun _ _ _ h => h) (Or.inl ⟨by rfl, fun w hSw => ?_⟩) hH6 ?_
      rotate_left
      · clear hSw
        go_simp
        try with_reducible rfl
      try simp only [Act.put, List.getElem_toArray, List.getElem_cons_zero, List.getElem_cons_succ, List.setIfInBounds_toArray, List.set_cons_zero, List.set_cons_succ]
      refine wpAnyH_done (by kernel_rfl) ?_ _
      -- END
      have he : a1 ++ a2 ++ a3 ++ a4 ++ a5 ++ a6 = ⟨(headB n).toArray⟩ := by
        rw [HA1.out, HA2.out, HA3.out, HA4.out, HA5.out, HA6.out]
        simp only [str_add]
        rw [headB_sum G.out]
        simp
      rw [he]
      clear he HA1 HA2 HA3 HA4 HA5 HA6 hz1 hz2 hz3 hz4 hz5 hz6 hs2 hs3 hs4 hs5 hs6 hw1 hw2 hu1 hu2 hu3 hu4 hp1 hp2 hc Q2
      go_wp2_with fail
      go_loopw [5, 6] (fun s i wr => ∃ k : Nat, k ≤ 16 ∧ s = .string ⟨(headB n ++ dataB n.f k).toArray⟩ ∧ i = .int .i64 k ∧ Hid (QB w wr w.heap.size n)) (fun _ i _ => 16 - (intOf i).toNat)
      case atStart => exact ⟨0, by omega, by simp [dataB], rfl, S9⟩
      case round =>
        clear S9
        obtain ⟨k, hk, rfl, rfl, hQ⟩ := hrel
        by_cases hlt : k < 16
        · have hcell := hQ.out.N.word hlt
          obtain ⟨fk0, fk1⟩ := I.out.f k hlt
          have HV := hide (dataB_succ n.f k)
          have hlt' : (k : Int) < 16 := by omega
          have hlen : (headB n ++ dataB n.f k).length = 14 + k * 4 := by
            have := dataV_len n.f k
            rw [dataV_map, List.length_map] at this
            rw [List.length_append, headB_len, this]
          have hl4 : (bytesB (n.f k) 4).length = 4 := by simp [bytesB]
          have HS := hide hlen
          have HS4 := hide hl4
          clear hlen hl4
          generalize hA : headB n ++ dataB n.f k = A at *
          have HAA := hide hA
          clear hA
          generalize hy : n.f k = y at *
          clear hy
          go_wp2_with fail
          refine (numberR_4 y fk0 (by omega) _).mono ?_
          rintro e w6 ⟨rfl, hb6⟩
          have Q6 := hide (hQ.out.below hb6)
          have hlen := HS.out
          have hl4 := HS4.out
          clear hb6 hcell
          go_wp2_with fail
          go_roundw
          case rel =>
            refine ⟨k + 1, by omega, ?_, by go_num, Q6⟩
            rw [str_add, HV.out, ← List.append_assoc, HAA.out]
            simp
          case measure => simp [intOf]; omega
        · obtain rfl : k = 16 := by omega
          go_wp2
          go_ret2
          exact ⟨rfl, hQ.out.bel⟩
end Go.Proofs.Ytnjojcikahiieaa.NPutR
