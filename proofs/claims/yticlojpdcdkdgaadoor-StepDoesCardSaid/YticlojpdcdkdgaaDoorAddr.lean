/-
  Addr of the layer 'step' walked, the program's and the reference's.
-/
import Derived.Test.YticlojpdcdkdgaaDoorDoSt
namespace Go.Proofs.YticlojpdcdkdgaaDoor.AddrOf
open Go.RowKit Base Blks CodePlain CodeBits CodeTab Regs DoSt
set_option linter.unusedVariables false
set_option linter.unusedSimpArgs false
set_option maxRecDepth 100000

def addrX (k : Nat) (a b c n : Int) (f : Nat → Int) : Int := if mayB k a b c n = true ∧ (k = 9 ∨ k = 10 ∨ k = 11) then (getF f b + n) % 4294967296 else 0
def addrE (k : Nat) (a b c n : Int) : Int := if mayB k a b c n = true then (if k = 9 ∨ k = 10 ∨ k = 11 then 0 else 4) else 2

/-- The registers and the instruction in two blocks of the call's own. -/
structure ASt (w0 w : World) (F : Nat → Int) (cs : Array Value) : Prop where
  regs : BlkAt w w0.heap.size 23 F
  code : Blk w (w0.heap.size + 1) 29 cs
  tab : Tab w
  bel : Below w0.heap.size w0 w
theorem ASt.below {w0 w w' : World} {F : Nat → Int} {cs : Array Value} (h : ASt w0 w F cs) (hb : Below w.heap.size w w') : ASt w0 w' F cs :=
  ⟨h.regs.of_block (hb.block _ h.regs.lt), h.code.below hb h.code.lt, h.tab.below hb, below_then h.bel hb⟩
theorem ASt.drew {w0 w : World} {F : Nat → Int} {cs : Array Value} (h : ASt w0 w F cs) : ASt w0 w.drew F cs := ⟨h.regs, h.code, h.tab, h.bel.drew⟩
theorem ASt.new (w : World) (hT : Tab w) (f : Nat → Int) (cs : Array Value) : ASt w ((w.alloc (.cells (blk f).toArray 23)).alloc (.cells cs 29)) f cs := by
  have hb := ((Below.refl w.heap.size w).alloc (Nat.le_refl _) (.cells (blk f).toArray 23)).alloc (by simp) (.cells cs 29)
  exact ⟨(blk_new w _ f).alloc _, Blk.new_at _ _ cs (by simp), hT.below hb, hb⟩

theorem addr_no (k : Nat) (a b c n : Int) (f : Nat → Int) (hk : k ≤ 255) (hm : mayB k a b c n = false) (w : World) (hT : Tab w) :
    Calls Tryd.prog 14 #[.agg (blk f).toArray, code5 k a b c n] w fun e w' => e = .returned (.tuple #[.int .u32 0, .int .i64 2]) ∧ Below w.heap.size w w' := by
  have HM := hide (fun w hT => CodeMay.may_any k a b c n hk w hT)
  rw [show errX k a b c n = 2 by simp [errX, hm]] at HM
  have S0 := ASt.new w hT f #[.int .u8 (k : Int), .int .i64 a, .int .i64 b, .int .i64 c, .int .i64 n]
  clear hT hm
  unfold code5 at *
  go_enter Tryd.func14, Tryd.ntmps14
  go_wp2_with fail
  refine (HM.out _ S0.tab).mono ?_
  rintro e w1 ⟨rfl, hb1⟩
  have S1 := S0.below hb1
  clear hb1
  go_wp2
  go_ret2
  exact ⟨rfl, S1.bel⟩
theorem addr_not (k : Nat) (a b c n : Int) (f : Nat → Int) (hm : mayB k a b c n = true) (h9 : ((k : Int) == 9) = false) (h10 : ((k : Int) == 10) = false) (h11 : ((k : Int) == 11) = false) (w : World) (hT : Tab w) :
    Calls Tryd.prog 14 #[.agg (blk f).toArray, code5 k a b c n] w fun e w' => e = .returned (.tuple #[.int .u32 0, .int .i64 4]) ∧ Below w.heap.size w w' := by
  have hk := mayB_lt hm
  have HM := hide (fun w hT => CodeMay.may_any k a b c n (by omega) w hT)
  rw [show errX k a b c n = 0 by simp [errX, hm]] at HM
  have S0 := ASt.new w hT f #[.int .u8 (k : Int), .int .i64 a, .int .i64 b, .int .i64 c, .int .i64 n]
  clear hT hm
  unfold code5 at *
  go_enter Tryd.func14, Tryd.ntmps14
  go_wp2_with fail
  refine (HM.out _ S0.tab).mono ?_
  rintro e w1 ⟨rfl, hb1⟩
  have S1 := S0.below hb1
  have hc := c5_of S1.code
  clear hb1
  go_wp2
  go_ret2
  exact ⟨rfl, S1.bel⟩
theorem retA {x y : Int} (h : x = y) : Ending.returned (.tuple #[.int .u32 x, .int .i64 0]) = .returned (.tuple #[.int .u32 y, .int .i64 0]) := by rw [h]
set_option maxHeartbeats 1000000 in
theorem addr_9 (a b c n : Int) (f : Nat → Int) (hm : mayB 9 a b c n = true) (w : World) (hT : Tab w) :
    Calls Tryd.prog 14 #[.agg (blk f).toArray, code5 9 a b c n] w fun e w' => e = .returned (.tuple #[.int .u32 ((getF f b + n) % 4294967296), .int .i64 0]) ∧ Below w.heap.size w w' := by
  have hu := Tryd.underlying23
  have HM := hide (fun w hT => CodeMay.may_any 9 a b c n (by omega) w hT)
  rw [show errX 9 a b c n = 0 by simp [errX, hm]] at HM
  have hn := n_bd hm
  obtain ⟨hn0, hn1⟩ := hn
  have S0 := ASt.new w hT f #[.int .u8 9, .int .i64 a, .int .i64 b, .int .i64 c, .int .i64 n]
  clear hT hm
  unfold code5 at *
  go_enter Tryd.func14, Tryd.ntmps14
  go_wp2_with fail
  refine (HM.out _ S0.tab).mono ?_
  rintro e w1 ⟨rfl, hb1⟩
  have S1 := S0.below hb1
  have hc := c5_of S1.code
  clear hb1
  go_wp2_with fail
  clear hc
  have S2 := S1.drew
  refine wp_region_held_drew (S := (fun w' => ASt w w' f #[.int .u8 9, .int .i64 a, .int .i64 b, .int .i64 c, .int .i64 n])) (by kernel_rfl) S2 (fun hH0 => ?_)
  refine wpAnyH_take (i := 0) (v := _) rfl (by kernel_rfl) (by kernel_rfl) (by kernel_rfl) (fun _ _ _ h => h) (yieldsIf_load_mid (by rfl) _ _ rfl _ _ rfl _ _ (fun w h => row_range h.regs) hu rfl (sizeR _)) hH0 ?_
  try simp only [Act.put, List.getElem_toArray, List.getElem_cons_zero, List.getElem_cons_succ, List.setIfInBounds_toArray, List.set_cons_zero, List.set_cons_succ]
  refine wpAnyH_take (i := 1) (v := ?_) rfl (by kernel_rfl) (by kernel_rfl) (by kernel_rfl) (fun _ _ _ h => h) (Or.inl ⟨by rfl, fun w hSw => ?_⟩) hH0 ?_
  rotate_left
  · clear hSw
    go_simp
    try with_reducible rfl
  try simp only [Act.put, List.getElem_toArray, List.getElem_cons_zero, List.getElem_cons_succ, List.setIfInBounds_toArray, List.set_cons_zero, List.set_cons_succ]
  refine wpAnyH_take (i := 2) (v := ?_) rfl (by kernel_rfl) (by kernel_rfl) (by kernel_rfl) (fun _ _ _ h => h) (Or.inl ⟨by rfl, fun w hSw => ?_⟩) hH0 ?_
  rotate_left
  · have hc := c5_of (ASt.code hSw)
    clear hSw
    go_simp
    try with_reducible rfl
  try simp only [Act.put, List.getElem_toArray, List.getElem_cons_zero, List.getElem_cons_succ, List.setIfInBounds_toArray, List.set_cons_zero, List.set_cons_succ]
  refine wpAnyH_take (i := 4) (v := ?_) rfl (by kernel_rfl) (by kernel_rfl) (by kernel_rfl) (fun _ _ _ h => h) (Or.inl ⟨by rfl, fun w hSw => ?_⟩) hH0 ?_
  rotate_left
  · clear hSw
    go_simp
    try with_reducible rfl
  try simp only [Act.put, List.getElem_toArray, List.getElem_cons_zero, List.getElem_cons_succ, List.setIfInBounds_toArray, List.set_cons_zero, List.set_cons_succ]
  refine wpAnyH_take (i := 5) (v := ?_) rfl (by kernel_rfl) (by kernel_rfl) (by kernel_rfl) (fun _ _ _ h => h) (Or.inl ⟨by rfl, fun w hSw => ?_⟩) hH0 ?_
  rotate_left
  · have hc := c5_of (ASt.code hSw)
    clear hSw
    go_simp
    try with_reducible rfl
  try simp only [Act.put, List.getElem_toArray, List.getElem_cons_zero, List.getElem_cons_succ, List.setIfInBounds_toArray, List.set_cons_zero, List.set_cons_succ]
  refine wpAnyH_take (i := 6) (v := ?_) rfl (by kernel_rfl) (by kernel_rfl) (by kernel_rfl) (fun _ _ _ h => h) (Or.inl ⟨by rfl, fun w hSw => ?_⟩) hH0 ?_
  rotate_left
  · clear hSw
    go_simp
    try with_reducible rfl
  try simp only [Act.put, List.getElem_toArray, List.getElem_cons_zero, List.getElem_cons_succ, List.setIfInBounds_toArray, List.set_cons_zero, List.set_cons_succ]
  refine wpAnyH_ready (rs := [3]) (by kernel_rfl) (by simp) ?_
  refine AllReadyH.cons (o := _) rfl (fun K hK => ?_) AllReadyH.nil
  go_simp
  refine (get_any f b _).mono ?_
  rintro e wa ⟨rfl, hba⟩
  refine hK.out _ _ (ASt.below hH0 hba) (fun hH1 => ?_)
  clear hK K
  try simp only [Act.put, List.getElem_toArray, List.getElem_cons_zero, List.getElem_cons_succ, List.setIfInBounds_toArray, List.set_cons_zero, List.set_cons_succ]
  refine wpAnyH_take (i := 7) (v := ?_) rfl (by kernel_rfl) (by kernel_rfl) (by kernel_rfl) (fun _ _ _ h => h) (Or.inl ⟨by rfl, fun w hSw => ?_⟩) hH1 ?_
  rotate_left
  · clear hSw
    go_simp
    try with_reducible rfl
  try simp only [Act.put, List.getElem_toArray, List.getElem_cons_zero, List.getElem_cons_succ, List.setIfInBounds_toArray, List.set_cons_zero, List.set_cons_succ]
  refine wpAnyH_take (i := 8) (v := ?_) rfl (by kernel_rfl) (by kernel_rfl) (by kernel_rfl) (fun _ _ _ h => h) (Or.inl ⟨by rfl, fun w hSw => ?_⟩) hH1 ?_
  rotate_left
  · clear hSw
    go_simp
    try with_reducible rfl
  try simp only [Act.put, List.getElem_toArray, List.getElem_cons_zero, List.getElem_cons_succ, List.setIfInBounds_toArray, List.set_cons_zero, List.set_cons_succ]
  refine wpAnyH_take (i := 9) (v := ?_) rfl (by kernel_rfl) (by kernel_rfl) (by kernel_rfl) (fun _ _ _ h => h) (Or.inl ⟨by rfl, fun w hSw => ?_⟩) hH1 ?_
  rotate_left
  · clear hSw
    go_simp
    try with_reducible rfl
  try simp only [Act.put, List.getElem_toArray, List.getElem_cons_zero, List.getElem_cons_succ, List.setIfInBounds_toArray, List.set_cons_zero, List.set_cons_succ]
  refine wpAnyH_done (by kernel_rfl) ?_ _
  have S3 : ASt w wa f #[.int .u8 9, .int .i64 a, .int .i64 b, .int .i64 c, .int .i64 n] := hH1
  clear hH0 hH1 S2
  go_wp2
  go_ret2
  exact ⟨retA (by show _ = _; simp only [IntKind.wrap_u32']; omega), S3.bel⟩
set_option maxHeartbeats 1000000 in
theorem addr_10 (a b c n : Int) (f : Nat → Int) (hm : mayB 10 a b c n = true) (w : World) (hT : Tab w) :
    Calls Tryd.prog 14 #[.agg (blk f).toArray, code5 10 a b c n] w fun e w' => e = .returned (.tuple #[.int .u32 ((getF f b + n) % 4294967296), .int .i64 0]) ∧ Below w.heap.size w w' := by
  have hu := Tryd.underlying23
  have HM := hide (fun w hT => CodeMay.may_any 10 a b c n (by omega) w hT)
  rw [show errX 10 a b c n = 0 by simp [errX, hm]] at HM
  have hn := n_bd hm
  obtain ⟨hn0, hn1⟩ := hn
  have S0 := ASt.new w hT f #[.int .u8 10, .int .i64 a, .int .i64 b, .int .i64 c, .int .i64 n]
  clear hT hm
  unfold code5 at *
  go_enter Tryd.func14, Tryd.ntmps14
  go_wp2_with fail
  refine (HM.out _ S0.tab).mono ?_
  rintro e w1 ⟨rfl, hb1⟩
  have S1 := S0.below hb1
  have hc := c5_of S1.code
  clear hb1
  go_wp2_with fail
  clear hc
  have S2 := S1.drew
  refine wp_region_held_drew (S := (fun w' => ASt w w' f #[.int .u8 10, .int .i64 a, .int .i64 b, .int .i64 c, .int .i64 n])) (by kernel_rfl) S2 (fun hH0 => ?_)
  refine wpAnyH_take (i := 0) (v := _) rfl (by kernel_rfl) (by kernel_rfl) (by kernel_rfl) (fun _ _ _ h => h) (yieldsIf_load_mid (by rfl) _ _ rfl _ _ rfl _ _ (fun w h => row_range h.regs) hu rfl (sizeR _)) hH0 ?_
  try simp only [Act.put, List.getElem_toArray, List.getElem_cons_zero, List.getElem_cons_succ, List.setIfInBounds_toArray, List.set_cons_zero, List.set_cons_succ]
  refine wpAnyH_take (i := 1) (v := ?_) rfl (by kernel_rfl) (by kernel_rfl) (by kernel_rfl) (fun _ _ _ h => h) (Or.inl ⟨by rfl, fun w hSw => ?_⟩) hH0 ?_
  rotate_left
  · clear hSw
    go_simp
    try with_reducible rfl
  try simp only [Act.put, List.getElem_toArray, List.getElem_cons_zero, List.getElem_cons_succ, List.setIfInBounds_toArray, List.set_cons_zero, List.set_cons_succ]
  refine wpAnyH_take (i := 2) (v := ?_) rfl (by kernel_rfl) (by kernel_rfl) (by kernel_rfl) (fun _ _ _ h => h) (Or.inl ⟨by rfl, fun w hSw => ?_⟩) hH0 ?_
  rotate_left
  · have hc := c5_of (ASt.code hSw)
    clear hSw
    go_simp
    try with_reducible rfl
  try simp only [Act.put, List.getElem_toArray, List.getElem_cons_zero, List.getElem_cons_succ, List.setIfInBounds_toArray, List.set_cons_zero, List.set_cons_succ]
  refine wpAnyH_take (i := 4) (v := ?_) rfl (by kernel_rfl) (by kernel_rfl) (by kernel_rfl) (fun _ _ _ h => h) (Or.inl ⟨by rfl, fun w hSw => ?_⟩) hH0 ?_
  rotate_left
  · clear hSw
    go_simp
    try with_reducible rfl
  try simp only [Act.put, List.getElem_toArray, List.getElem_cons_zero, List.getElem_cons_succ, List.setIfInBounds_toArray, List.set_cons_zero, List.set_cons_succ]
  refine wpAnyH_take (i := 5) (v := ?_) rfl (by kernel_rfl) (by kernel_rfl) (by kernel_rfl) (fun _ _ _ h => h) (Or.inl ⟨by rfl, fun w hSw => ?_⟩) hH0 ?_
  rotate_left
  · have hc := c5_of (ASt.code hSw)
    clear hSw
    go_simp
    try with_reducible rfl
  try simp only [Act.put, List.getElem_toArray, List.getElem_cons_zero, List.getElem_cons_succ, List.setIfInBounds_toArray, List.set_cons_zero, List.set_cons_succ]
  refine wpAnyH_take (i := 6) (v := ?_) rfl (by kernel_rfl) (by kernel_rfl) (by kernel_rfl) (fun _ _ _ h => h) (Or.inl ⟨by rfl, fun w hSw => ?_⟩) hH0 ?_
  rotate_left
  · clear hSw
    go_simp
    try with_reducible rfl
  try simp only [Act.put, List.getElem_toArray, List.getElem_cons_zero, List.getElem_cons_succ, List.setIfInBounds_toArray, List.set_cons_zero, List.set_cons_succ]
  refine wpAnyH_ready (rs := [3]) (by kernel_rfl) (by simp) ?_
  refine AllReadyH.cons (o := _) rfl (fun K hK => ?_) AllReadyH.nil
  go_simp
  refine (get_any f b _).mono ?_
  rintro e wa ⟨rfl, hba⟩
  refine hK.out _ _ (ASt.below hH0 hba) (fun hH1 => ?_)
  clear hK K
  try simp only [Act.put, List.getElem_toArray, List.getElem_cons_zero, List.getElem_cons_succ, List.setIfInBounds_toArray, List.set_cons_zero, List.set_cons_succ]
  refine wpAnyH_take (i := 7) (v := ?_) rfl (by kernel_rfl) (by kernel_rfl) (by kernel_rfl) (fun _ _ _ h => h) (Or.inl ⟨by rfl, fun w hSw => ?_⟩) hH1 ?_
  rotate_left
  · clear hSw
    go_simp
    try with_reducible rfl
  try simp only [Act.put, List.getElem_toArray, List.getElem_cons_zero, List.getElem_cons_succ, List.setIfInBounds_toArray, List.set_cons_zero, List.set_cons_succ]
  refine wpAnyH_take (i := 8) (v := ?_) rfl (by kernel_rfl) (by kernel_rfl) (by kernel_rfl) (fun _ _ _ h => h) (Or.inl ⟨by rfl, fun w hSw => ?_⟩) hH1 ?_
  rotate_left
  · clear hSw
    go_simp
    try with_reducible rfl
  try simp only [Act.put, List.getElem_toArray, List.getElem_cons_zero, List.getElem_cons_succ, List.setIfInBounds_toArray, List.set_cons_zero, List.set_cons_succ]
  refine wpAnyH_take (i := 9) (v := ?_) rfl (by kernel_rfl) (by kernel_rfl) (by kernel_rfl) (fun _ _ _ h => h) (Or.inl ⟨by rfl, fun w hSw => ?_⟩) hH1 ?_
  rotate_left
  · clear hSw
    go_simp
    try with_reducible rfl
  try simp only [Act.put, List.getElem_toArray, List.getElem_cons_zero, List.getElem_cons_succ, List.setIfInBounds_toArray, List.set_cons_zero, List.set_cons_succ]
  refine wpAnyH_done (by kernel_rfl) ?_ _
  have S3 : ASt w wa f #[.int .u8 10, .int .i64 a, .int .i64 b, .int .i64 c, .int .i64 n] := hH1
  clear hH0 hH1 S2
  go_wp2
  go_ret2
  exact ⟨retA (by show _ = _; simp only [IntKind.wrap_u32']; omega), S3.bel⟩
set_option maxHeartbeats 1000000 in
theorem addr_11 (a b c n : Int) (f : Nat → Int) (hm : mayB 11 a b c n = true) (w : World) (hT : Tab w) :
    Calls Tryd.prog 14 #[.agg (blk f).toArray, code5 11 a b c n] w fun e w' => e = .returned (.tuple #[.int .u32 ((getF f b + n) % 4294967296), .int .i64 0]) ∧ Below w.heap.size w w' := by
  have hu := Tryd.underlying23
  have HM := hide (fun w hT => CodeMay.may_any 11 a b c n (by omega) w hT)
  rw [show errX 11 a b c n = 0 by simp [errX, hm]] at HM
  have hn := n_bd hm
  obtain ⟨hn0, hn1⟩ := hn
  have S0 := ASt.new w hT f #[.int .u8 11, .int .i64 a, .int .i64 b, .int .i64 c, .int .i64 n]
  clear hT hm
  unfold code5 at *
  go_enter Tryd.func14, Tryd.ntmps14
  go_wp2_with fail
  refine (HM.out _ S0.tab).mono ?_
  rintro e w1 ⟨rfl, hb1⟩
  have S1 := S0.below hb1
  have hc := c5_of S1.code
  clear hb1
  go_wp2_with fail
  clear hc
  have S2 := S1.drew
  refine wp_region_held_drew (S := (fun w' => ASt w w' f #[.int .u8 11, .int .i64 a, .int .i64 b, .int .i64 c, .int .i64 n])) (by kernel_rfl) S2 (fun hH0 => ?_)
  refine wpAnyH_take (i := 0) (v := _) rfl (by kernel_rfl) (by kernel_rfl) (by kernel_rfl) (fun _ _ _ h => h) (yieldsIf_load_mid (by rfl) _ _ rfl _ _ rfl _ _ (fun w h => row_range h.regs) hu rfl (sizeR _)) hH0 ?_
  try simp only [Act.put, List.getElem_toArray, List.getElem_cons_zero, List.getElem_cons_succ, List.setIfInBounds_toArray, List.set_cons_zero, List.set_cons_succ]
  refine wpAnyH_take (i := 1) (v := ?_) rfl (by kernel_rfl) (by kernel_rfl) (by kernel_rfl) (fun _ _ _ h => h) (Or.inl ⟨by rfl, fun w hSw => ?_⟩) hH0 ?_
  rotate_left
  · clear hSw
    go_simp
    try with_reducible rfl
  try simp only [Act.put, List.getElem_toArray, List.getElem_cons_zero, List.getElem_cons_succ, List.setIfInBounds_toArray, List.set_cons_zero, List.set_cons_succ]
  refine wpAnyH_take (i := 2) (v := ?_) rfl (by kernel_rfl) (by kernel_rfl) (by kernel_rfl) (fun _ _ _ h => h) (Or.inl ⟨by rfl, fun w hSw => ?_⟩) hH0 ?_
  rotate_left
  · have hc := c5_of (ASt.code hSw)
    clear hSw
    go_simp
    try with_reducible rfl
  try simp only [Act.put, List.getElem_toArray, List.getElem_cons_zero, List.getElem_cons_succ, List.setIfInBounds_toArray, List.set_cons_zero, List.set_cons_succ]
  refine wpAnyH_take (i := 4) (v := ?_) rfl (by kernel_rfl) (by kernel_rfl) (by kernel_rfl) (fun _ _ _ h => h) (Or.inl ⟨by rfl, fun w hSw => ?_⟩) hH0 ?_
  rotate_left
  · clear hSw
    go_simp
    try with_reducible rfl
  try simp only [Act.put, List.getElem_toArray, List.getElem_cons_zero, List.getElem_cons_succ, List.setIfInBounds_toArray, List.set_cons_zero, List.set_cons_succ]
  refine wpAnyH_take (i := 5) (v := ?_) rfl (by kernel_rfl) (by kernel_rfl) (by kernel_rfl) (fun _ _ _ h => h) (Or.inl ⟨by rfl, fun w hSw => ?_⟩) hH0 ?_
  rotate_left
  · have hc := c5_of (ASt.code hSw)
    clear hSw
    go_simp
    try with_reducible rfl
  try simp only [Act.put, List.getElem_toArray, List.getElem_cons_zero, List.getElem_cons_succ, List.setIfInBounds_toArray, List.set_cons_zero, List.set_cons_succ]
  refine wpAnyH_take (i := 6) (v := ?_) rfl (by kernel_rfl) (by kernel_rfl) (by kernel_rfl) (fun _ _ _ h => h) (Or.inl ⟨by rfl, fun w hSw => ?_⟩) hH0 ?_
  rotate_left
  · clear hSw
    go_simp
    try with_reducible rfl
  try simp only [Act.put, List.getElem_toArray, List.getElem_cons_zero, List.getElem_cons_succ, List.setIfInBounds_toArray, List.set_cons_zero, List.set_cons_succ]
  refine wpAnyH_ready (rs := [3]) (by kernel_rfl) (by simp) ?_
  refine AllReadyH.cons (o := _) rfl (fun K hK => ?_) AllReadyH.nil
  go_simp
  refine (get_any f b _).mono ?_
  rintro e wa ⟨rfl, hba⟩
  refine hK.out _ _ (ASt.below hH0 hba) (fun hH1 => ?_)
  clear hK K
  try simp only [Act.put, List.getElem_toArray, List.getElem_cons_zero, List.getElem_cons_succ, List.setIfInBounds_toArray, List.set_cons_zero, List.set_cons_succ]
  refine wpAnyH_take (i := 7) (v := ?_) rfl (by kernel_rfl) (by kernel_rfl) (by kernel_rfl) (fun _ _ _ h => h) (Or.inl ⟨by rfl, fun w hSw => ?_⟩) hH1 ?_
  rotate_left
  · clear hSw
    go_simp
    try with_reducible rfl
  try simp only [Act.put, List.getElem_toArray, List.getElem_cons_zero, List.getElem_cons_succ, List.setIfInBounds_toArray, List.set_cons_zero, List.set_cons_succ]
  refine wpAnyH_take (i := 8) (v := ?_) rfl (by kernel_rfl) (by kernel_rfl) (by kernel_rfl) (fun _ _ _ h => h) (Or.inl ⟨by rfl, fun w hSw => ?_⟩) hH1 ?_
  rotate_left
  · clear hSw
    go_simp
    try with_reducible rfl
  try simp only [Act.put, List.getElem_toArray, List.getElem_cons_zero, List.getElem_cons_succ, List.setIfInBounds_toArray, List.set_cons_zero, List.set_cons_succ]
  refine wpAnyH_take (i := 9) (v := ?_) rfl (by kernel_rfl) (by kernel_rfl) (by kernel_rfl) (fun _ _ _ h => h) (Or.inl ⟨by rfl, fun w hSw => ?_⟩) hH1 ?_
  rotate_left
  · clear hSw
    go_simp
    try with_reducible rfl
  try simp only [Act.put, List.getElem_toArray, List.getElem_cons_zero, List.getElem_cons_succ, List.setIfInBounds_toArray, List.set_cons_zero, List.set_cons_succ]
  refine wpAnyH_done (by kernel_rfl) ?_ _
  have S3 : ASt w wa f #[.int .u8 11, .int .i64 a, .int .i64 b, .int .i64 c, .int .i64 n] := hH1
  clear hH0 hH1 S2
  go_wp2
  go_ret2
  exact ⟨retA (by show _ = _; simp only [IntKind.wrap_u32']; omega), S3.bel⟩
set_option maxHeartbeats 1000000 in
theorem addrR_9 (a b c n : Int) (f : Nat → Int) (hm : mayB 9 a b c n = true) (w : World) (hT : Tab w) :
    Calls Tryd.prog 16 #[.agg (blk f).toArray, code5 9 a b c n] w fun e w' => e = .returned (.tuple #[.int .u32 ((getF f b + n) % 4294967296), .int .i64 0]) ∧ Below w.heap.size w w' := by
  have hu := Tryd.underlying23
  have HM := hide (fun w => CodeRefMay.may_any 9 a b c n (by omega) w)
  rw [hm] at HM
  have hn := n_bd hm
  obtain ⟨hn0, hn1⟩ := hn
  have S0 := ASt.new w hT f #[.int .u8 9, .int .i64 a, .int .i64 b, .int .i64 c, .int .i64 n]
  clear hT hm
  unfold code5 at *
  go_enter Tryd.func16, Tryd.ntmps16
  go_wp2_with fail
  refine (HM.out _).mono ?_
  rintro e w1 ⟨rfl, hb1⟩
  have S1 := S0.below hb1
  have hc := c5_of S1.code
  clear hb1
  go_wp2_with fail
  clear hc
  have S2 := S1.drew
  refine wp_region_held_drew (S := (fun w' => ASt w w' f #[.int .u8 9, .int .i64 a, .int .i64 b, .int .i64 c, .int .i64 n])) (by kernel_rfl) S2 (fun hH0 => ?_)
  refine wpAnyH_take (i := 0) (v := _) rfl (by kernel_rfl) (by kernel_rfl) (by kernel_rfl) (fun _ _ _ h => h) (yieldsIf_load_mid (by rfl) _ _ rfl _ _ rfl _ _ (fun w h => row_range h.regs) hu rfl (sizeR _)) hH0 ?_
  try simp only [Act.put, List.getElem_toArray, List.getElem_cons_zero, List.getElem_cons_succ, List.setIfInBounds_toArray, List.set_cons_zero, List.set_cons_succ]
  refine wpAnyH_take (i := 1) (v := ?_) rfl (by kernel_rfl) (by kernel_rfl) (by kernel_rfl) (fun _ _ _ h => h) (Or.inl ⟨by rfl, fun w hSw => ?_⟩) hH0 ?_
  rotate_left
  · clear hSw
    go_simp
    try with_reducible rfl
  try simp only [Act.put, List.getElem_toArray, List.getElem_cons_zero, List.getElem_cons_succ, List.setIfInBounds_toArray, List.set_cons_zero, List.set_cons_succ]
  refine wpAnyH_take (i := 2) (v := ?_) rfl (by kernel_rfl) (by kernel_rfl) (by kernel_rfl) (fun _ _ _ h => h) (Or.inl ⟨by rfl, fun w hSw => ?_⟩) hH0 ?_
  rotate_left
  · have hc := c5_of (ASt.code hSw)
    clear hSw
    go_simp
    try with_reducible rfl
  try simp only [Act.put, List.getElem_toArray, List.getElem_cons_zero, List.getElem_cons_succ, List.setIfInBounds_toArray, List.set_cons_zero, List.set_cons_succ]
  refine wpAnyH_take (i := 4) (v := ?_) rfl (by kernel_rfl) (by kernel_rfl) (by kernel_rfl) (fun _ _ _ h => h) (Or.inl ⟨by rfl, fun w hSw => ?_⟩) hH0 ?_
  rotate_left
  · clear hSw
    go_simp
    try with_reducible rfl
  try simp only [Act.put, List.getElem_toArray, List.getElem_cons_zero, List.getElem_cons_succ, List.setIfInBounds_toArray, List.set_cons_zero, List.set_cons_succ]
  refine wpAnyH_take (i := 5) (v := ?_) rfl (by kernel_rfl) (by kernel_rfl) (by kernel_rfl) (fun _ _ _ h => h) (Or.inl ⟨by rfl, fun w hSw => ?_⟩) hH0 ?_
  rotate_left
  · have hc := c5_of (ASt.code hSw)
    clear hSw
    go_simp
    try with_reducible rfl
  try simp only [Act.put, List.getElem_toArray, List.getElem_cons_zero, List.getElem_cons_succ, List.setIfInBounds_toArray, List.set_cons_zero, List.set_cons_succ]
  refine wpAnyH_ready (rs := [3]) (by kernel_rfl) (by simp) ?_
  refine AllReadyH.cons (o := _) rfl (fun K hK => ?_) AllReadyH.nil
  go_simp
  refine (getR_any f b _).mono ?_
  rintro e wa ⟨rfl, hba⟩
  refine hK.out _ _ (ASt.below hH0 hba) (fun hH1 => ?_)
  clear hK K
  try simp only [Act.put, List.getElem_toArray, List.getElem_cons_zero, List.getElem_cons_succ, List.setIfInBounds_toArray, List.set_cons_zero, List.set_cons_succ]
  refine wpAnyH_ready (rs := [6]) (by kernel_rfl) (by simp) ?_
  refine AllReadyH.cons (o := _) rfl (fun K hK => ?_) AllReadyH.nil
  go_simp
  refine (wordR n _).mono ?_
  rintro e wx ⟨rfl, rfl⟩
  refine hK.out _ _ (hH1) (fun hH2 => ?_)
  clear hK K
  try simp only [Act.put, List.getElem_toArray, List.getElem_cons_zero, List.getElem_cons_succ, List.setIfInBounds_toArray, List.set_cons_zero, List.set_cons_succ]
  refine wpAnyH_take (i := 7) (v := ?_) rfl (by kernel_rfl) (by kernel_rfl) (by kernel_rfl) (fun _ _ _ h => h) (Or.inl ⟨by rfl, fun w hSw => ?_⟩) hH2 ?_
  rotate_left
  · clear hSw
    go_simp
    try with_reducible rfl
  try simp only [Act.put, List.getElem_toArray, List.getElem_cons_zero, List.getElem_cons_succ, List.setIfInBounds_toArray, List.set_cons_zero, List.set_cons_succ]
  refine wpAnyH_take (i := 8) (v := ?_) rfl (by kernel_rfl) (by kernel_rfl) (by kernel_rfl) (fun _ _ _ h => h) (Or.inl ⟨by rfl, fun w hSw => ?_⟩) hH2 ?_
  rotate_left
  · clear hSw
    go_simp
    try with_reducible rfl
  try simp only [Act.put, List.getElem_toArray, List.getElem_cons_zero, List.getElem_cons_succ, List.setIfInBounds_toArray, List.set_cons_zero, List.set_cons_succ]
  refine wpAnyH_take (i := 9) (v := ?_) rfl (by kernel_rfl) (by kernel_rfl) (by kernel_rfl) (fun _ _ _ h => h) (Or.inl ⟨by rfl, fun w hSw => ?_⟩) hH2 ?_
  rotate_left
  · clear hSw
    go_simp
    try with_reducible rfl
  try simp only [Act.put, List.getElem_toArray, List.getElem_cons_zero, List.getElem_cons_succ, List.setIfInBounds_toArray, List.set_cons_zero, List.set_cons_succ]
  refine wpAnyH_done (by kernel_rfl) ?_ _
  have S3 : ASt w wa f #[.int .u8 9, .int .i64 a, .int .i64 b, .int .i64 c, .int .i64 n] := hH2
  clear hH0 hH1 hH2 S2
  go_wp2
  go_ret2
  exact ⟨retA (by show _ = _; simp only [IntKind.wrap_u32']; omega), S3.bel⟩
set_option maxHeartbeats 1000000 in
theorem addrR_10 (a b c n : Int) (f : Nat → Int) (hm : mayB 10 a b c n = true) (w : World) (hT : Tab w) :
    Calls Tryd.prog 16 #[.agg (blk f).toArray, code5 10 a b c n] w fun e w' => e = .returned (.tuple #[.int .u32 ((getF f b + n) % 4294967296), .int .i64 0]) ∧ Below w.heap.size w w' := by
  have hu := Tryd.underlying23
  have HM := hide (fun w => CodeRefMay.may_any 10 a b c n (by omega) w)
  rw [hm] at HM
  have hn := n_bd hm
  obtain ⟨hn0, hn1⟩ := hn
  have S0 := ASt.new w hT f #[.int .u8 10, .int .i64 a, .int .i64 b, .int .i64 c, .int .i64 n]
  clear hT hm
  unfold code5 at *
  go_enter Tryd.func16, Tryd.ntmps16
  go_wp2_with fail
  refine (HM.out _).mono ?_
  rintro e w1 ⟨rfl, hb1⟩
  have S1 := S0.below hb1
  have hc := c5_of S1.code
  clear hb1
  go_wp2_with fail
  clear hc
  have S2 := S1.drew
  refine wp_region_held_drew (S := (fun w' => ASt w w' f #[.int .u8 10, .int .i64 a, .int .i64 b, .int .i64 c, .int .i64 n])) (by kernel_rfl) S2 (fun hH0 => ?_)
  refine wpAnyH_take (i := 0) (v := _) rfl (by kernel_rfl) (by kernel_rfl) (by kernel_rfl) (fun _ _ _ h => h) (yieldsIf_load_mid (by rfl) _ _ rfl _ _ rfl _ _ (fun w h => row_range h.regs) hu rfl (sizeR _)) hH0 ?_
  try simp only [Act.put, List.getElem_toArray, List.getElem_cons_zero, List.getElem_cons_succ, List.setIfInBounds_toArray, List.set_cons_zero, List.set_cons_succ]
  refine wpAnyH_take (i := 1) (v := ?_) rfl (by kernel_rfl) (by kernel_rfl) (by kernel_rfl) (fun _ _ _ h => h) (Or.inl ⟨by rfl, fun w hSw => ?_⟩) hH0 ?_
  rotate_left
  · clear hSw
    go_simp
    try with_reducible rfl
  try simp only [Act.put, List.getElem_toArray, List.getElem_cons_zero, List.getElem_cons_succ, List.setIfInBounds_toArray, List.set_cons_zero, List.set_cons_succ]
  refine wpAnyH_take (i := 2) (v := ?_) rfl (by kernel_rfl) (by kernel_rfl) (by kernel_rfl) (fun _ _ _ h => h) (Or.inl ⟨by rfl, fun w hSw => ?_⟩) hH0 ?_
  rotate_left
  · have hc := c5_of (ASt.code hSw)
    clear hSw
    go_simp
    try with_reducible rfl
  try simp only [Act.put, List.getElem_toArray, List.getElem_cons_zero, List.getElem_cons_succ, List.setIfInBounds_toArray, List.set_cons_zero, List.set_cons_succ]
  refine wpAnyH_take (i := 4) (v := ?_) rfl (by kernel_rfl) (by kernel_rfl) (by kernel_rfl) (fun _ _ _ h => h) (Or.inl ⟨by rfl, fun w hSw => ?_⟩) hH0 ?_
  rotate_left
  · clear hSw
    go_simp
    try with_reducible rfl
  try simp only [Act.put, List.getElem_toArray, List.getElem_cons_zero, List.getElem_cons_succ, List.setIfInBounds_toArray, List.set_cons_zero, List.set_cons_succ]
  refine wpAnyH_take (i := 5) (v := ?_) rfl (by kernel_rfl) (by kernel_rfl) (by kernel_rfl) (fun _ _ _ h => h) (Or.inl ⟨by rfl, fun w hSw => ?_⟩) hH0 ?_
  rotate_left
  · have hc := c5_of (ASt.code hSw)
    clear hSw
    go_simp
    try with_reducible rfl
  try simp only [Act.put, List.getElem_toArray, List.getElem_cons_zero, List.getElem_cons_succ, List.setIfInBounds_toArray, List.set_cons_zero, List.set_cons_succ]
  refine wpAnyH_ready (rs := [3]) (by kernel_rfl) (by simp) ?_
  refine AllReadyH.cons (o := _) rfl (fun K hK => ?_) AllReadyH.nil
  go_simp
  refine (getR_any f b _).mono ?_
  rintro e wa ⟨rfl, hba⟩
  refine hK.out _ _ (ASt.below hH0 hba) (fun hH1 => ?_)
  clear hK K
  try simp only [Act.put, List.getElem_toArray, List.getElem_cons_zero, List.getElem_cons_succ, List.setIfInBounds_toArray, List.set_cons_zero, List.set_cons_succ]
  refine wpAnyH_ready (rs := [6]) (by kernel_rfl) (by simp) ?_
  refine AllReadyH.cons (o := _) rfl (fun K hK => ?_) AllReadyH.nil
  go_simp
  refine (wordR n _).mono ?_
  rintro e wx ⟨rfl, rfl⟩
  refine hK.out _ _ (hH1) (fun hH2 => ?_)
  clear hK K
  try simp only [Act.put, List.getElem_toArray, List.getElem_cons_zero, List.getElem_cons_succ, List.setIfInBounds_toArray, List.set_cons_zero, List.set_cons_succ]
  refine wpAnyH_take (i := 7) (v := ?_) rfl (by kernel_rfl) (by kernel_rfl) (by kernel_rfl) (fun _ _ _ h => h) (Or.inl ⟨by rfl, fun w hSw => ?_⟩) hH2 ?_
  rotate_left
  · clear hSw
    go_simp
    try with_reducible rfl
  try simp only [Act.put, List.getElem_toArray, List.getElem_cons_zero, List.getElem_cons_succ, List.setIfInBounds_toArray, List.set_cons_zero, List.set_cons_succ]
  refine wpAnyH_take (i := 8) (v := ?_) rfl (by kernel_rfl) (by kernel_rfl) (by kernel_rfl) (fun _ _ _ h => h) (Or.inl ⟨by rfl, fun w hSw => ?_⟩) hH2 ?_
  rotate_left
  · clear hSw
    go_simp
    try with_reducible rfl
  try simp only [Act.put, List.getElem_toArray, List.getElem_cons_zero, List.getElem_cons_succ, List.setIfInBounds_toArray, List.set_cons_zero, List.set_cons_succ]
  refine wpAnyH_take (i := 9) (v := ?_) rfl (by kernel_rfl) (by kernel_rfl) (by kernel_rfl) (fun _ _ _ h => h) (Or.inl ⟨by rfl, fun w hSw => ?_⟩) hH2 ?_
  rotate_left
  · clear hSw
    go_simp
    try with_reducible rfl
  try simp only [Act.put, List.getElem_toArray, List.getElem_cons_zero, List.getElem_cons_succ, List.setIfInBounds_toArray, List.set_cons_zero, List.set_cons_succ]
  refine wpAnyH_done (by kernel_rfl) ?_ _
  have S3 : ASt w wa f #[.int .u8 10, .int .i64 a, .int .i64 b, .int .i64 c, .int .i64 n] := hH2
  clear hH0 hH1 hH2 S2
  go_wp2
  go_ret2
  exact ⟨retA (by show _ = _; simp only [IntKind.wrap_u32']; omega), S3.bel⟩
set_option maxHeartbeats 1000000 in
theorem addrR_11 (a b c n : Int) (f : Nat → Int) (hm : mayB 11 a b c n = true) (w : World) (hT : Tab w) :
    Calls Tryd.prog 16 #[.agg (blk f).toArray, code5 11 a b c n] w fun e w' => e = .returned (.tuple #[.int .u32 ((getF f b + n) % 4294967296), .int .i64 0]) ∧ Below w.heap.size w w' := by
  have hu := Tryd.underlying23
  have HM := hide (fun w => CodeRefMay.may_any 11 a b c n (by omega) w)
  rw [hm] at HM
  have hn := n_bd hm
  obtain ⟨hn0, hn1⟩ := hn
  have S0 := ASt.new w hT f #[.int .u8 11, .int .i64 a, .int .i64 b, .int .i64 c, .int .i64 n]
  clear hT hm
  unfold code5 at *
  go_enter Tryd.func16, Tryd.ntmps16
  go_wp2_with fail
  refine (HM.out _).mono ?_
  rintro e w1 ⟨rfl, hb1⟩
  have S1 := S0.below hb1
  have hc := c5_of S1.code
  clear hb1
  go_wp2_with fail
  clear hc
  have S2 := S1.drew
  refine wp_region_held_drew (S := (fun w' => ASt w w' f #[.int .u8 11, .int .i64 a, .int .i64 b, .int .i64 c, .int .i64 n])) (by kernel_rfl) S2 (fun hH0 => ?_)
  refine wpAnyH_take (i := 0) (v := _) rfl (by kernel_rfl) (by kernel_rfl) (by kernel_rfl) (fun _ _ _ h => h) (yieldsIf_load_mid (by rfl) _ _ rfl _ _ rfl _ _ (fun w h => row_range h.regs) hu rfl (sizeR _)) hH0 ?_
  try simp only [Act.put, List.getElem_toArray, List.getElem_cons_zero, List.getElem_cons_succ, List.setIfInBounds_toArray, List.set_cons_zero, List.set_cons_succ]
  refine wpAnyH_take (i := 1) (v := ?_) rfl (by kernel_rfl) (by kernel_rfl) (by kernel_rfl) (fun _ _ _ h => h) (Or.inl ⟨by rfl, fun w hSw => ?_⟩) hH0 ?_
  rotate_left
  · clear hSw
    go_simp
    try with_reducible rfl
  try simp only [Act.put, List.getElem_toArray, List.getElem_cons_zero, List.getElem_cons_succ, List.setIfInBounds_toArray, List.set_cons_zero, List.set_cons_succ]
  refine wpAnyH_take (i := 2) (v := ?_) rfl (by kernel_rfl) (by kernel_rfl) (by kernel_rfl) (fun _ _ _ h => h) (Or.inl ⟨by rfl, fun w hSw => ?_⟩) hH0 ?_
  rotate_left
  · have hc := c5_of (ASt.code hSw)
    clear hSw
    go_simp
    try with_reducible rfl
  try simp only [Act.put, List.getElem_toArray, List.getElem_cons_zero, List.getElem_cons_succ, List.setIfInBounds_toArray, List.set_cons_zero, List.set_cons_succ]
  refine wpAnyH_take (i := 4) (v := ?_) rfl (by kernel_rfl) (by kernel_rfl) (by kernel_rfl) (fun _ _ _ h => h) (Or.inl ⟨by rfl, fun w hSw => ?_⟩) hH0 ?_
  rotate_left
  · clear hSw
    go_simp
    try with_reducible rfl
  try simp only [Act.put, List.getElem_toArray, List.getElem_cons_zero, List.getElem_cons_succ, List.setIfInBounds_toArray, List.set_cons_zero, List.set_cons_succ]
  refine wpAnyH_take (i := 5) (v := ?_) rfl (by kernel_rfl) (by kernel_rfl) (by kernel_rfl) (fun _ _ _ h => h) (Or.inl ⟨by rfl, fun w hSw => ?_⟩) hH0 ?_
  rotate_left
  · have hc := c5_of (ASt.code hSw)
    clear hSw
    go_simp
    try with_reducible rfl
  try simp only [Act.put, List.getElem_toArray, List.getElem_cons_zero, List.getElem_cons_succ, List.setIfInBounds_toArray, List.set_cons_zero, List.set_cons_succ]
  refine wpAnyH_ready (rs := [3]) (by kernel_rfl) (by simp) ?_
  refine AllReadyH.cons (o := _) rfl (fun K hK => ?_) AllReadyH.nil
  go_simp
  refine (getR_any f b _).mono ?_
  rintro e wa ⟨rfl, hba⟩
  refine hK.out _ _ (ASt.below hH0 hba) (fun hH1 => ?_)
  clear hK K
  try simp only [Act.put, List.getElem_toArray, List.getElem_cons_zero, List.getElem_cons_succ, List.setIfInBounds_toArray, List.set_cons_zero, List.set_cons_succ]
  refine wpAnyH_ready (rs := [6]) (by kernel_rfl) (by simp) ?_
  refine AllReadyH.cons (o := _) rfl (fun K hK => ?_) AllReadyH.nil
  go_simp
  refine (wordR n _).mono ?_
  rintro e wx ⟨rfl, rfl⟩
  refine hK.out _ _ (hH1) (fun hH2 => ?_)
  clear hK K
  try simp only [Act.put, List.getElem_toArray, List.getElem_cons_zero, List.getElem_cons_succ, List.setIfInBounds_toArray, List.set_cons_zero, List.set_cons_succ]
  refine wpAnyH_take (i := 7) (v := ?_) rfl (by kernel_rfl) (by kernel_rfl) (by kernel_rfl) (fun _ _ _ h => h) (Or.inl ⟨by rfl, fun w hSw => ?_⟩) hH2 ?_
  rotate_left
  · clear hSw
    go_simp
    try with_reducible rfl
  try simp only [Act.put, List.getElem_toArray, List.getElem_cons_zero, List.getElem_cons_succ, List.setIfInBounds_toArray, List.set_cons_zero, List.set_cons_succ]
  refine wpAnyH_take (i := 8) (v := ?_) rfl (by kernel_rfl) (by kernel_rfl) (by kernel_rfl) (fun _ _ _ h => h) (Or.inl ⟨by rfl, fun w hSw => ?_⟩) hH2 ?_
  rotate_left
  · clear hSw
    go_simp
    try with_reducible rfl
  try simp only [Act.put, List.getElem_toArray, List.getElem_cons_zero, List.getElem_cons_succ, List.setIfInBounds_toArray, List.set_cons_zero, List.set_cons_succ]
  refine wpAnyH_take (i := 9) (v := ?_) rfl (by kernel_rfl) (by kernel_rfl) (by kernel_rfl) (fun _ _ _ h => h) (Or.inl ⟨by rfl, fun w hSw => ?_⟩) hH2 ?_
  rotate_left
  · clear hSw
    go_simp
    try with_reducible rfl
  try simp only [Act.put, List.getElem_toArray, List.getElem_cons_zero, List.getElem_cons_succ, List.setIfInBounds_toArray, List.set_cons_zero, List.set_cons_succ]
  refine wpAnyH_done (by kernel_rfl) ?_ _
  have S3 : ASt w wa f #[.int .u8 11, .int .i64 a, .int .i64 b, .int .i64 c, .int .i64 n] := hH2
  clear hH0 hH1 hH2 S2
  go_wp2
  go_ret2
  exact ⟨retA (by show _ = _; simp only [IntKind.wrap_u32']; omega), S3.bel⟩
theorem addrR_no (k : Nat) (a b c n : Int) (f : Nat → Int) (hk : k ≤ 255) (hm : mayB k a b c n = false) (w : World) (hT : Tab w) :
    Calls Tryd.prog 16 #[.agg (blk f).toArray, code5 k a b c n] w fun e w' => e = .returned (.tuple #[.int .u32 0, .int .i64 2]) ∧ Below w.heap.size w w' := by
  have HM := hide (fun w => CodeRefMay.may_any k a b c n hk w)
  rw [hm] at HM
  have S0 := ASt.new w hT f #[.int .u8 (k : Int), .int .i64 a, .int .i64 b, .int .i64 c, .int .i64 n]
  clear hT hm
  unfold code5 at *
  go_enter Tryd.func16, Tryd.ntmps16
  go_wp2_with fail
  refine (HM.out _).mono ?_
  rintro e w1 ⟨rfl, hb1⟩
  have S1 := S0.below hb1
  clear hb1
  go_wp2
  go_ret2
  exact ⟨rfl, S1.bel⟩
theorem addrR_not (k : Nat) (a b c n : Int) (f : Nat → Int) (hm : mayB k a b c n = true) (lo : Bool) (h9 : decide ((k : Int) < 9) = lo) (h11 : lo = false → decide (11 < (k : Int)) = true) (w : World) (hT : Tab w) :
    Calls Tryd.prog 16 #[.agg (blk f).toArray, code5 k a b c n] w fun e w' => e = .returned (.tuple #[.int .u32 0, .int .i64 4]) ∧ Below w.heap.size w w' := by
  have hk := mayB_lt hm
  have HM := hide (fun w => CodeRefMay.may_any k a b c n (by omega) w)
  rw [hm] at HM
  have S0 := ASt.new w hT f #[.int .u8 (k : Int), .int .i64 a, .int .i64 b, .int .i64 c, .int .i64 n]
  clear hT hm
  unfold code5 at *
  cases lo
  · have h12 := h11 rfl
    clear h11
    go_enter Tryd.func16, Tryd.ntmps16
    go_wp2_with fail
    refine (HM.out _).mono ?_
    rintro e w1 ⟨rfl, hb1⟩
    have S1 := S0.below hb1
    have hc := c5_of S1.code
    clear hb1
    go_wp2
    go_ret2
    exact ⟨rfl, S1.bel⟩
  · clear h11
    go_enter Tryd.func16, Tryd.ntmps16
    go_wp2_with fail
    refine (HM.out _).mono ?_
    rintro e w1 ⟨rfl, hb1⟩
    have S1 := S0.below hb1
    have hc := c5_of S1.code
    clear hb1
    go_wp2
    go_ret2
    exact ⟨rfl, S1.bel⟩
theorem addrX_eq (k : Nat) (a b c n : Int) (f : Nat → Int) (hm : mayB k a b c n = true) (h : k = 9 ∨ k = 10 ∨ k = 11) : addrX k a b c n f = (getF f b + n) % 4294967296 ∧ addrE k a b c n = 0 := by
  simp [addrX, addrE, hm, h]
theorem addr_any (k : Nat) (a b c n : Int) (f : Nat → Int) (hk : k ≤ 255) (w : World) (hT : Tab w) :
    Calls Tryd.prog 14 #[.agg (blk f).toArray, code5 k a b c n] w fun e w' => e = .returned (.tuple #[.int .u32 (addrX k a b c n f), .int .i64 (addrE k a b c n)]) ∧ Below w.heap.size w w' := by
  cases hm : mayB k a b c n
  · rw [show addrX k a b c n f = 0 by simp [addrX, hm], show addrE k a b c n = 2 by simp [addrE, hm]]
    exact addr_no k a b c n f hk hm w hT
  · by_cases h : k = 9 ∨ k = 10 ∨ k = 11
    · rw [(addrX_eq k a b c n f hm h).1, (addrX_eq k a b c n f hm h).2]
      rcases h with rfl | rfl | rfl
      · exact addr_9 a b c n f hm w hT
      · exact addr_10 a b c n f hm w hT
      · exact addr_11 a b c n f hm w hT
    · rw [show addrX k a b c n f = 0 by simp [addrX, h], show addrE k a b c n = 4 by simp [addrE, hm, h]]
      exact addr_not k a b c n f hm (by rw [beq_eq_false_iff_ne]; omega) (by rw [beq_eq_false_iff_ne]; omega) (by rw [beq_eq_false_iff_ne]; omega) w hT
theorem addrR_any (k : Nat) (a b c n : Int) (f : Nat → Int) (hk : k ≤ 255) (w : World) (hT : Tab w) :
    Calls Tryd.prog 16 #[.agg (blk f).toArray, code5 k a b c n] w fun e w' => e = .returned (.tuple #[.int .u32 (addrX k a b c n f), .int .i64 (addrE k a b c n)]) ∧ Below w.heap.size w w' := by
  cases hm : mayB k a b c n
  · rw [show addrX k a b c n f = 0 by simp [addrX, hm], show addrE k a b c n = 2 by simp [addrE, hm]]
    exact addrR_no k a b c n f hk hm w hT
  · by_cases h : k = 9 ∨ k = 10 ∨ k = 11
    · rw [(addrX_eq k a b c n f hm h).1, (addrX_eq k a b c n f hm h).2]
      rcases h with rfl | rfl | rfl
      · exact addrR_9 a b c n f hm w hT
      · exact addrR_10 a b c n f hm w hT
      · exact addrR_11 a b c n f hm w hT
    · rw [show addrX k a b c n f = 0 by simp [addrX, h], show addrE k a b c n = 4 by simp [addrE, hm, h]]
      by_cases h9 : k < 9
      · exact addrR_not k a b c n f hm true (by rw [decide_eq_true_iff]; omega) (fun e => by cases e) w hT
      · exact addrR_not k a b c n f hm false (by rw [decide_eq_false_iff_not]; omega) (fun _ => by rw [decide_eq_true_iff]; omega) w hT
end Go.Proofs.YticlojpdcdkdgaaDoor.AddrOf
