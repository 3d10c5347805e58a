/-
  Putting and taking back, in plain words: bytes alone.
-/
import Derived.Test.YtnjojcikahiieaaNTakeR
namespace Go.Proofs.Ytnjojcikahiieaa.NTruth
open Go.RowKit Base Blks NRec NSmall NPlain NNum NVal NNumR NPut NTakeP NTakeR
set_option linter.unusedVariables false
set_option linter.unusedSimpArgs false

def bl (l : List UInt8) (j : Nat) : Int := ((l.getD j 0).toNat : Int)
theorem bt_bl (l : List UInt8) (j : Nat) : bt ⟨l.toArray⟩ j = bl l j := by
  have hz : (ByteArray.mk l.toArray).size = l.length := by simp [ByteArray.size]
  by_cases h : j < l.length
  · rw [bt_at _ (by omega : j < (ByteArray.mk l.toArray).size), bl, List.getD_eq_getElem?_getD, List.getElem?_eq_getElem h]
    rfl
  · rw [bl, List.getD_eq_getElem?_getD, List.getElem?_eq_none (by omega)]
    simp [bt, hz, h]
theorem bl_left {l m : List UInt8} {j : Nat} (h : j < l.length) : bl (l ++ m) j = bl l j := by
  simp only [bl, List.getD_eq_getElem?_getD, List.getElem?_append_left h]
theorem bl_right {l m : List UInt8} {j : Nat} : bl (l ++ m) (l.length + j) = bl m j := by
  simp only [bl, List.getD_eq_getElem?_getD]
  rw [List.getElem?_append_right (by omega), Nat.add_sub_cancel_left]
theorem u8n {x : Int} (h0 : 0 ≤ x) (h1 : x ≤ 255) : (((UInt8.ofNat x.toNat).toNat : Nat) : Int) = x := by
  have : x.toNat < 256 := by omega
  rw [UInt8.toNat_ofNat', Nat.mod_eq_of_lt this]
  omega
theorem u8b (x : Int) (k : Nat) : (((UInt8.ofNat (byteN x k).toNat).toNat : Nat) : Int) = byteN x k := u8n (byteN_bd x k).1 (byteN_bd x k).2
theorem bl_bytesB {x : Int} {m k : Nat} (h : k < m) : bl (bytesB x m) k = byteN x k := by
  have e : (bytesB x m)[k]? = some (UInt8.ofNat (byteN x k).toNat) := by simp [bytesB, h]
  rw [bl, List.getD_eq_getElem?_getD, e]
  exact u8b x k
theorem bytesB_len (x : Int) (m : Nat) : (bytesB x m).length = m := by simp [bytesB]
theorem dataB_len (f : Nat → Int) (k : Nat) : (dataB f k).length = k * 4 := by
  have := dataV_len f k
  rwa [dataV_map, List.length_map] at this
theorem bl_dataB (f : Nat → Int) : ∀ (K i j : Nat), i < K → j < 4 → bl (dataB f K) (4 * i + j) = byteN (f i) j
  | 0, i, j, h, _ => absurd h (by omega)
  | K + 1, i, j, h, hj => by
    rw [dataB_succ]
    by_cases hi : i < K
    · rw [bl_left (by rw [dataB_len]; omega), bl_dataB f K i j hi hj]
    · obtain rfl : i = K := by omega
      rw [show 4 * i + j = (dataB f i).length + j by rw [dataB_len]; omega, bl_right, bl_bytesB hj]
theorem byteN_nat (X k : Nat) : byteN (X : Int) k = ((X / 256 ^ k % 256 : Nat) : Int) := by
  unfold byteN
  rw [Int.natCast_emod, Int.natCast_ediv]
  rfl
theorem val_byteN (X : Nat) : ∀ m, val (fun j => byteN (X : Int) j) m = ((X % 256 ^ m : Nat) : Int)
  | 0 => by simp [val, Nat.mod_one]
  | m + 1 => by
    rw [val, val_byteN X m, byteN_nat, Nat.pow_succ, Nat.mod_mul]
    rw [Int.natCast_add, Int.natCast_mul (256 ^ m), Int.mul_comm]
theorem val_bytes {x : Int} (h0 : 0 ≤ x) (m : Nat) (h1 : x < (256 ^ m : Nat)) : val (fun j => byteN x j) m = x := by
  obtain ⟨X, rfl⟩ : ∃ X : Nat, x = (X : Int) := ⟨x.toNat, by omega⟩
  rw [val_byteN, Nat.mod_eq_of_lt (by omega)]
theorem byteN_val {q : Nat → Int} (h : ∀ j, 0 ≤ q j ∧ q j ≤ 255) {m k : Nat} (hk : k < m) : byteN (val q m) k = q k := by
  obtain ⟨r, rfl⟩ : ∃ r, m = k + (r + 1) := ⟨m - k - 1, by omega⟩
  have e := upv_val q (r + 1) k
  obtain ⟨v0, v1⟩ := val_bd (q := q) (n := k) (fun j _ => h j) k (Nat.le_refl _)
  obtain ⟨q0, q1⟩ := h k
  rw [← e]
  unfold byteN
  simp only [upv]
  generalize upv q (k + 1) r = U
  have hp : ((256 ^ k : Nat) : Int) ≠ 0 := by omega
  rw [Int.add_comm, Int.add_mul_ediv_right _ _ hp, Int.ediv_eq_zero_of_lt v0 v1]
  omega

theorem head_at (n : NT) (j : Nat) (h : j < 14) : bl (putB n) j = bl (headB n) j := bl_left (by rw [headB_len]; exact h)
theorem data_at (n : NT) (i j : Nat) (hi : i < 16) (hj : j < 4) : bl (putB n) (14 + 4 * i + j) = byteN (n.f i) j := by
  rw [Nat.add_assoc, ← headB_len n, putB, bl_right, bl_dataB _ 16 i j hi hj]
theorem b_at (n : NT) (j : Nat) (h : j < 2) : bl (headB n) (3 + j) = byteN n.B j := by
  have : j = 0 ∨ j = 1 := by omega
  rcases this with rfl | rfl <;> exact u8b _ _
theorem st_at (n : NT) (j : Nat) (h : j < 8) : bl (headB n) (5 + j) = byteN n.St j := by
  have : j = 0 ∨ j = 1 ∨ j = 2 ∨ j = 3 ∨ j = 4 ∨ j = 5 ∨ j = 6 ∨ j = 7 := by omega
  rcases this with rfl | rfl | rfl | rfl | rfl | rfl | rfl | rfl <;> exact u8b _ _

/-- The two read alike. -/
structure Like (n m : NT) : Prop where
  K : n.K = m.K
  Fr : n.Fr = m.Fr
  To : n.To = m.To
  B : n.B = m.B
  St : n.St = m.St
  S : n.S = m.S
  Ha : n.Ha = m.Ha
  Sk : n.Sk = m.Sk
  f : ∀ j, j < 16 → n.f j = m.f j
theorem Like.cells {n m : NT} (h : Like n m) : ntL n = ntL m := by
  simp only [ntL]
  rw [h.K, h.Fr, h.To, h.B, h.St, h.S, h.Ha, h.Sk, blk_congr h.f]
theorem eqB_like {f g : Nat → Int} (h : ∀ j, j < 16 → f j = g j) : eqB f (fun _ => 0) = eqB g (fun _ => 0) := by
  cases hg : eqB g (fun _ => 0) with
  | true => exact eqB_true fun j hj => (h j hj).trans (eqB_iff.1 hg j hj)
  | false =>
    cases hf : eqB f (fun _ => 0) with
    | false => rfl
    | true =>
      have : eqB g (fun _ => 0) = true := eqB_true fun j hj => (h j hj).symm.trans (eqB_iff.1 hf j hj)
      rw [hg] at this
      cases this
theorem Like.may {n m : NT} (h : Like n m) : mayN n = mayN m := by
  simp only [mayN, whoN, atN, restN, h.K, h.Fr, h.To, h.B, h.St, h.S, h.Ha, h.Sk, eqB_like h.f]
theorem take_put {n : NT} (hi : Ins n) (hm : mayN n = true) : Like (takeS ⟨(putB n).toArray⟩) n := by
  have g := good_of hm hi.S0
  obtain ⟨p0, p1⟩ := bits_bd g
  have := g.K0; have := g.K1; have := g.F0; have := g.F1; have := g.T0; have := g.T1; have := g.S0; have := g.S1; have := g.B0; have := g.B1
  have b0 : bt ⟨(putB n).toArray⟩ 0 = n.K := by rw [bt_bl, head_at n 0 (by omega)]; exact u8n (by omega) (by omega)
  have b1 : bt ⟨(putB n).toArray⟩ 1 = n.Fr + 1 := by rw [bt_bl, head_at n 1 (by omega)]; exact u8n (by omega) (by omega)
  have b2 : bt ⟨(putB n).toArray⟩ 2 = n.To + 1 := by rw [bt_bl, head_at n 2 (by omega)]; exact u8n (by omega) (by omega)
  have b13 : bt ⟨(putB n).toArray⟩ 13 = bitsN n := by rw [bt_bl, head_at n 13 (by omega)]; exact u8n (by omega) (by omega)
  refine ⟨b0, ?_, ?_, ?_, ?_, ?_, ?_, ?_, fun i hi' => ?_⟩
  · show bt _ 1 - 1 = _
    omega
  · show bt _ 2 - 1 = _
    omega
  · show val (fun j => bt _ (3 + j)) 2 = _
    rw [val_congr (q := fun j => byteN n.B j) 2 fun j hj => by rw [bt_bl, head_at n _ (by omega), b_at n j hj]]
    exact val_bytes g.B0 2 (by rw [show ((256 ^ 2 : Nat) : Int) = 65536 from rfl]; omega)
  · show val (fun j => bt _ (5 + j)) 8 = _
    rw [val_congr (q := fun j => byteN n.St j) 8 fun j hj => by rw [bt_bl, head_at n _ (by omega), st_at n j hj]]
    exact val_bytes hi.St0 8 (by rw [show ((256 ^ 8 : Nat) : Int) = 18446744073709551616 from rfl]; have := hi.St1; omega)
  · show bt _ 13 / 4 = _
    rw [b13, bitsN]
    split <;> split <;> omega
  · show haS _ = _
    rw [haS, b13, bitsN]
    cases n.Ha <;> cases n.Sk <;> simp <;> omega
  · show skS _ = _
    rw [skS, b13, bitsN]
    cases n.Ha <;> cases n.Sk <;> simp <;> omega
  · show val (fun j => bt _ (14 + 4 * i + j)) 4 = _
    rw [val_congr (q := fun j => byteN (n.f i) j) 4 fun j hj => by rw [bt_bl, data_at n i j hi' hj]]
    exact val_bytes (hi.f i hi').1 4 (by rw [show ((256 ^ 4 : Nat) : Int) = 4294967296 from rfl]; have := (hi.f i hi').2; omega)
theorem bits_take (s : ByteArray) : bitsN (takeS s) = bt s 13 := by
  obtain ⟨b0, b1⟩ := bt_bd s 13
  show bt s 13 / 4 * 4 + (if haS s then 2 else 0) + (if skS s then 1 else 0) = _
  simp only [haS, skS, decide_eq_true_eq]
  split <;> split <;> omega
theorem ins_take (s : ByteArray) : Ins (takeS s) := by
  have h := fun a m => val_word s a m
  refine ⟨(bt_bd s 0).1, (bt_bd s 0).2, (h 5 8).1, ?_, ?_, ?_, fun j _ => ⟨(h _ 4).1, ?_⟩⟩
  · have := (h 5 8).2
    rw [show ((256 ^ 8 : Nat) : Int) = 18446744073709551616 from rfl] at this
    show val _ 8 ≤ _
    omega
  · have := (bt_bd s 13).1
    show 0 ≤ bt s 13 / 4
    omega
  · have := (bt_bd s 13).2
    show bt s 13 / 4 ≤ 255
    omega
  · have := (h (14 + 4 * j) 4).2
    rw [show ((256 ^ 4 : Nat) : Int) = 4294967296 from rfl] at this
    show val _ 4 ≤ _
    omega
theorem put_at (s : ByteArray) (j : Nat) (hj : j < 78) : bl (putB (takeS s)) j = bt s j := by
  have hd : ∀ a m k, k < m → byteN (val (fun j => bt s (a + j)) m) k = bt s (a + k) := fun a m k hk => byteN_val (q := fun j => bt s (a + j)) (fun j => bt_bd s _) hk
  by_cases h : j < 14
  · rw [head_at _ j h]
    have hb := bits_take s
    by_cases c : j < 3
    · have : j = 0 ∨ j = 1 ∨ j = 2 := by omega
      obtain ⟨x0, x1⟩ := bt_bd s 0
      obtain ⟨y0, y1⟩ := bt_bd s 1
      obtain ⟨z0, z1⟩ := bt_bd s 2
      rcases this with rfl | rfl | rfl
      · exact u8n (x := bt s 0) x0 x1
      · have e := u8n (x := bt s 1 - 1 + 1) (by omega) (by omega)
        exact e.trans (by omega)
      · have e := u8n (x := bt s 2 - 1 + 1) (by omega) (by omega)
        exact e.trans (by omega)
    · by_cases c2 : j < 5
      · obtain ⟨k, rfl⟩ : ∃ k, j = 3 + k := ⟨j - 3, by omega⟩
        rw [b_at _ k (by omega)]
        exact hd 3 2 k (by omega)
      · by_cases c3 : j < 13
        · obtain ⟨k, rfl⟩ : ∃ k, j = 5 + k := ⟨j - 5, by omega⟩
          rw [st_at _ k (by omega)]
          exact hd 5 8 k (by omega)
        · obtain rfl : j = 13 := by omega
          obtain ⟨x0, x1⟩ := bt_bd s 13
          have e := u8n (x := bitsN (takeS s)) (by omega) (by omega)
          exact e.trans hb
  · have e : j = 14 + 4 * ((j - 14) / 4) + (j - 14) % 4 := by omega
    rw [e, data_at _ _ _ (by omega) (by omega)]
    exact hd _ 4 _ (by omega)
theorem put_take (s : ByteArray) (hs : s.size = 78) : (⟨(putB (takeS s)).toArray⟩ : ByteArray) = s := by
  have hz : (ByteArray.mk (putB (takeS s)).toArray).size = 78 := by
    have := putB_len (takeS s)
    simp [ByteArray.size, this]
  have h : ∀ j, j < 78 → bt ⟨(putB (takeS s)).toArray⟩ j = bt s j := fun j hj => by rw [bt_bl, put_at s j hj]
  apply ByteArray.ext_getElem (by rw [hz, hs])
  intro j h1 h2
  have := h j (by omega)
  rw [bt_at _ h1, bt_at _ h2] at this
  exact UInt8.toNat_inj.1 (by omega)
end Go.Proofs.Ytnjojcikahiieaa.NTruth
