/-
  The image in plain words: what Put lays, Take takes, and nothing else; a byte that is another one, a string cut or longer are refused.
-/
import Derived.Test.YtdaglmoibijdeaaDoorIPut
namespace Go.Proofs.YtdaglmoibijdeaaDoor.ILaw
open Go Go.RowKit Base Words INum IVal ISum ITake ITakeT IIter IPut CodePlain
set_option linter.unusedVariables false
set_option linter.unusedSimpArgs false

theorem bt_list (bs : List UInt8) (j : Nat) : bt ⟨bs.toArray⟩ j = (bs[j]?.map (fun b => (b.toNat : Int))).getD 0 := by
  unfold bt
  by_cases h : j < bs.length
  · have h' : j < (⟨bs.toArray⟩ : ByteArray).size := by simpa [ByteArray.size] using h
    rw [dif_pos h', List.getElem?_eq_getElem h]
    simp [ByteArray.getElem_eq_getElem_data]
  · have h' : ¬ j < (⟨bs.toArray⟩ : ByteArray).size := by simpa [ByteArray.size] using h
    rw [dif_neg h', List.getElem?_eq_none (by omega)]
    rfl
theorem bt_left (xs ys : List UInt8) {j : Nat} (h : j < xs.length) : bt ⟨(xs ++ ys).toArray⟩ j = bt ⟨xs.toArray⟩ j := by
  rw [bt_list, bt_list, List.getElem?_append_left h]
theorem bt_right (xs ys : List UInt8) (j : Nat) : bt ⟨(xs ++ ys).toArray⟩ (xs.length + j) = bt ⟨ys.toArray⟩ j := by
  rw [bt_list, bt_list, List.getElem?_append_right (by omega), Nat.add_sub_cancel_left]
theorem bt_bytes (x : Int) {m j : Nat} (h : j < m) : bt ⟨(bytesB x m).toArray⟩ j = byteN x j := by
  obtain ⟨b0, b1⟩ := byteN_bd x j
  rw [bt_list]
  simp [bytesB, h]
  have : (byteN x j).toNat < 256 := by omega
  omega
theorem bt_ext {s t : ByteArray} (hz : s.size = t.size) (h : ∀ j, j < s.size → bt s j = bt t j) : s = t := by
  apply ByteArray.ext
  apply Array.ext
  · exact hz
  · intro j h1 h2
    have h1' : j < s.size := h1
    have h2' : j < t.size := h2
    have := h j h1'
    rw [bt_at s h1', bt_at t h2'] at this
    have h3 : (s[j]'h1').toNat = (t[j]'h2').toNat := by omega
    exact UInt8.toNat_inj.1 h3
theorem val2 (q : Nat → Int) : val q 2 = q 0 + q 1 * 256 := by simp [val]
theorem val4 (q : Nat → Int) : val q 4 = q 0 + q 1 * 256 + q 2 * 65536 + q 3 * 16777216 := by simp [val]
theorem byte0 (x : Int) : byteN x 0 = x % 256 := by simp [byteN]
theorem byte1 (x : Int) : byteN x 1 = x / 256 % 256 := by simp [byteN]
theorem byte2 (x : Int) : byteN x 2 = x / 65536 % 256 := by simp [byteN]
theorem byte3 (x : Int) : byteN x 3 = x / 16777216 % 256 := by simp [byteN]
theorem val2_byte {x : Int} {q : Nat → Int} (x0 : 0 ≤ x) (x1 : x < 65536) (h : ∀ j, j < 2 → q j = byteN x j) : val q 2 = x := by
  rw [val2, h 0 (by omega), h 1 (by omega), byte0, byte1]
  omega
theorem val4_byte {x : Int} {q : Nat → Int} (x0 : 0 ≤ x) (x1 : x < 4294967296) (h : ∀ j, j < 4 → q j = byteN x j) : val q 4 = x := by
  rw [val4, h 0 (by omega), h 1 (by omega), h 2 (by omega), h 3 (by omega), byte0, byte1, byte2, byte3]
  omega
theorem byte_val2 {q : Nat → Int} (h : ∀ j, 0 ≤ q j ∧ q j ≤ 255) {j : Nat} (hj : j < 2) : byteN (val q 2) j = q j := by
  obtain ⟨a0, a1⟩ := h 0
  obtain ⟨b0, b1⟩ := h 1
  have hc : j = 0 ∨ j = 1 := by omega
  rw [val2]
  rcases hc with rfl | rfl
  · rw [byte0]; omega
  · rw [byte1]; omega
theorem byte_val4 {q : Nat → Int} (h : ∀ j, 0 ≤ q j ∧ q j ≤ 255) {j : Nat} (hj : j < 4) : byteN (val q 4) j = q j := by
  obtain ⟨a0, a1⟩ := h 0
  obtain ⟨b0, b1⟩ := h 1
  obtain ⟨c0, c1⟩ := h 2
  obtain ⟨d0, d1⟩ := h 3
  have hc : j = 0 ∨ j = 1 ∨ j = 2 ∨ j = 3 := by omega
  rw [val4]
  rcases hc with rfl | rfl | rfl | rfl
  · rw [byte0]; omega
  · rw [byte1]; omega
  · rw [byte2]; omega
  · rw [byte3]; omega
/-- The bytes of the words. -/
theorem body_at : ∀ (l : List Int) (k : Nat) (hk : k < l.length) (j : Nat), j < 4 → bt ⟨(bodyB l).toArray⟩ (4 * k + j) = byteN l[k] j
  | [], k, hk, j, hj => by simp at hk
  | x :: l, 0, hk, j, hj => by
    have h : bodyB (x :: l) = bytesB x 4 ++ bodyB l := rfl
    rw [h, Nat.mul_zero, Nat.zero_add, bt_left _ _ (by rw [bytesB_len]; exact hj), bt_bytes x hj]
    rfl
  | x :: l, k + 1, hk, j, hj => by
    have h : bodyB (x :: l) = bytesB x 4 ++ bodyB l := rfl
    have e : 4 * (k + 1) + j = (bytesB x 4).length + (4 * k + j) := by rw [bytesB_len]; omega
    rw [h, e, bt_right, body_at l k (by simpa using hk) j hj]
    rfl
def imS (l : List Int) : ByteArray := ⟨(img l).toArray⟩
theorem imS_size (l : List Int) : (imS l).size = 9 + 4 * l.length := by
  have : (imS l).size = (img l).length := by simp [imS, ByteArray.size]
  rw [this, img_len]
theorem im_low (l : List Int) {j : Nat} (h : j < 5 + 4 * l.length) : bt (imS l) j = bt ⟨(imgB l).toArray⟩ j := bt_left _ _ (by rw [imgB_len]; exact h)
theorem im_head (l : List Int) {j : Nat} (h : j < 5) : bt (imS l) j = bt ⟨([85, 84, 1] ++ bytesB (l.length : Int) 2).toArray⟩ j := by
  rw [im_low l (by omega)]
  exact bt_left _ _ (by simp [bytesB_len]; omega)
theorem im_magic (l : List Int) : bt (imS l) 0 = 85 ∧ bt (imS l) 1 = 84 ∧ bt (imS l) 2 = 1 := by
  refine ⟨?_, ?_, ?_⟩ <;> (rw [im_head l (by omega), bt_left _ _ (by simp)]; rfl)
theorem im_many (l : List Int) {j : Nat} (h : j < 2) : bt (imS l) (3 + j) = byteN l.length j := by
  rw [im_head l (by omega)]
  exact (bt_right [85, 84, 1] (bytesB (l.length : Int) 2) j).trans (bt_bytes _ h)
theorem im_word (l : List Int) {k j : Nat} (hk : k < l.length) (h : j < 4) : bt (imS l) (5 + 4 * k + j) = byteN l[k] j := by
  rw [im_low l (by omega)]
  have e : 5 + 4 * k + j = ([85, 84, 1] ++ bytesB (l.length : Int) 2).length + (4 * k + j) := by rw [List.length_append, bytesB_len]; simp only [List.length_cons, List.length_nil]; omega
  rw [e]
  exact (bt_right _ (bodyB l) _).trans (body_at l k hk j h)
theorem im_sum (l : List Int) {j : Nat} (h : j < 4) : bt (imS l) (5 + 4 * l.length + j) = byteN (sumL (imgB l)) j := by
  rw [← imgB_len]
  exact (bt_right (imgB l) _ j).trans (bt_bytes _ h)
theorem im_calc (l : List Int) : sumL (imgB l) = sumF (bt (imS l)) (5 + 4 * l.length) := by
  unfold sumL
  rw [imgB_len]
  exact sumF_congr _ (fun j hj => (im_low l hj).symm)
theorem magic_iff {s : ByteArray} (h : 3 ≤ s.size) : s.extract 0 3 = magic ↔ (bt s 0 = 85 ∧ bt s 1 = 84 ∧ bt s 2 = 1) := by
  have hz : (s.extract 0 3).size = 3 := by rw [ByteArray.size_extract]; omega
  have hb : ∀ j, j < 3 → bt (s.extract 0 3) j = bt s j := fun j hj => by rw [bt_extract s 0 3 j h (by omega), Nat.zero_add]
  constructor
  · intro e
    rw [← hb 0 (by omega), ← hb 1 (by omega), ← hb 2 (by omega), e]
    exact ⟨by decide +kernel, by decide +kernel, by decide +kernel⟩
  · rintro ⟨h0, h1, h2⟩
    refine bt_ext (hz.trans (by decide +kernel)) fun j hj => ?_
    rw [hz] at hj
    rw [hb j hj]
    have hc : j = 0 ∨ j = 1 ∨ j = 2 := by omega
    rcases hc with rfl | rfl | rfl
    · rw [h0]; decide +kernel
    · rw [h1]; decide +kernel
    · rw [h2]; decide +kernel
theorem head_iff (s : ByteArray) : headB s = true ↔ (9 ≤ s.size ∧ (bt s 0 = 85 ∧ bt s 1 = 84 ∧ bt s 2 = 1) ∧ manyS s ≤ 1024 ∧ (s.size : Int) = 9 + 4 * manyS s) := by
  simp only [headB, Bool.and_eq_true, decide_eq_true_eq]
  constructor
  · rintro ⟨⟨⟨h1, h2⟩, h3⟩, h4⟩
    exact ⟨h1, (magic_iff (by omega)).1 h2, h3, h4⟩
  · rintro ⟨h1, h2, h3, h4⟩
    exact ⟨⟨⟨h1, (magic_iff (by omega)).2 h2⟩, h3⟩, h4⟩
theorem eT_inv {s : ByteArray} (h : eT s = 0) : headB s = true ∧ sumS s = calcS s ∧ (wordsS s).all isB = true := by
  unfold eT at h
  split at h
  · rename_i h1
    split at h
    · rename_i h2
      split at h
      · rename_i h3
        exact ⟨h1, h2, h3⟩
      · omega
    · omega
  · omega
theorem out_none {s : ByteArray} (h : eT s ≠ 0) : outL s = [] := by unfold outL; rw [if_neg h]
theorem out_yes {s : ByteArray} (h : eT s = 0) : outL s = wordsS s := by unfold outL; rw [if_pos h]
theorem imS_many (l : List Int) (hl : l.length ≤ 1024) : manyS (imS l) = l.length := val2_byte (by omega) (by omega) (fun j hj => im_many l hj)
theorem imS_words (l : List Int) (hl : l.length ≤ 1024) (hin : ∀ x ∈ l, 0 ≤ x ∧ x < 4294967296) : wordsS (imS l) = l := by
  apply List.ext_getElem
  · rw [wordsS_len, imS_many l hl]; omega
  · intro k h1 h2
    rw [wordsS_at]
    obtain ⟨x0, x1⟩ := hin l[k] (List.getElem_mem h2)
    exact val4_byte x0 x1 (fun j hj => im_word l h2 hj)
/-- What was put is taken. -/
theorem take_put (l : List Int) (hg : goodL l = true) (hin : ∀ x ∈ l, 0 ≤ x ∧ x < 4294967296) : eT (putS l) = 0 ∧ outL (putS l) = l := by
  have hg2 := hg
  simp only [goodL, Bool.and_eq_true, decide_eq_true_eq] at hg2
  obtain ⟨hl, hall⟩ := hg2
  have e : putS l = imS l := (put_yes hg).1
  have hm := imS_many l hl
  have hw := imS_words l hl hin
  have hh : headB (imS l) = true := (head_iff _).2 ⟨by rw [imS_size]; omega, im_magic l, by omega, by rw [imS_size, hm]; omega⟩
  have hs0 := sumL_bd (imgB l)
  have hn : (5 + 4 * (l.length : Int)).toNat = 5 + 4 * l.length := by omega
  have hsum : sumS (imS l) = sumL (imgB l) := by
    unfold sumS
    rw [hm, hn]
    exact val4_byte hs0.1 (by omega) (fun j hj => im_sum l hj)
  have hcalc : calcS (imS l) = sumL (imgB l) := by
    unfold calcS
    rw [hm, hn]
    exact (im_calc l).symm
  have := eT_0 hh (hsum.trans hcalc.symm) (by rw [hw]; exact hall)
  rw [e]
  exact ⟨this.1, by rw [this.2, hw]⟩
/-- What was taken is put. -/
theorem put_take (s : ByteArray) (h : eT s = 0) : goodL (outL s) = true ∧ putS (outL s) = s := by
  obtain ⟨hh, hs, ha⟩ := eT_inv h
  obtain ⟨h1, h2, h3, h4⟩ := (head_iff s).1 hh
  obtain ⟨m0, m1⟩ := manyS_bd s
  rw [out_yes h]
  have hlen : (wordsS s).length = (manyS s).toNat := wordsS_len s
  have hg : goodL (wordsS s) = true := by
    unfold goodL
    rw [ha, decide_eq_true (by omega : (wordsS s).length ≤ 1024)]
    rfl
  refine ⟨hg, ?_⟩
  rw [(put_yes hg).1]
  have hB := bt_bd s
  have low : ∀ j, j < 5 + 4 * (wordsS s).length → bt (imS (wordsS s)) j = bt s j := fun j hj => by
    by_cases c1 : j < 3
    · have hc : j = 0 ∨ j = 1 ∨ j = 2 := by omega
      obtain ⟨g0, g1, g2⟩ := im_magic (wordsS s)
      obtain ⟨k0, k1, k2⟩ := h2
      rcases hc with rfl | rfl | rfl
      · rw [g0, k0]
      · rw [g1, k1]
      · rw [g2, k2]
    · by_cases c2 : j < 5
      · obtain ⟨i, rfl⟩ : ∃ i, j = 3 + i := ⟨j - 3, by omega⟩
        rw [im_many _ (by omega), hlen, show (((manyS s).toNat : Nat) : Int) = manyS s by omega]
        exact byte_val2 (q := fun j => bt s (3 + j)) (fun j => hB _) (by omega)
      · obtain ⟨k, i, hi, rfl⟩ : ∃ k i, i < 4 ∧ j = 5 + 4 * k + i := ⟨(j - 5) / 4, (j - 5) % 4, by omega, by omega⟩
        rw [im_word _ (by omega : k < (wordsS s).length) hi, wordsS_at]
        exact byte_val4 (q := fun j => bt s (5 + 4 * k + j)) (fun j => hB _) hi
  have hz : (imS (wordsS s)).size = s.size := by rw [imS_size, hlen]; omega
  refine bt_ext (s := imS (wordsS s)) hz fun j hj => ?_
  rw [imS_size] at hj
  by_cases c : j < 5 + 4 * (wordsS s).length
  · exact low j c
  · obtain ⟨i, rfl⟩ : ∃ i, j = 5 + 4 * (wordsS s).length + i := ⟨j - (5 + 4 * (wordsS s).length), by omega⟩
    have hn : 5 + 4 * (wordsS s).length = (5 + 4 * manyS s).toNat := by omega
    have hcalc : sumL (imgB (wordsS s)) = sumS s := by
      rw [im_calc, sumF_congr _ low, hs, hn]
      rfl
    rw [im_sum _ (by omega), hcalc, hn]
    exact byte_val4 (q := fun j => bt s ((5 + 4 * manyS s).toNat + j)) (fun j => hB _) (by omega)
/-- A sum of which one byte is another one is another one. -/
theorem sum_other {p q : Nat → Int} (hp : ∀ j, 0 ≤ p j ∧ p j ≤ 255) (hq : ∀ j, 0 ≤ q j ∧ q j ≤ 255) {a : Nat} (ha : p a ≠ q a) (he : ∀ j, j ≠ a → p j = q j) : ∀ n, a < n → sumF p n ≠ sumF q n
  | 0, h => by omega
  | n + 1, h => by
    obtain ⟨s0, s1⟩ := sumF_bd p n
    obtain ⟨t0, t1⟩ := sumF_bd q n
    obtain ⟨p0, p1⟩ := hp n
    obtain ⟨q0, q1⟩ := hq n
    simp only [sumF]
    by_cases hn : a < n
    · have ih := sum_other hp hq ha he n hn
      have := he n (by omega)
      omega
    · obtain rfl : a = n := by omega
      have := sumF_congr (p := p) (q := q) a (fun j hj => he j (by omega))
      omega
/-- One byte that is another one: no image. -/
theorem spoilt {s t : ByteArray} (ht : eT t = 0) (hz : s.size = t.size) {a : Nat} (ha : a < t.size) (hd : bt s a ≠ bt t a) (he : ∀ j, j ≠ a → bt s j = bt t j) : eT s ≠ 0 := by
  intro hs
  obtain ⟨hh, hsum, _⟩ := eT_inv hs
  obtain ⟨gh, gsum, _⟩ := eT_inv ht
  obtain ⟨h1, ⟨k0, k1, k2⟩, h3, h4⟩ := (head_iff s).1 hh
  obtain ⟨g1, ⟨j0, j1, j2⟩, g3, g4⟩ := (head_iff t).1 gh
  obtain ⟨m0, m1⟩ := manyS_bd t
  have hm : manyS s = manyS t := by omega
  have hB := bt_bd s
  have hC := bt_bd t
  by_cases c1 : a < 3
  · have hc : a = 0 ∨ a = 1 ∨ a = 2 := by omega
    rcases hc with rfl | rfl | rfl <;> omega
  · by_cases c2 : a < 5
    · have hc : a = 3 ∨ a = 4 := by omega
      have e := hm
      unfold manyS at e
      rw [val2, val2] at e
      simp only [Nat.add_zero, Nat.reduceAdd] at e
      obtain ⟨x0, x1⟩ := hB 3
      obtain ⟨x2, x3⟩ := hB 4
      obtain ⟨y0, y1⟩ := hC 3
      obtain ⟨y2, y3⟩ := hC 4
      rcases hc with rfl | rfl
      · omega
      · omega
    · by_cases c3 : a < (5 + 4 * manyS t).toNat
      · have e1 : sumS s = sumS t := by
          unfold sumS
          rw [hm]
          exact val_congr 4 (fun j hj => he _ (by omega))
        have e2 : calcS s ≠ calcS t := by
          unfold calcS
          rw [hm]
          exact sum_other hB hC hd he _ c3
        exact e2 (by rw [← hsum, ← gsum, e1])
      · have e2 : calcS s = calcS t := by
          unfold calcS
          rw [hm]
          exact sumF_congr _ (fun j hj => he _ (by omega))
        have e1 : sumS s = sumS t := by rw [hsum, gsum, e2]
        unfold sumS at e1
        rw [hm, val4, val4] at e1
        obtain ⟨i, rfl⟩ : ∃ i, a = (5 + 4 * manyS t).toNat + i := ⟨a - (5 + 4 * manyS t).toNat, by omega⟩
        have hi : i = 0 ∨ i = 1 ∨ i = 2 ∨ i = 3 := by omega
        have b0 := hB ((5 + 4 * manyS t).toNat + 0)
        have b1 := hB ((5 + 4 * manyS t).toNat + 1)
        have b2 := hB ((5 + 4 * manyS t).toNat + 2)
        have b3 := hB ((5 + 4 * manyS t).toNat + 3)
        have d0 := hC ((5 + 4 * manyS t).toNat + 0)
        have d1 := hC ((5 + 4 * manyS t).toNat + 1)
        have d2 := hC ((5 + 4 * manyS t).toNat + 2)
        have d3 := hC ((5 + 4 * manyS t).toNat + 3)
        rcases hi with rfl | rfl | rfl | rfl <;> omega
/-- Of another length, with the same number of words: no image. -/
theorem other_len {s t : ByteArray} (ht : eT t = 0) (hz : s.size ≠ t.size) (h3 : 9 ≤ s.size → bt s 3 = bt t 3 ∧ bt s 4 = bt t 4) : eT s ≠ 0 := by
  intro hs
  obtain ⟨hh, _, _⟩ := eT_inv hs
  obtain ⟨gh, _, _⟩ := eT_inv ht
  obtain ⟨h1, _, _, h4⟩ := (head_iff s).1 hh
  obtain ⟨_, _, _, g4⟩ := (head_iff t).1 gh
  obtain ⟨e3, e4⟩ := h3 h1
  have hm : manyS s = manyS t := by
    unfold manyS
    rw [val2, val2]
    simp only [Nat.add_zero, Nat.reduceAdd]
    rw [e3, e4]
  omega
theorem cut_short {t : ByteArray} (ht : eT t = 0) {a : Nat} (ha : a < t.size) : eT (t.extract 0 a) ≠ 0 := by
  have hz : (t.extract 0 a).size = a := by rw [ByteArray.size_extract]; omega
  refine other_len ht (by omega) fun h9 => ?_
  have hb : ∀ j, j < a → bt (t.extract 0 a) j = bt t j := fun j hj => by rw [bt_extract t 0 a j (by omega) (by omega), Nat.zero_add]
  exact ⟨hb 3 (by omega), hb 4 (by omega)⟩
theorem made_long {t more : ByteArray} (ht : eT t = 0) (hm : more.size ≠ 0) : eT (t ++ more) ≠ 0 := by
  have hz : (t ++ more).size = t.size + more.size := ByteArray.size_append
  obtain ⟨gh, _, _⟩ := eT_inv ht
  obtain ⟨h9, _, _, _⟩ := (head_iff t).1 gh
  have hb : ∀ j, j < t.size → bt (t ++ more) j = bt t j := fun j hj => by
    rw [bt_at _ (j := j) (by omega), bt_at t hj]
    rw [ByteArray.getElem_append_left hj]
  exact other_len ht (by omega) fun _ => ⟨hb 3 (by omega), hb 4 (by omega)⟩
end Go.Proofs.YtdaglmoibijdeaaDoor.ILaw
