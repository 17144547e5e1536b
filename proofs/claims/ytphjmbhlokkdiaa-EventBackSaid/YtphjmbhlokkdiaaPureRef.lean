import Derived.Test.YtphjmbhlokkdiaaPureVar
import Derived.Test.YtphjmbhlokkdiaaPureCrc
/- Plain mathematics: the reference's ways (digits from bits, a division of bits) come to the same. -/
namespace Go.Proofs.Ytphjmbhlokkdiaa
set_option linter.unusedSimpArgs false

/-! numbers without a sign -/
def dig (n i j : Nat) : Nat := (n / 128 ^ j) % 2 ^ (min 7 (i - 7 * j))
theorem dig_lt (n i j : Nat) : dig n i j < 128 := by
  have h1 : dig n i j < 2 ^ (min 7 (i - 7 * j)) := Nat.mod_lt _ (Nat.pow_pos (by omega))
  have h2 : 2 ^ (min 7 (i - 7 * j)) ≤ 2 ^ 7 := Nat.pow_le_pow_right (by omega) (Nat.min_le_left _ _)
  omega
theorem pow128 (j : Nat) : 128 ^ j = 2 ^ (7 * j) := by rw [Nat.pow_mul]
theorem dig_step (n i : Nat) : dig n (i + 1) (i / 7) = dig n i (i / 7) + 2 ^ (i % 7) * (n / 2 ^ i % 2) := by
  unfold dig
  rw [show min 7 (i + 1 - 7 * (i / 7)) = i % 7 + 1 by omega, show min 7 (i - 7 * (i / 7)) = i % 7 by omega, Nat.mod_pow_succ, Nat.div_div_eq_div_mul, pow128, ← Nat.pow_add, show 7 * (i / 7) + i % 7 = i by omega]
theorem dig_small (n i : Nat) : dig n i (i / 7) < 2 ^ (i % 7) := by
  unfold dig
  rw [show min 7 (i - 7 * (i / 7)) = i % 7 by omega]
  exact Nat.mod_lt _ (Nat.pow_pos (by omega))
theorem dig_other (n i j : Nat) (h : j ≠ i / 7) : dig n (i + 1) j = dig n i j := by
  unfold dig
  rw [show min 7 (i + 1 - 7 * j) = min 7 (i - 7 * j) by omega]
theorem dig_full (n s j : Nat) (h : j < s) : dig n (7 * s) j = n / 128 ^ j % 128 := by
  unfold dig
  rw [show min 7 (7 * s - 7 * j) = 7 by omega]
def digs (n i s : Nat) : List UInt8 := (List.range s).map fun j => UInt8.ofNat (dig n i j)
def marks (n k s : Nat) : List UInt8 := (List.range s).map fun j => UInt8.ofNat (n / 128 ^ j % 128 + if j < k ∧ j + 1 < s then 128 else 0)
theorem digs_zero (n s : Nat) : digs n 0 s = List.replicate s 0 := by
  unfold digs
  rw [List.eq_replicate_iff]
  refine ⟨by simp, ?_⟩
  intro b hb
  simp only [List.mem_map, List.mem_range] at hb
  obtain ⟨j, _, rfl⟩ := hb
  unfold dig
  simp [Nat.mod_one]
theorem map_range_set {α : Type} (f : Nat → α) (s k : Nat) (v : α) : ((List.range s).map f).set k v = (List.range s).map fun j => if j = k then v else f j := by
  apply List.ext_getElem?
  intro j
  rw [List.getElem?_set]
  simp only [List.getElem?_map, List.length_map, List.length_range]
  by_cases h : k = j
  · subst h
    by_cases hk : k < s
    · rw [if_pos rfl, if_pos hk, List.getElem?_range hk]; simp
    · rw [if_pos rfl, if_neg hk, List.getElem?_eq_none (by simp; omega)]; rfl
  · rw [if_neg h]
    by_cases hj : j < s
    · rw [List.getElem?_range hj]; simp; intro e; exact absurd e.symm h
    · rw [List.getElem?_eq_none (by simp; omega)]; rfl
theorem digs_at (n i s j : Nat) (h : j < s) : (digs n i s)[j]? = some (UInt8.ofNat (dig n i j)) := by
  unfold digs; simp [h]
theorem digs_set (n i s : Nat) : (digs n i s).set (i / 7) (UInt8.ofNat (dig n (i + 1) (i / 7))) = digs n (i + 1) s := by
  unfold digs
  rw [map_range_set]
  apply List.map_congr_left
  intro j _
  by_cases h : j = i / 7
  · rw [if_pos h, h]
  · rw [if_neg h, dig_other n i j h]
theorem digs_skip (n i s : Nat) (h : n / 2 ^ i % 2 = 0) : digs n (i + 1) s = digs n i s := by
  rw [← digs_set, dig_step, h, Nat.mul_zero, Nat.add_zero]
  apply List.ext_getElem?
  intro j
  rw [List.getElem?_set]
  by_cases hj : i / 7 = j
  · rw [if_pos hj]
    by_cases hl : i / 7 < (digs n i s).length
    · rw [if_pos hl, ← hj, digs_at n i s _ (by simpa [digs] using hl)]
    · rw [if_neg hl, List.getElem?_eq_none (by omega)]
  · rw [if_neg hj]
theorem digs_full (n s : Nat) : digs n (7 * s) s = marks n 0 s := by
  unfold digs marks
  apply List.map_congr_left
  intro j hj
  rw [dig_full n s j (by simpa using hj), if_neg (by omega), Nat.add_zero]
theorem marks_at (n k s j : Nat) (h : j < s) : (marks n k s)[j]? = some (UInt8.ofNat (n / 128 ^ j % 128 + if j < k ∧ j + 1 < s then 128 else 0)) := by
  unfold marks; simp [h]
theorem marks_set (n k s : Nat) (h : k + 1 < s) : (marks n k s).set k (UInt8.ofNat (n / 128 ^ k % 128 + 128)) = marks n (k + 1) s := by
  unfold marks
  rw [map_range_set]
  apply List.map_congr_left
  intro j _
  by_cases hj : j = k
  · rw [if_pos hj, hj, if_pos (by omega)]
  · rw [if_neg hj]
    by_cases h2 : j < k ∧ j + 1 < s
    · rw [if_pos h2, if_pos (by omega)]
    · rw [if_neg h2, if_neg (by omega)]
theorem uv_marks : ∀ (s n k : Nat), s ≤ k + 1 → 0 < s → n < 128 ^ s → (s = 1 ∨ 128 ^ (s - 1) ≤ n) → marks n k s = uv n := by
  intro s
  induction s with
  | zero => intro n k _ h; omega
  | succ s ih =>
    intro n k hk _ hn hs
    by_cases h0 : s = 0
    · subst h0
      rw [uv_small n (by simpa using hn)]
      simp only [marks, List.range_succ, List.range_zero, List.nil_append, List.map_cons, List.map_nil, Nat.pow_zero, Nat.div_one]
      rw [if_neg (by omega), Nat.add_zero, Nat.mod_eq_of_lt (by simpa using hn)]
    · have hs2 : 128 ^ s ≤ n := by rcases hs with h | h; omega; simpa using h
      have h128 : 128 ≤ 128 ^ s := by
        have := Nat.pow_le_pow_right (n := 128) (by omega) (show 1 ≤ s by omega)
        simpa using this
      rw [uv_big n (by omega), ← ih (n / 128) (k - 1) (by omega) (by omega) (by rw [Nat.pow_succ] at hn; omega) (by
        right
        have e : 128 ^ s = 128 ^ (s - 1) * 128 := by rw [← Nat.pow_succ]; congr 1; omega
        rw [e] at hs2; omega)]
      unfold marks
      rw [List.range_succ_eq_map, List.map_cons, List.map_map]
      congr 1
      · rw [if_pos (by omega), Nat.pow_zero, Nat.div_one, Nat.add_comm]
      · apply List.map_congr_left
        intro j hj
        have hjs : j < s := by simpa using hj
        simp only [Function.comp, Nat.succ_eq_add_one]
        rw [Nat.pow_succ', ← Nat.div_div_eq_div_mul]
        congr 2
        by_cases h3 : j + 1 < s
        · rw [if_pos (by omega), if_pos (by omega)]
        · rw [if_neg (by omega), if_neg (by omega)]
/-- the highest bit that is set, of the lowest ones -/
def hb (n : Nat) : Nat → Nat
  | 0 => 0
  | i + 1 => if n / 2 ^ i % 2 = 1 then i else hb n i
theorem hb_le (n : Nat) : ∀ i, hb n i ≤ i := by
  intro i
  induction i with
  | zero => simp [hb]
  | succ i ih => unfold hb; split <;> omega
theorem hb_lt (n i : Nat) (h : 0 < i) : hb n i < i := by
  cases i with
  | zero => omega
  | succ i => unfold hb; have := hb_le n i; split <;> omega
theorem hb_spec (n : Nat) : ∀ i, n % 2 ^ i < 2 ^ (hb n i + 1) ∧ (n % 2 ^ i ≠ 0 → 2 ^ hb n i ≤ n % 2 ^ i) := by
  intro i
  induction i with
  | zero => simp [hb, Nat.mod_one]
  | succ i ih =>
    have hlt : n % 2 ^ i < 2 ^ i := Nat.mod_lt _ (Nat.pow_pos (by omega))
    unfold hb
    rw [Nat.mod_pow_succ]
    by_cases h : n / 2 ^ i % 2 = 1
    · rw [if_pos h, h, Nat.mul_one, Nat.pow_succ]
      omega
    · rw [if_neg h, show n / 2 ^ i % 2 = 0 by omega, Nat.mul_zero, Nat.add_zero]
      exact ih
theorem sevens (n : Nat) (h : n < 18446744073709551616) : n < 128 ^ (hb n 64 / 7 + 1) ∧ (hb n 64 / 7 + 1 = 1 ∨ 128 ^ (hb n 64 / 7 + 1 - 1) ≤ n) := by
  obtain ⟨h1, h2⟩ := hb_spec n 64
  rw [Nat.mod_eq_of_lt (show n < 2 ^ 64 by omega)] at h1 h2
  constructor
  · rw [pow128]
    exact Nat.lt_of_lt_of_le h1 (Nat.pow_le_pow_right (by omega) (by omega))
  · by_cases h0 : hb n 64 / 7 = 0
    · exact .inl (by omega)
    · right
      have hn : n ≠ 0 := by
        intro e
        subst e
        have : ∀ i, hb 0 i = 0 := by
          intro i
          induction i with
          | zero => rfl
          | succ i ih => unfold hb; rw [if_neg (by simp), ih]
        rw [this] at h0
        exact h0 rfl
      rw [pow128, show hb n 64 / 7 + 1 - 1 = hb n 64 / 7 by omega]
      exact Nat.le_trans (Nat.pow_le_pow_right (by omega) (by omega)) (h2 hn)

/-! reading them -/
theorem uvVal_snoc (l : List UInt8) (x : UInt8) : uvVal (l ++ [x]) = uvVal l + 128 ^ l.length * (x.toNat % 128) := by
  induction l with
  | nil => simp [uvVal]
  | cons y r ih => simp only [List.cons_append, uvVal, ih, List.length_cons, Nat.pow_succ]; rw [Nat.mul_add, Nat.add_assoc, ← Nat.mul_assoc, Nat.mul_comm 128 (128 ^ r.length)]
theorem uvVal_drop (l : List UInt8) : ∀ i, uvVal (l.drop i) ≤ uvVal l := by
  induction l with
  | nil => intro i; simp
  | cons y r ih =>
    intro i
    cases i with
    | zero => simp
    | succ i => rw [List.drop_succ_cons, uvVal]; have := ih i; omega
theorem guL_skip (m : Nat) : ∀ (r : List UInt8) (k acc : Nat), (∀ j, j < m → ∃ x, r[j]? = some x ∧ 127 < x.toNat) → k + m ≤ 9 → guL k r acc = guL (k + m) (r.drop m) (acc + uvVal (r.take m) * 128 ^ k) := by
  induction m with
  | zero => intro r k acc _ _; simp [uvVal]
  | succ m ih =>
    intro r k acc h hk
    cases r with
    | nil => obtain ⟨x, hx, _⟩ := h 0 (by omega); simp at hx
    | cons x r =>
      obtain ⟨y, hy, hy2⟩ := h 0 (by omega)
      simp at hy
      subst hy
      have hx := x.toNat_lt
      rw [guL, if_neg (by omega), if_neg (by omega), ih r (k + 1) _ (fun j hj => by have := h (j + 1) (by omega); simpa using this) (by omega)]
      rw [show k + 1 + m = k + (m + 1) by omega, List.drop_succ_cons, List.take_succ_cons, uvVal, show x.toNat % 128 = x.toNat - 128 by omega, Nat.add_mul, Nat.pow_succ, Nat.add_assoc]
      congr 3
      rw [Nat.mul_comm 128 (uvVal _), Nat.mul_assoc, Nat.mul_comm 128]
theorem gu_at (l : List UInt8) (a : Nat) (ha : a ≤ l.length) (q : Nat × Nat × Nat) (h : guL 0 (l.drop a) 0 = q) : gu l (a : Int) = (if q.2.2 = 0 then (q.1, a + q.2.1, 0) else (0, 0, q.2.2)) := by
  unfold gu
  rw [if_neg (by omega)]
  simp only [Int.toNat_natCast, h]
theorem gu_out (l : List UInt8) (a : Int) (h : a < 0 ∨ (l.length : Int) < a) : gu l a = (0, 0, 2) := by
  unfold gu; rw [if_pos h]
theorem gu_short (l : List UInt8) (a m : Nat) (hm : m ≤ 9) (h : ∀ j, j < m → ∃ x, l[a + j]? = some x ∧ 127 < x.toNat) (hl : l.length = a + m) : gu l (a : Int) = (0, 0, 11) := by
  rw [gu_at l a (by omega) (0, 0, 11)]
  · rfl
  · rw [guL_skip m _ 0 0 (fun j hj => by rw [List.getElem?_drop]; exact h j hj) (by omega), List.drop_drop, List.drop_eq_nil_of_le (by omega)]
    rfl
theorem gu_ten (l : List UInt8) (a : Nat) (ha : a ≤ l.length) (h : ∀ j, j < 10 → ∃ x, l[a + j]? = some x ∧ 127 < x.toNat) : gu l (a : Int) = (0, 0, 10) := by
  rw [gu_at l a ha (0, 0, 10)]
  · rfl
  · rw [guL_skip 9 _ 0 0 (fun j hj => by rw [List.getElem?_drop]; exact h j (by omega)) (by omega), List.drop_drop]
    obtain ⟨x, hx, hx2⟩ := h 9 (by omega)
    have hlt := (List.getElem?_eq_some_iff.1 hx).1
    have hxe := (List.getElem?_eq_some_iff.1 hx).2
    rw [List.drop_eq_getElem_cons hlt, hxe, guL, if_pos (by omega)]
theorem gu_bad (l : List UInt8) (a m : Nat) (x : UInt8) (ha : a ≤ l.length) (hm : m ≤ 9) (h : ∀ j, j < m → ∃ x, l[a + j]? = some x ∧ 127 < x.toNat) (hx : l[a + m]? = some x) (hb : (m = 9 ∧ 1 < x.toNat) ∨ (0 < m ∧ x.toNat = 0)) : gu l (a : Int) = (0, 0, 10) := by
  rw [gu_at l a ha (0, 0, 10)]
  · rfl
  · rw [guL_skip m _ 0 0 (fun j hj => by rw [List.getElem?_drop]; exact h j hj) (by omega), List.drop_drop]
    have hlt := (List.getElem?_eq_some_iff.1 hx).1
    have hxe := (List.getElem?_eq_some_iff.1 hx).2
    rw [List.drop_eq_getElem_cons hlt, hxe, guL, if_pos (by omega)]
theorem gu_good (l : List UInt8) (a m : Nat) (x : UInt8) (ha : a ≤ l.length) (hm : m ≤ 9) (h : ∀ j, j < m → ∃ x, l[a + j]? = some x ∧ 127 < x.toNat) (hx : l[a + m]? = some x) (hx2 : x.toNat ≤ 127) (hb : ¬ ((m = 9 ∧ 1 < x.toNat) ∨ (0 < m ∧ x.toNat = 0))) :
    gu l (a : Int) = (uvVal ((l.drop a).take (m + 1)), a + m + 1, 0) := by
  have hlt := (List.getElem?_eq_some_iff.1 hx).1
  have hxe := (List.getElem?_eq_some_iff.1 hx).2
  rw [gu_at l a ha (uvVal ((l.drop a).take (m + 1)), m + 1, 0)]
  · simp; omega
  · rw [guL_skip m _ 0 0 (fun j hj => by rw [List.getElem?_drop]; exact h j hj) (by omega), List.drop_drop]
    have e : (l.drop a).take (m + 1) = (l.drop a).take m ++ [x] := by
      rw [List.take_succ_eq_append_getElem (by rw [List.length_drop]; omega), List.getElem_drop, hxe]
    rw [List.drop_eq_getElem_cons hlt, hxe, guL, if_neg (by omega), if_pos (by omega), e, uvVal_snoc, List.length_take, List.length_drop, Nat.min_eq_left (by omega), Nat.mod_eq_of_lt (by omega)]
    simp only [Nat.zero_add, Nat.pow_zero, Nat.mul_one, Nat.one_mul, Nat.mul_comm]

/-! the check, by a division of bits -/
def bitStep (r : BitVec 32) (b : Bool) : BitVec 32 := (r >>> 1) ^^^ (if (r.getLsbD 0 ^^ b) then 0xEDB88320#32 else 0#32)
def dbit (l : List UInt8) (j : Nat) : Bool := ((l.getD (j / 8) 0).toNat / 2 ^ (j % 8) % 2 == 1)
def regAt (l : List UInt8) : Nat → BitVec 32
  | 0 => 4294967295#32
  | i + 1 => bitStep (regAt l i) (dbit l i)
theorem crcStep_mix (r y : BitVec 32) : crcStep (r ^^^ y) = bitStep r (y.getLsbD 0) ^^^ (y >>> 1) := by
  unfold crcStep bitStep
  rw [BitVec.getLsbD_xor, BitVec.ushiftRight_xor_distrib]
  cases (r.getLsbD 0 ^^ y.getLsbD 0)
  · simp
  · simp only [if_true]
    rw [BitVec.xor_assoc, BitVec.xor_comm (y >>> 1), ← BitVec.xor_assoc]
theorem crcPush_bits (r : BitVec 32) (x : UInt8) :
    crcPush r x = bitStep (bitStep (bitStep (bitStep (bitStep (bitStep (bitStep (bitStep r ((x.toBitVec.setWidth 32).getLsbD 0)) ((x.toBitVec.setWidth 32).getLsbD 1)) ((x.toBitVec.setWidth 32).getLsbD 2)) ((x.toBitVec.setWidth 32).getLsbD 3)) ((x.toBitVec.setWidth 32).getLsbD 4)) ((x.toBitVec.setWidth 32).getLsbD 5)) ((x.toBitVec.setWidth 32).getLsbD 6)) ((x.toBitVec.setWidth 32).getLsbD 7) := by
  obtain ⟨y, hy⟩ : ∃ y, y = x.toBitVec.setWidth 32 := ⟨_, rfl⟩
  have h8 : y >>> 8 = 0#32 := by
    apply BitVec.eq_of_getLsbD_eq
    intro i hi
    rw [hy]
    simp
  have hsh : ∀ m : Nat, y >>> m >>> 1 = y >>> (m + 1) := fun m => by
    apply BitVec.eq_of_getLsbD_eq
    intro i hi
    simp only [BitVec.getLsbD_ushiftRight]
    rw [show m + (1 + i) = m + 1 + i by omega]
  unfold crcPush
  rw [← hy]
  simp only [crcSteps, crcStep_mix, BitVec.getLsbD_ushiftRight, hsh, Nat.reduceAdd, h8, BitVec.xor_zero, Nat.add_zero]
theorem dbit_at (l : List UInt8) (k j : Nat) (x : UInt8) (hx : l[k]? = some x) (hj : j < 8) : dbit l (8 * k + j) = (x.toBitVec.setWidth 32).getLsbD j := by
  unfold dbit
  rw [show (8 * k + j) / 8 = k by omega, show (8 * k + j) % 8 = j by omega, List.getD_eq_getElem?_getD, hx, Option.getD_some, BitVec.getLsbD_setWidth, BitVec.getLsbD, Nat.testBit_eq_decide_div_mod_eq]
  have : x.toBitVec.toNat = x.toNat := rfl
  rw [this]
  simp [show j < 32 by omega]
  rfl
theorem regAt_take (l : List UInt8) : ∀ k, k ≤ l.length → regAt l (8 * k) = crcReg 4294967295#32 (l.take k) := by
  intro k
  induction k with
  | zero => intro _; rfl
  | succ k ih =>
    intro hk
    have hx : l[k]? = some l[k] := by simp [show k < l.length by omega]
    rw [List.take_succ_eq_append_getElem (by omega), crcReg_snoc, ← ih (by omega), crcPush_bits]
    rw [← dbit_at l k 0 _ hx (by omega), ← dbit_at l k 1 _ hx (by omega), ← dbit_at l k 2 _ hx (by omega), ← dbit_at l k 3 _ hx (by omega), ← dbit_at l k 4 _ hx (by omega), ← dbit_at l k 5 _ hx (by omega), ← dbit_at l k 6 _ hx (by omega), ← dbit_at l k 7 _ hx (by omega)]
    rfl
theorem regAt_crc (l : List UInt8) : ~~~ regAt l (8 * l.length) = crc l := by
  rw [regAt_take l l.length (Nat.le_refl _), List.take_length]; rfl
/-- what stands in the place j when i places are done -/
def allAt (l : List UInt8) (i j : Nat) : Bool := dbit l j ^^ (regAt l i).getLsbD (j - i)
theorem allAt_zero (l : List UInt8) (j : Nat) : allAt l 0 j = (dbit l j != decide (j < 32)) := by
  unfold allAt regAt
  have : (4294967295#32).getLsbD (j - 0) = decide (j < 32) := by
    rw [show (4294967295#32) = BitVec.allOnes 32 by decide, BitVec.getLsbD_allOnes, Nat.sub_zero]
  rw [this]
def polyB (k : Nat) : Bool := (0xEDB88320#32).getLsbD k
theorem polyB_eq : ∀ k, k < 32 → (79764919 / 2 ^ (31 - k) % 2 == 1) = polyB k := by decide
theorem polyB_out (k : Nat) (h : 32 ≤ k) : polyB k = false := by unfold polyB; exact BitVec.getLsbD_of_ge _ _ h
theorem allAt_step (l : List UInt8) (i j : Nat) (h : i < j) : allAt l (i + 1) j = (allAt l i j ^^ (allAt l i i && polyB (j - (i + 1)))) := by
  unfold allAt
  rw [regAt, bitStep, BitVec.getLsbD_xor, BitVec.getLsbD_ushiftRight, show 1 + (j - (i + 1)) = j - i by omega, Nat.sub_self]
  unfold polyB
  cases hc : ((regAt l i).getLsbD 0) <;> cases hd : dbit l i <;> simp [hc, hd]
theorem dbit_out (l : List UInt8) (j : Nat) (h : 8 * l.length ≤ j) : dbit l j = false := by
  unfold dbit
  rw [List.getD_eq_getElem?_getD, List.getElem?_eq_none (by omega)]
  simp
theorem allAt_end (l : List UInt8) (k : Nat) (hk : k < 32) : (!(allAt l (8 * l.length) (8 * l.length + k))) = (crc l).getLsbD k := by
  rw [← regAt_crc, BitVec.getLsbD_not]
  unfold allAt
  rw [dbit_out l _ (by omega), show 8 * l.length + k - 8 * l.length = k by omega]
  simp [hk]
theorem crc_up (q : BitVec 32) (k : Nat) : q.toNat / 2 ^ k = 2 * (q.toNat / 2 ^ (k + 1)) + (if q.getLsbD k then 1 else 0) := by
  rw [Nat.pow_succ, ← Nat.div_div_eq_div_mul, BitVec.getLsbD, Nat.testBit_eq_decide_div_mod_eq]
  have := Nat.mod_two_eq_zero_or_one (q.toNat / 2 ^ k)
  rcases this with h | h
  · simp [h]; omega
  · simp [h]; omega
end Go.Proofs.Ytphjmbhlokkdiaa
