import Derived.Test.YtemegkapmgcffaaGreatMBy
import Derived.Deep.CutBlock
import Derived.Deep.DeepCutAuto
import Derived.StillTailTactics
import Derived.Laws.OwnMore
import Derived.Test.YtemegkapmgcffaaGreatMWa
import Derived.Test.YtemegkapmgcffaaGreatMFr
/- Plain mathematics: the reference's ways (digits from bits, a division of bits) come to the same. -/
namespace Go.Proofs.YtemegkapmgcffaaGreat
set_option linter.unusedSimpArgs false

/-! numbers without a sign -/
def dig (n i j : Nat) : Nat := (n / 128 ^ j) % 2 ^ (min 7 (i - 7 * j))
theorem pow128 (j : Nat) : 128 ^ j = 2 ^ (7 * j) := by rw [Nat.pow_mul]
theorem dig_step (n i : Nat) : dig n (i + 1) (i / 7) = dig n i (i / 7) + 2 ^ (i % 7) * (n / 2 ^ i % 2) := by
  unfold dig
  rw [show min 7 (i + 1 - 7 * (i / 7)) = i % 7 + 1 by omega, show min 7 (i - 7 * (i / 7)) = i % 7 by omega, Nat.mod_pow_succ, Nat.div_div_eq_div_mul, pow128, ← Nat.pow_add, show 7 * (i / 7) + i % 7 = i by omega]
theorem dig_small (n i : Nat) : dig n i (i / 7) < 2 ^ (i % 7) := by
  unfold dig
  rw [show min 7 (i - 7 * (i / 7)) = i % 7 by omega]
  exact Nat.mod_lt _ (Nat.pow_pos (by omega))
theorem dig_other (n i j : Nat) (h : j ≠ i / 7) : dig n (i + 1) j = dig n i j := by
  unfold dig
  rw [show min 7 (i + 1 - 7 * j) = min 7 (i - 7 * j) by omega]
theorem dig_full (n s j : Nat) (h : j < s) : dig n (7 * s) j = n / 128 ^ j % 128 := by
  unfold dig
  rw [show min 7 (7 * s - 7 * j) = 7 by omega]
def digs (n i s : Nat) : List UInt8 := (List.range s).map fun j => UInt8.ofNat (dig n i j)
def marks (n k s : Nat) : List UInt8 := (List.range s).map fun j => UInt8.ofNat (n / 128 ^ j % 128 + if j < k ∧ j + 1 < s then 128 else 0)
theorem digs_zero (n s : Nat) : digs n 0 s = List.replicate s 0 := by
  unfold digs
  rw [List.eq_replicate_iff]
  refine ⟨by simp, ?_⟩
  intro b hb
  simp only [List.mem_map, List.mem_range] at hb
  obtain ⟨j, _, rfl⟩ := hb
  unfold dig
  simp [Nat.mod_one]
theorem map_range_set {α : Type} (f : Nat → α) (s k : Nat) (v : α) : ((List.range s).map f).set k v = (List.range s).map fun j => if j = k then v else f j := by
  apply List.ext_getElem?
  intro j
  rw [List.getElem?_set]
  simp only [List.getElem?_map, List.length_map, List.length_range]
  by_cases h : k = j
  · subst h
    by_cases hk : k < s
    · rw [if_pos rfl, if_pos hk, List.getElem?_range hk]; simp
    · rw [if_pos rfl, if_neg hk, List.getElem?_eq_none (by simp; omega)]; rfl
  · rw [if_neg h]
    by_cases hj : j < s
    · rw [List.getElem?_range hj]; simp; intro e; exact absurd e.symm h
    · rw [List.getElem?_eq_none (by simp; omega)]; rfl
theorem digs_at (n i s j : Nat) (h : j < s) : (digs n i s)[j]? = some (UInt8.ofNat (dig n i j)) := by
  unfold digs; simp [h]
theorem digs_set (n i s : Nat) : (digs n i s).set (i / 7) (UInt8.ofNat (dig n (i + 1) (i / 7))) = digs n (i + 1) s := by
  unfold digs
  rw [map_range_set]
  apply List.map_congr_left
  intro j _
  by_cases h : j = i / 7
  · rw [if_pos h, h]
  · rw [if_neg h, dig_other n i j h]
theorem digs_skip (n i s : Nat) (h : n / 2 ^ i % 2 = 0) : digs n (i + 1) s = digs n i s := by
  rw [← digs_set, dig_step, h, Nat.mul_zero, Nat.add_zero]
  apply List.ext_getElem?
  intro j
  rw [List.getElem?_set]
  by_cases hj : i / 7 = j
  · rw [if_pos hj]
    by_cases hl : i / 7 < (digs n i s).length
    · rw [if_pos hl, ← hj, digs_at n i s _ (by simpa [digs] using hl)]
    · rw [if_neg hl, List.getElem?_eq_none (by omega)]
  · rw [if_neg hj]
theorem digs_full (n s : Nat) : digs n (7 * s) s = marks n 0 s := by
  unfold digs marks
  apply List.map_congr_left
  intro j hj
  rw [dig_full n s j (by simpa using hj), if_neg (by omega), Nat.add_zero]
theorem marks_at (n k s j : Nat) (h : j < s) : (marks n k s)[j]? = some (UInt8.ofNat (n / 128 ^ j % 128 + if j < k ∧ j + 1 < s then 128 else 0)) := by
  unfold marks; simp [h]
theorem marks_set (n k s : Nat) (h : k + 1 < s) : (marks n k s).set k (UInt8.ofNat (n / 128 ^ k % 128 + 128)) = marks n (k + 1) s := by
  unfold marks
  rw [map_range_set]
  apply List.map_congr_left
  intro j _
  by_cases hj : j = k
  · rw [if_pos hj, hj, if_pos (by omega)]
  · rw [if_neg hj]
    by_cases h2 : j < k ∧ j + 1 < s
    · rw [if_pos h2, if_pos (by omega)]
    · rw [if_neg h2, if_neg (by omega)]
theorem uv_marks : ∀ (s n k : Nat), s ≤ k + 1 → 0 < s → n < 128 ^ s → (s = 1 ∨ 128 ^ (s - 1) ≤ n) → marks n k s = uv n := by
  intro s
  induction s with
  | zero => intro n k _ h; omega
  | succ s ih =>
    intro n k hk _ hn hs
    by_cases h0 : s = 0
    · subst h0
      rw [uv_small n (by simpa using hn)]
      simp only [marks, List.range_succ, List.range_zero, List.nil_append, List.map_cons, List.map_nil, Nat.pow_zero, Nat.div_one]
      rw [if_neg (by omega), Nat.add_zero, Nat.mod_eq_of_lt (by simpa using hn)]
    · have hs2 : 128 ^ s ≤ n := by rcases hs with h | h; omega; simpa using h
      have h128 : 128 ≤ 128 ^ s := by
        have := Nat.pow_le_pow_right (n := 128) (by omega) (show 1 ≤ s by omega)
        simpa using this
      rw [uv_big n (by omega), ← ih (n / 128) (k - 1) (by omega) (by omega) (by rw [Nat.pow_succ] at hn; omega) (by
        right
        have e : 128 ^ s = 128 ^ (s - 1) * 128 := by rw [← Nat.pow_succ]; congr 1; omega
        rw [e] at hs2; omega)]
      unfold marks
      rw [List.range_succ_eq_map, List.map_cons, List.map_map]
      congr 1
      · rw [if_pos (by omega), Nat.pow_zero, Nat.div_one, Nat.add_comm]
      · apply List.map_congr_left
        intro j hj
        have hjs : j < s := by simpa using hj
        simp only [Function.comp, Nat.succ_eq_add_one]
        rw [Nat.pow_succ', ← Nat.div_div_eq_div_mul]
        congr 2
        by_cases h3 : j + 1 < s
        · rw [if_pos (by omega), if_pos (by omega)]
        · rw [if_neg (by omega), if_neg (by omega)]
/-- the highest bit that is set, of the lowest ones -/
def hb (n : Nat) : Nat → Nat
  | 0 => 0
  | i + 1 => if n / 2 ^ i % 2 = 1 then i else hb n i
theorem hb_le (n : Nat) : ∀ i, hb n i ≤ i := by
  intro i
  induction i with
  | zero => simp [hb]
  | succ i ih => unfold hb; split <;> omega
theorem hb_lt (n i : Nat) (h : 0 < i) : hb n i < i := by
  cases i with
  | zero => omega
  | succ i => unfold hb; have := hb_le n i; split <;> omega
theorem hb_spec (n : Nat) : ∀ i, n % 2 ^ i < 2 ^ (hb n i + 1) ∧ (n % 2 ^ i ≠ 0 → 2 ^ hb n i ≤ n % 2 ^ i) := by
  intro i
  induction i with
  | zero => simp [hb, Nat.mod_one]
  | succ i ih =>
    have hlt : n % 2 ^ i < 2 ^ i := Nat.mod_lt _ (Nat.pow_pos (by omega))
    unfold hb
    rw [Nat.mod_pow_succ]
    by_cases h : n / 2 ^ i % 2 = 1
    · rw [if_pos h, h, Nat.mul_one, Nat.pow_succ]
      omega
    · rw [if_neg h, show n / 2 ^ i % 2 = 0 by omega, Nat.mul_zero, Nat.add_zero]
      exact ih
theorem sevens (n : Nat) (h : n < 18446744073709551616) : n < 128 ^ (hb n 64 / 7 + 1) ∧ (hb n 64 / 7 + 1 = 1 ∨ 128 ^ (hb n 64 / 7 + 1 - 1) ≤ n) := by
  obtain ⟨h1, h2⟩ := hb_spec n 64
  rw [Nat.mod_eq_of_lt (show n < 2 ^ 64 by omega)] at h1 h2
  constructor
  · rw [pow128]
    exact Nat.lt_of_lt_of_le h1 (Nat.pow_le_pow_right (by omega) (by omega))
  · by_cases h0 : hb n 64 / 7 = 0
    · exact .inl (by omega)
    · right
      have hn : n ≠ 0 := by
        intro e
        subst e
        have : ∀ i, hb 0 i = 0 := by
          intro i
          induction i with
          | zero => rfl
          | succ i ih => unfold hb; rw [if_neg (by simp), ih]
        rw [this] at h0
        exact h0 rfl
      rw [pow128, show hb n 64 / 7 + 1 - 1 = hb n 64 / 7 by omega]
      exact Nat.le_trans (Nat.pow_le_pow_right (by omega) (by omega)) (h2 hn)

/-! reading them -/
theorem uvVal_snoc (l : List UInt8) (x : UInt8) : uvVal (l ++ [x]) = uvVal l + 128 ^ l.length * (x.toNat % 128) := by
  induction l with
  | nil => simp [uvVal]
  | cons y r ih => simp only [List.cons_append, uvVal, ih, List.length_cons, Nat.pow_succ]; rw [Nat.mul_add, Nat.add_assoc, ← Nat.mul_assoc, Nat.mul_comm 128 (128 ^ r.length)]
theorem uvVal_drop (l : List UInt8) : ∀ i, uvVal (l.drop i) ≤ uvVal l := by
  induction l with
  | nil => intro i; simp
  | cons y r ih =>
    intro i
    cases i with
    | zero => simp
    | succ i => rw [List.drop_succ_cons, uvVal]; have := ih i; omega
theorem guL_skip (m : Nat) : ∀ (r : List UInt8) (k acc : Nat), (∀ j, j < m → ∃ x, r[j]? = some x ∧ 127 < x.toNat) → k + m ≤ 9 → guL k r acc = guL (k + m) (r.drop m) (acc + uvVal (r.take m) * 128 ^ k) := by
  induction m with
  | zero => intro r k acc _ _; simp [uvVal]
  | succ m ih =>
    intro r k acc h hk
    cases r with
    | nil => obtain ⟨x, hx, _⟩ := h 0 (by omega); simp at hx
    | cons x r =>
      obtain ⟨y, hy, hy2⟩ := h 0 (by omega)
      simp at hy
      subst hy
      have hx := x.toNat_lt
      rw [guL, if_neg (by omega), if_neg (by omega), ih r (k + 1) _ (fun j hj => by have := h (j + 1) (by omega); simpa using this) (by omega)]
      rw [show k + 1 + m = k + (m + 1) by omega, List.drop_succ_cons, List.take_succ_cons, uvVal, show x.toNat % 128 = x.toNat - 128 by omega, Nat.add_mul, Nat.pow_succ, Nat.add_assoc]
      congr 3
      rw [Nat.mul_comm 128 (uvVal _), Nat.mul_assoc, Nat.mul_comm 128]
theorem gu_at (l : List UInt8) (a : Nat) (ha : a ≤ l.length) (q : Nat × Nat × Nat) (h : guL 0 (l.drop a) 0 = q) : gu l (a : Int) = (if q.2.2 = 0 then (q.1, a + q.2.1, 0) else (0, 0, q.2.2)) := by
  unfold gu
  rw [if_neg (by omega)]
  simp only [Int.toNat_natCast, h]
theorem gu_out (l : List UInt8) (a : Int) (h : a < 0 ∨ (l.length : Int) < a) : gu l a = (0, 0, 2) := by
  unfold gu; rw [if_pos h]
theorem gu_short (l : List UInt8) (a m : Nat) (hm : m ≤ 9) (h : ∀ j, j < m → ∃ x, l[a + j]? = some x ∧ 127 < x.toNat) (hl : l.length = a + m) : gu l (a : Int) = (0, 0, 11) := by
  rw [gu_at l a (by omega) (0, 0, 11)]
  · rfl
  · rw [guL_skip m _ 0 0 (fun j hj => by rw [List.getElem?_drop]; exact h j hj) (by omega), List.drop_drop, List.drop_eq_nil_of_le (by omega)]
    rfl
theorem gu_ten (l : List UInt8) (a : Nat) (ha : a ≤ l.length) (h : ∀ j, j < 10 → ∃ x, l[a + j]? = some x ∧ 127 < x.toNat) : gu l (a : Int) = (0, 0, 10) := by
  rw [gu_at l a ha (0, 0, 10)]
  · rfl
  · rw [guL_skip 9 _ 0 0 (fun j hj => by rw [List.getElem?_drop]; exact h j (by omega)) (by omega), List.drop_drop]
    obtain ⟨x, hx, hx2⟩ := h 9 (by omega)
    have hlt := (List.getElem?_eq_some_iff.1 hx).1
    have hxe := (List.getElem?_eq_some_iff.1 hx).2
    rw [List.drop_eq_getElem_cons hlt, hxe, guL, if_pos (by omega)]
theorem gu_bad (l : List UInt8) (a m : Nat) (x : UInt8) (ha : a ≤ l.length) (hm : m ≤ 9) (h : ∀ j, j < m → ∃ x, l[a + j]? = some x ∧ 127 < x.toNat) (hx : l[a + m]? = some x) (hb : (m = 9 ∧ 1 < x.toNat) ∨ (0 < m ∧ x.toNat = 0)) : gu l (a : Int) = (0, 0, 10) := by
  rw [gu_at l a ha (0, 0, 10)]
  · rfl
  · rw [guL_skip m _ 0 0 (fun j hj => by rw [List.getElem?_drop]; exact h j hj) (by omega), List.drop_drop]
    have hlt := (List.getElem?_eq_some_iff.1 hx).1
    have hxe := (List.getElem?_eq_some_iff.1 hx).2
    rw [List.drop_eq_getElem_cons hlt, hxe, guL, if_pos (by omega)]
theorem gu_good (l : List UInt8) (a m : Nat) (x : UInt8) (ha : a ≤ l.length) (hm : m ≤ 9) (h : ∀ j, j < m → ∃ x, l[a + j]? = some x ∧ 127 < x.toNat) (hx : l[a + m]? = some x) (hx2 : x.toNat ≤ 127) (hb : ¬ ((m = 9 ∧ 1 < x.toNat) ∨ (0 < m ∧ x.toNat = 0))) :
    gu l (a : Int) = (uvVal ((l.drop a).take (m + 1)), a + m + 1, 0) := by
  have hlt := (List.getElem?_eq_some_iff.1 hx).1
  have hxe := (List.getElem?_eq_some_iff.1 hx).2
  rw [gu_at l a ha (uvVal ((l.drop a).take (m + 1)), m + 1, 0)]
  · simp; omega
  · rw [guL_skip m _ 0 0 (fun j hj => by rw [List.getElem?_drop]; exact h j hj) (by omega), List.drop_drop]
    have e : (l.drop a).take (m + 1) = (l.drop a).take m ++ [x] := by
      rw [List.take_succ_eq_append_getElem (by rw [List.length_drop]; omega), List.getElem_drop, hxe]
    rw [List.drop_eq_getElem_cons hlt, hxe, guL, if_neg (by omega), if_pos (by omega), e, uvVal_snoc, List.length_take, List.length_drop, Nat.min_eq_left (by omega), Nat.mod_eq_of_lt (by omega)]
    simp only [Nat.zero_add, Nat.pow_zero, Nat.mul_one, Nat.one_mul, Nat.mul_comm]

/-! the check, by a division of bits -/
def bitStep (r : BitVec 32) (b : Bool) : BitVec 32 := (r >>> 1) ^^^ (if (r.getLsbD 0 ^^ b) then 0xEDB88320#32 else 0#32)
def dbit (l : List UInt8) (j : Nat) : Bool := ((l.getD (j / 8) 0).toNat / 2 ^ (j % 8) % 2 == 1)
def regAt (l : List UInt8) : Nat → BitVec 32
  | 0 => 4294967295#32
  | i + 1 => bitStep (regAt l i) (dbit l i)
theorem crcStep_mix (r y : BitVec 32) : crcStep (r ^^^ y) = bitStep r (y.getLsbD 0) ^^^ (y >>> 1) := by
  unfold crcStep bitStep
  rw [BitVec.getLsbD_xor, BitVec.ushiftRight_xor_distrib]
  cases (r.getLsbD 0 ^^ y.getLsbD 0)
  · simp
  · simp only [if_true]
    rw [BitVec.xor_assoc, BitVec.xor_comm (y >>> 1), ← BitVec.xor_assoc]
theorem crcPush_bits (r : BitVec 32) (x : UInt8) :
    crcPush r x = bitStep (bitStep (bitStep (bitStep (bitStep (bitStep (bitStep (bitStep r ((x.toBitVec.setWidth 32).getLsbD 0)) ((x.toBitVec.setWidth 32).getLsbD 1)) ((x.toBitVec.setWidth 32).getLsbD 2)) ((x.toBitVec.setWidth 32).getLsbD 3)) ((x.toBitVec.setWidth 32).getLsbD 4)) ((x.toBitVec.setWidth 32).getLsbD 5)) ((x.toBitVec.setWidth 32).getLsbD 6)) ((x.toBitVec.setWidth 32).getLsbD 7) := by
  obtain ⟨y, hy⟩ : ∃ y, y = x.toBitVec.setWidth 32 := ⟨_, rfl⟩
  have h8 : y >>> 8 = 0#32 := by
    apply BitVec.eq_of_getLsbD_eq
    intro i hi
    rw [hy]
    simp
  have hsh : ∀ m : Nat, y >>> m >>> 1 = y >>> (m + 1) := fun m => by
    apply BitVec.eq_of_getLsbD_eq
    intro i hi
    simp only [BitVec.getLsbD_ushiftRight]
    rw [show m + (1 + i) = m + 1 + i by omega]
  unfold crcPush
  rw [← hy]
  simp only [crcSteps, crcStep_mix, BitVec.getLsbD_ushiftRight, hsh, Nat.reduceAdd, h8, BitVec.xor_zero, Nat.add_zero]
theorem dbit_at (l : List UInt8) (k j : Nat) (x : UInt8) (hx : l[k]? = some x) (hj : j < 8) : dbit l (8 * k + j) = (x.toBitVec.setWidth 32).getLsbD j := by
  unfold dbit
  rw [show (8 * k + j) / 8 = k by omega, show (8 * k + j) % 8 = j by omega, List.getD_eq_getElem?_getD, hx, Option.getD_some, BitVec.getLsbD_setWidth, BitVec.getLsbD, Nat.testBit_eq_decide_div_mod_eq]
  have : x.toBitVec.toNat = x.toNat := rfl
  rw [this]
  simp [show j < 32 by omega]
  rfl
theorem regAt_take (l : List UInt8) : ∀ k, k ≤ l.length → regAt l (8 * k) = crcReg 4294967295#32 (l.take k) := by
  intro k
  induction k with
  | zero => intro _; rfl
  | succ k ih =>
    intro hk
    have hx : l[k]? = some l[k] := by simp [show k < l.length by omega]
    rw [List.take_succ_eq_append_getElem (by omega), crcReg_snoc, ← ih (by omega), crcPush_bits]
    rw [← dbit_at l k 0 _ hx (by omega), ← dbit_at l k 1 _ hx (by omega), ← dbit_at l k 2 _ hx (by omega), ← dbit_at l k 3 _ hx (by omega), ← dbit_at l k 4 _ hx (by omega), ← dbit_at l k 5 _ hx (by omega), ← dbit_at l k 6 _ hx (by omega), ← dbit_at l k 7 _ hx (by omega)]
    rfl
theorem regAt_crc (l : List UInt8) : ~~~ regAt l (8 * l.length) = crc l := by
  rw [regAt_take l l.length (Nat.le_refl _), List.take_length]; rfl
/-- what stands in the place j when i places are done -/
def allAt (l : List UInt8) (i j : Nat) : Bool := dbit l j ^^ (regAt l i).getLsbD (j - i)
theorem allAt_zero (l : List UInt8) (j : Nat) : allAt l 0 j = (dbit l j != decide (j < 32)) := by
  unfold allAt regAt
  have : (4294967295#32).getLsbD (j - 0) = decide (j < 32) := by
    rw [show (4294967295#32) = BitVec.allOnes 32 by decide, BitVec.getLsbD_allOnes, Nat.sub_zero]
  rw [this]
def polyB (k : Nat) : Bool := (0xEDB88320#32).getLsbD k
theorem polyB_eq : ∀ k, k < 32 → (79764919 / 2 ^ (31 - k) % 2 == 1) = polyB k := by decide
theorem polyB_out (k : Nat) (h : 32 ≤ k) : polyB k = false := by unfold polyB; exact BitVec.getLsbD_of_ge _ _ h
theorem allAt_step (l : List UInt8) (i j : Nat) (h : i < j) : allAt l (i + 1) j = (allAt l i j ^^ (allAt l i i && polyB (j - (i + 1)))) := by
  unfold allAt
  rw [regAt, bitStep, BitVec.getLsbD_xor, BitVec.getLsbD_ushiftRight, show 1 + (j - (i + 1)) = j - i by omega, Nat.sub_self]
  unfold polyB
  cases hc : ((regAt l i).getLsbD 0) <;> cases hd : dbit l i <;> simp [hc, hd]
theorem dbit_out (l : List UInt8) (j : Nat) (h : 8 * l.length ≤ j) : dbit l j = false := by
  unfold dbit
  rw [List.getD_eq_getElem?_getD, List.getElem?_eq_none (by omega)]
  simp
theorem allAt_end (l : List UInt8) (k : Nat) (hk : k < 32) : (!(allAt l (8 * l.length) (8 * l.length + k))) = (crc l).getLsbD k := by
  rw [← regAt_crc, BitVec.getLsbD_not]
  unfold allAt
  rw [dbit_out l _ (by omega), show 8 * l.length + k - 8 * l.length = k by omega]
  simp [hk]
theorem crc_up (q : BitVec 32) (k : Nat) : q.toNat / 2 ^ k = 2 * (q.toNat / 2 ^ (k + 1)) + (if q.getLsbD k then 1 else 0) := by
  rw [Nat.pow_succ, ← Nat.div_div_eq_div_mul, BitVec.getLsbD, Nat.testBit_eq_decide_div_mod_eq]
  have := Nat.mod_two_eq_zero_or_one (q.toNat / 2 ^ k)
  rcases this with h | h
  · simp [h]; omega
  · simp [h]; omega
end Go.Proofs.YtemegkapmgcffaaGreat

namespace Go.Proofs.YtemegkapmgcffaaGreat
open Go.RowKit
set_option linter.unusedSimpArgs false
set_option linter.unusedVariables false

theorem uvVal_part (l : List UInt8) (m k : Nat) (x : UInt8) (hk : k ≤ m) (hx : l[k]? = some x) : uvVal ((l.take (m + 1)).drop k) = 128 * uvVal ((l.take (m + 1)).drop (k + 1)) + x.toNat % 128 := by
  have hlt := (List.getElem?_eq_some_iff.1 hx).1
  have hxe := (List.getElem?_eq_some_iff.1 hx).2
  have h1 : k < (l.take (m + 1)).length := by rw [List.length_take]; omega
  rw [List.drop_eq_getElem_cons h1, List.getElem_take, hxe, uvVal]
  omega

set_option maxRecDepth 100000 in
set_option maxHeartbeats 1000000 in
theorem refGetUint_any (A : Option Addr) (n c : Nat) (l : List UInt8) (at_ : Int) (w : World) (hs : Sl w 1 A n c (bytesV l)) (hl : n ≤ 140737488351232) :
    Calls Tryz.prog 88 #[.slice A n c, .int .i64 at_] w fun e w' => e = .returned (.tuple #[.int .u64 ((gu l at_).1 : Nat), .int .i64 ((gu l at_).2.1 : Nat), .int .i64 ((gu l at_).2.2 : Nat)]) ∧ w = w' := by
  have Hl := Lib.hid hs.blen
  by_cases h0 : at_ < 0
  · rw [gu_out l at_ (.inl h0)]
    go_enter Tryz.func88, Tryz.ntmps88
    go_wp2
    go_ret3
    exact ⟨rfl, rfl⟩
  · by_cases h1 : (n : Int) < at_
    · rw [gu_out l at_ (.inr (by rw [Hl.out]; exact h1))]
      go_enter Tryz.func88, Tryz.ntmps88
      go_wp2
      go_ret3
      exact ⟨rfl, rfl⟩
    · obtain ⟨a, rfl⟩ : ∃ k : Nat, at_ = (k : Int) := ⟨at_.toNat, by omega⟩
      obtain ⟨g, hge⟩ : ∃ g, g = gu l a := ⟨_, rfl⟩
      rw [← hge]
      have Hg := Lib.hid hge
      have han : a ≤ n := by omega
      have Hb := Lib.hid (fun k x => @Sl.byteAt w A n c l hs k x)
      clear hge
      go_enter Tryz.func88, Tryz.ntmps88
      go_upto_block 0 with fail
      go_cut [7] (fun s wx => ∃ m : Nat, m ≤ 10 ∧ a + m ≤ n ∧ s = .int .i64 (m : Int) ∧ Hid (∀ j, j < m → ∃ x, l[a + j]? = some x ∧ 127 < x.toNat) ∧ Hid (m = 10 ∨ a + m = n ∨ ∃ x, l[a + m]? = some x ∧ x.toNat ≤ 127) ∧ wx = w)
      case first =>
        go_wp2_with fail
        go_loopw [7] (fun s wx => ∃ m : Nat, m ≤ 10 ∧ a + m ≤ n ∧ s = .int .i64 (m : Int) ∧ Hid (∀ j, j < m → ∃ x, l[a + j]? = some x ∧ 127 < x.toNat) ∧ wx = w) (fun s _ => 10 - (intOf s).toNat)
        case atStart => exact ⟨0, by omega, by omega, rfl, Lib.hid (fun j h => by omega), rfl⟩
        case round =>
          obtain ⟨m, hm, ham, rfl, Hm, rfl⟩ := hrel
          have hw1 : IntKind.i64.wrap ((a : Int) + (m : Int)) = (a : Int) + (m : Int) := IntWalk.i64_in _ (by omega)
          by_cases c1 : a + m < n
          · by_cases c2 : m < 10
            · obtain ⟨x, hx⟩ := get_some l (a + m) (by rw [Hl.out]; exact c1)
              obtain ⟨ad, rfl, hc⟩ := Hb.out _ _ hx
              have hxl := x.toNat_lt
              have hnn : ((a : Int) + (m : Int)).toNat = a + m := by omega
              have hin : (0 : Int) ≤ (a : Int) + (m : Int) ∧ (a : Int) + (m : Int) < (n : Int) := by omega
              have Hx := Lib.hid hx
              clear hx
              by_cases c3 : 127 < x.toNat
              · go_wp2_with fail
                go_roundw
                case rel =>
                  refine ⟨m + 1, by omega, by omega, by go_num, Lib.hid (fun j hj => ?_), by first | trivial | rfl⟩
                  by_cases hjm : j = m
                  · subst hjm; exact ⟨x, Hx.out, c3⟩
                  · exact Hm.out j (by omega)
                case measure => simp [intOf]; omega
              · go_wp2_with fail
                go_meet
                exact ⟨m, hm, ham, rfl, Hm, Lib.hid (.inr (.inr ⟨x, Hx.out, by omega⟩)), rfl⟩
            · go_wp2_with fail
              go_meet
              exact ⟨m, hm, ham, rfl, Hm, Lib.hid (.inl (by omega)), rfl⟩
          · go_wp2_with fail
            go_meet
            exact ⟨m, hm, ham, rfl, Hm, Lib.hid (.inr (.inl (by omega))), rfl⟩
      case rest =>
        obtain ⟨m, hm, ham, rfl, Hm, Hend, rfl⟩ := hcut
        have hw1 : IntKind.i64.wrap ((a : Int) + (m : Int)) = (a : Int) + (m : Int) := IntWalk.i64_in _ (by omega)
        by_cases c1 : m = 10
        · subst c1
          have hg : g = (0, 0, 10) := by rw [Hg.out]; exact gu_ten l a (by rw [Hl.out]; exact han) Hm.out
          have Hg2 := Lib.hid hg
          clear hs Hg hg
          go_wp2_with fail
          go_ret3
          exact ⟨by rw [Hg2.out]; rfl, rfl⟩
        · have c1b : ((m : Int) == 10) = false := by simp; omega
          have c1c : m < 10 := by omega
          by_cases c2 : a + m = n
          · have c2b : ((a : Int) + (m : Int) == (n : Int)) = true := by simp; omega
            have hg : g = (0, 0, 11) := by rw [Hg.out]; exact gu_short l a m (by omega) Hm.out (by rw [Hl.out]; omega)
            have Hg2 := Lib.hid hg
            clear hs Hg c2 hg
            go_wp2_with fail
            go_ret3
            exact ⟨by rw [Hg2.out]; rfl, rfl⟩
          · have c2b : ((a : Int) + (m : Int) == (n : Int)) = false := by simp; omega
            obtain ⟨x, hx, hx2⟩ := (Hend.out.resolve_left c1).resolve_left c2
            obtain ⟨ad, rfl, hc⟩ := Hb.out _ _ hx
            obtain ⟨p, hp⟩ : ∃ p, p = a + m := ⟨_, rfl⟩
            rw [← hp] at hc
            have Hp := Lib.hid hp
            have hnn : ((a : Int) + (m : Int)).toNat = p := by omega
            have hin : (0 : Int) ≤ (a : Int) + (m : Int) ∧ (a : Int) + (m : Int) < (n : Int) := by omega
            have Hx := Lib.hid hx
            clear hx hp
            by_cases c4 : (m = 9 ∧ 1 < x.toNat) ∨ (0 < m ∧ x.toNat = 0)
            · have hg : g = (0, 0, 10) := by rw [Hg.out]; exact gu_bad l a m x (by rw [Hl.out]; exact han) (by omega) Hm.out Hx.out c4
              have Hg2 := Lib.hid hg
              clear hs Hg hg Hend
              by_cases c9 : m = 9
              · subst c9
                have hw9 : IntKind.i64.wrap ((a : Int) + 9) = (a : Int) + 9 := IntWalk.i64_in _ (by omega)
                have hn9 : ((a : Int) + 9).toNat = p := by have := Hp.out; omega
                have hi9 : (0 : Int) ≤ (a : Int) + 9 ∧ (a : Int) + 9 < (n : Int) := by omega
                clear hw1 hnn hin
                by_cases c5 : 1 < x.toNat
                · go_wp2_with fail
                  go_ret3
                  exact ⟨by rw [Hg2.out]; rfl, rfl⟩
                · have c6 : ((x.toNat : Int) == 0) = true := by simp; omega
                  go_wp2_with fail
                  go_ret3
                  exact ⟨by rw [Hg2.out]; rfl, rfl⟩
              · have c9b : ((m : Int) == 9) = false := by simp; omega
                have c6 : ((x.toNat : Int) == 0) = true := by simp; omega
                have c7 : 0 < m := by omega
                clear c4 c9
                go_wp2_with fail
                go_ret3
                exact ⟨by rw [Hg2.out]; rfl, rfl⟩
            · have hg : g = (uvVal ((l.drop a).take (m + 1)), a + m + 1, 0) := by rw [Hg.out]; exact gu_good l a m x (by rw [Hl.out]; exact han) (by omega) Hm.out Hx.out hx2 c4
              have hV : uvVal ((l.drop a).take (m + 1)) < 18446744073709551616 := by have := gu_lt l a; rw [← Hg.out, hg] at this; exact this
              obtain ⟨V, hVd⟩ : ∃ V : Nat → Nat, V = fun k => uvVal (((l.drop a).take (m + 1)).drop k) := ⟨_, rfl⟩
              have hg2 : g = (V 0, a + m + 1, 0) := by rw [hg, hVd]; simp only [List.drop_zero]
              have hVs : ∀ k, k ≤ m → ∃ y : UInt8, l[a + k]? = some y ∧ V k = 128 * V (k + 1) + y.toNat % 128 := by
                intro k hk
                obtain ⟨y, hy⟩ := get_some l (a + k) (by rw [Hl.out]; omega)
                refine ⟨y, hy, ?_⟩
                rw [hVd]
                exact uvVal_part (l.drop a) m k y hk (by rw [List.getElem?_drop]; exact hy)
              have hVe : V (m + 1) = 0 := by rw [hVd]; simp only; rw [List.drop_eq_nil_of_le (by rw [List.length_take]; omega)]; rfl
              have hVl : ∀ k, V k < 18446744073709551616 := by intro k; rw [hVd]; exact Nat.lt_of_le_of_lt (uvVal_drop _ _) hV
              have Hg2 := Lib.hid hg2
              have HVs := Lib.hid hVs
              have HVe := Lib.hid hVe
              have HVl := Lib.hid hVl
              have hm9 : m ≤ 9 := by omega
              clear hg hg2 hVs hVe hVl hV hVd Hg Hend Hm
              have tri : (((m : Int) == 9) = true ∧ ((a : Int) + 9).toNat = p ∧ (0 : Int) ≤ (a : Int) + 9 ∧ (a : Int) + 9 < (n : Int) ∧ x.toNat ≤ 1 ∧ ((x.toNat : Int) == 0) = false ∧ 0 < m) ∨ (((m : Int) == 9) = false ∧ ((x.toNat : Int) == 0) = false ∧ 0 < m) ∨ (((m : Int) == 9) = false ∧ m ≤ 0) := by
                have h2 := Hp.out
                by_cases c9 : m = 9
                · left
                  refine ⟨by simp; omega, by omega, by omega, by omega, by omega, by simp; omega, by omega⟩
                · right
                  by_cases c0 : m = 0
                  · right; exact ⟨by simp; omega, by omega⟩
                  · left; exact ⟨by simp; omega, by simp; omega, by omega⟩
              clear c4
              rcases tri with ⟨t1, t2, t3, t4, t5, t6, t7⟩ | ⟨t1, t2, t3⟩ | ⟨t1, t2⟩
              all_goals go_wp2_with fail
              all_goals (
                go_loopw [8, 9] (fun v iv wx => ∃ (k : Nat) (j : Int), k ≤ m + 1 ∧ j + 1 = (k : Int) ∧ iv = .int .i64 j ∧ v = .int .u64 ((V k : Nat) : Int) ∧ wx = wc) (fun _ iv _ => (intOf iv + 1).toNat)
                (case atStart => exact ⟨m + 1, (m : Int), by omega, by omega, rfl, by rw [HVe.out]; rfl, rfl⟩)
                (case round =>
                  obtain ⟨k, j, hk, hj, rfl, rfl, rfl⟩ := hrel
                  by_cases hk0 : k = 0
                  · subst hk0
                    obtain rfl : j = -1 := by omega
                    go_wp2_with fail
                    go_ret3
                    exact ⟨by rw [Hg2.out]; rfl, rfl⟩
                  · obtain ⟨i, rfl⟩ : ∃ i, k = i + 1 := ⟨k - 1, by omega⟩
                    obtain rfl : j = (i : Int) := by omega
                    obtain ⟨y, hy, hVy⟩ := HVs.out i (by omega)
                    obtain ⟨ad', had', hcy⟩ := Hb.out _ _ hy
                    cases had'
                    obtain ⟨v1, hv1⟩ : ∃ v, v = V (i + 1) := ⟨_, rfl⟩
                    obtain ⟨d, hd⟩ : ∃ d, d = y.toNat % 128 := ⟨_, rfl⟩
                    have hyl := y.toNat_lt
                    have hdl : d < 128 := by omega
                    have hym : (y.toNat : Int).tmod 128 = (d : Int) := by rw [hd, Int.tmod_eq_emod_of_nonneg (by omega)]; simp
                    rw [← hv1, ← hd] at hVy
                    rw [← hv1]
                    have hlt := HVl.out i
                    rw [hVy] at hlt
                    have hnn2 : ((a : Int) + (i : Int)).toNat = a + i := by omega
                    have hin2 : (0 : Int) ≤ (a : Int) + (i : Int) ∧ (a : Int) + (i : Int) < (n : Int) := by omega
                    have HVy := Lib.hid hVy
                    clear hy hd hVy hv1 hj
                    go_wp2_with fail
                    go_roundw
                    (case rel => exact ⟨i, (i : Int) - 1, by omega, by omega, by go_num, by rw [HVy.out]; first | rfl | go_num, by first | trivial | rfl⟩)
                    (case measure => simp [intOf])))
end Go.Proofs.YtemegkapmgcffaaGreat

namespace Go.Proofs.YtemegkapmgcffaaGreat
open Go.RowKit
set_option linter.unusedSimpArgs false
set_option linter.unusedVariables false

set_option maxRecDepth 100000 in
set_option maxHeartbeats 1000000 in
theorem refGetBlob_any (A : Option Addr) (n c : Nat) (l : List UInt8) (at_ most : Int) (w : World) (hs : Sl w 1 A n c (bytesV l)) (hl : n ≤ 1000000) (hm : -9223372036854775808 ≤ most) (hm2 : most ≤ 9223372036854775807) :
    Calls Tryz.prog 90 #[.slice A n c, .int .i64 at_, .int .i64 most] w fun e w' => ∃ A' n' c', e = .returned (.tuple #[.slice A' n' c', .int .i64 ((gb l at_ most).2.1 : Nat), .int .i64 ((gb l at_ most).2.2 : Nat)]) ∧
      Sl w' 1 A' n' c' (bytesV (gb l at_ most).1) ∧ Below w.heap.size w w' := by
  obtain ⟨g, hg⟩ : ∃ g, g = gu l at_ := ⟨_, rfl⟩
  have hlt : g.1 < 18446744073709551616 := by rw [hg]; exact gu_lt l at_
  have hnx : g.2.1 ≤ n := by rw [hg, ← hs.blen]; exact gu_next l at_
  obtain ⟨q, hq⟩ : ∃ q, q = gb l at_ most := ⟨_, rfl⟩
  have hq' := hq
  unfold gb at hq'
  rw [← hg, hs.blen] at hq'
  rw [← hq]
  obtain ⟨g1, g2, g3⟩ := g
  have Hg := Lib.hid hg
  clear hg hq
  simp only at hlt hnx hq'
  by_cases h1 : g3 ≠ 0
  · rw [if_pos h1] at hq'
    subst hq'
    have h1' : 0 < g3 := by omega
    clear h1
    go_enter Tryz.func90, Tryz.ntmps90
    go_wp2_with (go_at_call 88; refine (refGetUint_any _ _ _ l _ _ hs (by omega)).mono ?_; rintro e w' ⟨rfl, rfl⟩; rw [← Hg.out])
    go_ret3
    exact ⟨none, 0, 0, rfl, Sl.nil _ _, Below.refl _ _⟩
  · rw [if_neg h1] at hq'
    have hg3 : g3 = 0 := by omega
    subst hg3
    clear h1
    by_cases h2 : most < 0
    · rw [if_pos (.inl h2)] at hq'
      subst hq'
      go_enter Tryz.func90, Tryz.ntmps90
      go_wp2_with (go_at_call 88; refine (refGetUint_any _ _ _ l _ _ hs (by omega)).mono ?_; rintro e w' ⟨rfl, rfl⟩; rw [← Hg.out])
      go_ret3
      exact ⟨none, 0, 0, rfl, Sl.nil _ _, Below.refl _ _⟩
    · obtain ⟨K, rfl⟩ := Int.eq_ofNat_of_zero_le (show 0 ≤ most by omega)
      by_cases h3 : K < g1
      · rw [if_pos (.inr (by omega))] at hq'
        subst hq'
        go_enter Tryz.func90, Tryz.ntmps90
        go_wp2_with (go_at_call 88; refine (refGetUint_any _ _ _ l _ _ hs (by omega)).mono ?_; rintro e w' ⟨rfl, rfl⟩; rw [← Hg.out])
        go_ret3
        exact ⟨none, 0, 0, rfl, Sl.nil _ _, Below.refl _ _⟩
      · rw [if_neg (by omega)] at hq'
        have Hq := Lib.hid hq'
        clear hq' h2
        go_enter Tryz.func90, Tryz.ntmps90
        go_wp2_with (go_at_call 88; refine (refGetUint_any _ _ _ l _ _ hs (by omega)).mono ?_; rintro e w' ⟨rfl, rfl⟩; rw [← Hg.out])
        go_loopw [12] (fun iv wx => ∃ i : Nat, i ≤ g1 ∧ g2 + i ≤ n ∧ iv = .int .u64 (i : Int) ∧ wx = w) (fun iv _ => n - (intOf iv).toNat)
        case atStart => exact ⟨0, by omega, by omega, rfl, rfl⟩
        case round =>
          obtain ⟨i, hi, hin, rfl, rfl⟩ := hrel
          by_cases c1 : i < g1
          · have hw1 : IntKind.i64.wrap ((g2 : Int) + (i : Int)) = (g2 : Int) + (i : Int) := IntWalk.i64_in _ (by omega)
            by_cases c2 : g2 + i < n
            · go_wp2_with fail
              go_roundw
              case rel => exact ⟨i + 1, by omega, by omega, by go_num, by first | trivial | rfl⟩
              case measure => simp [intOf]; omega
            · have hqe : q = ([], 0, 11) := by rw [Hq.out, if_pos (by omega)]
              have Hq2 := Lib.hid hqe
              clear hqe Hq
              go_wp2_with fail
              go_ret3
              refine ⟨none, 0, 0, ?_, ?_, Below.refl _ _⟩
              · rw [Hq2.out]; rfl
              · rw [Hq2.out]; exact Sl.nil _ _
          · obtain rfl : i = g1 := by omega
            have hqe : q = ((l.drop g2).take i, g2 + i, 0) := by rw [Hq.out, if_neg (by omega)]
            have Hq2 := Lib.hid hqe
            have hw1 : IntKind.i64.wrap ((g2 : Int) + (i : Int)) = (g2 : Int) + (i : Int) := IntWalk.i64_in _ (by omega)
            obtain ⟨A', hcut, _, hdr⟩ := cutb_mid .i64 .i64 A n c g2 (g2 + i) (g2 : Int) ((g2 : Int) + (i : Int)) rfl (by simp) (by omega) hin hs.le
            have hsd := hdr _ _ hs
            rw [show g2 + i - g2 = i by omega] at hcut hsd
            have hli : i ≤ 1000000 := by omega
            have hsn := Sl.nil wr 1
            rw [show ([] : List Value) = bytesV [] from rfl] at hsn
            clear hdr hqe Hq
            go_wp2_with (go_at_call 99; refine (both_any _ _ _ _ _ _ [] ((l.take (g2 + i)).drop g2) _ hsn hsd (by omega) (by omega)).mono ?_; rintro e w7 ⟨rfl, hown, hb⟩)
            go_ret3
            refine ⟨some ⟨wr.heap.size, 0, none⟩, i, i, ?_, ?_, hb⟩
            · rw [Hq2.out]; simp
            · rw [Hq2.out]
              have h5 := ownsRow_sl hown
              rw [List.nil_append] at h5
              simp only [Nat.zero_add] at h5
              have h6 : (l.take (g2 + i)).drop g2 = (l.drop g2).take i := by rw [List.drop_take, show g2 + i - g2 = i by omega]
              rw [h6] at h5
              exact h5
end Go.Proofs.YtemegkapmgcffaaGreat

namespace Go.Proofs.YtemegkapmgcffaaGreat
open Go.RowKit
set_option linter.unusedSimpArgs false
set_option linter.unusedVariables false

/-- places 0 .. N-1 of yes and no -/
def boolsV (f : Nat → Bool) (N : Nat) : List Value := (List.range N).map fun j => .bool (f j)
theorem boolsV_set (f : Nat → Bool) (N k : Nat) (b : Bool) : (boolsV f N).set k (.bool b) = boolsV (fun j => if j = k then b else f j) N := by
  unfold boolsV
  rw [map_range_set]
  apply List.map_congr_left
  intro j _
  by_cases h : j = k <;> simp [h]
theorem boolsV_at (f : Nat → Bool) (N k : Nat) (h : k < N) : (boolsV f N)[k]? = some (.bool (f k)) := by unfold boolsV; simp [h]

theorem bits_new (w : World) : (w.alloc (.cells Tryz.zeroCells123 123)).ownsRow w.heap.size 123 1 (.slice (some ⟨w.heap.size, 0, none⟩) 70 70) 70 (boolsV (fun _ => false) 70) := by
  refine ⟨by simp [boolsV], .inr ⟨w.heap.size, 70, Tryz.zeroCells123, rfl, Nat.le_refl _, heap_alloc_new w _, by omega, by unfold maxLen; omega, by kernel_rfl, by kernel_rfl⟩⟩

set_option maxRecDepth 100000 in
set_option maxHeartbeats 1000000 in
theorem refVarint_any (n : Nat) (w : World) (hn : n < 18446744073709551616) :
    Calls Tryz.prog 77 #[.int .u64 (n : Int)] w fun e w' => ∃ A m c, e = .returned (.slice A m c) ∧
      App w.heap.size 5 1 w' A m c (bytesV (uv n)) ∧ Below w.heap.size w w' := by
  obtain ⟨i0, hi, hz0, hz1, hz2⟩ := info_parts infoByte
  have hnew := bits_new w
  have hbn := below_alloc1 w (.cells Tryz.zeroCells123 123)
  have Hn := Lib.hid hn
  clear hn
  go_enter Tryz.func77, Tryz.ntmps77
  go_upto_block 0 with fail
  generalize w.alloc (.cells Tryz.zeroCells123 123) = w0 at *
  go_cut [4] (fun s wx => s = .int .i64 ((hb n 64 : Nat) : Int) ∧ wx.ownsRow w.heap.size 123 1 (.slice (some ⟨w.heap.size, 0, none⟩) 70 70) 70 (boolsV (fun j => decide (j < 64) && (n / 2 ^ j % 2 == 1)) 70) ∧ Below w.heap.size w wx)
  case first =>
    go_wp2_with fail
    go_loopw [0, 4, 5] (fun nv hv iv wx => ∃ i h d : Nat, i ≤ 64 ∧ iv = .int .i64 (i : Int) ∧ hv = .int .i64 (h : Int) ∧ nv = .int .u64 (d : Int) ∧ Hid (h = hb n i) ∧ Hid (d = n / 2 ^ i) ∧ wx.ownsRow w.heap.size 123 1 (.slice (some ⟨w.heap.size, 0, none⟩) 70 70) 70 (boolsV (fun j => decide (j < i) && (n / 2 ^ j % 2 == 1)) 70) ∧ Below w.heap.size w wx) (fun _ _ iv _ => 64 - (intOf iv).toNat)
    case atStart => exact ⟨0, 0, n, by omega, rfl, rfl, rfl, Lib.hid rfl, Lib.hid (by simp), by simpa using hnew, hbn⟩
    case round =>
      obtain ⟨i, h, d, hi64, rfl, rfl, rfl, Hh, Hd, hown, hbx⟩ := hrel
      by_cases hlt : i < 64
      · have hcell := hown.cellAt i (by omega)
        have hfro := hown.frozenAt i
        have hin : (0 : Int) ≤ (i : Int) ∧ (i : Int) < 70 := by omega
        obtain ⟨z, hz⟩ : ∃ z, z = (n / 2 ^ i % 2 == 1) := ⟨_, rfl⟩
        have hzd : ((d : Int).tmod 2 == 1) = z := by
          rw [hz, Int.tmod_eq_emod_of_nonneg (by omega), ← Hd.out, Bool.eq_iff_iff, beq_iff_eq, beq_iff_eq]; omega
        have hzd2 : ((d : Int) % 2 == 1) = z := by
          rw [hz, ← Hd.out, Bool.eq_iff_iff, beq_iff_eq, beq_iff_eq]; omega
        have hdl : d < 18446744073709551616 := by rw [Hd.out]; exact Nat.lt_of_le_of_lt (Nat.div_le_self _ _) Hn.out
        have hst := World.ownsRow.stored (w := wr) (h := hown) i (.bool z)
        have hst1 := hst.1
        rw [boolsV_set] at hst1
        have hfun : (fun j => if j = i then z else decide (j < i) && (n / 2 ^ j % 2 == 1)) = (fun j => decide (j < i + 1) && (n / 2 ^ j % 2 == 1)) := by
          funext j
          by_cases hj : j = i
          · subst hj; rw [if_pos rfl, hz]; simp
          · rw [if_neg hj, show decide (j < i) = decide (j < i + 1) by rw [Bool.eq_iff_iff, decide_eq_true_iff, decide_eq_true_iff]; omega]
        rw [hfun] at hst1
        have hld := hst1.cellAt i (by omega)
        rw [boolsV_at _ _ _ (by omega)] at hld
        have hbz : Below w.heap.size w (wr.setCell ⟨w.heap.size, i, none⟩ (.bool z)) := hbx.setCell (Nat.le_refl _) _
        have hzi : (decide (i < i + 1) && (n / 2 ^ i % 2 == 1)) = z := by rw [hz]; simp
        rw [hzi] at hld
        have Hz := Lib.hid hz
        clear hz hst hfun hzi hown hbx hnew hbn
        rw [boolsV_at _ _ _ (by omega)] at hcell
        simp only [Nat.lt_irrefl, decide_false, Bool.false_and] at hcell
        cases z with
        | true =>
          have hh : Hid (i = hb n (i + 1)) := Lib.hid (by have := Hz.out; unfold hb; rw [if_pos (by simpa using this.symm)])
          go_wp2_with fail
          go_roundw
          case rel => exact ⟨i + 1, i, d / 2, by omega, by go_num, rfl, by first | rfl | go_num, hh, Lib.hid (by rw [Hd.out, Nat.pow_succ, Nat.div_div_eq_div_mul]), hst1, hbz⟩
          case measure => simp [intOf]; omega
        | false =>
          have hh : Hid (h = hb n (i + 1)) := Lib.hid (by have := Hz.out; unfold hb; rw [if_neg (by simpa using this.symm)]; exact Hh.out)
          go_wp2_with fail
          go_roundw
          case rel => exact ⟨i + 1, h, d / 2, by omega, by go_num, rfl, by first | rfl | go_num, hh, Lib.hid (by rw [Hd.out, Nat.pow_succ, Nat.div_div_eq_div_mul]), hst1, hbz⟩
          case measure => simp [intOf]; omega
      · obtain rfl : i = 64 := by omega
        go_wp2_with fail
        go_meet
        exact ⟨by rw [Hh.out], hown, hbx⟩
  case rest =>
    obtain ⟨rfl, hown, hbx⟩ := hcut
    obtain ⟨h, hh⟩ : ∃ h, h = hb n 64 := ⟨_, rfl⟩
    have hh64 : h < 64 := by rw [hh]; exact hb_lt n 64 (by omega)
    obtain ⟨sv1, sv2⟩ := sevens n Hn.out
    rw [← hh] at sv1 sv2 ⊢
    obtain ⟨s, hs⟩ : ∃ s, s = h / 7 := ⟨_, rfl⟩
    rw [← hs] at sv1 sv2
    have hs10 : s ≤ 9 := by omega
    have hq7 : (h : Int).tdiv 7 = (s : Int) := by rw [hs, Int.tdiv_eq_ediv_of_nonneg (by omega)]; omega
    have Hsv1 := Lib.hid sv1
    have Hsv2 := Lib.hid sv2
    have Hs := Lib.hid hs
    generalize wc = w1 at *
    have hbA := hbx
    have hbz := hbx.size
    have hbl : w.heap.size < w1.heap.size := (hown.lt w.heap.size rfl).2
    have hbit : ∀ j, j < 70 → w1.cell? ⟨w.heap.size, j, none⟩ = some (.bool (decide (j < 64) && (n / 2 ^ j % 2 == 1))) := fun j hj => by rw [hown.cellAt j (by omega), boolsV_at _ _ _ hj]
    have Hbit := Lib.hid hbit
    clear sv1 sv2 hh hs hnew hbn hbit hown
    go_upto_block 2 with (at_make; refine wpList_make_full _ rfl _ _ 34 rfl w1.heap.size 5 i0 (.int .u8 0) 1 Tryz.underlying34 hi hz0 hz1 _ _ _ _ (s + 1) rfl rfl (by omega) (by omega) (by rw [hz2]; omega) (by unfold maxLen; omega) (Nat.le_refl _) ?_; intro w2 hown2 hgrow2; have hb2 := grownBy_below hgrow2)
    have e0 : (madeCells (Value.int .u8 0).cells ((s + 1) * 1)).toList = bytesV (digs n 0 (s + 1)) := by
      rw [digs_zero, show (Value.int .u8 0).cells = #[.int .u8 0] from rfl, toList_madeCells_one, Nat.mul_one]
      unfold bytesV byteV
      simp
    rw [e0] at hown2
    clear hgrow2 e0 hq7 hh64 hi hz0 hz1 hz2
    go_cut [] (fun wx => wx.ownsRow w1.heap.size 5 1 (.slice (some ⟨w1.heap.size, 0, none⟩) (s + 1) (s + 1)) (s + 1) (bytesV (digs n (7 * (s + 1)) (s + 1))) ∧ Below w1.heap.size w1 wx)
    case first =>
      go_wp2_with fail
      go_loopw [8] (fun iv wx => ∃ i : Nat, i ≤ 7 * (s + 1) ∧ iv = .int .i64 (i : Int) ∧ wx.ownsRow w1.heap.size 5 1 (.slice (some ⟨w1.heap.size, 0, none⟩) (s + 1) (s + 1)) (s + 1) (bytesV (digs n i (s + 1))) ∧ Below w1.heap.size w1 wx) (fun iv _ => 7 * (s + 1) - (intOf iv).toNat)
      case atStart => exact ⟨0, by omega, rfl, hown2, hb2⟩
      case round =>
        obtain ⟨i, hi7, rfl, hown, hbx⟩ := hrel
        by_cases hlt : i < 7 * (s + 1)
        · have hin : (0 : Int) ≤ (i : Int) ∧ (i : Int) < 70 := by omega
          obtain ⟨z, hz⟩ : ∃ z, z = (decide (i < 64) && (n / 2 ^ i % 2 == 1)) := ⟨_, rfl⟩
          have hcb : wr.cell? ⟨w.heap.size, i, none⟩ = some (.bool z) := by
            rw [World.cell?_of_block (w := w1) (hbx.block _ hbl), Hbit.out i (by omega), hz]
          have Hz := Lib.hid hz
          clear hz hown2 hb2
          cases z with
          | false =>
            have hsk : digs n (i + 1) (s + 1) = digs n i (s + 1) := by
              apply digs_skip
              have h1 := Hz.out
              by_cases h64 : i < 64
              · simp [h64] at h1; omega
              · have h2 : n / 2 ^ i = 0 := Nat.div_eq_of_lt (Nat.lt_of_lt_of_le Hn.out (by
                  have := Nat.pow_le_pow_right (n := 2) (by omega) (show 64 ≤ i by omega)
                  have e : (2 : Nat) ^ 64 = 18446744073709551616 := by decide
                  omega))
                rw [h2]
            rw [← hsk] at hown
            clear hsk
            go_wp2_with fail
            go_roundw
            case rel => exact ⟨i + 1, by omega, by go_num, hown, hbx⟩
            case measure => simp [intOf]; omega
          | true =>
            obtain ⟨j, hj⟩ : ∃ j, j = i / 7 := ⟨_, rfl⟩
            obtain ⟨t, ht⟩ : ∃ t, t = i % 7 := ⟨_, rfl⟩
            obtain ⟨d, hd⟩ : ∃ d, d = dig n i j := ⟨_, rfl⟩
            have hdt : d < 2 ^ t := by rw [hd, hj, ht]; exact dig_small n i
            have ht6 : t ≤ 6 := by omega
            have hjs : j < s + 1 := by omega
            have hp : 2 ^ t ≤ 64 := by
              have := Nat.pow_le_pow_right (n := 2) (by omega) ht6
              simpa using this
            obtain ⟨p, hpp⟩ : ∃ p, p = 2 ^ t := ⟨_, rfl⟩
            rw [← hpp] at hdt hp
            have hcell := hown.cellAt j (by omega)
            have hfro := hown.frozenAt j
            have hdn : dig n (i + 1) j = d + p := by
              have h1 := Hz.out
              rw [hj, dig_step, hd, hj, hpp, ht]
              have : n / 2 ^ i % 2 = 1 := by simp at h1; omega
              rw [this, Nat.mul_one]
            have hx : (bytesV (digs n i (s + 1)))[j]? = some (.int .u8 (d : Int)) := by
              simp only [bytesV, List.getElem?_map, digs_at n i (s + 1) j hjs, Option.map_some, byteV, ← hd]
              rw [UInt8.toNat_ofNat', Nat.mod_eq_of_lt (by omega)]
            rw [hx] at hcell
            obtain ⟨v, hv⟩ : ∃ v, v = d + p := ⟨_, rfl⟩
            have hw8 : IntKind.u8.wrap ((2 : Int) ^ t) = (p : Int) := by
              rw [show ((2 : Int) ^ t) = ((p : Nat) : Int) by rw [hpp]; simp, IntKind.wrap_u8]; omega
            have hw9 : IntKind.u8.wrap ((d : Int) + (p : Int)) = (v : Int) := by rw [IntKind.wrap_u8]; omega
            have hst := (World.ownsRow.stored (w := wr.drew) (h := hown) j (.int .u8 (v : Int))).1
            have hset : (bytesV (digs n i (s + 1))).set j (.int .u8 (v : Int)) = bytesV (digs n (i + 1) (s + 1)) := by
              rw [← digs_set, ← hj, hdn, ← hv, bytesV, bytesV, List.map_set]
              congr 1
              unfold byteV
              rw [UInt8.toNat_ofNat', Nat.mod_eq_of_lt (by omega)]
            rw [hset] at hst
            have hq : (i : Int).tdiv 7 = (j : Int) := by rw [hj, Int.tdiv_eq_ediv_of_nonneg (by omega)]; omega
            have hm : (i : Int).tmod 7 = (t : Int) := by rw [ht, Int.tmod_eq_emod_of_nonneg (by omega)]; omega
            have hwj : IntKind.i64.wrap (j : Int) = (j : Int) := IntWalk.i64_in _ (by omega)
            have hwt : IntKind.i64.wrap (t : Int) = (t : Int) := IntWalk.i64_in _ (by omega)
            have hin2 : (0 : Int) ≤ (j : Int) ∧ (j : Int) < (s : Int) + 1 := by omega
            have Hpp := Lib.hid hpp
            clear hpp hj ht hd hx hset hdn
            go_wp2_with fail
            go_still_tail 13, (by kernel_rfl)
            change wpList _ _ _ _ _ wr.drew
            have hcell2 : wr.drew.cell? ⟨w1.heap.size, j, none⟩ = some (.int .u8 (d : Int)) := hcell
            have hfro2 : wr.drew.frozen? ⟨w1.heap.size, j, none⟩ = false := hfro
            have hbd : Below w1.heap.size w1 (wr.drew.setCell ⟨w1.heap.size, j, none⟩ (.int .u8 (v : Int))) := hbx.drew.setCell (Nat.le_refl _) _
            clear hcell hfro hown hbx hcb
            have Hv := Lib.hid hv
            clear hv
            generalize wr.drew = w3 at *
            go_wp2_with fail
            have hvi : (v : Int) = (d : Int) + (p : Int) := by have := Hv.out; omega
            rw [hvi] at hst hbd
            go_roundw
            case rel => exact ⟨i + 1, by omega, by go_num, hst, hbd⟩
            case measure => simp [intOf]; omega
        · obtain rfl : i = 7 * (s + 1) := by omega
          go_wp2_with fail
          go_meet
          exact ⟨hown, hbx⟩
    case rest =>
      obtain ⟨hown, hbx⟩ := hcut
      rw [digs_full] at hown
      go_upto_block 4 with fail
      go_cut [] (fun wx => wx.ownsRow w1.heap.size 5 1 (.slice (some ⟨w1.heap.size, 0, none⟩) (s + 1) (s + 1)) (s + 1) (bytesV (uv n)) ∧ Below w1.heap.size w1 wx)
      case first =>
        go_wp2_with fail
        go_loopw [9] (fun iv wx => ∃ k : Nat, k ≤ s ∧ iv = .int .i64 (k : Int) ∧ wx.ownsRow w1.heap.size 5 1 (.slice (some ⟨w1.heap.size, 0, none⟩) (s + 1) (s + 1)) (s + 1) (bytesV (marks n k (s + 1))) ∧ Below w1.heap.size w1 wx) (fun iv _ => s - (intOf iv).toNat)
        case atStart => exact ⟨0, by omega, rfl, hown, hbx⟩
        case round =>
          obtain ⟨k, hk, rfl, hown, hbx⟩ := hrel
          by_cases hlt : k < s
          · obtain ⟨d, hd⟩ : ∃ d, d = n / 128 ^ k % 128 := ⟨_, rfl⟩
            have hdl : d < 128 := by omega
            have hcell := hown.cellAt k (by omega)
            have hfro := hown.frozenAt k
            have hx : (bytesV (marks n k (s + 1)))[k]? = some (.int .u8 (d : Int)) := by
              simp only [bytesV, List.getElem?_map, marks_at n k (s + 1) k (by omega), Option.map_some, byteV, ← hd]
              rw [if_neg (by omega), UInt8.toNat_ofNat', Nat.mod_eq_of_lt (by omega), Nat.add_zero]
            rw [hx] at hcell
            obtain ⟨v, hv⟩ : ∃ v, v = d + 128 := ⟨_, rfl⟩
            have hst := (World.ownsRow.stored (w := wr) (h := hown) k (.int .u8 (v : Int))).1
            have hset : (bytesV (marks n k (s + 1))).set k (.int .u8 (v : Int)) = bytesV (marks n (k + 1) (s + 1)) := by
              rw [← marks_set n k (s + 1) (by omega), ← hd, ← hv, bytesV, bytesV, List.map_set]
              congr 1
              unfold byteV
              rw [UInt8.toNat_ofNat', Nat.mod_eq_of_lt (by omega)]
            rw [hset] at hst
            have hbd : Below w1.heap.size w1 (wr.setCell ⟨w1.heap.size, k, none⟩ (.int .u8 (v : Int))) := hbx.setCell (Nat.le_refl _) _
            have hin2 : (0 : Int) ≤ (k : Int) ∧ (k : Int) < (s : Int) + 1 := by omega
            have Hv := Lib.hid hv
            clear hv hset hx hd hown hbx
            go_wp2_with fail
            have hvi : (v : Int) = (d : Int) + 128 := by have := Hv.out; omega
            rw [hvi] at hst hbd
            go_roundw
            case rel => exact ⟨k + 1, by omega, by go_num, hst, hbd⟩
            case measure => simp [intOf]; omega
          · obtain rfl : k = s := by omega
            go_wp2_with fail
            go_meet
            rw [uv_marks (k + 1) n k (Nat.le_refl _) (by omega) Hsv1.out Hsv2.out] at hown
            exact ⟨hown, hbx⟩
      case rest =>
        obtain ⟨hown, hbx2⟩ := hcut
        go_wp2_with fail
        go_ret
        exact ⟨_, _, _, rfl, App.lower (.inl hown) hbz, hbA.trans (hbx2.mono hbz)⟩
end Go.Proofs.YtemegkapmgcffaaGreat

namespace Go.Proofs.YtemegkapmgcffaaGreat
open Go.RowKit
set_option linter.unusedSimpArgs false
set_option linter.unusedVariables false

set_option maxHeartbeats 400000 in
theorem refUint_any (A : Option Addr) (n c : Nat) (l : List UInt8) (k : Nat) (K : Int) (w : World) (hs : Sl w 1 A n c (bytesV l)) (hn : n ≤ 1000000) (hk : k < 18446744073709551616) (hK : K = (k : Int)) :
    Calls Tryz.prog 78 #[.slice A n c, .int .u64 K] w fun e w' => ∃ A' m c', e = .returned (.slice A' m c') ∧ Sl w' 1 A' m c' (bytesV (l ++ uv k)) ∧ Below w.heap.size w w' := by
  subst hK
  have hu := uv_len_ten k hk
  go_enter Tryz.func78, Tryz.ntmps78
  go_wp2_with fail
  refine (refVarint_any k _ hk).mono ?_; rintro e w1 ⟨A1, m1, c1, rfl, happ, hb1⟩
  have hs1 := hs.below hb1
  have hs2 := happ.sl
  have hm1 : m1 ≤ 10 := by have := hs2.blen; omega
  clear happ
  go_wp2_with fail
  refine (both_any _ _ _ _ _ _ l (uv k) _ hs1 hs2 (by omega) (by omega)).mono ?_; rintro e w2 ⟨rfl, hown, hb2⟩
  go_wp2_with fail
  go_ret
  exact ⟨_, _, _, rfl, ownsRow_sl hown, hb1.trans (hb2.mono hb1.size)⟩

set_option maxHeartbeats 400000 in
theorem refBlob_any (A B : Option Addr) (n c m d : Nat) (l b : List UInt8) (w : World) (hs : Sl w 1 A n c (bytesV l)) (ht : Sl w 1 B m d (bytesV b)) (hn : n ≤ 1000000) (hm : m ≤ 1000000) :
    Calls Tryz.prog 80 #[.slice A n c, .slice B m d] w fun e w' => ∃ A' m' c', e = .returned (.slice A' m' c') ∧ Sl w' 1 A' m' c' (bytesV (l ++ (uv b.length ++ b))) ∧ Below w.heap.size w w' := by
  have hu := uv_len_ten m (by omega)
  have Hb := Lib.hid ht.blen
  have Hl := Lib.hid hs.blen
  go_enter Tryz.func80, Tryz.ntmps80
  go_wp2_with fail
  refine (refUint_any _ _ _ l m _ _ hs hn (by omega) rfl).mono ?_; rintro e w1 ⟨A1, m1, c1, rfl, hs1, hb1⟩
  have ht1 := ht.below hb1
  have hm1 : m1 ≤ 1000010 := by have := hs1.blen; rw [List.length_append, Hl.out] at this; omega
  clear hs ht
  go_wp2_with fail
  refine (both_any _ _ _ _ _ _ (l ++ uv m) b _ hs1 ht1 (by omega) (by omega)).mono ?_; rintro e w2 ⟨rfl, hown, hb2⟩
  go_wp2_with fail
  go_ret
  have h3 := ownsRow_sl hown
  rw [List.append_assoc] at h3
  exact ⟨_, _, _, rfl, by rw [Hb.out]; exact h3, hb1.trans (hb2.mono hb1.size)⟩

set_option maxHeartbeats 400000 in
theorem refBit_any (A : Option Addr) (n c : Nat) (l : List UInt8) (i : Nat) (w : World) (hs : Sl w 1 A n c (bytesV l)) (hn : n ≤ 1000000) (hi : i ≤ 10000000) :
    Calls Tryz.prog 103 #[.slice A n c, .int .i64 (i : Int)] w fun e w' => e = .returned (.bool (allAt l 0 i)) ∧ w = w' := by
  have Hl := Lib.hid hs.blen
  obtain ⟨z, hz⟩ : ∃ z, z = dbit l i := ⟨_, rfl⟩
  have Hz := Lib.hid hz
  have hall : allAt l 0 i = (z != decide (i < 32)) := by rw [allAt_zero, hz]
  have Ha := Lib.hid hall
  clear hz hall
  by_cases h1 : i < 8 * n
  · obtain ⟨j, hj⟩ : ∃ j, j = i / 8 := ⟨_, rfl⟩
    obtain ⟨t, ht⟩ : ∃ t, t = i % 8 := ⟨_, rfl⟩
    have hjn : j < n := by omega
    obtain ⟨x, hx⟩ := get_some l j (by rw [Hl.out]; exact hjn)
    obtain ⟨ad, rfl, hc⟩ := hs.byteAt hx
    have hq : (i : Int).tdiv 8 = (j : Int) := by rw [hj, Int.tdiv_eq_ediv_of_nonneg (by omega)]; omega
    have hm : (i : Int).tmod 8 = (t : Int) := by rw [ht, Int.tmod_eq_emod_of_nonneg (by omega)]; omega
    have ht7 : t ≤ 7 := by omega
    have hxl := x.toNat_lt
    have hin : (0 : Int) ≤ (j : Int) ∧ (j : Int) < (n : Int) := by omega
    obtain ⟨d, hd⟩ : ∃ d, d = x.toNat / 2 ^ t := ⟨_, rfl⟩
    have hsh : (x.toNat : Int) / (2 : Int) ^ t = (d : Int) := by rw [hd]; simp
    have hdl : d < 256 := by rw [hd]; exact Nat.lt_of_le_of_lt (Nat.div_le_self _ _) hxl
    have hzd : ((d : Int) % 2 == 1) = z := by
      rw [Hz.out, dbit, List.getD_eq_getElem?_getD, ← hj, hx, Option.getD_some, ← ht, ← hd, Bool.eq_iff_iff, beq_iff_eq, beq_iff_eq]; omega
    have hzd2 : ((d : Int).tmod 2 == 1) = z := by rw [Int.tmod_eq_emod_of_nonneg (by omega)]; exact hzd
    clear hj ht hd hx
    go_enter Tryz.func103, Tryz.ntmps103
    by_cases h32 : i < 32
    all_goals
      go_wp2_with fail
      go_ret
      exact ⟨by rw [Ha.out]; clear hzd hzd2 Hz; cases z <;> simp [h32] <;> omega, rfl⟩
  · have hzf : z = false := by rw [Hz.out]; exact dbit_out l i (by rw [Hl.out]; omega)
    subst hzf
    go_enter Tryz.func103, Tryz.ntmps103
    by_cases h32 : i < 32
    all_goals
      go_wp2_with fail
      go_ret
      exact ⟨by rw [Ha.out]; simp [h32] <;> omega, rfl⟩
end Go.Proofs.YtemegkapmgcffaaGreat

namespace Go.Proofs.YtemegkapmgcffaaGreat
open Go.RowKit
set_option linter.unusedSimpArgs false
set_option linter.unusedVariables false

theorem infoBool : (Tryz.prog.info? 4).map (fun i => (i.zero, i.size, i.bytes)) = some (some (.bool false), 1, 1) := by kernel_rfl
theorem boolsV_congr (f g : Nat → Bool) (N : Nat) (h : ∀ j, j < N → f j = g j) : boolsV f N = boolsV g N := by
  unfold boolsV
  apply List.map_congr_left
  intro j hj
  rw [h j (by simpa using hj)]

set_option maxRecDepth 100000 in
set_option maxHeartbeats 2000000 in
theorem refCrc_any (A : Option Addr) (n c : Nat) (l : List UInt8) (w : World) (hs : Sl w 1 A n c (bytesV l)) (hn : n ≤ 1000000) :
    Calls Tryz.prog 100 #[.slice A n c] w fun e w' => e = .returned (.int .u32 ((crc l).toNat : Int)) ∧ Below w.heap.size w w' := by
  obtain ⟨i0, hi, hz0, hz1, hz2⟩ := info_parts infoBool
  have Hl := Lib.hid hs.blen
  obtain ⟨N, hN⟩ : ∃ N, N = 8 * n + 32 := ⟨_, rfl⟩
  have hNi : 8 * (n : Int) + 32 = (N : Int) := by omega
  have hNb : N ≤ 8000032 := by omega
  have HN := Lib.hid hN
  clear hN
  go_enter Tryz.func100, Tryz.ntmps100
  go_upto_block 0 with (at_make; refine wpList_make_full _ rfl _ _ 126 rfl w.heap.size 4 i0 (.bool false) 1 Tryz.underlying126 hi hz0 hz1 _ _ _ _ N rfl rfl (by omega) (by omega) (by rw [hz2]; omega) (by unfold maxLen; omega) (Nat.le_refl _) ?_; intro w1 hown1 hgrow1; have hb1 := grownBy_below hgrow1)
  have e0 : (madeCells (Value.bool false).cells (N * 1)).toList = boolsV (fun j => decide (j < 0) && allAt l 0 j) N := by
    rw [show (Value.bool false).cells = #[.bool false] from rfl, toList_madeCells_one, Nat.mul_one]
    unfold boolsV
    simp [List.map_const']
  rw [e0] at hown1
  clear hgrow1 e0 hi hz0 hz1 hz2 hNi
  go_cut [] (fun wx => wx.ownsRow w.heap.size 4 1 (.slice (some ⟨w.heap.size, 0, none⟩) N N) N (boolsV (allAt l 0) N) ∧ Below w.heap.size w wx)
  case first =>
    go_wp2_with fail
    go_loopw [4] (fun iv wx => ∃ i : Nat, i ≤ N ∧ iv = .int .i64 (i : Int) ∧ wx.ownsRow w.heap.size 4 1 (.slice (some ⟨w.heap.size, 0, none⟩) N N) N (boolsV (fun j => decide (j < i) && allAt l 0 j) N) ∧ Below w.heap.size w wx) (fun iv _ => N - (intOf iv).toNat)
    case atStart => exact ⟨0, by omega, rfl, hown1, hb1⟩
    case round =>
      obtain ⟨i, hiN, rfl, hown, hbx⟩ := hrel
      by_cases hlt : i < N
      · obtain ⟨z, hz⟩ : ∃ z, z = allAt l 0 i := ⟨_, rfl⟩
        have hcell := hown.cellAt i (by omega)
        rw [boolsV_at _ _ _ hlt] at hcell
        have hfro := hown.frozenAt i
        have hin : (0 : Int) ≤ (i : Int) ∧ (i : Int) < (N : Int) := by omega
        have hst := (World.ownsRow.stored (w := wr) (h := hown) i (.bool z)).1
        rw [boolsV_set] at hst
        rw [boolsV_congr _ (fun j => decide (j < i + 1) && allAt l 0 j) N (by
          intro j _
          by_cases hj : j = i
          · simp only [hj, if_true, hz]; simp
          · rw [if_neg hj, show decide (j < i) = decide (j < i + 1) by rw [Bool.eq_iff_iff, decide_eq_true_iff, decide_eq_true_iff]; omega])] at hst
        have hbd : Below w.heap.size w (wr.setCell ⟨w.heap.size, i, none⟩ (.bool z)) := hbx.setCell (Nat.le_refl _) _
        have Hz := Lib.hid hz
        have hsx := hs.below hbx
        clear hz hown hown1 hb1 hbx
        go_wp2_with fail
        refine (refBit_any _ _ _ l i _ hsx hn (by omega)).mono ?_; rintro e w2 ⟨rfl, rfl⟩
        rw [← Hz.out]
        go_wp2_with fail
        go_roundw
        case rel => exact ⟨i + 1, by omega, by go_num, hst, hbd⟩
        case measure => simp [intOf]; omega
      · obtain rfl : i = N := by omega
        go_wp2_with fail
        go_meet
        rw [boolsV_congr _ (allAt l 0) i (by intro j hj; simp [hj])] at hown
        exact ⟨hown, hbx⟩
  case rest =>
    obtain ⟨hown0, hb0⟩ := hcut
    clear hown1 hb1
    go_upto_block 2 with fail
    go_cut [] (fun wx => ∃ f, wx.ownsRow w.heap.size 4 1 (.slice (some ⟨w.heap.size, 0, none⟩) N N) N (boolsV f N) ∧ Hid (∀ j, 8 * n ≤ j → j < N → f j = allAt l (8 * n) j) ∧ Below w.heap.size w wx)
    case first =>
      go_wp2_with fail
      go_loopw [5] (fun iv wx => ∃ (i : Nat) (f : Nat → Bool), i ≤ 8 * n ∧ iv = .int .i64 (i : Int) ∧ wx.ownsRow w.heap.size 4 1 (.slice (some ⟨w.heap.size, 0, none⟩) N N) N (boolsV f N) ∧ Hid (∀ j, i ≤ j → j < N → f j = allAt l i j) ∧ Below w.heap.size w wx) (fun iv _ => 8 * n - (intOf iv).toNat)
      case atStart => exact ⟨0, allAt l 0, by omega, rfl, hown0, Lib.hid (fun j _ _ => rfl), hb0⟩
      case round =>
        obtain ⟨i, f, hi8, rfl, hown, Hf, hbx⟩ := hrel
        clear hown0 hb0
        by_cases hlt : i < 8 * n
        · have hiN : i < N := by have := HN.out; omega
          obtain ⟨z, hz⟩ : ∃ z, z = f i := ⟨_, rfl⟩
          have hcell := hown.cellAt i (by omega)
          rw [boolsV_at _ _ _ hiN, ← hz] at hcell
          have hza : z = allAt l i i := by rw [hz]; exact Hf.out i (Nat.le_refl _) hiN
          have hin : (0 : Int) ≤ (i : Int) ∧ (i : Int) < (N : Int) := by omega
          have Hza := Lib.hid hza
          clear hz hza
          cases z with
          | false =>
            go_wp2_with fail
            go_roundw
            case rel =>
              refine ⟨i + 1, f, by omega, by go_num, hown, Lib.hid (fun j hj hjN => ?_), hbx⟩
              rw [allAt_step l i j (by omega), ← Hza.out, Hf.out j (by omega) hjN]
              simp
            case measure => simp [intOf]; omega
          | true =>
            have hfro := hown.frozenAt i
            have hst := (World.ownsRow.stored (w := wr) (h := hown) i (.bool false)).1
            rw [boolsV_set] at hst
            have hbd : Below w.heap.size w (wr.setCell ⟨w.heap.size, i, none⟩ (.bool false)) := hbx.setCell (Nat.le_refl _) _
            clear hown hbx
            go_upto_block 4 with fail
            clear hcell hfro
            generalize wr.setCell ⟨w.heap.size, i, none⟩ (.bool false) = w3 at *
            have hst0 : w3.ownsRow w.heap.size 4 1 (.slice (some ⟨w.heap.size, 0, none⟩) N N) N (boolsV (fun j => if j = i then false else (f j ^^ (decide (i < j) && decide (j < i + 1 + 0) && polyB (j - (i + 1))))) N) := by
              rw [boolsV_congr _ (fun j => if j = i then false else f j) N (by
                intro j _
                by_cases hj : j = i
                · simp [hj]
                · have : (decide (i < j) && decide (j < i + 1 + 0)) = false := by simp; omega
                  simp only [if_neg hj, this]; simp)]
              exact hst
            clear hst
            go_wp2_with fail
            go_loopw [6] (fun kv wx => ∃ k : Nat, k ≤ 32 ∧ kv = .int .i64 (k : Int) ∧ wx.ownsRow w.heap.size 4 1 (.slice (some ⟨w.heap.size, 0, none⟩) N N) N (boolsV (fun j => if j = i then false else (f j ^^ (decide (i < j) && decide (j < i + 1 + k) && polyB (j - (i + 1))))) N) ∧ Below w.heap.size w wx) (fun kv _ => 32 - (intOf kv).toNat)
            case atStart => exact ⟨0, by omega, rfl, hst0, hbd⟩
            case round =>
              obtain ⟨k, hk, rfl, hown, hbx⟩ := hrel
              clear hst0 hbd
              by_cases hk32 : k < 32
              · obtain ⟨m, hm⟩ : ∃ m, m = 31 - k := ⟨_, rfl⟩
                have hmk : (31 : Int) - (k : Int) = (m : Int) := by omega
                have hm31 : m ≤ 31 := by omega
                obtain ⟨d, hd⟩ : ∃ d, d = 79764919 / 2 ^ m := ⟨_, rfl⟩
                have hsh : (79764919 : Int) / (2 : Int) ^ m = (d : Int) := by rw [hd]; simp
                have hdl : d ≤ 79764919 := by rw [hd]; exact Nat.div_le_self _ _
                obtain ⟨z, hz⟩ : ∃ z, z = polyB k := ⟨_, rfl⟩
                have hzd : ((d : Int) % 2 == 1) = z := by
                  rw [hz, ← polyB_eq k hk32, ← hm, ← hd, Bool.eq_iff_iff, beq_iff_eq, beq_iff_eq]; omega
                have hzd2 : ((d : Int).tmod 2 == 1) = z := by rw [Int.tmod_eq_emod_of_nonneg (by omega)]; exact hzd
                obtain ⟨p, hp⟩ : ∃ p, p = i + 1 + k := ⟨_, rfl⟩
                have hpN : p < N := by have := HN.out; omega
                have hw1 : IntKind.i64.wrap ((i : Int) + 1 + (k : Int)) = (i : Int) + 1 + (k : Int) := IntWalk.i64_in _ (by omega)
                have hnn : ((i : Int) + 1 + (k : Int)).toNat = p := by omega
                have hin2 : (0 : Int) ≤ (i : Int) + 1 + (k : Int) ∧ (i : Int) + 1 + (k : Int) < (N : Int) := by omega
                have hcell := hown.cellAt p (by omega)
                obtain ⟨y, hy⟩ : ∃ y, y = f p := ⟨_, rfl⟩
                rw [boolsV_at _ _ _ hpN] at hcell
                have hyv : (if p = i then false else (f p ^^ (decide (i < p) && decide (p < i + 1 + k) && polyB (p - (i + 1))))) = y := by
                  have : (decide (i < p) && decide (p < i + 1 + k)) = false := by simp; omega
                  simp only [if_neg (show p ≠ i by omega), this, hy]; simp
                rw [hyv] at hcell
                have hfro := hown.frozenAt p
                have Hz := Lib.hid hz
                have Hy := Lib.hid hy
                have Hp := Lib.hid hp
                clear hz hd hm hy hyv hp hin
                cases z with
                | false =>
                  rw [boolsV_congr _ (fun j => if j = i then false else (f j ^^ (decide (i < j) && decide (j < i + 1 + (k + 1)) && polyB (j - (i + 1))))) N (by
                    intro j _
                    by_cases hj : j = i
                    · simp [hj]
                    · by_cases hjp : j = p
                      · have h1 := Hp.out
                        have h2 : j - (i + 1) = k := by omega
                        have h3 := Hz.out
                        simp only [if_neg hj, h2, ← h3]; simp
                      · have h1 := Hp.out
                        have : decide (j < i + 1 + k) = decide (j < i + 1 + (k + 1)) := by rw [Bool.eq_iff_iff, decide_eq_true_iff, decide_eq_true_iff]; omega
                        simp only [if_neg hj, this])] at hown
                  go_wp2_with fail
                  go_roundw
                  case rel => exact ⟨k + 1, by omega, by go_num, hown, hbx⟩
                  case measure => simp [intOf]; omega
                | true =>
                  have hst := (World.ownsRow.stored (w := wr) (h := hown) p (.bool (!y))).1
                  rw [boolsV_set] at hst
                  rw [boolsV_congr _ (fun j => if j = i then false else (f j ^^ (decide (i < j) && decide (j < i + 1 + (k + 1)) && polyB (j - (i + 1))))) N (by
                    intro j _
                    have h1 := Hp.out
                    by_cases hjp : j = p
                    · rw [hjp]
                      have h2 : p - (i + 1) = k := by omega
                      have h3 := Hz.out
                      have h4 : (decide (i < p) && decide (p < i + 1 + (k + 1))) = true := by simp; omega
                      rw [if_pos rfl, if_neg (show p ≠ i by omega), h2, ← h3, h4, Hy.out]; simp
                    · rw [if_neg hjp]
                      by_cases hj : j = i
                      · simp [hj]
                      · have : decide (j < i + 1 + k) = decide (j < i + 1 + (k + 1)) := by rw [Bool.eq_iff_iff, decide_eq_true_iff, decide_eq_true_iff]; omega
                        simp only [if_neg hj, this])] at hst
                  have hbd : Below w.heap.size w (wr.setCell ⟨w.heap.size, p, none⟩ (.bool (!y))) := hbx.setCell (Nat.le_refl _) _
                  clear hown hbx
                  go_wp2_with fail
                  go_roundw
                  case rel => exact ⟨k + 1, by omega, by go_num, hst, hbd⟩
                  case measure => simp [intOf]; omega
              · obtain rfl : k = 32 := by omega
                go_wp2_with fail
                go_roundw
                case rel =>
                  refine ⟨i + 1, _, by omega, by go_num, hown, Lib.hid (fun j hj hjN => ?_), hbx⟩
                  rw [allAt_step l i j (by omega), ← Hza.out, if_neg (show j ≠ i by omega), Hf.out j (by omega) hjN, show decide (i < j) = true by simp; omega]
                  by_cases hjf : j < i + 1 + 32
                  · simp [hjf]
                  · simp [hjf, polyB_out (j - (i + 1)) (by omega)]
                case measure => simp [intOf]; omega
        · obtain rfl : i = 8 * n := by omega
          go_wp2_with fail
          go_meet
          exact ⟨f, hown, Hf, hbx⟩
    case rest =>
      obtain ⟨f, hown, Hf, hbx⟩ := hcut
      clear hown0 hb0
      have hN2 : 8 * n + 32 = N := HN.out.symm
      have HN2 := Lib.hid hN2
      clear hN2
      go_wp2_with fail
      go_loopw [7, 8] (fun nv kv wx => ∃ (k v : Nat) (j : Int), k ≤ 32 ∧ j + 1 = (k : Int) ∧ kv = .int .i64 j ∧ nv = .int .u32 (v : Int) ∧ Hid (v = (crc l).toNat / 2 ^ k) ∧ wx = wc) (fun _ kv _ => (intOf kv + 1).toNat)
      case atStart => exact ⟨32, 0, 31, by omega, by omega, rfl, rfl, Lib.hid (by rw [Nat.div_eq_of_lt (crc l).isLt]), rfl⟩
      case round =>
        obtain ⟨k, v, j, hk, hj, rfl, rfl, Hv, rfl⟩ := hrel
        by_cases hk0 : k = 0
        · subst hk0
          obtain rfl : j = -1 := by omega
          go_wp2_with fail
          go_ret
          exact ⟨by rw [Hv.out]; simp, hbx⟩
        · obtain ⟨i, rfl⟩ : ∃ i, k = i + 1 := ⟨k - 1, by omega⟩
          obtain rfl : j = (i : Int) := by omega
          have h1 := HN2.out
          obtain ⟨p, hp⟩ : ∃ p, p = 8 * n + i := ⟨_, rfl⟩
          have hcell := hown.cellAt p (by omega)
          rw [boolsV_at _ _ _ (by omega)] at hcell
          obtain ⟨y, hy⟩ : ∃ y, y = f p := ⟨_, rfl⟩
          rw [← hy] at hcell
          have hyc : (!y) = (crc l).getLsbD i := by
            rw [hy, Hf.out p (by omega) (by omega), hp, ← allAt_end l i (by omega), Hl.out]
          have hv2 : (crc l).toNat / 2 ^ i = 2 * v + (if (!y) = true then 1 else 0) := by rw [Hv.out, hyc]; exact crc_up _ _
          have hvl : (crc l).toNat / 2 ^ i < 4294967296 := Nat.lt_of_le_of_lt (Nat.div_le_self _ _) (crc l).isLt
          have hw1 : IntKind.i64.wrap (8 * (n : Int) + (i : Int)) = 8 * (n : Int) + (i : Int) := IntWalk.i64_in _ (by omega)
          have hnn : (8 * (n : Int) + (i : Int)).toNat = p := by omega
          have hin2 : (0 : Int) ≤ 8 * (n : Int) + (i : Int) ∧ 8 * (n : Int) + (i : Int) < (N : Int) := by omega
          rw [hv2] at hvl
          have Hv2 := Lib.hid hv2
          clear hv2 hyc hy hp hj
          cases y with
          | false =>
            have hvb : 2 * v + 1 < 4294967296 := by simpa using hvl
            clear hvl
            go_wp2_with fail
            go_roundw
            case rel => exact ⟨i, 2 * v + 1, (i : Int) - 1, by omega, by omega, by go_num, by go_num, Lib.hid (by rw [Hv2.out]; simp), by first | trivial | rfl⟩
            case measure => simp [intOf]
          | true =>
            have hvb : 2 * v < 4294967296 := by simpa using hvl
            clear hvl
            go_wp2_with fail
            go_roundw
            case rel => exact ⟨i, 2 * v, (i : Int) - 1, by omega, by omega, by go_num, by go_num, Lib.hid (by rw [Hv2.out]; simp), by first | trivial | rfl⟩
            case measure => simp [intOf]
end Go.Proofs.YtemegkapmgcffaaGreat

namespace Go.Proofs.YtemegkapmgcffaaGreat
open Go.RowKit
set_option linter.unusedSimpArgs false
set_option linter.unusedVariables false

end Go.Proofs.YtemegkapmgcffaaGreat

namespace Go.Proofs.YtemegkapmgcffaaGreat
open Go.RowKit
set_option linter.unusedSimpArgs false
set_option linter.unusedVariables false

end Go.Proofs.YtemegkapmgcffaaGreat

namespace Go.Proofs.YtemegkapmgcffaaGreat
open Go.RowKit
set_option linter.unusedSimpArgs false
set_option linter.unusedVariables false

theorem crc5_cells (r : BitVec 32) : (#[.int .u8 ((r.toNat : Int) / 16777216), .int .u8 ((r.toNat : Int) / 65536 % 256), .int .u8 ((r.toNat : Int) / 256 % 256), .int .u8 ((r.toNat : Int) % 256), .int .u8 165] : Array Value) = (bytesV (crc4 r ++ [165])).toArray := by
  have := r.isLt
  simp only [bytesV, crc4, byteV, List.map_cons, List.map_nil, UInt8.toNat_ofNat', List.cons_append, List.nil_append]
  congr 5 <;> first | omega | rfl
theorem sl_sum5 (w : World) (r : BitVec 32) : Sl (w.alloc (.cells #[.int .u8 ((r.toNat : Int) / 16777216), .int .u8 ((r.toNat : Int) / 65536 % 256), .int .u8 ((r.toNat : Int) / 256 % 256), .int .u8 ((r.toNat : Int) % 256), .int .u8 165] 5)) 1 (some ⟨w.heap.size, 0, none⟩) 5 5 (bytesV (crc4 r ++ [165])) := by
  rw [crc5_cells]
  exact sl_new w (crc4 r ++ [165]) 5 5 rfl

set_option maxRecDepth 100000 in
set_option maxHeartbeats 1000000 in
theorem refFrame_any (A : Option Addr) (n c : Nat) (l : List UInt8) (w : World) (hs : Sl w 1 A n c (bytesV l)) (hn : n ≤ 1000000) :
    Calls Tryz.prog 79 #[.slice A n c] w fun e w' => ∃ A' m c', e = .returned (.slice A' m c') ∧ Sl w' 1 A' m c' (bytesV (frm l)) ∧ Below w.heap.size w w' := by
  have hu := uv_len_ten n (by omega)
  have Hl := Lib.hid hs.blen
  go_enter Tryz.func79, Tryz.ntmps79
  go_wp2_with fail
  refine (refVarint_any n _ (by omega)).mono ?_; rintro e w1 ⟨A1, m1, c1, rfl, happ, hb1⟩
  have hm1 : m1 ≤ 10 := by have := happ.sl.blen; omega
  go_wp2_with (first | (at_builtin; refine wpList_app _ rfl (.tmp 9) (.tmp 10) 34 rfl w.heap.size 5 (.int .u8 0) 1 1 Tryz.underlying34 infoByte rfl (by decide) A1 m1 c1 _ rfl happ A n c (bytesV l) rfl (hs.below hb1) (bytesV_one _) (by unfold maxLen; omega) (by omega) hb1.size ?_; intro A2 d2 w2 hat2; have hb2 := hb1.trans (hat2.below hb1.size)) | (go_at_call 100; refine (refCrc_any _ _ _ l _ (hs.below hb2) hn).mono ?_; rintro e w3 ⟨rfl, hb3⟩; have hbA := hb2.trans (hb3.mono hb2.size)) | (at_builtin; refine wpList_app _ rfl (.tmp 14) (.tmp 26) 34 rfl w.heap.size 5 (.int .u8 0) 1 1 Tryz.underlying34 infoByte rfl (by decide) A2 (m1 + n) d2 _ rfl ((hat2.app.below hb3).alloc _) _ _ _ _ rfl (sl_sum5 _ _) (bytesV_one _) (by unfold maxLen; omega) (by omega) (by simp; have := hbA.size; omega) ?_; intro A4 d4 w4 hat4; have hbB := (hbA.alloc hbA.size (.cells #[.int .u8 (((crc l).toNat : Int) / 16777216), .int .u8 (((crc l).toNat : Int) / 65536 % 256), .int .u8 (((crc l).toNat : Int) / 256 % 256), .int .u8 (((crc l).toNat : Int) % 256), .int .u8 165] 5)).trans (hat4.below (by simp; have := hbA.size; omega))))
  go_ret
  have h5 := hat4.app.sl
  rw [← bytesV_append, ← bytesV_append] at h5
  refine ⟨_, _, _, rfl, ?_, hbB⟩
  have e : frm l = uv n ++ l ++ (crc4 (crc l) ++ [165]) := by unfold frm; rw [Hl.out]; simp
  rw [e]
  exact h5

set_option maxRecDepth 100000 in
set_option maxHeartbeats 2000000 in
theorem refGet_any (A : Option Addr) (n c : Nat) (l : List UInt8) (at_ : Int) (w : World) (hs : Sl w 1 A n c (bytesV l)) (hl : n ≤ 1000000) :
    Calls Tryz.prog 87 #[.slice A n c, .int .i64 at_] w fun e w' => ∃ A' n' c', e = .returned (.tuple #[.slice A' n' c', .int .i64 ((fg l at_).2.1 : Nat), .int .i64 ((fg l at_).2.2 : Nat)]) ∧
      Sl w' 1 A' n' c' (bytesV (fg l at_).1) ∧ Below w.heap.size w w' := by
  have hlen := hs.blen
  have hlt := gu_lt l at_
  have hnx := gu_next l at_
  obtain ⟨q, hq⟩ : ∃ q, q = fg l at_ := ⟨_, rfl⟩
  rw [← hq]
  unfold fg at hq
  obtain ⟨⟨k, fr, er⟩, hg⟩ : ∃ g, g = gu l at_ := ⟨_, rfl⟩
  rw [← hg] at hq hlt hnx
  simp only at hq hlt hnx
  rw [hlen] at hq hnx
  have Hg := Lib.hid hg
  have Hl := Lib.hid hlen
  clear hg hlen
  by_cases h1 : er ≠ 0
  · rw [if_pos h1] at hq
    have Hq := Lib.hid hq
    have h1' : 0 < er := by omega
    clear hq h1
    go_enter Tryz.func87, Tryz.ntmps87
    go_wp2_with (go_at_call 88; refine (refGetUint_any _ _ _ l _ _ hs (by omega)).mono ?_; rintro e w' ⟨rfl, rfl⟩; rw [← Hg.out])
    go_ret3
    exact ⟨none, 0, 0, by rw [Hq.out]; rfl, by rw [Hq.out]; exact Sl.nil _ _, Below.refl _ _⟩
  rw [if_neg h1] at hq
  obtain rfl : er = 0 := by omega
  clear h1
  by_cases h2 : k = 0 ∨ 1048576 < k
  · rw [if_pos h2] at hq
    have Hq := Lib.hid hq
    clear hq
    by_cases h0 : k = 0
    · subst h0
      go_enter Tryz.func87, Tryz.ntmps87
      go_wp2_with (go_at_call 88; refine (refGetUint_any _ _ _ l _ _ hs (by omega)).mono ?_; rintro e w' ⟨rfl, rfl⟩; rw [← Hg.out])
      go_ret3
      exact ⟨none, 0, 0, by rw [Hq.out]; rfl, by rw [Hq.out]; exact Sl.nil _ _, Below.refl _ _⟩
    · have h0' : 1 ≤ k := by omega
      have h02 : 1048576 < k := by omega
      clear h2 h0
      go_enter Tryz.func87, Tryz.ntmps87
      go_wp2_with (go_at_call 88; refine (refGetUint_any _ _ _ l _ _ hs (by omega)).mono ?_; rintro e w' ⟨rfl, rfl⟩; rw [← Hg.out])
      go_ret3
      exact ⟨none, 0, 0, by rw [Hq.out]; rfl, by rw [Hq.out]; exact Sl.nil _ _, Below.refl _ _⟩
  rw [if_neg h2] at hq
  have hk1 : 1 ≤ k := by omega
  have hk2 : k ≤ 1048576 := by omega
  clear h2 hlt
  by_cases h3 : n < fr + k + 5
  · rw [if_pos h3] at hq
    have Hq := Lib.hid hq
    clear hq
    go_enter Tryz.func87, Tryz.ntmps87
    go_wp2_with (go_at_call 88; refine (refGetUint_any _ _ _ l _ _ hs (by omega)).mono ?_; rintro e w' ⟨rfl, rfl⟩; rw [← Hg.out])
    go_ret3
    exact ⟨none, 0, 0, by rw [Hq.out]; rfl, by rw [Hq.out]; exact Sl.nil _ _, Below.refl _ _⟩
  rw [if_neg h3] at hq
  obtain ⟨p, hp⟩ : ∃ p, p = fr + k + 4 := ⟨_, rfl⟩
  obtain ⟨x, hx⟩ := get_some l p (by rw [Hl.out]; omega)
  rw [← hp, hx] at hq
  obtain ⟨ad, rfl, hc⟩ := hs.byteAt hx
  have hw0 : IntKind.i64.wrap ((fr : Int) + (k : Int)) = (fr : Int) + (k : Int) := IntWalk.i64_in _ (by omega)
  have hw1 : IntKind.i64.wrap ((fr : Int) + (k : Int) + 5) = (fr : Int) + (k : Int) + 5 := IntWalk.i64_in _ (by omega)
  have hw2 : IntKind.i64.wrap ((fr : Int) + (k : Int) + 5 - 1) = (fr : Int) + (k : Int) + 5 - 1 := IntWalk.i64_in _ (by omega)
  have hnn : ((fr : Int) + (k : Int) + 5 - 1).toNat = p := by omega
  have hin : (0 : Int) ≤ (fr : Int) + (k : Int) + 5 - 1 ∧ (fr : Int) + (k : Int) + 5 - 1 < (n : Int) := by omega
  have hxl := x.toNat_lt
  have Hp := Lib.hid hp
  clear hx hp
  by_cases h4 : x = 165
  · rw [if_neg (by rw [h4]; simp)] at hq
    have h4b : ((x.toNat : Int) != 165) = false := by rw [h4]; rfl
    obtain ⟨body, hbody⟩ : ∃ b, b = (l.take (fr + k)).drop fr := ⟨_, rfl⟩
    rw [← hbody] at hq
    have hbl : body.length = k := by rw [hbody, List.length_drop, List.length_take, Hl.out]; omega
    obtain ⟨A', hcut, _, hdr⟩ := cutb_mid .i64 .i64 (some ad) n c fr (fr + k) (fr : Int) ((fr : Int) + (k : Int)) rfl (by simp) (by omega) (by omega) hs.le
    have hsd := hdr _ _ hs
    rw [← hbody] at hsd
    rw [show fr + k - fr = k by omega] at hcut hsd
    have Hbl := Lib.hid hbl
    have Hq := Lib.hid hq
    clear hdr hbody hbl hq h4
    go_enter Tryz.func87, Tryz.ntmps87
    go_wp2_with (first | (go_at_call 88; refine (refGetUint_any _ _ _ l _ _ hs (by omega)).mono ?_; rintro e w' ⟨rfl, rfl⟩; rw [← Hg.out]) | (at_builtin; refine wpList_app _ rfl (.tmp 45) (.tmp 52) 34 rfl w.heap.size 5 (.int .u8 0) 1 1 Tryz.underlying34 infoByte rfl (by decide) none 0 0 [] rfl (App.nil _ _ _ _) A' k _ (bytesV body) rfl hsd (bytesV_one _) (by unfold maxLen; omega) (by omega) (Nat.le_refl _) ?_; intro A2 d2 w2 hat2; have hb2 := hat2.below (Nat.le_refl _)))
    have happ2 := hat2.app.sl
    rw [List.nil_append] at happ2
    simp only [Nat.zero_add] at happ2 ⊢
    have hs2 := hs.below hb2
    clear hat2 hs hsd hcut
    refine (refFrame_any _ _ _ body _ happ2 (by omega)).mono ?_; rintro e w3 ⟨A3, m3, c3, rfl, hs3, hb3⟩
    have hsr := hs2.below hb3
    have hbody3 := happ2.below hb3
    have hbA := hb2.trans (hb3.mono hb2.size)
    clear hs2 happ2 hb2 hb3
    obtain ⟨u, hu⟩ : ∃ u, u = (uv k).length := ⟨_, rfl⟩
    have hu10 := uv_len_ten k (by omega)
    have hm3 : m3 = u + k + 5 := by rw [← hs3.blen, frm_len, Hbl.out, hu]
    rw [← hu] at hu10
    have hm0 : 0 < m3 := by omega
    obtain ⟨a3, rfl⟩ : ∃ a3, A3 = some a3 := by
      cases A3 with
      | none => have := (hs3.none rfl).1; omega
      | some a => exact ⟨a, rfl⟩
    obtain ⟨r4, hr4⟩ : ∃ r, r = (l.drop (fr + k)).take 4 := ⟨_, rfl⟩
    obtain ⟨c4, hc4⟩ : ∃ r, r = crc4 (crc body) := ⟨_, rfl⟩
    have hrl : r4.length = 4 := by rw [hr4, List.length_take, List.length_drop, Hl.out]; omega
    have hcl : c4.length = 4 := by rw [hc4]; rfl
    have hrat : ∀ i y, i < 4 → r4[i]? = some y → l[fr + k + i]? = some y := by
      intro i y hi hy
      rw [hr4, List.getElem?_take, if_pos hi, List.getElem?_drop] at hy
      exact hy
    have hcat : ∀ i y, i < 4 → c4[i]? = some y → (frm body)[u + k + i]? = some y := by
      intro i y hi hy
      unfold frm
      rw [Hbl.out, List.getElem?_append_right (by omega), ← hu, List.getElem?_append_right (by rw [Hbl.out]; omega), Hbl.out, show u + k + i - u - k = i by omega, List.getElem?_append_left (by rw [← hc4, hcl]; exact hi), ← hc4]
      exact hy
    rw [← hr4, ← hc4] at Hq
    have Hrl := Lib.hid hrl
    have Hcl := Lib.hid hcl
    have Hrat := Lib.hid hrat
    have Hcat := Lib.hid hcat
    have Hm3 := Lib.hid hm3
    have Hsr := Lib.hid (fun i y => @Sl.byteAt w3 (some ad) n c l hsr i y)
    have Hs3 := Lib.hid (fun i y => @Sl.byteAt w3 (some a3) m3 c3 (frm body) hs3 i y)
    have hm3b : m3 ≤ 2000000 := by omega
    obtain ⟨NX, hNX⟩ : ∃ NX : Int, NX = (fr : Int) + (k : Int) + 5 := ⟨_, rfl⟩
    have hNXb : 0 ≤ NX ∧ NX ≤ 2000000 := by omega
    have HNX := Lib.hid hNX
    clear hrl hcl hrat hcat hr4 hc4 hu hm3 hs3 hsr hw0 hw1 hw2 hnn hin hc
    go_wp2_with fail
    rw [← HNX.out]
    clear hNX
    go_loopw [13] (fun iv wx => ∃ i : Nat, i ≤ 4 ∧ iv = .int .i64 (i : Int) ∧ Hid (∀ j, j < i → r4[j]? = c4[j]?) ∧ Below w3.heap.size w3 wx) (fun iv _ => 4 - (intOf iv).toNat)
    case atStart => exact ⟨0, by omega, rfl, Lib.hid (fun j h => by omega), Below.refl _ _⟩
    case round =>
      obtain ⟨i, hi4, rfl, Heq, hbx⟩ := hrel
      by_cases hlt : i < 4
      · obtain ⟨y, hy⟩ := get_some r4 i (by rw [Hrl.out]; exact hlt)
        obtain ⟨v, hv⟩ := get_some c4 i (by rw [Hcl.out]; exact hlt)
        obtain ⟨ad1, had1, hc1⟩ := Hsr.out _ _ (Hrat.out i y hlt hy)
        obtain ⟨ad2, had2, hc2⟩ := Hs3.out _ _ (Hcat.out i v hlt hv)
        cases had1
        cases had2
        have hyl := y.toNat_lt
        have hvl := v.toNat_lt
        obtain ⟨z, hz⟩ : ∃ z, ((y.toNat : Int) != (v.toNat : Int)) = z := ⟨_, rfl⟩
        obtain ⟨p1, hp1⟩ : ∃ p, p = fr + k + i := ⟨_, rfl⟩
        obtain ⟨p2, hp2⟩ : ∃ p, p = u + k + i := ⟨_, rfl⟩
        rw [← hp1] at hc1
        rw [← hp2] at hc2
        have hcr1 := (World.cell?_of_block (w := w3) (w' := wr) (hbx.block _ (World.block_lt_of_cell? _ _ hc1))).trans hc1
        have hcr2 := (World.cell?_of_block (w := w3) (w' := wr) (hbx.block _ (World.block_lt_of_cell? _ _ hc2))).trans hc2
        have hNX2 := HNX.out
        have hm32 := Hm3.out
        have f1 : IntKind.i64.wrap (NX - 5) = NX - 5 := IntWalk.i64_in _ (by omega)
        have f2 : IntKind.i64.wrap (NX - 5 + (i : Int)) = NX - 5 + (i : Int) := IntWalk.i64_in _ (by omega)
        have f3 : IntKind.i64.wrap ((m3 : Int) - 5) = (m3 : Int) - 5 := IntWalk.i64_in _ (by omega)
        have f4 : IntKind.i64.wrap ((m3 : Int) - 5 + (i : Int)) = (m3 : Int) - 5 + (i : Int) := IntWalk.i64_in _ (by omega)
        have f5 : (NX - 5 + (i : Int)).toNat = p1 := by omega
        have f6 : ((m3 : Int) - 5 + (i : Int)).toNat = p2 := by omega
        have f7 : (0 : Int) ≤ NX - 5 + (i : Int) ∧ NX - 5 + (i : Int) < (n : Int) := by omega
        have f8 : (0 : Int) ≤ (m3 : Int) - 5 + (i : Int) ∧ (m3 : Int) - 5 + (i : Int) < (m3 : Int) := by omega
        have Hy := Lib.hid hy
        have Hv := Lib.hid hv
        have Hz := Lib.hid hz
        clear hy hv hp1 hp2 hc1 hc2 hNX2 hm32
        go_wp2_with fail
        go_still (by kernel_rfl)
        change Exit.then _ _ Exit.normal _ wr.drew
        have hbd := hbx.drew
        clear hbx hcr1 hcr2
        generalize wr.drew = w4 at *
        cases z with
        | false =>
          have hyv : y = v := by
            have h1 := Hz.out
            rw [bne_eq_false_iff_eq] at h1
            exact UInt8.toNat.inj (by omega)
          go_wp2_with fail
          go_roundw
          case rel =>
            refine ⟨i + 1, by omega, by go_num, Lib.hid (fun j hj => ?_), hbd⟩
            by_cases hji : j = i
            · rw [hji, Hy.out, Hv.out, hyv]
            · exact Heq.out j (by omega)
          case measure => simp [intOf]; omega
        | true =>
          have hne : r4 ≠ c4 := by
            intro e
            have h1 := Hz.out
            rw [bne_iff_ne] at h1
            have h2 := Hy.out
            rw [e, Hv.out] at h2
            cases h2
            exact h1 rfl
          have hqe : q = ([], 0, 12) := by rw [Hq.out, if_pos hne]
          have Hq2 := Lib.hid hqe
          clear hqe hne
          go_wp2_with fail
          go_ret3
          exact ⟨none, 0, 0, by rw [Hq2.out]; rfl, by rw [Hq2.out]; exact Sl.nil _ _, hbA.trans (hbd.mono hbA.size)⟩
      · have hee : r4 = c4 := by
          apply List.ext_getElem?
          intro j
          by_cases hj : j < 4
          · exact Heq.out j (by omega)
          · rw [List.getElem?_eq_none (by rw [Hrl.out]; omega), List.getElem?_eq_none (by rw [Hcl.out]; omega)]
        have hqe : q = (body, fr + k + 5, 0) := by rw [Hq.out, if_neg (by simpa using hee)]
        have Hq2 := Lib.hid hqe
        obtain rfl : i = 4 := by omega
        clear hqe hee
        go_wp2_with fail
        go_ret3
        refine ⟨A2, k, d2, ?_, by rw [Hq2.out]; exact hbody3.below hbx, hbA.trans (hbx.mono hbA.size)⟩
        rw [Hq2.out]
        have hN := HNX.out
        have e1 : (((fr + k + 5 : Nat) : Int)) = NX := by omega
        simp only [e1]
        rfl
  · have h4b : ((x.toNat : Int) != 165) = true := by
      rw [bne_iff_ne]
      intro e
      apply h4
      apply UInt8.toNat.inj
      have : (165 : UInt8).toNat = 165 := rfl
      omega
    rw [if_pos (by simpa using h4)] at hq
    have Hq := Lib.hid hq
    clear hq h4
    go_enter Tryz.func87, Tryz.ntmps87
    go_wp2_with (go_at_call 88; refine (refGetUint_any _ _ _ l _ _ hs (by omega)).mono ?_; rintro e w' ⟨rfl, rfl⟩; rw [← Hg.out])
    go_ret3
    exact ⟨none, 0, 0, by rw [Hq.out]; rfl, by rw [Hq.out]; exact Sl.nil _ _, Below.refl _ _⟩
end Go.Proofs.YtemegkapmgcffaaGreat
