/- Plain mathematics: a number without a sign as sevens of bits; no program in sight. -/
import Derived.Lib.BitFns
import Derived.Lib.ItoaNum
namespace Go.Proofs.Ytphjmbhlokkdiaa

/-- a number without a sign as bytes -/
def uv (n : Nat) : List UInt8 :=
  if h : n < 128 then [UInt8.ofNat n] else UInt8.ofNat (128 + n % 128) :: uv (n / 128)
termination_by n
decreasing_by omega

theorem uv_small (n : Nat) (h : n < 128) : uv n = [UInt8.ofNat n] := by rw [uv, dif_pos h]
theorem uv_big (n : Nat) (h : 128 ≤ n) : uv n = UInt8.ofNat (128 + n % 128) :: uv (n / 128) := by rw [uv, dif_neg (by omega)]
theorem uv_pos (n : Nat) : 1 ≤ (uv n).length := by
  rw [uv]; split <;> simp
theorem uv_len_big (n : Nat) (h : 128 ≤ n) : (uv n).length = (uv (n / 128)).length + 1 := by rw [uv_big n h]; simp
theorem uv_len_small (n : Nat) (h : n < 128) : (uv n).length = 1 := by rw [uv_small n h]; rfl
theorem uv_len_one (n : Nat) : (uv n).length = 1 ↔ n < 128 := by
  constructor
  · intro h
    apply Classical.byContradiction
    intro h2
    have := uv_len_big n (by omega)
    have := uv_pos (n / 128)
    omega
  · exact uv_len_small n
theorem uv_len_le (k : Nat) : ∀ n, n < 128 ^ (k + 1) → (uv n).length ≤ k + 1 := by
  induction k with
  | zero => intro n h; rw [uv_len_small n (by simpa using h)]; omega
  | succ k ih =>
    intro n h
    by_cases h1 : n < 128
    · rw [uv_len_small n h1]; omega
    · rw [uv_len_big n (by omega)]
      have := ih (n / 128) (by rw [Nat.pow_succ] at h; exact Nat.div_lt_of_lt_mul (by omega))
      omega
theorem uv_len_ten (n : Nat) (h : n < 18446744073709551616) : (uv n).length ≤ 10 := uv_len_le 9 n (by
  have : (128 : Nat) ^ (9 + 1) = 1180591620717411303424 := by decide
  omega)
theorem uv_len_ge (k : Nat) : ∀ n, 128 ^ k ≤ n → k + 1 ≤ (uv n).length := by
  induction k with
  | zero => intro n _; have := uv_pos n; omega
  | succ k ih =>
    intro n h
    have hp : 0 < 128 ^ k := Nat.pow_pos (by omega)
    have h1 : 128 ≤ n := by rw [Nat.pow_succ] at h; omega
    rw [uv_len_big n h1]
    have := ih (n / 128) (by rw [Nat.le_div_iff_mul_le (by omega)]; rw [Nat.pow_succ] at h; exact h)
    omega

theorem or_one (n : Nat) : n ||| 1 = if n % 2 = 0 then n + 1 else n := by
  apply Nat.eq_of_testBit_eq
  intro i
  rw [Nat.testBit_or]
  cases i with
  | zero => split <;> rename_i h <;> simp [Nat.testBit_zero] <;> omega
  | succ i =>
    split
    · rename_i h
      rw [Nat.testBit_succ, Nat.testBit_succ, Nat.testBit_succ, show (n + 1) / 2 = n / 2 by omega]; simp
    · rw [Nat.testBit_succ, Nat.testBit_succ]; simp

/-- how many rounds the loop has -/
theorem uv_rounds (n : Nat) (h : n < 18446744073709551616) : (Lib.bitLen (n ||| 1) - 1) / 7 + 1 = (uv n).length := by
  have hor : n ||| 1 = if n % 2 = 0 then n + 1 else n := or_one n
  have h0 : n ||| 1 ≠ 0 := by rw [hor]; split <;> omega
  have hlt : n ||| 1 < 2 ^ 64 := by rw [hor]; split <;> omega
  obtain ⟨b1, b2, b3⟩ := Lib.bitLenAux_bounds 64 (n ||| 1) hlt h0
  change 1 ≤ Lib.bitLen (n ||| 1) at b1
  change 2 ^ (Lib.bitLen (n ||| 1) - 1) ≤ n ||| 1 at b2
  change n ||| 1 < 2 ^ Lib.bitLen (n ||| 1) at b3
  obtain ⟨q, hq⟩ : ∃ q, q = Lib.bitLen (n ||| 1) - 1 := ⟨_, rfl⟩
  rw [show Lib.bitLen (n ||| 1) = q + 1 by omega] at b3
  rw [← hq] at b2 ⊢
  have e128 : ∀ k, (128 : Nat) ^ k = 2 ^ (7 * k) := fun k => by rw [Nat.pow_mul]
  apply Nat.le_antisymm
  · by_cases hz : q / 7 = 0
    · rw [hz]; exact uv_pos n
    · apply uv_len_ge
      rw [e128]
      have hp : 2 ^ (7 * (q / 7)) ≤ n ||| 1 := Nat.le_trans (Nat.pow_le_pow_right (by omega) (by omega)) b2
      have he : 2 ^ (7 * (q / 7)) % 2 = 0 := by
        obtain ⟨m, hm⟩ : ∃ m, 7 * (q / 7) = m + 1 := ⟨7 * (q / 7) - 1, by omega⟩
        rw [hm, Nat.pow_succ]; omega
      rw [hor] at hp
      split at hp <;> omega
  · apply uv_len_le
    rw [e128]
    have h2 : 2 ^ (q + 1) ≤ 2 ^ (7 * (q / 7 + 1)) := Nat.pow_le_pow_right (by omega) (by omega)
    rw [hor] at b3
    split at b3 <;> omega

/-- what a number with a sign takes -/
def zz (i : Int) : Nat := if i < 0 then 2 * (-(i + 1)).toNat + 1 else 2 * i.toNat

/-- reading a number without a sign: the value, how many bytes, the error; k bytes have been read, they come to acc -/
def guL : Nat → List UInt8 → Nat → Nat × Nat × Nat
  | _, [], _ => (0, 0, 11)
  | k, x :: r, acc =>
    if (k = 9 ∧ 1 < x.toNat) ∨ (x.toNat = 0 ∧ 0 < k) then (0, 0, 10)
    else if x.toNat < 128 then (acc + x.toNat * 128 ^ k, k + 1, 0)
    else guL (k + 1) r (acc + (x.toNat - 128) * 128 ^ k)

/-- the number without a sign at a place -/
def gu (l : List UInt8) (at_ : Int) : Nat × Nat × Nat :=
  if at_ < 0 ∨ (l.length : Int) < at_ then (0, 0, 2)
  else if (guL 0 (l.drop at_.toNat) 0).2.2 = 0 then ((guL 0 (l.drop at_.toNat) 0).1, at_.toNat + (guL 0 (l.drop at_.toNat) 0).2.1, 0)
  else (0, 0, (guL 0 (l.drop at_.toNat) 0).2.2)

theorem guL_err (s : List UInt8) : ∀ k acc, (guL k s acc).2.2 ≠ 0 → guL k s acc = (0, 0, (guL k s acc).2.2) := by
  induction s with
  | nil => intro k acc _; rfl
  | cons x r ih =>
    intro k acc h
    rw [guL] at h ⊢
    split
    · rfl
    · rename_i h1
      rw [if_neg h1] at h
      split
      · rename_i h2; rw [if_pos h2] at h; exact absurd rfl h
      · rename_i h2; rw [if_neg h2] at h; exact ih _ _ h
theorem guL_next (s : List UInt8) : ∀ k acc, (guL k s acc).2.1 ≤ k + s.length := by
  induction s with
  | nil => intro k acc; simp [guL]
  | cons x r ih =>
    intro k acc
    rw [guL]
    split
    · simp
    · split
      · simp
      · have := ih (k + 1) (acc + (x.toNat - 128) * 128 ^ k)
        simp; omega
theorem guL_lt (s : List UInt8) : ∀ k acc, k ≤ 9 → acc < 128 ^ k → (guL k s acc).1 < 18446744073709551616 := by
  induction s with
  | nil => intro k acc _ _; simp [guL]
  | cons x r ih =>
    intro k acc hk ha
    have h9 : (128 : Nat) ^ 9 = 9223372036854775808 := by decide
    rw [guL]
    split
    · simp
    · rename_i h1
      split
      · rename_i h2
        by_cases h : k = 9
        · subst h
          simp only
          rw [h9] at ha ⊢
          omega
        · have hp : (128 : Nat) ^ (k + 1) ≤ 128 ^ 9 := Nat.pow_le_pow_right (by omega) (by omega)
          have hm : x.toNat * 128 ^ k ≤ 127 * 128 ^ k := Nat.mul_le_mul_right _ (by omega)
          rw [Nat.pow_succ] at hp
          simp only
          omega
      · rename_i h2
        by_cases h : k = 9
        · omega
        · apply ih _ _ (by omega)
          have hm : (x.toNat - 128) * 128 ^ k ≤ 127 * 128 ^ k := Nat.mul_le_mul_right _ (by have := x.toNat_lt; omega)
          rw [Nat.pow_succ]
          omega

theorem gu_err (l : List UInt8) (a : Int) (h : (gu l a).2.2 ≠ 0) : (gu l a).1 = 0 ∧ (gu l a).2.1 = 0 := by
  unfold gu at h ⊢
  split
  · exact ⟨rfl, rfl⟩
  · rename_i h1
    rw [if_neg h1] at h
    split
    · rename_i h2; rw [if_pos h2] at h; exact absurd rfl h
    · exact ⟨rfl, rfl⟩
theorem gu_next (l : List UInt8) (a : Int) : (gu l a).2.1 ≤ l.length := by
  unfold gu
  split
  · simp
  · split
    · have := guL_next (l.drop a.toNat) 0 0
      rw [List.length_drop] at this
      simp only
      omega
    · simp
theorem gu_lt (l : List UInt8) (a : Int) : (gu l a).1 < 18446744073709551616 := by
  unfold gu
  split
  · simp
  · split
    · exact guL_lt _ 0 0 (by omega) (by simp)
    · simp

/-- the number with a sign at a place -/
def gi (l : List UInt8) (a : Int) : Int × Nat × Nat :=
  (if (gu l a).1 % 2 = 1 then -(((gu l a).1 / 2 : Nat) : Int) - 1 else (((gu l a).1 / 2 : Nat) : Int), (gu l a).2.1, (gu l a).2.2)

/-- the string at a place -/
def gb (l : List UInt8) (a most : Int) : List UInt8 × Nat × Nat :=
  if (gu l a).2.2 ≠ 0 then ([], 0, (gu l a).2.2)
  else if most < 0 ∨ most < ((gu l a).1 : Int) then ([], 0, 3)
  else if l.length - (gu l a).2.1 < (gu l a).1 then ([], 0, 11)
  else ((l.drop (gu l a).2.1).take (gu l a).1, (gu l a).2.1 + (gu l a).1, 0)

theorem uv_len_lt (n : Nat) : n < 128 ^ (uv n).length := by
  induction n using Nat.strongRecOn with
  | ind n ih =>
    by_cases h : n < 128
    · rw [uv_len_small n h]; simpa using h
    · have := ih (n / 128) (by omega)
      rw [uv_len_big n (by omega), Nat.pow_succ]
      omega
theorem uv_len_mono {n m : Nat} (h : n ≤ m) : (uv n).length ≤ (uv m).length := by
  have h1 := uv_len_lt m
  have h2 := uv_pos m
  have h3 := uv_len_le ((uv m).length - 1) n (by rw [Nat.sub_add_cancel h2]; omega)
  omega
/-- the number that bytes come to -/
def uvVal : List UInt8 → Nat
  | [] => 0
  | x :: r => x.toNat % 128 + 128 * uvVal r
theorem uvVal_uv (n : Nat) : uvVal (uv n) = n := by
  induction n using Nat.strongRecOn with
  | ind n ih =>
    by_cases h : n < 128
    · rw [uv_small n h]; simp [uvVal]; omega
    · rw [uv_big n (by omega), uvVal, ih (n / 128) (by omega), UInt8.toNat_ofNat']; omega
theorem uv_inj {n m : Nat} : uv n = uv m ↔ n = m :=
  ⟨fun h => by have := congrArg uvVal h; rwa [uvVal_uv, uvVal_uv] at this, fun h => by rw [h]⟩
/-- all sevens are full -/
theorem uv_full (n : Nat) : ((uv n)[(uv n).length - 1]? = some 127 ∧ ∀ j, j < (uv n).length - 1 → (uv n)[j]? = some 255) ↔ n + 1 = 128 ^ (uv n).length := by
  induction n using Nat.strongRecOn with
  | ind n ih =>
    by_cases h : n < 128
    · rw [uv_small n h]
      simp only [List.length_cons, List.length_nil]
      constructor
      · intro ⟨h1, _⟩
        simp at h1
        have := congrArg UInt8.toNat h1
        simp at this; omega
      · intro h1
        have : n = 127 := by omega
        subst this
        exact ⟨rfl, fun j hj => by omega⟩
    · have hl := uv_len_big n (by omega)
      have hp := uv_pos (n / 128)
      have hx : (UInt8.ofNat (128 + n % 128) = 255) ↔ n % 128 = 127 := by
        constructor
        · intro h1
          have := congrArg UInt8.toNat h1
          simp at this; omega
        · intro h1; rw [h1]; rfl
      have key : ((uv n)[(uv n).length - 1]? = some 127 ∧ ∀ j, j < (uv n).length - 1 → (uv n)[j]? = some 255) ↔
          (n % 128 = 127 ∧ ((uv (n / 128))[(uv (n / 128)).length - 1]? = some 127 ∧ ∀ j, j < (uv (n / 128)).length - 1 → (uv (n / 128))[j]? = some 255)) := by
        rw [hl]
        obtain ⟨q, hq⟩ : ∃ q, (uv (n / 128)).length = q + 1 := ⟨(uv (n / 128)).length - 1, by omega⟩
        rw [hq, uv_big n (by omega)]
        simp only [Nat.add_sub_cancel, List.getElem?_cons_succ]
        constructor
        · intro ⟨h1, h2⟩
          refine ⟨?_, h1, fun j hj => ?_⟩
          · have := h2 0 (by omega)
            rw [List.getElem?_cons_zero] at this; exact hx.1 (Option.some.inj this)
          · have := h2 (j + 1) (by omega)
            simpa using this
        · intro ⟨h1, h2, h3⟩
          refine ⟨h2, fun j hj => ?_⟩
          cases j with
          | zero => rw [List.getElem?_cons_zero, hx.2 h1]
          | succ j => simpa using h3 j (by omega)
      rw [key, ih (n / 128) (by omega), hl, Nat.pow_succ]
      omega
theorem uv_next_full (n : Nat) (h : n + 1 = 128 ^ (uv n).length) : (uv (n + 1)).length = (uv n).length + 1 := by
  have h1 := uv_len_ge (uv n).length (n + 1) (by omega)
  have h2 := uv_len_le (uv n).length (n + 1) (by rw [Nat.pow_succ]; have := uv_pos n; omega)
  omega
theorem uv_next_not (n : Nat) (h : n + 1 ≠ 128 ^ (uv n).length) : (uv (n + 1)).length = (uv n).length := by
  have h1 := uv_len_mono (n := n) (m := n + 1) (by omega)
  have h2 := uv_len_lt n
  have h3 := uv_pos n
  have h4 := uv_len_le ((uv n).length - 1) (n + 1) (by rw [Nat.sub_add_cancel h3]; omega)
  omega

/-- what is written is read -/
theorem guL_uv (rest : List UInt8) (n : Nat) : ∀ k acc, k ≤ 9 → n * 128 ^ k < 18446744073709551616 → (0 < k → n ≠ 0) →
    guL k (uv n ++ rest) acc = (acc + n * 128 ^ k, k + (uv n).length, 0) := by
  induction n using Nat.strongRecOn with
  | ind n ih =>
    intro k acc hk hn h0
    have h9 : (128 : Nat) ^ 9 = 9223372036854775808 := by decide
    by_cases h : n < 128
    · have hx : (UInt8.ofNat n).toNat = n := by rw [UInt8.toNat_ofNat']; omega
      rw [uv_small n h, List.cons_append, guL, hx, if_neg, if_pos h]
      · rfl
      · rintro (⟨rfl, h1⟩ | ⟨h1, h2⟩)
        · rw [h9] at hn; omega
        · exact h0 h2 h1
    · have hx : (UInt8.ofNat (128 + n % 128)).toNat = 128 + n % 128 := by rw [UInt8.toNat_ofNat']; omega
      have hk8 : k ≤ 8 := by
        apply Classical.byContradiction
        intro hc
        obtain rfl : k = 9 := by omega
        rw [h9] at hn; omega
      have hp : 0 < 128 ^ k := Nat.pow_pos (by omega)
      have hsplit : n * 128 ^ k = n % 128 * 128 ^ k + n / 128 * 128 ^ (k + 1) := by
        rw [Nat.pow_succ, Nat.mul_comm (128 ^ k) 128, ← Nat.mul_assoc, ← Nat.add_mul]
        congr 1; omega
      rw [uv_big n (by omega), List.cons_append, guL, hx, if_neg (by omega), if_neg (by omega), ih (n / 128) (by omega) (k + 1) _ (by omega) (by rw [hsplit] at hn; omega) (fun _ => by omega)]
      rw [List.length_cons, hsplit]
      simp only [Nat.add_sub_cancel_left, Prod.mk.injEq, and_true]
      constructor <;> omega

theorem gu_uv (pre rest : List UInt8) (n : Nat) (a : Int) (hn : n < 18446744073709551616) (ha : a = (pre.length : Int)) : gu (pre ++ (uv n ++ rest)) a = (n, pre.length + (uv n).length, 0) := by
  subst ha
  unfold gu
  rw [if_neg (by simp; omega), Int.toNat_natCast, List.drop_left, guL_uv rest n 0 0 (by omega) (by simpa using hn) (by omega)]
  simp
theorem gu_uv0 (n : Nat) (hn : n < 18446744073709551616) : gu (uv n) 0 = (n, (uv n).length, 0) := by
  have := gu_uv [] [] n 0 hn rfl
  simpa using this

/-- what a number without a sign stands for -/
def unzz (n : Nat) : Int := if n % 2 = 1 then -((n / 2 : Nat) : Int) - 1 else ((n / 2 : Nat) : Int)
theorem zz_unzz (n : Nat) : zz (unzz n) = n := by unfold zz unzz; split <;> split <;> omega
theorem unzz_zz (i : Int) : unzz (zz i) = i := by unfold unzz zz; split <;> split <;> omega
theorem zz_inj {i k : Int} : zz i = zz k ↔ i = k := ⟨fun h => by rw [← unzz_zz i, h, unzz_zz], fun h => by rw [h]⟩
theorem zz_lt (i : Int) (h1 : -9223372036854775808 ≤ i) (h2 : i ≤ 9223372036854775807) : zz i < 18446744073709551616 := by unfold zz; split <;> omega
theorem unzz_range (n : Nat) (h : n < 18446744073709551616) : -9223372036854775808 ≤ unzz n ∧ unzz n ≤ 9223372036854775807 := by unfold unzz; split <;> omega
theorem unzz_neg (n : Nat) : unzz n < 0 ↔ n % 2 = 1 := by unfold unzz; split <;> omega
theorem gi_of_gu (l : List UInt8) (a : Int) : gi l a = (unzz (gu l a).1, (gu l a).2.1, (gu l a).2.2) := rfl
theorem gi_uv0 (n : Nat) (hn : n < 18446744073709551616) : gi (uv n) 0 = (unzz n, (uv n).length, 0) := by rw [gi_of_gu, gu_uv0 n hn]
theorem zz_near {i k : Int} (h : i.natAbs < k.natAbs) : zz i ≤ zz k := by unfold zz; split <;> split <;> omega

end Go.Proofs.Ytphjmbhlokkdiaa
