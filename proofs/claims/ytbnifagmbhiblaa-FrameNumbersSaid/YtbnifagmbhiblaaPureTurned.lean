import Derived.Test.YtbnifagmbhiblaaPureFrame
/- Plain mathematics: up to four bytes next to each other that are others. -/
namespace Go.Proofs.Ytbnifagmbhiblaa
set_option linter.unusedSimpArgs false

theorem crcStep_shl (v : BitVec 32) (h : v.getLsbD 31 = false) : crcStep (v <<< 1) = v := by
  unfold crcStep
  have h0 : (v <<< 1).getLsbD 0 = false := by simp
  rw [h0, if_neg (by simp), BitVec.xor_zero]
  apply BitVec.eq_of_getLsbD_eq
  intro i hi
  rw [BitVec.getLsbD_ushiftRight, BitVec.getLsbD_shiftLeft, show 1 + i - 1 = i by omega]
  by_cases h31 : i = 31
  · subst h31; rw [h]; simp
  · simp only [show 1 + i < 32 by omega, show ¬ 1 + i < 1 by omega]; simp
theorem crcSteps_shl (n : Nat) : ∀ (j : Nat) (v : BitVec 32), (∀ m, 32 - j ≤ m → v.getLsbD m = false) → j ≤ 32 → crcSteps (n + j) (v <<< j) = crcSteps n v := by
  intro j
  induction j with
  | zero => intro v _ _; rw [BitVec.shiftLeft_zero]; rfl
  | succ j ih =>
    intro v hv hj
    rw [← Nat.add_assoc, crcSteps, show v <<< (j + 1) = (v <<< j) <<< 1 from BitVec.shiftLeft_add _ _ _, crcStep_shl _ ?_, ih v (fun m hm => hv m (by omega)) (by omega)]
    rw [BitVec.getLsbD_shiftLeft]
    by_cases h : 31 < j
    · omega
    · rw [hv (31 - j) (by omega)]; simp

/-- bytes that are others, as one number -/
def accB (ys : List UInt8) : Nat → BitVec 32
  | 0 => 0#32
  | i + 1 => accB ys i ^^^ ((ys.getD i 0).toBitVec.setWidth 32 <<< (8 * i))
theorem wide_hi (y : UInt8) (m : Nat) (h : 8 ≤ m) : (y.toBitVec.setWidth 32).getLsbD m = false := by
  rw [BitVec.getLsbD_setWidth]
  rw [BitVec.getLsbD_of_ge _ _ h]; simp
theorem accB_hi (ys : List UInt8) : ∀ i m, 8 * i ≤ m → (accB ys i).getLsbD m = false := by
  intro i
  induction i with
  | zero => intro m _; simp [accB]
  | succ i ih =>
    intro m hm
    rw [accB, BitVec.getLsbD_xor, ih m (by omega), BitVec.getLsbD_shiftLeft, wide_hi _ _ (by omega)]
    simp
theorem accB_zero (ys : List UInt8) (i : Nat) (hi : i < 4) : accB ys (i + 1) = 0#32 ↔ accB ys i = 0#32 ∧ ys.getD i 0 = 0 := by
  constructor
  · intro h
    have h1 : accB ys i = (ys.getD i 0).toBitVec.setWidth 32 <<< (8 * i) := xor_eq_zero.1 h
    have h2 : accB ys i = 0#32 := by
      apply BitVec.eq_of_getLsbD_eq
      intro m hm
      by_cases hlt : m < 8 * i
      · rw [h1, BitVec.getLsbD_shiftLeft]; simp [hlt]
      · rw [accB_hi ys i m (by omega)]; simp
    refine ⟨h2, ?_⟩
    rw [h2] at h1
    apply UInt8.toNat_inj.1
    apply Nat.eq_of_testBit_eq
    intro m
    by_cases hm : m < 8
    · have h3 := congrArg (fun r => r.getLsbD (8 * i + m)) h1
      simp only [BitVec.getLsbD_shiftLeft, BitVec.getLsbD_setWidth] at h3
      rw [show 8 * i + m - 8 * i = m by omega] at h3
      simp [show 8 * i + m < 32 by omega, show m < 32 by omega] at h3
      have h4 : (ys.getD i 0).toBitVec.getLsbD m = false := by
        simpa using h3.symm
      rw [BitVec.getLsbD] at h4
      simpa using h4
    · have := (ys.getD i 0).toNat_lt
      rw [Nat.testBit_lt_two_pow (Nat.lt_of_lt_of_le this (Nat.pow_le_pow_right (by omega) (show 8 ≤ m by omega)))]
      simp
  · rintro ⟨h1, h2⟩
    rw [accB, h1, h2]; simp

theorem crc_byte (r : BitVec 32) (l : List UInt8) (k : Nat) (x y : UInt8) (hk : l[k]? = some x) :
    crcReg r (l.set k (x ^^^ y)) = crcReg r l ^^^ crcSteps (8 * (l.length - k)) (y.toBitVec.setWidth 32) := by
  have hkl : k < l.length := (List.getElem?_eq_some_iff.1 hk).1
  have hx : l[k] = x := (List.getElem?_eq_some_iff.1 hk).2
  have e1 : l = l.take k ++ x :: l.drop (k + 1) := by rw [← hx, List.getElem_cons_drop, List.take_append_drop]
  have e2 : l.set k (x ^^^ y) = l.take k ++ (x ^^^ y) :: l.drop (k + 1) := by
    rw [List.set_eq_take_append_cons_drop, if_pos hkl]
  have e3 : crcReg r l = crcReg (crcPush (crcReg r (l.take k)) x) (l.drop (k + 1)) := by
    conv => lhs; rw [e1]
    rw [crcReg_append]; rfl
  have e4 : crcReg r (l.set k (x ^^^ y)) = crcReg (crcPush (crcReg r (l.take k)) (x ^^^ y)) (l.drop (k + 1)) := by
    rw [e2, crcReg_append]; rfl
  have e5 : crcPush (crcReg r (l.take k)) (x ^^^ y) = crcPush (crcReg r (l.take k)) x ^^^ crcSteps 8 (y.toBitVec.setWidth 32) := by
    unfold crcPush
    rw [show (x ^^^ y).toBitVec.setWidth 32 = x.toBitVec.setWidth 32 ^^^ y.toBitVec.setWidth 32 by rw [UInt8.toBitVec_xor, BitVec.setWidth_xor], ← BitVec.xor_assoc, crcSteps_xor]
  rw [e4, e3, e5, crcReg_xor, ← crcSteps_add, List.length_drop]
  congr 2
  omega

/-- how far the change of bytes has come -/
def SeenB (b : List UInt8) (at_ : Nat) (ys : List UInt8) (i : Nat) (xs : List UInt8) : Prop :=
  xs.length = b.length ∧ crcReg 4294967295#32 xs = crcReg 4294967295#32 b ^^^ crcSteps (8 * (b.length - at_)) (accB ys i)
theorem seenB_zero (b : List UInt8) (at_ : Nat) (ys : List UInt8) : SeenB b at_ ys 0 b := ⟨rfl, by simp [accB, crcSteps_zero]⟩
theorem seenB_step {b : List UInt8} {at_ : Nat} {ys : List UInt8} {i : Nat} {xs : List UInt8} (h : SeenB b at_ ys i xs) (hi : i < 4) (hf : at_ + i < b.length)
    {x : UInt8} (hx : xs[at_ + i]? = some x) : SeenB b at_ ys (i + 1) (xs.set (at_ + i) (x ^^^ ys.getD i 0)) := by
  obtain ⟨h1, h2⟩ := h
  refine ⟨by simpa using h1, ?_⟩
  rw [crc_byte _ _ _ _ _ hx, h2, BitVec.xor_assoc, accB, crcSteps_xor]
  congr 2
  rw [h1, show 8 * (b.length - at_) = 8 * (b.length - (at_ + i)) + 8 * i by omega]
  exact (crcSteps_shl _ (8 * i) _ (fun m hm => wide_hi _ _ (by omega)) (by omega)).symm
theorem seenB_end {b : List UInt8} {at_ : Nat} {ys : List UInt8} {i : Nat} {xs : List UInt8} (h : SeenB b at_ ys i xs) : crc xs = crc b ↔ accB ys i = 0#32 := by
  have h2 := h.2
  unfold crc
  constructor
  · intro he
    rw [not_inj he] at h2
    have h3 : crcReg 4294967295#32 b ^^^ crcReg 4294967295#32 b = crcReg 4294967295#32 b ^^^ (crcReg 4294967295#32 b ^^^ crcSteps (8 * (b.length - at_)) (accB ys i)) := by rw [← h2]
    rw [← BitVec.xor_assoc, BitVec.xor_self, BitVec.zero_xor] at h3
    exact crcSteps_eq_zero _ h3.symm
  · intro he
    rw [he, crcSteps_zero, BitVec.xor_zero] at h2
    rw [h2]

/-- what is read of a frame whose check, or last byte, is any -/
theorem fg_put (b rest : List UInt8) (d : BitVec 32) (z : UInt8) (h0 : 0 < b.length) (h1 : b.length ≤ 1048576) :
    (fg (uv b.length ++ (b ++ (crc4 d ++ (z :: rest)))) 0).2.2 = if z = 165 then (if crc b = d then 0 else 12) else 10 := by
  have hg : gu (uv b.length ++ (b ++ (crc4 d ++ (z :: rest)))) 0 = (b.length, (uv b.length).length, 0) := by
    have := gu_uv [] (b ++ (crc4 d ++ (z :: rest))) b.length 0 (by omega) rfl
    simpa using this
  obtain ⟨u, hu⟩ : ∃ u, u = uv b.length := ⟨_, rfl⟩
  rw [← hu] at hg ⊢
  have hl : (u ++ (b ++ (crc4 d ++ (z :: rest)))).length = u.length + b.length + 5 + rest.length := by
    simp [crc4_len]; omega
  unfold fg
  rw [hg]
  simp only
  rw [if_neg (by simp), if_neg (by omega), if_neg (by rw [hl]; omega)]
  have e1 : (u ++ (b ++ (crc4 d ++ (z :: rest)))).drop (u.length + b.length) = crc4 d ++ (z :: rest) := by
    rw [← List.drop_drop, List.drop_left, List.drop_left]
  have e2 : ((u ++ (b ++ (crc4 d ++ (z :: rest)))).take (u.length + b.length)).drop u.length = b := by
    rw [List.drop_take, List.drop_left, Nat.add_sub_cancel_left, List.take_left]
  have e3 : (u ++ (b ++ (crc4 d ++ (z :: rest))))[u.length + b.length + 4]? = some z := by
    rw [← List.getElem?_drop, e1]; rfl
  rw [e1, e2, e3, List.take_left' (crc4_len _)]
  by_cases hz : z = 165
  · subst hz
    rw [if_neg (by simp), if_pos rfl]
    by_cases hc : crc b = d
    · rw [if_neg (by rw [hc]; simp), if_pos hc]
    · rw [if_pos (fun e => hc (crc4_inj e).symm), if_neg hc]
  · rw [if_pos (by simpa using hz), if_neg hz]
end Go.Proofs.Ytbnifagmbhiblaa
