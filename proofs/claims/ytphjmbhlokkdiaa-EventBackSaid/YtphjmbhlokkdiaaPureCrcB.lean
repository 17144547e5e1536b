import Derived.Test.YtphjmbhlokkdiaaPureCrc
/- Plain mathematics: the register's steps are linear and lose nothing. -/
namespace Go.Proofs.Ytphjmbhlokkdiaa
set_option linter.unusedSimpArgs false

theorem crcStep_xor (a b : BitVec 32) : crcStep (a ^^^ b) = crcStep a ^^^ crcStep b := by
  unfold crcStep
  rw [BitVec.getLsbD_xor]
  cases a.getLsbD 0 <;> cases b.getLsbD 0 <;> apply BitVec.eq_of_getLsbD_eq <;> intro i hi <;>
    simp [BitVec.getLsbD_xor, BitVec.getLsbD_ushiftRight] <;>
    cases a.getLsbD (1 + i) <;> cases b.getLsbD (1 + i) <;> simp
theorem crcStep_zero : crcStep 0#32 = 0#32 := by decide
theorem crcStep_eq_zero {a : BitVec 32} (h : crcStep a = 0#32) : a = 0#32 := by
  have h31 : (crcStep a).getLsbD 31 = false := by rw [h]; simp
  have h0 : a.getLsbD 0 = false := by
    unfold crcStep at h31
    cases h0 : a.getLsbD 0
    · rfl
    · rw [h0] at h31
      simp at h31
  unfold crcStep at h
  rw [h0] at h
  apply BitVec.eq_of_getLsbD_eq
  intro i hi
  cases i with
  | zero => rw [h0]; simp
  | succ i =>
    have h2 := congrArg (fun r => r.getLsbD i) h
    simp [BitVec.getLsbD_ushiftRight] at h2
    rw [Nat.add_comm] at h2
    rw [h2]; simp
theorem crcSteps_xor (n : Nat) : ∀ a b, crcSteps n (a ^^^ b) = crcSteps n a ^^^ crcSteps n b := by
  induction n with
  | zero => intro a b; rfl
  | succ n ih => intro a b; rw [crcSteps, crcSteps, crcSteps, crcStep_xor, ih]
theorem crcSteps_zero (n : Nat) : crcSteps n 0#32 = 0#32 := by
  induction n with
  | zero => rfl
  | succ n ih => rw [crcSteps, crcStep_zero, ih]
theorem crcSteps_eq_zero (n : Nat) : ∀ {a}, crcSteps n a = 0#32 → a = 0#32 := by
  induction n with
  | zero => intro a h; exact h
  | succ n ih => intro a h; exact crcStep_eq_zero (ih h)
theorem crcSteps_add (m n : Nat) : ∀ a, crcSteps (m + n) a = crcSteps n (crcSteps m a) := by
  induction m with
  | zero => intro a; rw [Nat.zero_add]; rfl
  | succ m ih => intro a; rw [Nat.succ_add, crcSteps, crcSteps, ih]
theorem xor_swap (a b c : BitVec 32) : a ^^^ b ^^^ c = a ^^^ c ^^^ b := by
  rw [BitVec.xor_assoc, BitVec.xor_comm b c, BitVec.xor_assoc]
theorem crcPush_xor (a b : BitVec 32) (x : UInt8) : crcPush (a ^^^ b) x = crcPush a x ^^^ crcSteps 8 b := by
  unfold crcPush; rw [xor_swap, crcSteps_xor]
theorem crcReg_xor (l : List UInt8) : ∀ a b, crcReg (a ^^^ b) l = crcReg a l ^^^ crcSteps (8 * l.length) b := by
  induction l with
  | nil => intro a b; rfl
  | cons x l ih =>
    intro a b
    show crcReg (crcPush (a ^^^ b) x) l = crcReg (crcPush a x) l ^^^ _
    rw [crcPush_xor, ih, List.length_cons, Nat.mul_add, Nat.add_comm, crcSteps_add]
theorem xor_not (a b : BitVec 32) : (~~~ a) ^^^ (~~~ b) = a ^^^ b := by
  apply BitVec.eq_of_getLsbD_eq; intro i hi
  simp [hi]
theorem xor_eq_zero {a b : BitVec 32} : a ^^^ b = 0#32 ↔ a = b := by
  constructor
  · intro h
    have : a ^^^ b ^^^ b = 0#32 ^^^ b := by rw [h]
    rwa [BitVec.xor_assoc, BitVec.xor_self, BitVec.xor_zero, BitVec.zero_xor] at this
  · intro h; rw [h, BitVec.xor_self]
theorem not_inj {a b : BitVec 32} (h : ~~~ a = ~~~ b) : a = b := by
  rw [← xor_eq_zero, ← xor_not, h, BitVec.xor_self]
/-- how the checks of two wholes differ that go on alike: by steps of how the begins' differ -/
theorem crc_behind (a b c : List UInt8) : crc (a ++ c) ^^^ crc (b ++ c) = crcSteps (8 * c.length) (crc a ^^^ crc b) := by
  unfold crc
  rw [xor_not, xor_not, crcReg_append, crcReg_append]
  have h := crcReg_xor c (crcReg 4294967295#32 b) (crcReg 4294967295#32 a ^^^ crcReg 4294967295#32 b)
  rw [BitVec.xor_comm, BitVec.xor_assoc, BitVec.xor_self, BitVec.xor_zero] at h
  rw [h, xor_swap, BitVec.xor_self, BitVec.zero_xor]
theorem crc_behind_same (a b c d : List UInt8) (h : c.length = d.length) : crc (a ++ c) ^^^ crc (b ++ c) = crc (a ++ d) ^^^ crc (b ++ d) := by
  rw [crc_behind, crc_behind, h]
theorem crc_behind_zero (a b c : List UInt8) : crc (a ++ c) ^^^ crc (b ++ c) = 0#32 ↔ crc a = crc b := by
  rw [crc_behind]
  constructor
  · intro h; exact xor_eq_zero.1 (crcSteps_eq_zero _ h)
  · intro h; rw [h, BitVec.xor_self, crcSteps_zero]

end Go.Proofs.Ytphjmbhlokkdiaa
