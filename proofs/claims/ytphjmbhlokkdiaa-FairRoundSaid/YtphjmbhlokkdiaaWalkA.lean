import Derived.Test.YtphjmbhlokkdiaaProg
import Derived.Test.YtphjmbhlokkdiaaPureCrc
import Derived.Test.YtphjmbhlokkdiaaWords
namespace Go.Proofs.Ytphjmbhlokkdiaa
open Go.RowKit

theorem wrap_u32_nat (n : Nat) (h : n < 4294967296) : IntKind.wrap .u32 (n : Int) = n := by
  simp [IntKind.wrap, IntKind.bits, IntKind.signed]; omega
theorem bits_xor32 (a b : BitVec 32) : Go.bits .xor .u32 (a.toNat : Int) (b.toNat : Int) = ((a ^^^ b).toNat : Int) := by
  have h : Go.bits .xor .u32 (a.toNat : Int) (b.toNat : Int) = IntKind.wrap .u32 (((BitVec.ofInt 32 a.toNat ^^^ BitVec.ofInt 32 b.toNat).toNat : Nat) : Int) := rfl
  rw [h, BitVec.ofInt_natCast, BitVec.ofInt_natCast, BitVec.ofNat_toNat, BitVec.ofNat_toNat, BitVec.setWidth_eq, BitVec.setWidth_eq, wrap_u32_nat _ (a ^^^ b).isLt]
theorem bits_xor32_byte (a : BitVec 32) (b : UInt8) : Go.bits .xor .u32 (a.toNat : Int) ((b.toNat : Int) % 4294967296) = ((a ^^^ b.toBitVec.setWidth 32).toNat : Int) := by
  have h : ((b.toNat : Int) % 4294967296) = ((b.toBitVec.setWidth 32).toNat : Int) := by
    have := b.toNat_lt; simp; try omega
  rw [h, bits_xor32]
theorem bits_and1 (a : BitVec 32) : Go.bits .and .u32 (a.toNat : Int) 1 = if a.getLsbD 0 then 1 else 0 := by
  have h : Go.bits .and .u32 (a.toNat : Int) 1 = IntKind.wrap .u32 (((BitVec.ofInt 32 a.toNat &&& BitVec.ofInt 32 1).toNat : Nat) : Int) := rfl
  rw [h, BitVec.ofInt_natCast, BitVec.ofNat_toNat, BitVec.setWidth_eq, wrap_u32_nat _ (_ : BitVec 32).isLt]
  have h2 : (a &&& BitVec.ofInt 32 1) = if a.getLsbD 0 then 1#32 else 0#32 := by
    rw [show BitVec.ofInt 32 1 = 1#32 from rfl]
    ext i hi
    by_cases h0 : i = 0
    · subst h0; cases h : a.getLsbD 0 <;> simp_all
    · cases h : a.getLsbD 0 <;> simp [h0]
  rw [h2]; split <;> simp
theorem bits_not32 (a : BitVec 32) : Go.bits .xor .u32 (IntKind.max .u32) (a.toNat : Int) = ((~~~ a).toNat : Int) := by
  have e : IntKind.max .u32 = ((4294967295#32 : BitVec 32).toNat : Int) := by decide
  rw [e, bits_xor32]; congr 2
theorem shr1_nat (a : BitVec 32) : (a.toNat : Int) / (2 : Int) = ((a >>> 1).toNat : Int) := by
  simp [Nat.shiftRight_eq_div_pow]
theorem crcStep_odd (q : BitVec 32) (h : q.getLsbD 0 = true) : Go.bits .xor .u32 ((q.toNat : Int) / 2) 3988292384 = ((crcStep q).toNat : Int) := by
  have e : (3988292384 : Int) = ((0xEDB88320#32 : BitVec 32).toNat : Int) := by decide
  rw [shr1_nat, e, bits_xor32, crcStep, if_pos h]
theorem crcStep_even (q : BitVec 32) (h : ¬ q.getLsbD 0 = true) : (q.toNat : Int) / 2 = ((crcStep q).toNat : Int) := by
  rw [shr1_nat, crcStep, if_neg h]; simp

end Go.Proofs.Ytphjmbhlokkdiaa
