import Derived.Test.YtbnifagmbhiblaaProg
import Derived.Test.YtbnifagmbhiblaaPureCrc
import Derived.Test.YtbnifagmbhiblaaWords
namespace Go.Proofs.Ytbnifagmbhiblaa
open Go.RowKit

theorem wrap_u32_nat (n : Nat) (h : n < 4294967296) : IntKind.wrap .u32 (n : Int) = n := by
  simp [IntKind.wrap, IntKind.bits, IntKind.signed]; omega
theorem bits_xor32 (a b : BitVec 32) : Go.bits .xor .u32 (a.toNat : Int) (b.toNat : Int) = ((a ^^^ b).toNat : Int) := by
  have h : Go.bits .xor .u32 (a.toNat : Int) (b.toNat : Int) = IntKind.wrap .u32 (((BitVec.ofInt 32 a.toNat ^^^ BitVec.ofInt 32 b.toNat).toNat : Nat) : Int) := rfl
  rw [h, BitVec.ofInt_natCast, BitVec.ofInt_natCast, BitVec.ofNat_toNat, BitVec.ofNat_toNat, BitVec.setWidth_eq, BitVec.setWidth_eq, wrap_u32_nat _ (a ^^^ b).isLt]
theorem bits_xor32_byte (a : BitVec 32) (b : UInt8) : Go.bits .xor .u32 (a.toNat : Int) ((b.toNat : Int) % 4294967296) = ((a ^^^ b.toBitVec.setWidth 32).toNat : Int) := by
  have h : ((b.toNat : Int) % 4294967296) = ((b.toBitVec.setWidth 32).toNat : Int) := by
    have := b.toNat_lt; simp; try omega
  rw [h, bits_xor32]
theorem bits_and1 (a : BitVec 32) : Go.bits .and .u32 (a.toNat : Int) 1 = if a.getLsbD 0 then 1 else 0 := by
  have h : Go.bits .and .u32 (a.toNat : Int) 1 = IntKind.wrap .u32 (((BitVec.ofInt 32 a.toNat &&& BitVec.ofInt 32 1).toNat : Nat) : Int) := rfl
  rw [h, BitVec.ofInt_natCast, BitVec.ofNat_toNat, BitVec.setWidth_eq, wrap_u32_nat _ (_ : BitVec 32).isLt]
  have h2 : (a &&& BitVec.ofInt 32 1) = if a.getLsbD 0 then 1#32 else 0#32 := by
    rw [show BitVec.ofInt 32 1 = 1#32 from rfl]
    ext i hi
    by_cases h0 : i = 0
    · subst h0; cases h : a.getLsbD 0 <;> simp_all
    · cases h : a.getLsbD 0 <;> simp [h0]
  rw [h2]; split <;> simp
theorem bits_not32 (a : BitVec 32) : Go.bits .xor .u32 (IntKind.max .u32) (a.toNat : Int) = ((~~~ a).toNat : Int) := by
  have e : IntKind.max .u32 = ((4294967295#32 : BitVec 32).toNat : Int) := by decide
  rw [e, bits_xor32]; congr 2
theorem shr1_nat (a : BitVec 32) : (a.toNat : Int) / (2 : Int) = ((a >>> 1).toNat : Int) := by
  simp [Nat.shiftRight_eq_div_pow]
theorem crcStep_odd (q : BitVec 32) (h : q.getLsbD 0 = true) : Go.bits .xor .u32 ((q.toNat : Int) / 2) 3988292384 = ((crcStep q).toNat : Int) := by
  have e : (3988292384 : Int) = ((0xEDB88320#32 : BitVec 32).toNat : Int) := by decide
  rw [shr1_nat, e, bits_xor32, crcStep, if_pos h]
theorem crcStep_even (q : BitVec 32) (h : ¬ q.getLsbD 0 = true) : (q.toNat : Int) / 2 = ((crcStep q).toNat : Int) := by
  rw [shr1_nat, crcStep, if_neg h]; simp

set_option maxHeartbeats 400000 in
theorem push_any (r : BitVec 32) (x : UInt8) (w : World) :
    Calls Try.prog 56 #[.int .u32 (r.toNat : Int), .int .u8 (x.toNat : Int)] w fun e w' => e = .returned (.int .u32 ((crcPush r x).toNat : Int)) ∧ w = w' := by
  have hx := bits_xor32_byte r x
  go_enter Try.func56, Try.ntmps56
  go_wp2
  clear hx
  go_loop [0, 10] (fun v i => ∃ k : Nat, k ≤ 8 ∧ i = .int .i64 k ∧ v = .int .u32 ((crcSteps k (r ^^^ x.toBitVec.setWidth 32)).toNat : Int)) (fun _ i => 8 - (intOf i).toNat)
  case atStart => exact ⟨0, by omega, rfl, rfl⟩
  case round =>
    obtain ⟨k, hk, rfl, rfl⟩ := hrel
    obtain ⟨q, hq⟩ : ∃ q, q = crcSteps k (r ^^^ x.toBitVec.setWidth 32) := ⟨_, rfl⟩
    rw [← hq]
    have Hq := Lib.hid hq; clear hq
    have ha := bits_and1 q
    by_cases h0 : q.getLsbD 0 = true
    · rw [if_pos h0] at ha
      have H0 := Lib.hid h0; clear h0
      go_wp2
      · go_round
        case rel => exact ⟨k + 1, by omega, by go_num, by rw [crcSteps_succ', ← Hq.out, crcStep_odd q H0.out]⟩
        case measure => simp [intOf]; omega
      · go_ret
        obtain rfl : k = 8 := by omega
        exact ⟨by rw [Hq.out]; rfl, rfl⟩
    · rw [if_neg h0] at ha
      have H0 := Lib.hid h0; clear h0
      go_wp2
      · go_round
        case rel => exact ⟨k + 1, by omega, by go_num, by rw [crcSteps_succ', ← Hq.out, crcStep_even q H0.out]⟩
        case measure => simp [intOf]; omega
      · go_ret
        obtain rfl : k = 8 := by omega
        exact ⟨by rw [Hq.out]; rfl, rfl⟩

set_option maxHeartbeats 400000 in
theorem crc_any (A : Option Addr) (n c : Nat) (l : List UInt8) (w : World) (hs : Sl w 1 A n c (bytesV l)) (hl : n ≤ 140737488351232) :
    Calls Try.prog 23 #[.slice A n c] w fun e w' => e = .returned (.int .u32 ((crc l).toNat : Int)) ∧ w = w' := by
  have hr := hs.byte
  obtain rfl := hs.blen
  clear hs
  go_enter Try.func23, Try.ntmps23
  go_wp2
  go_loop [3, 8] (fun v i => ∃ k : Nat, k ≤ l.length ∧ i = .int .i64 k ∧ v = .int .u32 ((crcReg 4294967295#32 (l.take k)).toNat : Int)) (fun _ i => l.length - (intOf i).toNat)
  case atStart => exact ⟨0, by omega, rfl, rfl⟩
  case round =>
    obtain ⟨k, hk, rfl, rfl⟩ := hrel
    by_cases hlt : k < l.length
    · obtain ⟨ad, rfl, hc⟩ := hr k hlt
      go_wp2_with (go_at_call 56; refine (push_any _ _ _).mono ?_; rintro e w' ⟨rfl, rfl⟩)
      go_round
      case rel => exact ⟨k + 1, by omega, by go_num, by rw [List.take_succ_eq_append_getElem hlt, crcReg_snoc]⟩
      case measure => simp [intOf]; omega
    · have hk' : k = l.length := by omega
      go_wp2
      go_ret
      exact ⟨ret_int (bits_not32 _), rfl⟩
end Go.Proofs.Ytbnifagmbhiblaa
