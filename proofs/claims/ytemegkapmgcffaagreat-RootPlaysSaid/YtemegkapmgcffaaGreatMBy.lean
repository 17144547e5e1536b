import Derived.Lib.BitFns
import Derived.Lib.ItoaNum
import Derived.Test.YtemegkapmgcffaaGreatProg
import Derived.Test.YtemegkapmgcffaaGreatMWa
import Derived.Test.YtemegkapmgcffaaGreatShelf
import Derived.Deep.QuietTactic
import Derived.BigQuiet
import Derived.Laws.BytesArg
import Derived.Lib.SlBytesConst
import Derived.WalkKit
/- Plain mathematics: the check (CRC-32) of bytes as a register of 32 bits; no program in sight. -/
namespace Go.Proofs.YtemegkapmgcffaaGreat

/-- one step of the register -/
def crcStep (r : BitVec 32) : BitVec 32 := (r >>> 1) ^^^ (if r.getLsbD 0 then 0xEDB88320#32 else 0#32)

/-- so many steps -/
def crcSteps : Nat → BitVec 32 → BitVec 32
  | 0, r => r
  | n + 1, r => crcSteps n (crcStep r)

/-- the register behind a byte -/
def crcPush (r : BitVec 32) (x : UInt8) : BitVec 32 := crcSteps 8 (r ^^^ x.toBitVec.setWidth 32)

/-- the register behind bytes -/
def crcReg (r : BitVec 32) (l : List UInt8) : BitVec 32 := l.foldl crcPush r

/-- the check of bytes -/
def crc (l : List UInt8) : BitVec 32 := ~~~ (crcReg 4294967295#32 l)

theorem crcReg_snoc (r : BitVec 32) (l : List UInt8) (x : UInt8) : crcReg r (l ++ [x]) = crcPush (crcReg r l) x := by
  simp [crcReg]
theorem crcSteps_succ' (n : Nat) : ∀ r, crcSteps (n + 1) r = crcStep (crcSteps n r) := by
  induction n with
  | zero => intro r; rfl
  | succ n ih => intro r; rw [crcSteps, ih, crcSteps]

end Go.Proofs.YtemegkapmgcffaaGreat

/- Plain mathematics: a number without a sign as sevens of bits; no program in sight. -/
namespace Go.Proofs.YtemegkapmgcffaaGreat

/-- a number without a sign as bytes -/
def uv (n : Nat) : List UInt8 :=
  if h : n < 128 then [UInt8.ofNat n] else UInt8.ofNat (128 + n % 128) :: uv (n / 128)
termination_by n
decreasing_by omega

theorem uv_small (n : Nat) (h : n < 128) : uv n = [UInt8.ofNat n] := by rw [uv, dif_pos h]
theorem uv_big (n : Nat) (h : 128 ≤ n) : uv n = UInt8.ofNat (128 + n % 128) :: uv (n / 128) := by rw [uv, dif_neg (by omega)]
theorem uv_pos (n : Nat) : 1 ≤ (uv n).length := by
  rw [uv]; split <;> simp
theorem uv_len_big (n : Nat) (h : 128 ≤ n) : (uv n).length = (uv (n / 128)).length + 1 := by rw [uv_big n h]; simp
theorem uv_len_small (n : Nat) (h : n < 128) : (uv n).length = 1 := by rw [uv_small n h]; rfl
theorem uv_len_one (n : Nat) : (uv n).length = 1 ↔ n < 128 := by
  constructor
  · intro h
    apply Classical.byContradiction
    intro h2
    have := uv_len_big n (by omega)
    have := uv_pos (n / 128)
    omega
  · exact uv_len_small n
theorem uv_len_le (k : Nat) : ∀ n, n < 128 ^ (k + 1) → (uv n).length ≤ k + 1 := by
  induction k with
  | zero => intro n h; rw [uv_len_small n (by simpa using h)]; omega
  | succ k ih =>
    intro n h
    by_cases h1 : n < 128
    · rw [uv_len_small n h1]; omega
    · rw [uv_len_big n (by omega)]
      have := ih (n / 128) (by rw [Nat.pow_succ] at h; exact Nat.div_lt_of_lt_mul (by omega))
      omega
theorem uv_len_ten (n : Nat) (h : n < 18446744073709551616) : (uv n).length ≤ 10 := uv_len_le 9 n (by
  have : (128 : Nat) ^ (9 + 1) = 1180591620717411303424 := by decide
  omega)
theorem uv_len_ge (k : Nat) : ∀ n, 128 ^ k ≤ n → k + 1 ≤ (uv n).length := by
  induction k with
  | zero => intro n _; have := uv_pos n; omega
  | succ k ih =>
    intro n h
    have hp : 0 < 128 ^ k := Nat.pow_pos (by omega)
    have h1 : 128 ≤ n := by rw [Nat.pow_succ] at h; omega
    rw [uv_len_big n h1]
    have := ih (n / 128) (by rw [Nat.le_div_iff_mul_le (by omega)]; rw [Nat.pow_succ] at h; exact h)
    omega

theorem or_one (n : Nat) : n ||| 1 = if n % 2 = 0 then n + 1 else n := by
  apply Nat.eq_of_testBit_eq
  intro i
  rw [Nat.testBit_or]
  cases i with
  | zero => split <;> rename_i h <;> simp [Nat.testBit_zero] <;> omega
  | succ i =>
    split
    · rename_i h
      rw [Nat.testBit_succ, Nat.testBit_succ, Nat.testBit_succ, show (n + 1) / 2 = n / 2 by omega]; simp
    · rw [Nat.testBit_succ, Nat.testBit_succ]; simp

/-- how many rounds the loop has -/
theorem uv_rounds (n : Nat) (h : n < 18446744073709551616) : (Lib.bitLen (n ||| 1) - 1) / 7 + 1 = (uv n).length := by
  have hor : n ||| 1 = if n % 2 = 0 then n + 1 else n := or_one n
  have h0 : n ||| 1 ≠ 0 := by rw [hor]; split <;> omega
  have hlt : n ||| 1 < 2 ^ 64 := by rw [hor]; split <;> omega
  obtain ⟨b1, b2, b3⟩ := Lib.bitLenAux_bounds 64 (n ||| 1) hlt h0
  change 1 ≤ Lib.bitLen (n ||| 1) at b1
  change 2 ^ (Lib.bitLen (n ||| 1) - 1) ≤ n ||| 1 at b2
  change n ||| 1 < 2 ^ Lib.bitLen (n ||| 1) at b3
  obtain ⟨q, hq⟩ : ∃ q, q = Lib.bitLen (n ||| 1) - 1 := ⟨_, rfl⟩
  rw [show Lib.bitLen (n ||| 1) = q + 1 by omega] at b3
  rw [← hq] at b2 ⊢
  have e128 : ∀ k, (128 : Nat) ^ k = 2 ^ (7 * k) := fun k => by rw [Nat.pow_mul]
  apply Nat.le_antisymm
  · by_cases hz : q / 7 = 0
    · rw [hz]; exact uv_pos n
    · apply uv_len_ge
      rw [e128]
      have hp : 2 ^ (7 * (q / 7)) ≤ n ||| 1 := Nat.le_trans (Nat.pow_le_pow_right (by omega) (by omega)) b2
      have he : 2 ^ (7 * (q / 7)) % 2 = 0 := by
        obtain ⟨m, hm⟩ : ∃ m, 7 * (q / 7) = m + 1 := ⟨7 * (q / 7) - 1, by omega⟩
        rw [hm, Nat.pow_succ]; omega
      rw [hor] at hp
      split at hp <;> omega
  · apply uv_len_le
    rw [e128]
    have h2 : 2 ^ (q + 1) ≤ 2 ^ (7 * (q / 7 + 1)) := Nat.pow_le_pow_right (by omega) (by omega)
    rw [hor] at b3
    split at b3 <;> omega

/-- what a number with a sign takes -/
def zz (i : Int) : Nat := if i < 0 then 2 * (-(i + 1)).toNat + 1 else 2 * i.toNat

/-- reading a number without a sign: the value, how many bytes, the error; k bytes have been read, they come to acc -/
def guL : Nat → List UInt8 → Nat → Nat × Nat × Nat
  | _, [], _ => (0, 0, 11)
  | k, x :: r, acc =>
    if (k = 9 ∧ 1 < x.toNat) ∨ (x.toNat = 0 ∧ 0 < k) then (0, 0, 10)
    else if x.toNat < 128 then (acc + x.toNat * 128 ^ k, k + 1, 0)
    else guL (k + 1) r (acc + (x.toNat - 128) * 128 ^ k)

/-- the number without a sign at a place -/
def gu (l : List UInt8) (at_ : Int) : Nat × Nat × Nat :=
  if at_ < 0 ∨ (l.length : Int) < at_ then (0, 0, 2)
  else if (guL 0 (l.drop at_.toNat) 0).2.2 = 0 then ((guL 0 (l.drop at_.toNat) 0).1, at_.toNat + (guL 0 (l.drop at_.toNat) 0).2.1, 0)
  else (0, 0, (guL 0 (l.drop at_.toNat) 0).2.2)

theorem guL_next (s : List UInt8) : ∀ k acc, (guL k s acc).2.1 ≤ k + s.length := by
  induction s with
  | nil => intro k acc; simp [guL]
  | cons x r ih =>
    intro k acc
    rw [guL]
    split
    · simp
    · split
      · simp
      · have := ih (k + 1) (acc + (x.toNat - 128) * 128 ^ k)
        simp; omega
theorem guL_lt (s : List UInt8) : ∀ k acc, k ≤ 9 → acc < 128 ^ k → (guL k s acc).1 < 18446744073709551616 := by
  induction s with
  | nil => intro k acc _ _; simp [guL]
  | cons x r ih =>
    intro k acc hk ha
    have h9 : (128 : Nat) ^ 9 = 9223372036854775808 := by decide
    rw [guL]
    split
    · simp
    · rename_i h1
      split
      · rename_i h2
        by_cases h : k = 9
        · subst h
          simp only
          rw [h9] at ha ⊢
          omega
        · have hp : (128 : Nat) ^ (k + 1) ≤ 128 ^ 9 := Nat.pow_le_pow_right (by omega) (by omega)
          have hm : x.toNat * 128 ^ k ≤ 127 * 128 ^ k := Nat.mul_le_mul_right _ (by omega)
          rw [Nat.pow_succ] at hp
          simp only
          omega
      · rename_i h2
        by_cases h : k = 9
        · omega
        · apply ih _ _ (by omega)
          have hm : (x.toNat - 128) * 128 ^ k ≤ 127 * 128 ^ k := Nat.mul_le_mul_right _ (by have := x.toNat_lt; omega)
          rw [Nat.pow_succ]
          omega

theorem gu_next (l : List UInt8) (a : Int) : (gu l a).2.1 ≤ l.length := by
  unfold gu
  split
  · simp
  · split
    · have := guL_next (l.drop a.toNat) 0 0
      rw [List.length_drop] at this
      simp only
      omega
    · simp
theorem gu_lt (l : List UInt8) (a : Int) : (gu l a).1 < 18446744073709551616 := by
  unfold gu
  split
  · simp
  · split
    · exact guL_lt _ 0 0 (by omega) (by simp)
    · simp

/-- the number with a sign at a place -/
def gi (l : List UInt8) (a : Int) : Int × Nat × Nat :=
  (if (gu l a).1 % 2 = 1 then -(((gu l a).1 / 2 : Nat) : Int) - 1 else (((gu l a).1 / 2 : Nat) : Int), (gu l a).2.1, (gu l a).2.2)

/-- the string at a place -/
def gb (l : List UInt8) (a most : Int) : List UInt8 × Nat × Nat :=
  if (gu l a).2.2 ≠ 0 then ([], 0, (gu l a).2.2)
  else if most < 0 ∨ most < ((gu l a).1 : Int) then ([], 0, 3)
  else if l.length - (gu l a).2.1 < (gu l a).1 then ([], 0, 11)
  else ((l.drop (gu l a).2.1).take (gu l a).1, (gu l a).2.1 + (gu l a).1, 0)

/-- the number that bytes come to -/
def uvVal : List UInt8 → Nat
  | [] => 0
  | x :: r => x.toNat % 128 + 128 * uvVal r
/-- what is written is read -/
theorem guL_uv (rest : List UInt8) (n : Nat) : ∀ k acc, k ≤ 9 → n * 128 ^ k < 18446744073709551616 → (0 < k → n ≠ 0) →
    guL k (uv n ++ rest) acc = (acc + n * 128 ^ k, k + (uv n).length, 0) := by
  induction n using Nat.strongRecOn with
  | ind n ih =>
    intro k acc hk hn h0
    have h9 : (128 : Nat) ^ 9 = 9223372036854775808 := by decide
    by_cases h : n < 128
    · have hx : (UInt8.ofNat n).toNat = n := by rw [UInt8.toNat_ofNat']; omega
      rw [uv_small n h, List.cons_append, guL, hx, if_neg, if_pos h]
      · rfl
      · rintro (⟨rfl, h1⟩ | ⟨h1, h2⟩)
        · rw [h9] at hn; omega
        · exact h0 h2 h1
    · have hx : (UInt8.ofNat (128 + n % 128)).toNat = 128 + n % 128 := by rw [UInt8.toNat_ofNat']; omega
      have hk8 : k ≤ 8 := by
        apply Classical.byContradiction
        intro hc
        obtain rfl : k = 9 := by omega
        rw [h9] at hn; omega
      have hp : 0 < 128 ^ k := Nat.pow_pos (by omega)
      have hsplit : n * 128 ^ k = n % 128 * 128 ^ k + n / 128 * 128 ^ (k + 1) := by
        rw [Nat.pow_succ, Nat.mul_comm (128 ^ k) 128, ← Nat.mul_assoc, ← Nat.add_mul]
        congr 1; omega
      rw [uv_big n (by omega), List.cons_append, guL, hx, if_neg (by omega), if_neg (by omega), ih (n / 128) (by omega) (k + 1) _ (by omega) (by rw [hsplit] at hn; omega) (fun _ => by omega)]
      rw [List.length_cons, hsplit]
      simp only [Nat.add_sub_cancel_left, Prod.mk.injEq, and_true]
      constructor <;> omega

theorem gu_uv (pre rest : List UInt8) (n : Nat) (a : Int) (hn : n < 18446744073709551616) (ha : a = (pre.length : Int)) : gu (pre ++ (uv n ++ rest)) a = (n, pre.length + (uv n).length, 0) := by
  subst ha
  unfold gu
  rw [if_neg (by simp; omega), Int.toNat_natCast, List.drop_left, guL_uv rest n 0 0 (by omega) (by simpa using hn) (by omega)]
  simp
/-- what a number without a sign stands for -/
def unzz (n : Nat) : Int := if n % 2 = 1 then -((n / 2 : Nat) : Int) - 1 else ((n / 2 : Nat) : Int)
end Go.Proofs.YtemegkapmgcffaaGreat

namespace Go.Proofs.YtemegkapmgcffaaGreat
open Go.RowKit

theorem wrap_u32_nat (n : Nat) (h : n < 4294967296) : IntKind.wrap .u32 (n : Int) = n := by
  simp [IntKind.wrap, IntKind.bits, IntKind.signed]; omega
theorem bits_xor32 (a b : BitVec 32) : Go.bits .xor .u32 (a.toNat : Int) (b.toNat : Int) = ((a ^^^ b).toNat : Int) := by
  have h : Go.bits .xor .u32 (a.toNat : Int) (b.toNat : Int) = IntKind.wrap .u32 (((BitVec.ofInt 32 a.toNat ^^^ BitVec.ofInt 32 b.toNat).toNat : Nat) : Int) := rfl
  rw [h, BitVec.ofInt_natCast, BitVec.ofInt_natCast, BitVec.ofNat_toNat, BitVec.ofNat_toNat, BitVec.setWidth_eq, BitVec.setWidth_eq, wrap_u32_nat _ (a ^^^ b).isLt]
theorem bits_xor32_byte (a : BitVec 32) (b : UInt8) : Go.bits .xor .u32 (a.toNat : Int) ((b.toNat : Int) % 4294967296) = ((a ^^^ b.toBitVec.setWidth 32).toNat : Int) := by
  have h : ((b.toNat : Int) % 4294967296) = ((b.toBitVec.setWidth 32).toNat : Int) := by
    have := b.toNat_lt; simp; try omega
  rw [h, bits_xor32]
theorem bits_and1 (a : BitVec 32) : Go.bits .and .u32 (a.toNat : Int) 1 = if a.getLsbD 0 then 1 else 0 := by
  have h : Go.bits .and .u32 (a.toNat : Int) 1 = IntKind.wrap .u32 (((BitVec.ofInt 32 a.toNat &&& BitVec.ofInt 32 1).toNat : Nat) : Int) := rfl
  rw [h, BitVec.ofInt_natCast, BitVec.ofNat_toNat, BitVec.setWidth_eq, wrap_u32_nat _ (_ : BitVec 32).isLt]
  have h2 : (a &&& BitVec.ofInt 32 1) = if a.getLsbD 0 then 1#32 else 0#32 := by
    rw [show BitVec.ofInt 32 1 = 1#32 from rfl]
    ext i hi
    by_cases h0 : i = 0
    · subst h0; cases h : a.getLsbD 0 <;> simp_all
    · cases h : a.getLsbD 0 <;> simp [h0]
  rw [h2]; split <;> simp
theorem bits_not32 (a : BitVec 32) : Go.bits .xor .u32 (IntKind.max .u32) (a.toNat : Int) = ((~~~ a).toNat : Int) := by
  have e : IntKind.max .u32 = ((4294967295#32 : BitVec 32).toNat : Int) := by decide
  rw [e, bits_xor32]; congr 2
theorem shr1_nat (a : BitVec 32) : (a.toNat : Int) / (2 : Int) = ((a >>> 1).toNat : Int) := by
  simp [Nat.shiftRight_eq_div_pow]
theorem crcStep_odd (q : BitVec 32) (h : q.getLsbD 0 = true) : Go.bits .xor .u32 ((q.toNat : Int) / 2) 3988292384 = ((crcStep q).toNat : Int) := by
  have e : (3988292384 : Int) = ((0xEDB88320#32 : BitVec 32).toNat : Int) := by decide
  rw [shr1_nat, e, bits_xor32, crcStep, if_pos h]
theorem crcStep_even (q : BitVec 32) (h : ¬ q.getLsbD 0 = true) : (q.toNat : Int) / 2 = ((crcStep q).toNat : Int) := by
  rw [shr1_nat, crcStep, if_neg h]; simp

set_option maxHeartbeats 400000 in
theorem push_any (r : BitVec 32) (x : UInt8) (w : World) :
    Calls Tryz.prog 105 #[.int .u32 (r.toNat : Int), .int .u8 (x.toNat : Int)] w fun e w' => e = .returned (.int .u32 ((crcPush r x).toNat : Int)) ∧ w = w' := by
  have hx := bits_xor32_byte r x
  go_enter Tryz.func105, Tryz.ntmps105
  go_wp2
  clear hx
  go_loop [0, 10] (fun v i => ∃ k : Nat, k ≤ 8 ∧ i = .int .i64 k ∧ v = .int .u32 ((crcSteps k (r ^^^ x.toBitVec.setWidth 32)).toNat : Int)) (fun _ i => 8 - (intOf i).toNat)
  case atStart => exact ⟨0, by omega, rfl, rfl⟩
  case round =>
    obtain ⟨k, hk, rfl, rfl⟩ := hrel
    obtain ⟨q, hq⟩ : ∃ q, q = crcSteps k (r ^^^ x.toBitVec.setWidth 32) := ⟨_, rfl⟩
    rw [← hq]
    have Hq := Lib.hid hq; clear hq
    have ha := bits_and1 q
    by_cases h0 : q.getLsbD 0 = true
    · rw [if_pos h0] at ha
      have H0 := Lib.hid h0; clear h0
      go_wp2
      · go_round
        case rel => exact ⟨k + 1, by omega, by go_num, by rw [crcSteps_succ', ← Hq.out, crcStep_odd q H0.out]⟩
        case measure => simp [intOf]; omega
      · go_ret
        obtain rfl : k = 8 := by omega
        exact ⟨by rw [Hq.out]; rfl, rfl⟩
    · rw [if_neg h0] at ha
      have H0 := Lib.hid h0; clear h0
      go_wp2
      · go_round
        case rel => exact ⟨k + 1, by omega, by go_num, by rw [crcSteps_succ', ← Hq.out, crcStep_even q H0.out]⟩
        case measure => simp [intOf]; omega
      · go_ret
        obtain rfl : k = 8 := by omega
        exact ⟨by rw [Hq.out]; rfl, rfl⟩

set_option maxHeartbeats 400000 in
theorem crc_any (A : Option Addr) (n c : Nat) (l : List UInt8) (w : World) (hs : Sl w 1 A n c (bytesV l)) (hl : n ≤ 140737488351232) :
    Calls Tryz.prog 102 #[.slice A n c] w fun e w' => e = .returned (.int .u32 ((crc l).toNat : Int)) ∧ w = w' := by
  have hr := hs.byte
  obtain rfl := hs.blen
  clear hs
  go_enter Tryz.func102, Tryz.ntmps102
  go_wp2
  go_loop [3, 8] (fun v i => ∃ k : Nat, k ≤ l.length ∧ i = .int .i64 k ∧ v = .int .u32 ((crcReg 4294967295#32 (l.take k)).toNat : Int)) (fun _ i => l.length - (intOf i).toNat)
  case atStart => exact ⟨0, by omega, rfl, rfl⟩
  case round =>
    obtain ⟨k, hk, rfl, rfl⟩ := hrel
    by_cases hlt : k < l.length
    · obtain ⟨ad, rfl, hc⟩ := hr k hlt
      go_wp2_with (go_at_call 105; refine (push_any _ _ _).mono ?_; rintro e w' ⟨rfl, rfl⟩)
      go_round
      case rel => exact ⟨k + 1, by omega, by go_num, by rw [List.take_succ_eq_append_getElem hlt, crcReg_snoc]⟩
      case measure => simp [intOf]; omega
    · have hk' : k = l.length := by omega
      go_wp2
      go_ret
      exact ⟨ret_int (bits_not32 _), rfl⟩
end Go.Proofs.YtemegkapmgcffaaGreat

namespace Go.Proofs.YtemegkapmgcffaaGreat
open Go.RowKit

theorem infoByte : (Tryz.prog.info? 5).map (fun i => (i.zero, i.size, i.bytes)) = some (some (.int .u8 0), 1, 1) := by kernel_rfl

theorem wrap_u64_nat (n : Nat) (h : n < 18446744073709551616) : IntKind.wrap .u64 (n : Int) = n := by
  simp [IntKind.wrap, IntKind.bits, IntKind.signed]; omega
theorem wrap_u8_nat (n : Nat) (h : n < 256) : IntKind.wrap .u8 (n : Int) = n := by
  simp [IntKind.wrap, IntKind.bits, IntKind.signed]; omega
theorem bits_or_u64 (a b : Nat) (ha : a < 18446744073709551616) (hb : b < 18446744073709551616) : Go.bits .or .u64 (a : Int) (b : Int) = ((a ||| b : Nat) : Int) := by
  have h : Go.bits .or .u64 (a : Int) (b : Int) = IntKind.wrap .u64 (((BitVec.ofInt 64 a ||| BitVec.ofInt 64 b).toNat : Nat) : Int) := rfl
  rw [h, BitVec.ofInt_natCast, BitVec.ofInt_natCast, BitVec.toNat_or, BitVec.toNat_ofNat, BitVec.toNat_ofNat, Nat.mod_eq_of_lt ha, Nat.mod_eq_of_lt hb, wrap_u64_nat _ (Nat.or_lt_two_pow (n := 64) ha hb)]
theorem bits_or_u8 (a b : Nat) (ha : a < 256) (hb : b < 256) : Go.bits .or .u8 (a : Int) (b : Int) = ((a ||| b : Nat) : Int) := by
  have h : Go.bits .or .u8 (a : Int) (b : Int) = IntKind.wrap .u8 (((BitVec.ofInt 8 a ||| BitVec.ofInt 8 b).toNat : Nat) : Int) := rfl
  rw [h, BitVec.ofInt_natCast, BitVec.ofInt_natCast, BitVec.toNat_or, BitVec.toNat_ofNat, BitVec.toNat_ofNat, Nat.mod_eq_of_lt ha, Nat.mod_eq_of_lt hb, wrap_u8_nat _ (Nat.or_lt_two_pow (n := 8) ha hb)]
theorem or_128 (n : Nat) (h : n < 256) : 128 ||| n = 128 + n % 128 := by
  have : ∀ k : Fin 256, 128 ||| k.val = 128 + k.val % 128 := by decide +kernel
  exact this ⟨n, h⟩
theorem bits_or128_u8 (m : Nat) : Go.bits .or .u8 128 ((m : Int) % 256) = ((UInt8.ofNat (128 + m % 128)).toNat : Int) := by
  have h1 : ((m : Int) % 256) = ((m % 256 : Nat) : Int) := by omega
  have h2 : (128 : Int) = ((128 : Nat) : Int) := rfl
  rw [h1, h2, bits_or_u8 128 (m % 256) (by omega) (by omega), or_128 _ (by omega), show m % 256 % 128 = m % 128 by omega, UInt8.toNat_ofNat']
  omega
set_option maxHeartbeats 400000 in
theorem uint_any (base : Nat) (A : Option Addr) (n0 c : Nat) (l : List UInt8) (n : Nat) (w : World) (ha : App base 5 1 w A n0 c (bytesV l)) (hb : base ≤ w.heap.size)
    (hn : n < 18446744073709551616) (hl : n0 ≤ 140737488351232) :
    Calls Tryz.prog 73 #[.slice A n0 c, .int .u64 (n : Int)] w fun e w' => ∃ A' n' c', e = .returned (.slice A' n' c') ∧
      AppTo base 5 1 w w' A A' n' c' (bytesV (l ++ uv n)) := by
  have hor : Go.bits .or .u64 (n : Int) 1 = ((n ||| 1 : Nat) : Int) := bits_or_u64 n 1 hn (by omega)
  have hlt : (n ||| 1 : Nat) ≤ 18446744073709551615 := by rw [or_one]; split <;> omega
  obtain ⟨q, hq⟩ : ∃ q, q = Lib.bitLen (n ||| 1) := ⟨_, rfl⟩
  have hR := uv_rounds n hn
  have hR1 := uv_pos n
  have hR2 := uv_len_ten n hn
  have hb := Lib.bitLenAux_bounds 64 (n ||| 1) (by omega) (by rw [or_one]; split <;> omega)
  have hq1 : 1 ≤ q := by rw [hq]; exact hb.1
  have hq2 : q ≤ 64 := by rw [hq]; exact Lib.bitLen_le _ 64 (by omega) (by omega)
  obtain ⟨R, hR'⟩ : ∃ R, R = (uv n).length - 1 := ⟨_, rfl⟩
  have hRq : ((q : Int) - 1) / 7 = (R : Int) := by rw [← hq] at hR; omega
  have HR := Lib.hid hR'
  have Hq := Lib.hid hq
  clear hR hR1 hR2 hR' hq hb
  go_enter Tryz.func73, Tryz.ntmps73
  go_wp2_with (go_at_call 98; refine (Tryz.bits_Len64 _ _ (by omega) (by omega)).mono ?_; rintro e w' ⟨rfl, hw⟩; have hw := hw.symm; subst hw; simp only [Int.toNat_natCast]; rw [← Hq.out])

  clear hRq hor
  go_loopw [0, 1, 10] (fun v m i wr => ∃ (k m' : Nat) (pre : List UInt8) (A1 : Option Addr) (n1 c1 : Nat), k ≤ R ∧ i = .int .i64 k ∧ m = .int .u64 m' ∧ v = .slice A1 n1 c1 ∧
      pre ++ uv m' = uv n ∧ pre.length = k ∧ m' < 18446744073709551616 ∧ AppTo base 5 1 w wr A A1 n1 c1 (bytesV (l ++ pre))) (fun _ _ i _ => R - (intOf i).toNat)
  case atStart => exact ⟨0, n, [], A, n0, c, by omega, rfl, rfl, rfl, rfl, rfl, hn, by simpa using AppTo.refl ha⟩
  case round =>
    obtain ⟨k, m, pre, A1, n1, c1, hk, rfl, rfl, rfl, hpre, hlen, hm, happ⟩ := hrel
    have hn1 : n1 ≤ 140737488351232 + 10 := by
      have h1 := happ.app.sl.blen
      have h2 := ha.sl.blen
      have h3 := uv_len_ten n hn
      rw [List.length_append] at h1
      rw [HR.out] at hk
      omega
    have hsz := happ.grown.size
    have hR10 : R ≤ 10 := by have h3 := uv_len_ten n hn; rw [HR.out]; omega
    have hu : (uv m).length + k = R + 1 := by
      have h1 := congrArg List.length hpre
      rw [List.length_append, hlen] at h1
      have h2 := uv_pos n
      rw [HR.out]; omega
    by_cases hlt : k < R
    · have hbig : 128 ≤ m := by
        apply Classical.byContradiction; intro hh
        have := uv_len_small m (by omega); omega
      obtain ⟨x, hx⟩ : ∃ x, x = UInt8.ofNat (128 + m % 128) := ⟨_, rfl⟩
      have hv := bits_or128_u8 m
      rw [← hx] at hv
      have Hx := Lib.hid hx
      have hlen' := Lib.hid hlen
      have hpre' := Lib.hid hpre
      clear hx hlen hpre hu
      go_wp2_with (at_builtin; refine wpList_app _ rfl _ _ 34 rfl base 5 (.int .u8 0) 1 1 Tryz.underlying34 infoByte rfl (by decide) A1 n1 c1 (bytesV (l ++ pre)) rfl (happ.app.alloc _) (some ⟨wr.heap.size, 0, none⟩) 1 1 [byteV x] rfl (sl_one _ _ _) (bytesV_one [x]) (by unfold maxLen; omega) (by omega) (by simp; omega) ?_; intro A2 d w2 hat)
      go_roundw
      case rel =>
        refine ⟨k + 1, m / 128, pre ++ [x], A2, _, d, by omega, by go_num, by go_num, rfl, ?_, ?_, by omega, ?_⟩
        · rw [← hpre'.out, uv_big m hbig, Hx.out]; simp
        · rw [List.length_append, hlen'.out]; rfl
        · rw [← List.append_assoc, bytesV_append]
          exact happ.trans (AppTo.after (below_alloc1 _ _) hat)
      case measure => simp [intOf]; omega
    · have hk' : k = R := by omega
      have hsm : m < 128 := (uv_len_one m).1 (by omega)
      obtain ⟨x, hx⟩ : ∃ x, x = UInt8.ofNat m := ⟨_, rfl⟩
      have hv : m = x.toNat := by rw [hx, UInt8.toNat_ofNat']; omega
      have Hx := Lib.hid hx
      clear hx
      subst hv
      have hlen' := Lib.hid hlen
      have hpre' := Lib.hid hpre
      have hkk := Lib.hid hk'
      clear hlen hpre hu hk'
      go_wp2_with (at_builtin; refine wpList_app _ rfl _ _ 34 rfl base 5 (.int .u8 0) 1 1 Tryz.underlying34 infoByte rfl (by decide) A1 n1 c1 (bytesV (l ++ pre)) rfl (happ.app.alloc _) (some ⟨wr.heap.size, 0, none⟩) 1 1 [byteV x] rfl (sl_one _ _ _) (bytesV_one [x]) (by unfold maxLen; omega) (by omega) (by simp; omega) ?_; intro A2 d w2 hat)
      go_ret
      refine ⟨A2, _, d, rfl, ?_⟩
      rw [← hpre'.out, uv_small _ hsm, ← Hx.out, ← List.append_assoc, bytesV_append]
      exact happ.trans (AppTo.after (below_alloc1 _ _) hat)
end Go.Proofs.YtemegkapmgcffaaGreat

namespace Go.Proofs.YtemegkapmgcffaaGreat
open Go.RowKit

theorem uint_at (base : Nat) (A : Option Addr) (n0 c : Nat) (l : List UInt8) (n : Nat) (N : Int) (w : World) (ha : App base 5 1 w A n0 c (bytesV l)) (hb : base ≤ w.heap.size)
    (hn : n < 18446744073709551616) (hl : n0 ≤ 140737488351232) (hN : N = (n : Int)) :
    Calls Tryz.prog 73 #[.slice A n0 c, .int .u64 N] w fun e w' => ∃ A' n' c', e = .returned (.slice A' n' c') ∧
      AppTo base 5 1 w w' A A' n' c' (bytesV (l ++ uv n)) := by
  subst hN; exact uint_any base A n0 c l n w ha hb hn hl

set_option maxHeartbeats 400000 in
/-- two byte slices, one behind the other, in new memory -/
theorem both_any (A B : Option Addr) (n c m d : Nat) (l b : List UInt8) (w : World) (ha : Sl w 1 A n c (bytesV l)) (hs : Sl w 1 B m d (bytesV b))
    (hl : n ≤ 70368744175616) (hm : m ≤ 70368744175616) :
    Calls Tryz.prog 99 #[.slice A n c, .slice B m d] w fun e w' => e = .returned (.slice (some ⟨w.heap.size, 0, none⟩) (n + m) (n + m)) ∧
      w'.ownsRow w.heap.size 5 1 (.slice (some ⟨w.heap.size, 0, none⟩) (n + m) (n + m)) (n + m) (bytesV (l ++ b)) ∧ Below w.heap.size w w' := by
  obtain ⟨i0, hi, hz0, hz1, hz2⟩ := info_parts infoByte
  go_enter Tryz.func99, Tryz.ntmps99
  go_wp2_with (first | (at_make; refine wpList_make_own _ rfl _ _ 34 rfl w.heap.size 5 i0 (.int .u8 0) 1 Tryz.underlying34 hi hz0 hz1 _ _ _ (n + m) rfl rfl (by omega) (by rw [hz2]; omega) (by unfold maxLen; omega) (Nat.le_refl _) ?_; intro w1 hown1 hgrow1; have hb1 := grownBy_below hgrow1) | (at_builtin; refine wpList_append_fits_any _ rfl (.tmp 12) (.tmp 13) 34 rfl w.heap.size 5 i0 1 Tryz.underlying34 hi hz1 w.heap.size 0 (n + m) [] rfl hown1 A n c (bytesV l) rfl ha.len ha.none (fun ad had j u hj => by obtain ⟨ad', h1, h2⟩ := (ha.below hb1).cells j u hj; rw [had] at h1; cases h1; exact h2) (bytesV_one l) (by omega) ?_; intro w2 hown2 hgrow2; simp only [Nat.zero_add, List.nil_append] at hown2; have hb2 := hb1.trans ((Below.refl _ _).grown hgrow2 (by have := hb1.size; omega) (fun k hk => by cases hk; exact Nat.le_refl _))) | (at_builtin; refine wpList_append_fits_any _ rfl (.tmp 15) (.tmp 16) 34 rfl w.heap.size 5 i0 1 Tryz.underlying34 hi hz1 w.heap.size n (n + m) (bytesV l) rfl hown2 B m d (bytesV b) rfl hs.len hs.none (fun ad had j u hj => by obtain ⟨ad', h1, h2⟩ := (hs.below hb2).cells j u hj; rw [had] at h1; cases h1; exact h2) (bytesV_one b) (by omega) ?_; intro w3 hown3 hgrow3))
  go_ret
  exact ⟨by simp, by rw [bytesV_append]; exact hown3, hb2.trans ((Below.refl _ _).grown hgrow3 (by have := hb2.size; omega) (fun k hk => by cases hk; exact Nat.le_refl _))⟩

end Go.Proofs.YtemegkapmgcffaaGreat

namespace Go.Proofs.YtemegkapmgcffaaGreat
open Go.RowKit

/-- b[m:], b[l:m] of bytes -/
theorem cutb_from (kl : IntKind) (A : Option Addr) (n c m : Nat) (M : Int) (hM : M = (m : Int)) (hm : m ≤ n) :
    ∃ A' : Option Addr, (∀ W : World, (Instr.slice 34 (.slice A n c) (some (.int kl M)) none none).run Tryz.prog W = .ok (.slice A' (n - m) (c - m)) W) ∧ SameBlk A A' ∧
      ∀ (w : World) (l : List UInt8), Sl w 1 A n c (bytesV l) → Sl w 1 A' (n - m) (c - m) (bytesV (l.drop m)) := by
  obtain ⟨i0, hi, hz0, hz1, hz2⟩ := info_parts infoByte
  obtain ⟨A', hcut, hblk, hdr⟩ := cut_from (P := Tryz.prog) 34 5 kl Tryz.underlying34 hi A n c m M hM hm
  refine ⟨A', hcut, hblk, fun w l h => ?_⟩
  simp only [hz1, Nat.mul_one] at hdr
  rw [bytesV, List.map_drop]; exact hdr w _ h
theorem cutb_to (kl : IntKind) (A : Option Addr) (n c m : Nat) (M : Int) (hM : M = (m : Int)) (hm : m ≤ c) (W : World) :
    (Instr.slice 34 (.slice A n c) none (some (.int kl M)) none).run Tryz.prog W = .ok (.slice A m c) W := by
  obtain ⟨i0, hi, hz0, hz1, hz2⟩ := info_parts infoByte
  exact cut_to (P := Tryz.prog) 34 5 kl Tryz.underlying34 hi A n c m M hM hm W
theorem cutb_mid (kl kh : IntKind) (A : Option Addr) (n c l m : Nat) (L M : Int) (hL : L = (l : Int)) (hM : M = (m : Int)) (hlm : l ≤ m) (hm : m ≤ n) (hc : n ≤ c) :
    ∃ A' : Option Addr, (∀ W : World, (Instr.slice 34 (.slice A n c) (some (.int kl L)) (some (.int kh M)) none).run Tryz.prog W = .ok (.slice A' (m - l) (c - l)) W) ∧ SameBlk A A' ∧
      ∀ (w : World) (b : List UInt8), Sl w 1 A n c (bytesV b) → Sl w 1 A' (m - l) (c - l) (bytesV ((b.take m).drop l)) := by
  obtain ⟨i0, hi, hz0, hz1, hz2⟩ := info_parts infoByte
  obtain ⟨A', hcut, hblk, hdr⟩ := cut_mid (P := Tryz.prog) 34 5 kl kh Tryz.underlying34 hi A n c l m L M hL hM hlm hm hc
  refine ⟨A', hcut, hblk, fun w b h => ?_⟩
  simp only [hz1, Nat.mul_one] at hdr
  rw [bytesV, List.map_drop, List.map_take]; exact hdr w _ h
theorem slb_to {w : World} {n c : Nat} {A : Option Addr} {b : List UInt8} (h : Sl w 1 A n c (bytesV b)) (m : Nat) (hm : m ≤ n) : Sl w 1 A m c (bytesV (b.take m)) := by
  have := h.to_ m hm
  rw [Nat.mul_one] at this
  rw [bytesV, List.map_take]; exact this

theorem pow_lt_u64 (k : Nat) (x : Nat) (hk : k ≤ 9) (hx : x < 128) (h9 : k = 9 → x ≤ 1) : x * 128 ^ k < 18446744073709551616 := by
  have h1 : (128 : Nat) ^ k ≤ 128 ^ 9 := Nat.pow_le_pow_right (by omega) hk
  by_cases h : k = 9
  · subst h
    have h2 : (128 : Nat) ^ 9 = 9223372036854775808 := by decide
    have := h9 rfl
    rw [h2]; omega
  · have h1 : (128 : Nat) ^ k ≤ 128 ^ 8 := Nat.pow_le_pow_right (by omega) (by omega)
    have h2 : (128 : Nat) ^ 8 = 72057594037927936 := by decide
    rw [h2] at h1
    have h3 : x * 128 ^ k ≤ 127 * 72057594037927936 := Nat.mul_le_mul (by omega) h1
    omega
theorem andNot_128 (x : UInt8) : Go.bits .andNot .u8 (x.toNat : Int) 128 = ((x.toNat % 128 : Nat) : Int) := by
  have : ∀ k : Fin 256, Go.bits .andNot .u8 ((k.val : Nat) : Int) 128 = ((k.val % 128 : Nat) : Int) := by decide +kernel
  exact this ⟨x.toNat, x.toNat_lt⟩
/-- the sevens of a byte, put where they belong -/
theorem gu_or (acc : Nat) (x : UInt8) (k : Nat) (hk : k ≤ 9) (ha : acc < 128 ^ k) (hx : k = 9 → x.toNat % 128 ≤ 1) (X P : Int) (hX : X = (x.toNat : Int)) (hP : P = 2 ^ (7 * k)) :
    Go.bits .or .u64 (acc : Int) (IntKind.u64.wrap (IntKind.u64.wrap (Go.bits .andNot .u8 X 128) * P)) = ((acc + x.toNat % 128 * 128 ^ k : Nat) : Int) := by
  subst hX hP
  have hlt := pow_lt_u64 k (x.toNat % 128) hk (by omega) hx
  have e : (128 : Nat) ^ k = 2 ^ (7 * k) := by rw [Nat.pow_mul]
  have hacc : acc < 18446744073709551616 := by
    have h1 : (128 : Nat) ^ k ≤ 128 ^ 9 := Nat.pow_le_pow_right (by omega) hk
    have h2 : (128 : Nat) ^ 9 = 9223372036854775808 := by decide
    omega
  rw [andNot_128, wrap_u64_nat _ (by omega)]
  have h3 : ((x.toNat % 128 : Nat) : Int) * 2 ^ (7 * k) = ((x.toNat % 128 * 128 ^ k : Nat) : Int) := by rw [e]; simp
  rw [h3, wrap_u64_nat _ hlt, bits_or_u64 _ _ hacc hlt]
  congr 1
  rw [e] at ha ⊢
  rw [Nat.add_comm, Nat.mul_comm, Nat.or_comm]
  exact (Nat.two_pow_add_eq_or_of_lt ha (x.toNat % 128)).symm
theorem two_pow_63 (k : Nat) (h : (k : Int) = 9) : (9223372036854775808 : Int) = 2 ^ (7 * k) := by
  obtain rfl : k = 9 := by omega
  decide
theorem ret_uii {k1 : IntKind} {a b c : Int} {g : Nat × Nat × Nat} (h1 : a = g.1) (h2 : b = g.2.1) (h3 : c = g.2.2) :
    Ending.returned (.tuple #[.int k1 a, .int .i64 b, .int .i64 c]) = .returned (.tuple #[.int k1 (g.1 : Nat), .int .i64 (g.2.1 : Nat), .int .i64 (g.2.2 : Nat)]) := by rw [h1, h2, h3]

set_option maxRecDepth 100000 in
set_option maxHeartbeats 1000000 in
theorem getUint_any (A : Option Addr) (n c : Nat) (l : List UInt8) (at_ : Int) (w : World) (hs : Sl w 1 A n c (bytesV l)) (hl : n ≤ 140737488351232) :
    Calls Tryz.prog 85 #[.slice A n c, .int .i64 at_] w fun e w' => e = .returned (.tuple #[.int .u64 ((gu l at_).1 : Nat), .int .i64 ((gu l at_).2.1 : Nat), .int .i64 ((gu l at_).2.2 : Nat)]) ∧ w = w' := by
  have hlen := hs.blen
  by_cases h0 : at_ < 0
  · have he : gu l at_ = (0, 0, 2) := by unfold gu; rw [if_pos (Or.inl h0)]
    rw [he]; clear he
    go_enter Tryz.func85, Tryz.ntmps85
    go_wp2
    go_ret3
    exact ⟨rfl, rfl⟩
  · by_cases h1 : (n : Int) < at_
    · have he : gu l at_ = (0, 0, 2) := by unfold gu; rw [if_pos (Or.inr (by omega))]
      rw [he]; clear he
      go_enter Tryz.func85, Tryz.ntmps85
      go_wp2
      go_ret3
      exact ⟨rfl, rfl⟩
    · obtain ⟨k0, rfl⟩ : ∃ k : Nat, at_ = (k : Int) := ⟨at_.toNat, by omega⟩
      obtain ⟨A', hcut, _, hdr⟩ := cutb_from .i64 A n c k0 _ rfl (by omega)
      have hs' := hdr w _ hs
      have hb' := hs'.byte
      have hl' := Lib.hid hs'.blen
      clear hdr
      obtain ⟨r, hr⟩ : ∃ r, r = guL 0 (l.drop k0) 0 := ⟨_, rfl⟩
      have he : gu l k0 = if r.2.2 = 0 then (r.1, k0 + r.2.1, 0) else (0, 0, r.2.2) := by
        unfold gu; rw [if_neg (by omega)]; simp only [Int.toNat_natCast, ← hr]
      obtain ⟨g, hge⟩ : ∃ g, g = gu l k0 := ⟨_, rfl⟩
      rw [← hge] at he ⊢
      have He := Lib.hid he
      clear he hge
      go_enter Tryz.func85, Tryz.ntmps85
      go_wp2
      have Hr := Lib.hid hr
      clear hr hcut hs'
      go_loop [7, 23] (fun v i => ∃ k acc : Nat, k ≤ n - k0 ∧ k ≤ 9 ∧ i = .int .i64 k ∧ v = .int .u64 acc ∧ acc < 128 ^ k ∧ guL k ((l.drop k0).drop k) acc = r) (fun _ i => (n - k0) - (intOf i).toNat)
      case atStart => exact ⟨0, 0, by omega, by omega, rfl, rfl, by simp, by rw [Hr.out]; rfl⟩
      case round =>
        obtain ⟨k, acc, hk, hk9, rfl, rfl, hacc, hg⟩ := hrel
        have Hacc := Lib.hid hacc
        have Hg := Lib.hid hg
        clear hacc hg
        by_cases hlt : k < n - k0
        · have hkl : k < (l.drop k0).length := by have := hl'.out; omega
          obtain ⟨ad, rfl, hc⟩ := hb' k hkl
          obtain ⟨x, hx⟩ : ∃ x, x = (l.drop k0)[k] := ⟨_, rfl⟩
          rw [← hx] at hc
          have hxl := x.toNat_lt
          have hd : (l.drop k0).drop k = x :: (l.drop k0).drop (k + 1) := by rw [hx]; exact List.drop_eq_getElem_cons hkl
          rw [hd, guL] at Hg
          have Hx := Lib.hid hx
          clear hx hd hb'
          by_cases c1 : k = 9 ∧ 1 < x.toNat
          · rw [if_pos (Or.inl c1)] at Hg
            have Hge : Hid (g = (0, 0, 10)) := by have h1 := He.out; rw [← Hg.out] at h1; exact h1
            have c5 : 9 ≤ k := by omega
            have c6 : 1 < x.toNat := c1.2
            clear He Hg c1
            by_cases c2 : x.toNat < 128
            all_goals
              go_wp2
              go_ret3
              exact ⟨by rw [Hge.out]; rfl, rfl⟩
          · by_cases c2 : x.toNat = 0 ∧ 0 < k
            · rw [if_pos (Or.inr c2)] at Hg
              have Hge : Hid (g = (0, 0, 10)) := by have h1 := He.out; rw [← Hg.out] at h1; exact h1
              have c3 : x.toNat ≤ 0 := by omega
              have c4 : 0 < k := c2.2
              clear He Hg c1 c2
              by_cases c5 : k < 9
              all_goals
                go_wp2
                go_ret3
                exact ⟨by rw [Hge.out]; rfl, rfl⟩
            · rw [if_neg (by omega)] at Hg
              by_cases c3 : x.toNat < 128
              · rw [if_pos c3] at Hg
                have Hge : Hid (g = (acc + x.toNat * 128 ^ k, k0 + (k + 1), 0)) := by have h1 := He.out; rw [← Hg.out] at h1; exact h1
                have c4 : k = 9 → x.toNat ≤ 1 := by omega
                clear He Hg
                go_wp2
                all_goals
                  go_ret3
                  refine ⟨ret_uii ((gu_or acc x k hk9 Hacc.out (by omega) _ _ (by first | rfl | omega) (by first | rfl | exact two_pow_63 k (by assumption))).trans ?_) (by rw [Hge.out]; simp; omega) (by rw [Hge.out]; rfl), rfl⟩
                  rw [Hge.out, Nat.mod_eq_of_lt c3]
              · rw [if_neg c3] at Hg
                have c4 : k < 9 := by omega
                have c6 : 0 < x.toNat := by omega
                clear c1 c2
                go_wp2
                go_round
                case rel =>
                  refine ⟨k + 1, acc + (x.toNat - 128) * 128 ^ k, by omega, by omega, by go_num, ?_, ?_, Hg.out⟩
                  · rw [gu_or acc x k hk9 Hacc.out (by omega) _ _ rfl rfl, show x.toNat % 128 = x.toNat - 128 by omega]
                  · have h1 := Hacc.out
                    rw [Nat.pow_succ]
                    have h2 : (x.toNat - 128) * 128 ^ k ≤ 127 * 128 ^ k := Nat.mul_le_mul_right _ (by omega)
                    omega
                case measure => simp [intOf]; omega
        · have Hge : Hid (g = (0, 0, 11)) := by
            have h1 := Hg.out
            rw [List.drop_eq_nil_of_le (by have := hl'.out; omega), guL] at h1
            have h2 := He.out; rw [← h1] at h2; exact h2
          go_wp2
          go_ret3
          exact ⟨by rw [Hge.out]; rfl, rfl⟩
end Go.Proofs.YtemegkapmgcffaaGreat

namespace Go.Proofs.YtemegkapmgcffaaGreat
open Go.RowKit

set_option maxRecDepth 100000 in
set_option maxHeartbeats 1000000 in
theorem getBlob_any (A : Option Addr) (n c : Nat) (l : List UInt8) (at_ most : Int) (w : World) (hs : Sl w 1 A n c (bytesV l)) (hl : n ≤ 140737488351232) (hm : -9223372036854775808 ≤ most) (hm2 : most ≤ 9223372036854775807) :
    Calls Tryz.prog 86 #[.slice A n c, .int .i64 at_, .int .i64 most] w fun e w' => ∃ A' n' c', e = .returned (.tuple #[.slice A' n' c', .int .i64 ((gb l at_ most).2.1 : Nat), .int .i64 ((gb l at_ most).2.2 : Nat)]) ∧
      w'.ownsRow w.heap.size 5 1 (.slice A' n' c') n' (bytesV (gb l at_ most).1) ∧ Below w.heap.size w w' := by
  obtain ⟨i0, hi, hz0, hz1, hz2⟩ := info_parts infoByte
  obtain ⟨g, hg⟩ : ∃ g, g = gu l at_ := ⟨_, rfl⟩
  have hlt : g.1 < 18446744073709551616 := by rw [hg]; exact gu_lt l at_
  have hnx : g.2.1 ≤ n := by rw [hg, ← hs.blen]; exact gu_next l at_
  obtain ⟨q, hq⟩ : ∃ q, q = gb l at_ most := ⟨_, rfl⟩
  have hq' := hq
  unfold gb at hq'
  rw [← hg, hs.blen] at hq'
  rw [← hq]
  obtain ⟨g1, g2, g3⟩ := g
  have Hg := Lib.hid hg
  clear hg hq
  simp only at hlt hnx hq'
  by_cases h1 : g3 ≠ 0
  · rw [if_pos h1] at hq'
    subst hq'
    have h1' : 0 < g3 := by omega
    clear h1
    go_enter Tryz.func86, Tryz.ntmps86
    go_wp2_with (go_at_call 85; refine (getUint_any _ _ _ l _ _ hs hl).mono ?_; rintro e w' ⟨rfl, rfl⟩; rw [← Hg.out])
    go_ret3
    exact ⟨none, 0, 0, rfl, World.ownsRow_nil _ _ _ _, Below.refl _ _⟩
  · rw [if_neg h1] at hq'
    have h1' : g3 ≤ 0 := by omega
    clear h1
    by_cases h2 : most < 0 ∨ most < (g1 : Int)
    · rw [if_pos h2] at hq'
      subst hq'
      by_cases h3 : most < 0
      all_goals
        go_enter Tryz.func86, Tryz.ntmps86
        go_wp2_with (go_at_call 85; refine (getUint_any _ _ _ l _ _ hs hl).mono ?_; rintro e w' ⟨rfl, rfl⟩; rw [← Hg.out])
        go_ret3
        exact ⟨none, 0, 0, rfl, World.ownsRow_nil _ _ _ _, Below.refl _ _⟩
    · rw [if_neg h2] at hq'
      have h3 : 0 ≤ most := by omega
      have h4 : (g1 : Int) ≤ most := by omega
      clear h2
      by_cases h5 : n - g2 < g1
      · rw [if_pos h5] at hq'
        subst hq'
        go_enter Tryz.func86, Tryz.ntmps86
        go_wp2_with (go_at_call 85; refine (getUint_any _ _ _ l _ _ hs hl).mono ?_; rintro e w' ⟨rfl, rfl⟩; rw [← Hg.out])
        go_ret3
        exact ⟨none, 0, 0, rfl, World.ownsRow_nil _ _ _ _, Below.refl _ _⟩
      · rw [if_neg h5] at hq'
        subst hq'
        obtain ⟨A', hcut, hblk, hdr⟩ := cutb_from .i64 A n c g2 _ rfl hnx
        have hd := hdr w _ hs
        clear hdr
        go_enter Tryz.func86, Tryz.ntmps86
        go_wp2_with (first | (go_at_call 85; refine (getUint_any _ _ _ l _ _ hs hl).mono ?_; rintro e w' ⟨rfl, rfl⟩; rw [← Hg.out]) | (at_make; refine wpList_make_full _ rfl _ _ 34 rfl w.heap.size 5 i0 (.int .u8 0) 1 Tryz.underlying34 hi hz0 hz1 _ _ _ _ g1 rfl rfl rfl rfl (by rw [hz2]; omega) (by unfold maxLen; omega) (Nat.le_refl _) ?_; intro w1 hown1 hgrow1; have hb1 := grownBy_below hgrow1) | (with_reducible refine wpList_copy_row rfl (.tmp 50) (.tmp 53) 34 34 rfl 5 Tryz.underlying34 (by rw [hi]; simp [hz1]) w.heap.size _ A' _ _ _ _ _ (bytesV (l.drop g2)) rfl rfl hown1 (hd.below hb1) (bytesV_one _) ?_; intro w2 hown2 hgrow2))
        go_ret3
        have hmin : min (n - g2) g1 = g1 := by omega
        rw [hmin] at hown2
        have hz : ((madeCells (Value.int .u8 0).cells (g1 * 1)).toList).drop g1 = [] := List.drop_eq_nil_of_le (by have := hown1.1; omega)
        rw [hz, List.append_nil] at hown2
        have ht : (bytesV (l.drop g2)).take g1 = bytesV ((l.drop g2).take g1) := by rw [bytesV, bytesV, List.map_take]
        rw [ht] at hown2
        refine ⟨_, g1, g1, ?_, hown2, hb1.trans ((Below.refl _ _).grown hgrow2 hb1.size (fun _ hk => rowOf_ge hk))⟩
        rw [hmin]; simp

/-- the check's four bytes, highest first -/
def crc4 (r : BitVec 32) : List UInt8 := [UInt8.ofNat (r.toNat / 16777216), UInt8.ofNat (r.toNat / 65536), UInt8.ofNat (r.toNat / 256), UInt8.ofNat r.toNat]

end Go.Proofs.YtemegkapmgcffaaGreat

namespace Go.Proofs.YtemegkapmgcffaaGreat
open Go.RowKit

/-- what was sealed, and the error -/
def unsld (l : List UInt8) : List UInt8 × Nat :=
  if l.length < 4 then ([], 11)
  else if l.take (l.length - 4) ++ crc4 (crc (l.take (l.length - 4))) = l then (l.take (l.length - 4), 0) else ([], 12)

end Go.Proofs.YtemegkapmgcffaaGreat

namespace Go.Proofs.YtemegkapmgcffaaGreat
open Go.RowKit
set_option linter.unusedSimpArgs false
set_option linter.unusedVariables false

end Go.Proofs.YtemegkapmgcffaaGreat

namespace Go.Proofs.YtemegkapmgcffaaGreat
open Go.RowKit

theorem bytes_of_ints (zs : List Int) (h : ∀ n ∈ zs, (Lit.int .u8 n).wf = true) : ∃ l : List UInt8, zs.map (Value.int .u8) = bytesV l := by
  induction zs with
  | nil => exact ⟨[], rfl⟩
  | cons z zs ih =>
    obtain ⟨l, hl⟩ := ih (fun n hn => h n (List.mem_cons_of_mem _ hn))
    have hz := h z (List.mem_cons_self ..)
    have hz2 : 0 ≤ z ∧ z ≤ 255 := by
      simp [Lit.wf, IntKind.min, IntKind.max, IntKind.signed, IntKind.bits] at hz; omega
    refine ⟨UInt8.ofNat z.toNat :: l, ?_⟩
    have e : ((UInt8.ofNat z.toNat).toNat : Int) = z := by
      rw [UInt8.toNat_ofNat']; omega
    simp only [List.map_cons, bytesV, byteV, e]
    rw [hl]; rfl

end Go.Proofs.YtemegkapmgcffaaGreat

/- Plain mathematics: the register's steps are linear and lose nothing. -/
namespace Go.Proofs.YtemegkapmgcffaaGreat
set_option linter.unusedSimpArgs false

end Go.Proofs.YtemegkapmgcffaaGreat

/- Plain mathematics: a change within 32 bits running is seen by the check. -/
namespace Go.Proofs.YtemegkapmgcffaaGreat
set_option linter.unusedSimpArgs false

/-- the low bits of a change -/
def low (c : BitVec 32) : Nat → BitVec 32
  | 0 => 0#32
  | i + 1 => low c i ^^^ (if c.getLsbD i then 1#32 <<< i else 0#32)
/-- a bit of a byte, turned -/
def flipB (x : UInt8) (j : Nat) : UInt8 := x ^^^ UInt8.ofNat (2 ^ j)
/-- how far the change has come -/
def Seen (b : List UInt8) (fr : Nat) (c : BitVec 32) (i : Nat) (xs : List UInt8) : Prop :=
  xs.length = b.length ∧ crcReg 4294967295#32 xs = crcReg 4294967295#32 b ^^^ crcSteps (8 * b.length - fr) (low c i) ∧ (low c i = 0#32 → xs = b)
theorem crc4_len (r : BitVec 32) : (crc4 r).length = 4 := rfl
/-- the check of a sealed text, changed byte by byte -/
def cbyte (c i : Nat) : UInt8 := UInt8.ofNat (c / 2 ^ (8 * i))
def Turned (s : List UInt8) (n c i : Nat) (ts : List UInt8) : Prop :=
  ts.length = s.length ∧ (∀ m, m < n + i → n ≤ m → ts[m]? = (s[m]?).map (· ^^^ cbyte c (m - n))) ∧ (∀ m, (m < n ∨ n + i ≤ m) → ts[m]? = s[m]?)
/-- sealed so many times -/
def sealK : Nat → List UInt8 → List UInt8
  | 0, b => b
  | k + 1, b => sealK k b ++ crc4 (crc (sealK k b))
end Go.Proofs.YtemegkapmgcffaaGreat
