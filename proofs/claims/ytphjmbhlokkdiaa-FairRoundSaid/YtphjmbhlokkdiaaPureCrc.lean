/- Plain mathematics: the check (CRC-32) of bytes as a register of 32 bits; no program in sight. -/
namespace Go.Proofs.Ytphjmbhlokkdiaa

/-- one step of the register -/
def crcStep (r : BitVec 32) : BitVec 32 := (r >>> 1) ^^^ (if r.getLsbD 0 then 0xEDB88320#32 else 0#32)

/-- so many steps -/
def crcSteps : Nat → BitVec 32 → BitVec 32
  | 0, r => r
  | n + 1, r => crcSteps n (crcStep r)

/-- the register behind a byte -/
def crcPush (r : BitVec 32) (x : UInt8) : BitVec 32 := crcSteps 8 (r ^^^ x.toBitVec.setWidth 32)

/-- the register behind bytes -/
def crcReg (r : BitVec 32) (l : List UInt8) : BitVec 32 := l.foldl crcPush r

/-- the check of bytes -/
def crc (l : List UInt8) : BitVec 32 := ~~~ (crcReg 4294967295#32 l)

theorem crcReg_nil (r : BitVec 32) : crcReg r [] = r := rfl
theorem crcReg_snoc (r : BitVec 32) (l : List UInt8) (x : UInt8) : crcReg r (l ++ [x]) = crcPush (crcReg r l) x := by
  simp [crcReg]
theorem crcReg_append (r : BitVec 32) (l m : List UInt8) : crcReg r (l ++ m) = crcReg (crcReg r l) m := by
  simp [crcReg]

theorem crcSteps_succ' (n : Nat) : ∀ r, crcSteps (n + 1) r = crcStep (crcSteps n r) := by
  induction n with
  | zero => intro r; rfl
  | succ n ih => intro r; rw [crcSteps, ih, crcSteps]

end Go.Proofs.Ytphjmbhlokkdiaa
