import Derived.Test.YtphjmbhlokkdiaaByteWalksD
import Derived.Deep.QuietTactic
import Derived.BigQuiet
namespace Go.Proofs.Ytphjmbhlokkdiaa
open Go.RowKit

theorem add_plain (g j : Nat) : (⟨g, 0, none⟩ : Addr).add j = ⟨g, j, none⟩ := by unfold Addr.add; split <;> simp_all

/-- what was sealed, and the error -/
def unsld (l : List UInt8) : List UInt8 × Nat :=
  if l.length < 4 then ([], 11)
  else if l.take (l.length - 4) ++ crc4 (crc (l.take (l.length - 4))) = l then (l.take (l.length - 4), 0) else ([], 12)

end Go.Proofs.Ytphjmbhlokkdiaa
