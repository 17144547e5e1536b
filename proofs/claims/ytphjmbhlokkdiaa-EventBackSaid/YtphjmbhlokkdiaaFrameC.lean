import Derived.Test.YtphjmbhlokkdiaaFrameB
import Derived.Deep.Onto
namespace Go.Proofs.Ytphjmbhlokkdiaa
open Go.RowKit
set_option linter.unusedSimpArgs false
set_option linter.unusedVariables false

/-- reading a frame: the body, the place behind it, the error -/
def fg (l : List UInt8) (at_ : Int) : List UInt8 × Nat × Nat :=
  if (gu l at_).2.2 ≠ 0 then ([], 0, (gu l at_).2.2)
  else if (gu l at_).1 = 0 ∨ 1048576 < (gu l at_).1 then ([], 0, 10)
  else if l.length < (gu l at_).2.1 + (gu l at_).1 + 5 then ([], 0, 11)
  else if l[(gu l at_).2.1 + (gu l at_).1 + 4]? ≠ some 165 then ([], 0, 10)
  else if (l.drop ((gu l at_).2.1 + (gu l at_).1)).take 4 ≠ crc4 (crc ((l.take ((gu l at_).2.1 + (gu l at_).1)).drop (gu l at_).2.1)) then ([], 0, 12)
  else ((l.take ((gu l at_).2.1 + (gu l at_).1)).drop (gu l at_).2.1, (gu l at_).2.1 + (gu l at_).1 + 5, 0)

theorem own_form {w : World} {base n : Nat} {v : Value} {l : List UInt8} (h : w.ownsRow base 5 1 v n (bytesV l)) : ∃ A c, v = .slice A n c ∧ Sl w 1 A n c (bytesV l) ∧ w.ownsRow base 5 1 (.slice A n c) n (bytesV l) := by
  rcases h.2 with ⟨hv, hn⟩ | ⟨g, cap, cur, hv, _⟩
  · subst hv; subst hn; exact ⟨none, 0, rfl, ownsRow_sl h, h⟩
  · subst hv; exact ⟨_, cap, rfl, ownsRow_sl h, h⟩

end Go.Proofs.Ytphjmbhlokkdiaa
