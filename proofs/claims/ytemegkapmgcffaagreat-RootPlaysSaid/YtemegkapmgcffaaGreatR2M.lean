import Derived.Test.YtemegkapmgcffaaGreatR2D
/- The document's disk, by value: sized; one file's crash, plain (printed by wip/gen/gr2m.py). -/
namespace Go.Proofs.YtemegkapmgcffaaGreat
open Go.RowKit
set_option linter.unusedSimpArgs false
set_option linter.unusedVariables false

/-- what the document's crash has of a file behind `at_` of its bytes -/
def preF (f : Fl) (keep tear : Int) (at_ : Nat) : List UInt8 := f.b.take (min at_ (f.safe + keep.toNat)) ++ List.replicate (at_ - (f.safe + keep.toNat)) 0
theorem preF_low {f : Fl} {keep tear : Int} {k : Nat} {x : UInt8} (hx : f.b[k]? = some x) (h : k < f.safe + keep.toNat) : preF f keep tear (k + 1) = preF f keep tear k ++ [x] := by
  unfold preF
  rw [show min (k + 1) (f.safe + keep.toNat) = k + 1 by omega, show min k (f.safe + keep.toNat) = k by omega, show k + 1 - (f.safe + keep.toNat) = 0 by omega, show k - (f.safe + keep.toNat) = 0 by omega, List.take_add_one, hx]
  simp
theorem preF_high {f : Fl} {keep tear : Int} {k : Nat} (h : f.safe + keep.toNat ≤ k) : preF f keep tear (k + 1) = preF f keep tear k ++ [0] := by
  unfold preF
  rw [show min (k + 1) (f.safe + keep.toNat) = f.safe + keep.toNat by omega, show min k (f.safe + keep.toNat) = f.safe + keep.toNat by omega, show k + 1 - (f.safe + keep.toNat) = (k - (f.safe + keep.toNat)) + 1 by omega, List.replicate_succ']
  simp
section
variable {w : World} {room fuse : Int} {dark : Bool} {A : Option Addr} {n c : Nat} {es : List FE}
end
end Go.Proofs.YtemegkapmgcffaaGreat
