import Derived.Test.YtemegkapmgcffaaGreatDkY
/- The disk: a script of deeds (done). -/
namespace Go.Proofs.YtemegkapmgcffaaGreat
open Go.RowKit
set_option linter.unusedSimpArgs false
set_option linter.unusedVariables false

def stepD (D : Dk) (d : Ded) : Dk := if largeB d = true then D else (doesD D d).2
def doneP (D : Dk) (es : List Ded) (i : Nat) : Dk := (es.take i).foldl stepD D
end Go.Proofs.YtemegkapmgcffaaGreat
