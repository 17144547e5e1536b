import Derived.Test.YtemegkapmgcffaaGreatMDe
/- The disk: deeds (large, does). -/
namespace Go.Proofs.YtemegkapmgcffaaGreat
open Go.RowKit
set_option linter.unusedSimpArgs false
set_option linter.unusedVariables false

def largeB (d : Ded) : Bool := decide (100 < d.a.length) || (decide (100 < d.t2.length) || (decide (300 < d.b.length) || (decide (50 < d.ks.length) || decide (50 < d.ts.length))))
def doesD (D : Dk) (d : Ded) : Int × Dk :=
  if d.op ≤ 2 then appendD D d.a d.b else if d.op = 3 then syncD D d.a else if d.op = 4 then renameD D d.a d.t2 else if d.op = 5 then removeD D d.a
  else if d.op = 6 then cutD D d.a d.n else if d.op = 7 then (0, armD D d.n) else if d.op = 8 then (0, crashD D d.ks d.ts) else (0, D)
section
variable {w0 W : World} {base p : Nat} {D : Dk} {F : Nat → Prop}
end
end Go.Proofs.YtemegkapmgcffaaGreat
