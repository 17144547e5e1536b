/-
  No cell of these rows narrows 'for every input' (looked for: loops, veiled, ifaces, maps, wideKeys, modest, calm, conditions, laid).
  DERIVED. THE GIVEN ROWS OF THIS SEAT. 16 by the template 'for every input the law returns true; each argument reads behind the call as it read before'; 0 by the template 'total and deterministic' (their statements: YtemegkapmgcffaaTotals.lean).
  GIVEN WITH THE SEED: the statements are not yours to turn. If you find one false, say at which input.
  Laid BY PROGRAM, IN A SANDBOX (cutbox-rows.mjs): the forced cells as the released guide's own fill.sh prints them over the translation 0d28c22a64150e62… (all of the seat's roots in one cut). By AI agents, Wed Nov 11 2026. No macro, syntax, notation, axiom, sorry.
-/
import Derived.Test.YtemegkapmgcffaaChecked
import GoSem.Claim
import GoSem.ClaimJoined
import GoSem.ClaimMapViews
import Derived.JoinedTies
import Derived.KernelRfl
namespace Go.Proofs.Ytemegkapmgcffaa
/- THE CELL 'sum', in the pinned program and in every row, IS THE sha256 OF THE DUMP (.gsa) THAT YtemegkapmgcffaaProg.lean LOADS. Nothing in Lean hashes anything: it is a label: what it is worth is what the hold of that sum in a sandbox is worth. -/
noncomputable def Try.pinned : Pinned := { name := "ytemegkapmgcffaa", sum := "0d28c22a64150e62ce5d6f8611bcc2bcba08f373deb334826ee8ac0666823c1c", checked := Try.checked }
namespace Rows
def none {H : Type} : Left H := { results := [], args := [] }

/-- 'millwheellaw06.RootTells': WHATEVER THE INPUT: true; the input reads as it did. -/
def rootTellsSpec : ChangeSpec := { name := "rootTells", fn := fun _ => fun
  | [d1, d2] => { results := [.lit (.bool true)], args := [d1, d2] }
  | _ => none }
def rootTellsRow : OpenClaim := { program := "ytemegkapmgcffaa", sum := "0d28c22a64150e62ce5d6f8611bcc2bcba08f373deb334826ee8ac0666823c1c", func := "millwheel/millwheellaw06.RootTells", spec := "rootTells", inPlace := ["slices.overlaps[millwheel/disk.file]"], unfollowed := true, recurses := true, apart := false }
def RootTellsSaid : Prop := rootTellsRow.holds Try.pinned (OpenSpec.ofChange rootTellsSpec)

/-- ITS FALSE NEIGHBOUR: 'it returns false'. Refute it at one input. -/
def rootTellsWrong : ChangeSpec := { name := "rootTells", fn := fun _ => fun
  | [d1, d2] => { results := [.lit (.bool false)], args := [d1, d2] }
  | _ => none }
def RootTellsWrongFalsely : Prop := rootTellsRow.holds Try.pinned (OpenSpec.ofChange rootTellsWrong)

/-- 'millwheellaw06.RootNone': WHATEVER THE INPUT: true; the input reads as it did. -/
def rootNoneSpec : ChangeSpec := { name := "rootNone", fn := fun _ => fun
  | [d] => { results := [.lit (.bool true)], args := [d] }
  | _ => none }
def rootNoneRow : OpenClaim := { program := "ytemegkapmgcffaa", sum := "0d28c22a64150e62ce5d6f8611bcc2bcba08f373deb334826ee8ac0666823c1c", func := "millwheel/millwheellaw06.RootNone", spec := "rootNone", inPlace := ["slices.overlaps[millwheel/disk.file]"], unfollowed := true, recurses := true, apart := false }
def RootNoneSaid : Prop := rootNoneRow.holds Try.pinned (OpenSpec.ofChange rootNoneSpec)

/-- ITS FALSE NEIGHBOUR: 'it returns false'. Refute it at one input. -/
def rootNoneWrong : ChangeSpec := { name := "rootNone", fn := fun _ => fun
  | [d] => { results := [.lit (.bool false)], args := [d] }
  | _ => none }
def RootNoneWrongFalsely : Prop := rootNoneRow.holds Try.pinned (OpenSpec.ofChange rootNoneWrong)

/-- 'millwheellaw06.RootTurns': WHATEVER THE INPUT: true; the input reads as it did. -/
def rootTurnsSpec : ChangeSpec := { name := "rootTurns", fn := fun _ => fun
  | [d] => { results := [.lit (.bool true)], args := [d] }
  | _ => none }
def rootTurnsRow : OpenClaim := { program := "ytemegkapmgcffaa", sum := "0d28c22a64150e62ce5d6f8611bcc2bcba08f373deb334826ee8ac0666823c1c", func := "millwheel/millwheellaw06.RootTurns", spec := "rootTurns", inPlace := ["slices.overlaps[millwheel/disk.file]"], unfollowed := true, recurses := true, apart := false }
def RootTurnsSaid : Prop := rootTurnsRow.holds Try.pinned (OpenSpec.ofChange rootTurnsSpec)

/-- ITS FALSE NEIGHBOUR: 'it returns false'. Refute it at one input. -/
def rootTurnsWrong : ChangeSpec := { name := "rootTurns", fn := fun _ => fun
  | [d] => { results := [.lit (.bool false)], args := [d] }
  | _ => none }
def RootTurnsWrongFalsely : Prop := rootTurnsRow.holds Try.pinned (OpenSpec.ofChange rootTurnsWrong)

/-- 'millwheellaw06.RootBack': WHATEVER THE INPUT: true; the input reads as it did. -/
def rootBackSpec : ChangeSpec := { name := "rootBack", fn := fun _ => fun
  | [d1, d2, d3] => { results := [.lit (.bool true)], args := [d1, d2, d3] }
  | _ => none }
def rootBackRow : OpenClaim := { program := "ytemegkapmgcffaa", sum := "0d28c22a64150e62ce5d6f8611bcc2bcba08f373deb334826ee8ac0666823c1c", func := "millwheel/millwheellaw06.RootBack", spec := "rootBack", inPlace := ["slices.overlaps[millwheel/disk.file]"], unfollowed := true, recurses := true, apart := false }
def RootBackSaid : Prop := rootBackRow.holds Try.pinned (OpenSpec.ofChange rootBackSpec)

/-- ITS FALSE NEIGHBOUR: 'it returns false'. Refute it at one input. -/
def rootBackWrong : ChangeSpec := { name := "rootBack", fn := fun _ => fun
  | [d1, d2, d3] => { results := [.lit (.bool false)], args := [d1, d2, d3] }
  | _ => none }
def RootBackWrongFalsely : Prop := rootBackRow.holds Try.pinned (OpenSpec.ofChange rootBackWrong)

/-- 'millwheellaw02.DiskSwap': WHATEVER THE INPUT: true; the input reads as it did. -/
def diskSwapSpec : ChangeSpec := { name := "diskSwap", fn := fun _ => fun
  | [d1, d2, d3, d4, d5] => { results := [.lit (.bool true)], args := [d1, d2, d3, d4, d5] }
  | _ => none }
def diskSwapRow : OpenClaim := { program := "ytemegkapmgcffaa", sum := "0d28c22a64150e62ce5d6f8611bcc2bcba08f373deb334826ee8ac0666823c1c", func := "millwheel/millwheellaw02.DiskSwap", spec := "diskSwap", inPlace := ["slices.overlaps[millwheel/disk.file]", "internal/abi.NoEscape", "internal/bytealg.MakeNoZero"], unfollowed := true, recurses := true, apart := false }
def DiskSwapSaid : Prop := diskSwapRow.holds Try.pinned (OpenSpec.ofChange diskSwapSpec)

/-- ITS FALSE NEIGHBOUR: 'it returns false'. Refute it at one input. -/
def diskSwapWrong : ChangeSpec := { name := "diskSwap", fn := fun _ => fun
  | [d1, d2, d3, d4, d5] => { results := [.lit (.bool false)], args := [d1, d2, d3, d4, d5] }
  | _ => none }
def DiskSwapWrongFalsely : Prop := diskSwapRow.holds Try.pinned (OpenSpec.ofChange diskSwapWrong)

/-- 'millwheellaw06.RootNumbers': WHATEVER THE INPUT: true; the input reads as it did. -/
def rootNumbersSpec : ChangeSpec := { name := "rootNumbers", fn := fun _ => fun
  | [] => { results := [.lit (.bool true)], args := [] }
  | _ => none }
def rootNumbersRow : OpenClaim := { program := "ytemegkapmgcffaa", sum := "0d28c22a64150e62ce5d6f8611bcc2bcba08f373deb334826ee8ac0666823c1c", func := "millwheel/millwheellaw06.RootNumbers", spec := "rootNumbers", inPlace := ["slices.overlaps[millwheel/disk.file]"], unfollowed := true, recurses := true, apart := false }
def RootNumbersSaid : Prop := rootNumbersRow.holds Try.pinned (OpenSpec.ofChange rootNumbersSpec)

/-- ITS FALSE NEIGHBOUR: 'it returns false'. Refute it at one input. -/
def rootNumbersWrong : ChangeSpec := { name := "rootNumbers", fn := fun _ => fun
  | [] => { results := [.lit (.bool false)], args := [] }
  | _ => none }
def RootNumbersWrongFalsely : Prop := rootNumbersRow.holds Try.pinned (OpenSpec.ofChange rootNumbersWrong)

/-- 'millwheellaw06.RootSpoilt': WHATEVER THE INPUT: true; the input reads as it did. -/
def rootSpoiltSpec : ChangeSpec := { name := "rootSpoilt", fn := fun _ => fun
  | [d1, d2, d3, d4, d5] => { results := [.lit (.bool true)], args := [d1, d2, d3, d4, d5] }
  | _ => none }
def rootSpoiltRow : OpenClaim := { program := "ytemegkapmgcffaa", sum := "0d28c22a64150e62ce5d6f8611bcc2bcba08f373deb334826ee8ac0666823c1c", func := "millwheel/millwheellaw06.RootSpoilt", spec := "rootSpoilt", inPlace := ["slices.overlaps[millwheel/disk.file]"], unfollowed := true, recurses := true, apart := false }
def RootSpoiltSaid : Prop := rootSpoiltRow.holds Try.pinned (OpenSpec.ofChange rootSpoiltSpec)

/-- ITS FALSE NEIGHBOUR: 'it returns false'. Refute it at one input. -/
def rootSpoiltWrong : ChangeSpec := { name := "rootSpoilt", fn := fun _ => fun
  | [d1, d2, d3, d4, d5] => { results := [.lit (.bool false)], args := [d1, d2, d3, d4, d5] }
  | _ => none }
def RootSpoiltWrongFalsely : Prop := rootSpoiltRow.holds Try.pinned (OpenSpec.ofChange rootSpoiltWrong)

/-- 'millwheellaw02.DiskLone': WHATEVER THE INPUT: true; the input reads as it did. -/
def diskLoneSpec : ChangeSpec := { name := "diskLone", fn := fun _ => fun
  | [d1, d2, d3] => { results := [.lit (.bool true)], args := [d1, d2, d3] }
  | _ => none }
def diskLoneRow : OpenClaim := { program := "ytemegkapmgcffaa", sum := "0d28c22a64150e62ce5d6f8611bcc2bcba08f373deb334826ee8ac0666823c1c", func := "millwheel/millwheellaw02.DiskLone", spec := "diskLone", inPlace := ["slices.overlaps[millwheel/disk.file]", "internal/abi.NoEscape", "internal/bytealg.MakeNoZero"], unfollowed := true, recurses := true, apart := false }
def DiskLoneSaid : Prop := diskLoneRow.holds Try.pinned (OpenSpec.ofChange diskLoneSpec)

/-- ITS FALSE NEIGHBOUR: 'it returns false'. Refute it at one input. -/
def diskLoneWrong : ChangeSpec := { name := "diskLone", fn := fun _ => fun
  | [d1, d2, d3] => { results := [.lit (.bool false)], args := [d1, d2, d3] }
  | _ => none }
def DiskLoneWrongFalsely : Prop := diskLoneRow.holds Try.pinned (OpenSpec.ofChange diskLoneWrong)

/-- 'millwheellaw02.DiskOwn': WHATEVER THE INPUT: true; the input reads as it did. -/
def diskOwnSpec : ChangeSpec := { name := "diskOwn", fn := fun _ => fun
  | [d1, d2] => { results := [.lit (.bool true)], args := [d1, d2] }
  | _ => none }
def diskOwnRow : OpenClaim := { program := "ytemegkapmgcffaa", sum := "0d28c22a64150e62ce5d6f8611bcc2bcba08f373deb334826ee8ac0666823c1c", func := "millwheel/millwheellaw02.DiskOwn", spec := "diskOwn", inPlace := ["slices.overlaps[millwheel/disk.file]", "internal/abi.NoEscape", "internal/bytealg.MakeNoZero"], unfollowed := true, recurses := true, apart := false }
def DiskOwnSaid : Prop := diskOwnRow.holds Try.pinned (OpenSpec.ofChange diskOwnSpec)

/-- ITS FALSE NEIGHBOUR: 'it returns false'. Refute it at one input. -/
def diskOwnWrong : ChangeSpec := { name := "diskOwn", fn := fun _ => fun
  | [d1, d2] => { results := [.lit (.bool false)], args := [d1, d2] }
  | _ => none }
def DiskOwnWrongFalsely : Prop := diskOwnRow.holds Try.pinned (OpenSpec.ofChange diskOwnWrong)

/-- 'millwheellaw02.DiskNumbers': WHATEVER THE INPUT: true; the input reads as it did. -/
def diskNumbersSpec : ChangeSpec := { name := "diskNumbers", fn := fun _ => fun
  | [] => { results := [.lit (.bool true)], args := [] }
  | _ => none }
def diskNumbersRow : OpenClaim := { program := "ytemegkapmgcffaa", sum := "0d28c22a64150e62ce5d6f8611bcc2bcba08f373deb334826ee8ac0666823c1c", func := "millwheel/millwheellaw02.DiskNumbers", spec := "diskNumbers", inPlace := ["internal/abi.NoEscape", "internal/bytealg.MakeNoZero", "slices.overlaps[millwheel/disk.file]"], unfollowed := true, recurses := true, apart := false }
def DiskNumbersSaid : Prop := diskNumbersRow.holds Try.pinned (OpenSpec.ofChange diskNumbersSpec)

/-- ITS FALSE NEIGHBOUR: 'it returns false'. Refute it at one input. -/
def diskNumbersWrong : ChangeSpec := { name := "diskNumbers", fn := fun _ => fun
  | [] => { results := [.lit (.bool false)], args := [] }
  | _ => none }
def DiskNumbersWrongFalsely : Prop := diskNumbersRow.holds Try.pinned (OpenSpec.ofChange diskNumbersWrong)

/-- 'millwheellaw02.DiskTells': WHATEVER THE INPUT: true; the input reads as it did. -/
def diskTellsSpec : ChangeSpec := { name := "diskTells", fn := fun _ => fun
  | [d1, d2] => { results := [.lit (.bool true)], args := [d1, d2] }
  | _ => none }
def diskTellsRow : OpenClaim := { program := "ytemegkapmgcffaa", sum := "0d28c22a64150e62ce5d6f8611bcc2bcba08f373deb334826ee8ac0666823c1c", func := "millwheel/millwheellaw02.DiskTells", spec := "diskTells", inPlace := ["slices.overlaps[millwheel/disk.file]", "internal/abi.NoEscape", "internal/bytealg.MakeNoZero"], unfollowed := true, recurses := true, apart := false }
def DiskTellsSaid : Prop := diskTellsRow.holds Try.pinned (OpenSpec.ofChange diskTellsSpec)

/-- ITS FALSE NEIGHBOUR: 'it returns false'. Refute it at one input. -/
def diskTellsWrong : ChangeSpec := { name := "diskTells", fn := fun _ => fun
  | [d1, d2] => { results := [.lit (.bool false)], args := [d1, d2] }
  | _ => none }
def DiskTellsWrongFalsely : Prop := diskTellsRow.holds Try.pinned (OpenSpec.ofChange diskTellsWrong)

/-- 'millwheellaw02.DiskNone': WHATEVER THE INPUT: true; the input reads as it did. -/
def diskNoneSpec : ChangeSpec := { name := "diskNone", fn := fun _ => fun
  | [d] => { results := [.lit (.bool true)], args := [d] }
  | _ => none }
def diskNoneRow : OpenClaim := { program := "ytemegkapmgcffaa", sum := "0d28c22a64150e62ce5d6f8611bcc2bcba08f373deb334826ee8ac0666823c1c", func := "millwheel/millwheellaw02.DiskNone", spec := "diskNone", inPlace := ["slices.overlaps[millwheel/disk.file]", "internal/abi.NoEscape", "internal/bytealg.MakeNoZero"], unfollowed := true, recurses := true, apart := false }
def DiskNoneSaid : Prop := diskNoneRow.holds Try.pinned (OpenSpec.ofChange diskNoneSpec)

/-- ITS FALSE NEIGHBOUR: 'it returns false'. Refute it at one input. -/
def diskNoneWrong : ChangeSpec := { name := "diskNone", fn := fun _ => fun
  | [d] => { results := [.lit (.bool false)], args := [d] }
  | _ => none }
def DiskNoneWrongFalsely : Prop := diskNoneRow.holds Try.pinned (OpenSpec.ofChange diskNoneWrong)

/-- 'millwheellaw02.DiskLeaves': WHATEVER THE INPUT: true; the input reads as it did. -/
def diskLeavesSpec : ChangeSpec := { name := "diskLeaves", fn := fun _ => fun
  | [d1, d2, d3] => { results := [.lit (.bool true)], args := [d1, d2, d3] }
  | _ => none }
def diskLeavesRow : OpenClaim := { program := "ytemegkapmgcffaa", sum := "0d28c22a64150e62ce5d6f8611bcc2bcba08f373deb334826ee8ac0666823c1c", func := "millwheel/millwheellaw02.DiskLeaves", spec := "diskLeaves", inPlace := ["slices.overlaps[millwheel/disk.file]", "internal/abi.NoEscape", "internal/bytealg.MakeNoZero"], unfollowed := true, recurses := true, apart := false }
def DiskLeavesSaid : Prop := diskLeavesRow.holds Try.pinned (OpenSpec.ofChange diskLeavesSpec)

/-- ITS FALSE NEIGHBOUR: 'it returns false'. Refute it at one input. -/
def diskLeavesWrong : ChangeSpec := { name := "diskLeaves", fn := fun _ => fun
  | [d1, d2, d3] => { results := [.lit (.bool false)], args := [d1, d2, d3] }
  | _ => none }
def DiskLeavesWrongFalsely : Prop := diskLeavesRow.holds Try.pinned (OpenSpec.ofChange diskLeavesWrong)

/-- 'millwheellaw02.DiskKept': WHATEVER THE INPUT: true; the input reads as it did. -/
def diskKeptSpec : ChangeSpec := { name := "diskKept", fn := fun _ => fun
  | [d1, d2] => { results := [.lit (.bool true)], args := [d1, d2] }
  | _ => none }
def diskKeptRow : OpenClaim := { program := "ytemegkapmgcffaa", sum := "0d28c22a64150e62ce5d6f8611bcc2bcba08f373deb334826ee8ac0666823c1c", func := "millwheel/millwheellaw02.DiskKept", spec := "diskKept", inPlace := ["slices.overlaps[millwheel/disk.file]", "internal/abi.NoEscape", "internal/bytealg.MakeNoZero"], unfollowed := true, recurses := true, apart := false }
def DiskKeptSaid : Prop := diskKeptRow.holds Try.pinned (OpenSpec.ofChange diskKeptSpec)

/-- ITS FALSE NEIGHBOUR: 'it returns false'. Refute it at one input. -/
def diskKeptWrong : ChangeSpec := { name := "diskKept", fn := fun _ => fun
  | [d1, d2] => { results := [.lit (.bool false)], args := [d1, d2] }
  | _ => none }
def DiskKeptWrongFalsely : Prop := diskKeptRow.holds Try.pinned (OpenSpec.ofChange diskKeptWrong)

/-- 'millwheellaw02.DiskFuse': WHATEVER THE INPUT: true; the input reads as it did. -/
def diskFuseSpec : ChangeSpec := { name := "diskFuse", fn := fun _ => fun
  | [d1, d2] => { results := [.lit (.bool true)], args := [d1, d2] }
  | _ => none }
def diskFuseRow : OpenClaim := { program := "ytemegkapmgcffaa", sum := "0d28c22a64150e62ce5d6f8611bcc2bcba08f373deb334826ee8ac0666823c1c", func := "millwheel/millwheellaw02.DiskFuse", spec := "diskFuse", inPlace := ["slices.overlaps[millwheel/disk.file]", "internal/abi.NoEscape", "internal/bytealg.MakeNoZero"], unfollowed := true, recurses := true, apart := false }
def DiskFuseSaid : Prop := diskFuseRow.holds Try.pinned (OpenSpec.ofChange diskFuseSpec)

/-- ITS FALSE NEIGHBOUR: 'it returns false'. Refute it at one input. -/
def diskFuseWrong : ChangeSpec := { name := "diskFuse", fn := fun _ => fun
  | [d1, d2] => { results := [.lit (.bool false)], args := [d1, d2] }
  | _ => none }
def DiskFuseWrongFalsely : Prop := diskFuseRow.holds Try.pinned (OpenSpec.ofChange diskFuseWrong)

/-- 'millwheellaw06.RootSwitch': WHATEVER THE INPUT: true; the input reads as it did. -/
def rootSwitchSpec : ChangeSpec := { name := "rootSwitch", fn := fun _ => fun
  | [d] => { results := [.lit (.bool true)], args := [d] }
  | _ => none }
def rootSwitchRow : OpenClaim := { program := "ytemegkapmgcffaa", sum := "0d28c22a64150e62ce5d6f8611bcc2bcba08f373deb334826ee8ac0666823c1c", func := "millwheel/millwheellaw06.RootSwitch", spec := "rootSwitch", inPlace := ["slices.overlaps[millwheel/disk.file]"], unfollowed := true, recurses := true, apart := false }
def RootSwitchSaid : Prop := rootSwitchRow.holds Try.pinned (OpenSpec.ofChange rootSwitchSpec)

/-- ITS FALSE NEIGHBOUR: 'it returns false'. Refute it at one input. -/
def rootSwitchWrong : ChangeSpec := { name := "rootSwitch", fn := fun _ => fun
  | [d] => { results := [.lit (.bool false)], args := [d] }
  | _ => none }
def RootSwitchWrongFalsely : Prop := rootSwitchRow.holds Try.pinned (OpenSpec.ofChange rootSwitchWrong)

/- THE SECOND FORM. 'bulk': how many values and letters a reading holds, each counted each time it is reached (what is shared counts as often as it is met; a slice's spare places count too). A statement '..UptoSaid' is the law's where the arguments, and the package variables that the reading takes, are together of bulk at most 1048576: NARROWER than '..Said'. Prove '..Said' where nothing that the law and all that it calls make is longer than what came in: it says more and counts as full. Else prove '..UptoSaid'. A law counts once. -/
mutual
def uptoBulk {H : Type} : DataW H → Nat
  | .lit (.string bytes) => bytes.length + 1
  | .lit _ => 1
  | .nil => 1
  | .ptr d => uptoBulk d + 1
  | .slice elems spare => uptoBulkAll elems + uptoBulkAll spare + 1
  | .agg parts => uptoBulkAll parts + 1
  | .iface _ d => uptoBulk d + 1
  | .map entries => uptoBulkEntries entries + 1
  | .held _ => 1
def uptoBulkAll {H : Type} : List (DataW H) → Nat
  | [] => 0
  | d :: r => uptoBulk d + uptoBulkAll r
def uptoBulkEntries {H : Type} : List (Lit × DataW H) → Nat
  | [] => 0
  | x :: r => uptoBulkEntry x + uptoBulkEntries r
def uptoBulkEntry {H : Type} : Lit × DataW H → Nat
  | (.string bytes, d) => bytes.length + uptoBulk d + 1
  | (_, d) => uptoBulk d + 1
 end
def uptoSmall : (H : Type) → List (DataW H) → Bool := fun _ ds => decide (uptoBulkAll ds ≤ 1048576)
def OpenSpec.upto (s : _root_.Go.ChangeSpec) : _root_.Go.OpenSpec := { _root_.Go.OpenSpec.ofChange s with cond := some uptoSmall }

/-- 'millwheellaw06.RootTells', WHERE WHAT IT READS IS OF BULK AT MOST 1048576: true; the input reads as it did. -/
def rootTellsUptoRow : OpenClaim := { program := "ytemegkapmgcffaa", sum := "0d28c22a64150e62ce5d6f8611bcc2bcba08f373deb334826ee8ac0666823c1c", func := "millwheel/millwheellaw06.RootTells", spec := "rootTells", inPlace := ["slices.overlaps[millwheel/disk.file]"], unfollowed := true, recurses := true, apart := false, narrowed := true }
def RootTellsUptoSaid : Prop := rootTellsUptoRow.holds Try.pinned (OpenSpec.upto rootTellsSpec)

/-- 'millwheellaw06.RootNone', WHERE WHAT IT READS IS OF BULK AT MOST 1048576: true; the input reads as it did. -/
def rootNoneUptoRow : OpenClaim := { program := "ytemegkapmgcffaa", sum := "0d28c22a64150e62ce5d6f8611bcc2bcba08f373deb334826ee8ac0666823c1c", func := "millwheel/millwheellaw06.RootNone", spec := "rootNone", inPlace := ["slices.overlaps[millwheel/disk.file]"], unfollowed := true, recurses := true, apart := false, narrowed := true }
def RootNoneUptoSaid : Prop := rootNoneUptoRow.holds Try.pinned (OpenSpec.upto rootNoneSpec)

/-- 'millwheellaw06.RootTurns', WHERE WHAT IT READS IS OF BULK AT MOST 1048576: true; the input reads as it did. -/
def rootTurnsUptoRow : OpenClaim := { program := "ytemegkapmgcffaa", sum := "0d28c22a64150e62ce5d6f8611bcc2bcba08f373deb334826ee8ac0666823c1c", func := "millwheel/millwheellaw06.RootTurns", spec := "rootTurns", inPlace := ["slices.overlaps[millwheel/disk.file]"], unfollowed := true, recurses := true, apart := false, narrowed := true }
def RootTurnsUptoSaid : Prop := rootTurnsUptoRow.holds Try.pinned (OpenSpec.upto rootTurnsSpec)

/-- 'millwheellaw06.RootBack', WHERE WHAT IT READS IS OF BULK AT MOST 1048576: true; the input reads as it did. -/
def rootBackUptoRow : OpenClaim := { program := "ytemegkapmgcffaa", sum := "0d28c22a64150e62ce5d6f8611bcc2bcba08f373deb334826ee8ac0666823c1c", func := "millwheel/millwheellaw06.RootBack", spec := "rootBack", inPlace := ["slices.overlaps[millwheel/disk.file]"], unfollowed := true, recurses := true, apart := false, narrowed := true }
def RootBackUptoSaid : Prop := rootBackUptoRow.holds Try.pinned (OpenSpec.upto rootBackSpec)

/-- 'millwheellaw02.DiskSwap', WHERE WHAT IT READS IS OF BULK AT MOST 1048576: true; the input reads as it did. -/
def diskSwapUptoRow : OpenClaim := { program := "ytemegkapmgcffaa", sum := "0d28c22a64150e62ce5d6f8611bcc2bcba08f373deb334826ee8ac0666823c1c", func := "millwheel/millwheellaw02.DiskSwap", spec := "diskSwap", inPlace := ["slices.overlaps[millwheel/disk.file]", "internal/abi.NoEscape", "internal/bytealg.MakeNoZero"], unfollowed := true, recurses := true, apart := false, narrowed := true }
def DiskSwapUptoSaid : Prop := diskSwapUptoRow.holds Try.pinned (OpenSpec.upto diskSwapSpec)

/-- 'millwheellaw06.RootNumbers', WHERE WHAT IT READS IS OF BULK AT MOST 1048576: true; the input reads as it did. -/
def rootNumbersUptoRow : OpenClaim := { program := "ytemegkapmgcffaa", sum := "0d28c22a64150e62ce5d6f8611bcc2bcba08f373deb334826ee8ac0666823c1c", func := "millwheel/millwheellaw06.RootNumbers", spec := "rootNumbers", inPlace := ["slices.overlaps[millwheel/disk.file]"], unfollowed := true, recurses := true, apart := false, narrowed := true }
def RootNumbersUptoSaid : Prop := rootNumbersUptoRow.holds Try.pinned (OpenSpec.upto rootNumbersSpec)

/-- 'millwheellaw06.RootSpoilt', WHERE WHAT IT READS IS OF BULK AT MOST 1048576: true; the input reads as it did. -/
def rootSpoiltUptoRow : OpenClaim := { program := "ytemegkapmgcffaa", sum := "0d28c22a64150e62ce5d6f8611bcc2bcba08f373deb334826ee8ac0666823c1c", func := "millwheel/millwheellaw06.RootSpoilt", spec := "rootSpoilt", inPlace := ["slices.overlaps[millwheel/disk.file]"], unfollowed := true, recurses := true, apart := false, narrowed := true }
def RootSpoiltUptoSaid : Prop := rootSpoiltUptoRow.holds Try.pinned (OpenSpec.upto rootSpoiltSpec)

/-- 'millwheellaw02.DiskLone', WHERE WHAT IT READS IS OF BULK AT MOST 1048576: true; the input reads as it did. -/
def diskLoneUptoRow : OpenClaim := { program := "ytemegkapmgcffaa", sum := "0d28c22a64150e62ce5d6f8611bcc2bcba08f373deb334826ee8ac0666823c1c", func := "millwheel/millwheellaw02.DiskLone", spec := "diskLone", inPlace := ["slices.overlaps[millwheel/disk.file]", "internal/abi.NoEscape", "internal/bytealg.MakeNoZero"], unfollowed := true, recurses := true, apart := false, narrowed := true }
def DiskLoneUptoSaid : Prop := diskLoneUptoRow.holds Try.pinned (OpenSpec.upto diskLoneSpec)

/-- 'millwheellaw02.DiskOwn', WHERE WHAT IT READS IS OF BULK AT MOST 1048576: true; the input reads as it did. -/
def diskOwnUptoRow : OpenClaim := { program := "ytemegkapmgcffaa", sum := "0d28c22a64150e62ce5d6f8611bcc2bcba08f373deb334826ee8ac0666823c1c", func := "millwheel/millwheellaw02.DiskOwn", spec := "diskOwn", inPlace := ["slices.overlaps[millwheel/disk.file]", "internal/abi.NoEscape", "internal/bytealg.MakeNoZero"], unfollowed := true, recurses := true, apart := false, narrowed := true }
def DiskOwnUptoSaid : Prop := diskOwnUptoRow.holds Try.pinned (OpenSpec.upto diskOwnSpec)

/-- 'millwheellaw02.DiskNumbers', WHERE WHAT IT READS IS OF BULK AT MOST 1048576: true; the input reads as it did. -/
def diskNumbersUptoRow : OpenClaim := { program := "ytemegkapmgcffaa", sum := "0d28c22a64150e62ce5d6f8611bcc2bcba08f373deb334826ee8ac0666823c1c", func := "millwheel/millwheellaw02.DiskNumbers", spec := "diskNumbers", inPlace := ["internal/abi.NoEscape", "internal/bytealg.MakeNoZero", "slices.overlaps[millwheel/disk.file]"], unfollowed := true, recurses := true, apart := false, narrowed := true }
def DiskNumbersUptoSaid : Prop := diskNumbersUptoRow.holds Try.pinned (OpenSpec.upto diskNumbersSpec)

/-- 'millwheellaw02.DiskTells', WHERE WHAT IT READS IS OF BULK AT MOST 1048576: true; the input reads as it did. -/
def diskTellsUptoRow : OpenClaim := { program := "ytemegkapmgcffaa", sum := "0d28c22a64150e62ce5d6f8611bcc2bcba08f373deb334826ee8ac0666823c1c", func := "millwheel/millwheellaw02.DiskTells", spec := "diskTells", inPlace := ["slices.overlaps[millwheel/disk.file]", "internal/abi.NoEscape", "internal/bytealg.MakeNoZero"], unfollowed := true, recurses := true, apart := false, narrowed := true }
def DiskTellsUptoSaid : Prop := diskTellsUptoRow.holds Try.pinned (OpenSpec.upto diskTellsSpec)

/-- 'millwheellaw02.DiskNone', WHERE WHAT IT READS IS OF BULK AT MOST 1048576: true; the input reads as it did. -/
def diskNoneUptoRow : OpenClaim := { program := "ytemegkapmgcffaa", sum := "0d28c22a64150e62ce5d6f8611bcc2bcba08f373deb334826ee8ac0666823c1c", func := "millwheel/millwheellaw02.DiskNone", spec := "diskNone", inPlace := ["slices.overlaps[millwheel/disk.file]", "internal/abi.NoEscape", "internal/bytealg.MakeNoZero"], unfollowed := true, recurses := true, apart := false, narrowed := true }
def DiskNoneUptoSaid : Prop := diskNoneUptoRow.holds Try.pinned (OpenSpec.upto diskNoneSpec)

/-- 'millwheellaw02.DiskLeaves', WHERE WHAT IT READS IS OF BULK AT MOST 1048576: true; the input reads as it did. -/
def diskLeavesUptoRow : OpenClaim := { program := "ytemegkapmgcffaa", sum := "0d28c22a64150e62ce5d6f8611bcc2bcba08f373deb334826ee8ac0666823c1c", func := "millwheel/millwheellaw02.DiskLeaves", spec := "diskLeaves", inPlace := ["slices.overlaps[millwheel/disk.file]", "internal/abi.NoEscape", "internal/bytealg.MakeNoZero"], unfollowed := true, recurses := true, apart := false, narrowed := true }
def DiskLeavesUptoSaid : Prop := diskLeavesUptoRow.holds Try.pinned (OpenSpec.upto diskLeavesSpec)

/-- 'millwheellaw02.DiskKept', WHERE WHAT IT READS IS OF BULK AT MOST 1048576: true; the input reads as it did. -/
def diskKeptUptoRow : OpenClaim := { program := "ytemegkapmgcffaa", sum := "0d28c22a64150e62ce5d6f8611bcc2bcba08f373deb334826ee8ac0666823c1c", func := "millwheel/millwheellaw02.DiskKept", spec := "diskKept", inPlace := ["slices.overlaps[millwheel/disk.file]", "internal/abi.NoEscape", "internal/bytealg.MakeNoZero"], unfollowed := true, recurses := true, apart := false, narrowed := true }
def DiskKeptUptoSaid : Prop := diskKeptUptoRow.holds Try.pinned (OpenSpec.upto diskKeptSpec)

/-- 'millwheellaw02.DiskFuse', WHERE WHAT IT READS IS OF BULK AT MOST 1048576: true; the input reads as it did. -/
def diskFuseUptoRow : OpenClaim := { program := "ytemegkapmgcffaa", sum := "0d28c22a64150e62ce5d6f8611bcc2bcba08f373deb334826ee8ac0666823c1c", func := "millwheel/millwheellaw02.DiskFuse", spec := "diskFuse", inPlace := ["slices.overlaps[millwheel/disk.file]", "internal/abi.NoEscape", "internal/bytealg.MakeNoZero"], unfollowed := true, recurses := true, apart := false, narrowed := true }
def DiskFuseUptoSaid : Prop := diskFuseUptoRow.holds Try.pinned (OpenSpec.upto diskFuseSpec)

/-- 'millwheellaw06.RootSwitch', WHERE WHAT IT READS IS OF BULK AT MOST 1048576: true; the input reads as it did. -/
def rootSwitchUptoRow : OpenClaim := { program := "ytemegkapmgcffaa", sum := "0d28c22a64150e62ce5d6f8611bcc2bcba08f373deb334826ee8ac0666823c1c", func := "millwheel/millwheellaw06.RootSwitch", spec := "rootSwitch", inPlace := ["slices.overlaps[millwheel/disk.file]"], unfollowed := true, recurses := true, apart := false, narrowed := true }
def RootSwitchUptoSaid : Prop := rootSwitchUptoRow.holds Try.pinned (OpenSpec.upto rootSwitchSpec)

end Rows
end Go.Proofs.Ytemegkapmgcffaa
