/-
  No cell of these rows narrows 'for every input' (looked for: loops, veiled, ifaces, maps, wideKeys, modest, calm, conditions, laid).
  DERIVED. THE GIVEN ROWS OF THIS SEAT. 14 by the template 'for every input the law returns true; each argument reads behind the call as it read before'; 0 by the template 'total and deterministic' (their statements: YtbnifagmbhiblaaTotals.lean).
  GIVEN WITH THE SEED: the statements are not yours to turn. If you find one false, say at which input.
  Laid BY PROGRAM, IN A SANDBOX (cutbox-rows.mjs): the forced cells as the released guide's own fill.sh prints them over the translation ee7526e7d7af3509… (all of the seat's roots in one cut). By AI agents, Wed Nov 11 2026. No macro, syntax, notation, axiom, sorry.
-/
import Derived.Test.YtbnifagmbhiblaaChecked
import GoSem.Claim
import GoSem.ClaimJoined
import GoSem.ClaimMapViews
import Derived.JoinedTies
import Derived.KernelRfl
namespace Go.Proofs.Ytbnifagmbhiblaa
/- THE CELL 'sum', in the pinned program and in every row, IS THE sha256 OF THE DUMP (.gsa) THAT YtbnifagmbhiblaaProg.lean LOADS. Nothing in Lean hashes anything: it is a label: what it is worth is what the hold of that sum in a sandbox is worth. -/
noncomputable def Try.pinned : Pinned := { name := "ytbnifagmbhiblaa", sum := "ee7526e7d7af3509f822c34dfa6f79ff6a59d3180c9d458f6d22e1670ea6aec9", checked := Try.checked }
namespace Rows
def none {H : Type} : Left H := { results := [], args := [] }

/-- 'millwheellaw01.BytesSigns': WHATEVER THE INPUT: true; the input reads as it did. -/
def bytesSignsSpec : ChangeSpec := { name := "bytesSigns", fn := fun _ => fun
  | [d1, d2, d3] => { results := [.lit (.bool true)], args := [d1, d2, d3] }
  | _ => none }
def bytesSignsRow : OpenClaim := { program := "ytbnifagmbhiblaa", sum := "ee7526e7d7af3509f822c34dfa6f79ff6a59d3180c9d458f6d22e1670ea6aec9", func := "millwheel/millwheellaw01.BytesSigns", spec := "bytesSigns", unfollowed := true, recurses := true, apart := false }
def BytesSignsSaid : Prop := bytesSignsRow.holds Try.pinned (OpenSpec.ofChange bytesSignsSpec)

/-- ITS FALSE NEIGHBOUR: 'it returns false'. Refute it at one input. -/
def bytesSignsWrong : ChangeSpec := { name := "bytesSigns", fn := fun _ => fun
  | [d1, d2, d3] => { results := [.lit (.bool false)], args := [d1, d2, d3] }
  | _ => none }
def BytesSignsWrongFalsely : Prop := bytesSignsRow.holds Try.pinned (OpenSpec.ofChange bytesSignsWrong)

/-- 'millwheellaw01.BytesGrow': WHATEVER THE INPUT: true; the input reads as it did. -/
def bytesGrowSpec : ChangeSpec := { name := "bytesGrow", fn := fun _ => fun
  | [d1, d2] => { results := [.lit (.bool true)], args := [d1, d2] }
  | _ => none }
def bytesGrowRow : OpenClaim := { program := "ytbnifagmbhiblaa", sum := "ee7526e7d7af3509f822c34dfa6f79ff6a59d3180c9d458f6d22e1670ea6aec9", func := "millwheel/millwheellaw01.BytesGrow", spec := "bytesGrow", apart := false }
def BytesGrowSaid : Prop := bytesGrowRow.holds Try.pinned (OpenSpec.ofChange bytesGrowSpec)

/-- ITS FALSE NEIGHBOUR: 'it returns false'. Refute it at one input. -/
def bytesGrowWrong : ChangeSpec := { name := "bytesGrow", fn := fun _ => fun
  | [d1, d2] => { results := [.lit (.bool false)], args := [d1, d2] }
  | _ => none }
def BytesGrowWrongFalsely : Prop := bytesGrowRow.holds Try.pinned (OpenSpec.ofChange bytesGrowWrong)

/-- 'millwheellaw01.BytesBehind': WHATEVER THE INPUT: true; the input reads as it did. -/
def bytesBehindSpec : ChangeSpec := { name := "bytesBehind", fn := fun _ => fun
  | [d1, d2, d3, d4] => { results := [.lit (.bool true)], args := [d1, d2, d3, d4] }
  | _ => none }
def bytesBehindRow : OpenClaim := { program := "ytbnifagmbhiblaa", sum := "ee7526e7d7af3509f822c34dfa6f79ff6a59d3180c9d458f6d22e1670ea6aec9", func := "millwheel/millwheellaw01.BytesBehind", spec := "bytesBehind", unfollowed := true, recurses := true, apart := false }
def BytesBehindSaid : Prop := bytesBehindRow.holds Try.pinned (OpenSpec.ofChange bytesBehindSpec)

/-- ITS FALSE NEIGHBOUR: 'it returns false'. Refute it at one input. -/
def bytesBehindWrong : ChangeSpec := { name := "bytesBehind", fn := fun _ => fun
  | [d1, d2, d3, d4] => { results := [.lit (.bool false)], args := [d1, d2, d3, d4] }
  | _ => none }
def BytesBehindWrongFalsely : Prop := bytesBehindRow.holds Try.pinned (OpenSpec.ofChange bytesBehindWrong)

/-- 'millwheellaw01.BytesSeen': WHATEVER THE INPUT: true; the input reads as it did. -/
def bytesSeenSpec : ChangeSpec := { name := "bytesSeen", fn := fun _ => fun
  | [d1, d2, d3, d4, d5] => { results := [.lit (.bool true)], args := [d1, d2, d3, d4, d5] }
  | _ => none }
def bytesSeenRow : OpenClaim := { program := "ytbnifagmbhiblaa", sum := "ee7526e7d7af3509f822c34dfa6f79ff6a59d3180c9d458f6d22e1670ea6aec9", func := "millwheel/millwheellaw01.BytesSeen", spec := "bytesSeen", apart := false }
def BytesSeenSaid : Prop := bytesSeenRow.holds Try.pinned (OpenSpec.ofChange bytesSeenSpec)

/-- ITS FALSE NEIGHBOUR: 'it returns false'. Refute it at one input. -/
def bytesSeenWrong : ChangeSpec := { name := "bytesSeen", fn := fun _ => fun
  | [d1, d2, d3, d4, d5] => { results := [.lit (.bool false)], args := [d1, d2, d3, d4, d5] }
  | _ => none }
def BytesSeenWrongFalsely : Prop := bytesSeenRow.holds Try.pinned (OpenSpec.ofChange bytesSeenWrong)

/-- 'millwheellaw01.BytesNumbers': WHATEVER THE INPUT: true; the input reads as it did. -/
def bytesNumbersSpec : ChangeSpec := { name := "bytesNumbers", fn := fun _ => fun
  | [] => { results := [.lit (.bool true)], args := [] }
  | _ => none }
def bytesNumbersRow : OpenClaim := { program := "ytbnifagmbhiblaa", sum := "ee7526e7d7af3509f822c34dfa6f79ff6a59d3180c9d458f6d22e1670ea6aec9", func := "millwheel/millwheellaw01.BytesNumbers", spec := "bytesNumbers", apart := false }
def BytesNumbersSaid : Prop := bytesNumbersRow.holds Try.pinned (OpenSpec.ofChange bytesNumbersSpec)

/-- ITS FALSE NEIGHBOUR: 'it returns false'. Refute it at one input. -/
def bytesNumbersWrong : ChangeSpec := { name := "bytesNumbers", fn := fun _ => fun
  | [] => { results := [.lit (.bool false)], args := [] }
  | _ => none }
def BytesNumbersWrongFalsely : Prop := bytesNumbersRow.holds Try.pinned (OpenSpec.ofChange bytesNumbersWrong)

/-- 'millwheellaw01.BytesTells': WHATEVER THE INPUT: true; the input reads as it did. -/
def bytesTellsSpec : ChangeSpec := { name := "bytesTells", fn := fun _ => fun
  | [d1, d2, d3, d4] => { results := [.lit (.bool true)], args := [d1, d2, d3, d4] }
  | _ => none }
def bytesTellsRow : OpenClaim := { program := "ytbnifagmbhiblaa", sum := "ee7526e7d7af3509f822c34dfa6f79ff6a59d3180c9d458f6d22e1670ea6aec9", func := "millwheel/millwheellaw01.BytesTells", spec := "bytesTells", apart := false }
def BytesTellsSaid : Prop := bytesTellsRow.holds Try.pinned (OpenSpec.ofChange bytesTellsSpec)

/-- ITS FALSE NEIGHBOUR: 'it returns false'. Refute it at one input. -/
def bytesTellsWrong : ChangeSpec := { name := "bytesTells", fn := fun _ => fun
  | [d1, d2, d3, d4] => { results := [.lit (.bool false)], args := [d1, d2, d3, d4] }
  | _ => none }
def BytesTellsWrongFalsely : Prop := bytesTellsRow.holds Try.pinned (OpenSpec.ofChange bytesTellsWrong)

/-- 'millwheellaw01.BytesLog': WHATEVER THE INPUT: true; the input reads as it did. -/
def bytesLogSpec : ChangeSpec := { name := "bytesLog", fn := fun _ => fun
  | [d1, d2, d3] => { results := [.lit (.bool true)], args := [d1, d2, d3] }
  | _ => none }
def bytesLogRow : OpenClaim := { program := "ytbnifagmbhiblaa", sum := "ee7526e7d7af3509f822c34dfa6f79ff6a59d3180c9d458f6d22e1670ea6aec9", func := "millwheel/millwheellaw01.BytesLog", spec := "bytesLog", apart := false }
def BytesLogSaid : Prop := bytesLogRow.holds Try.pinned (OpenSpec.ofChange bytesLogSpec)

/-- ITS FALSE NEIGHBOUR: 'it returns false'. Refute it at one input. -/
def bytesLogWrong : ChangeSpec := { name := "bytesLog", fn := fun _ => fun
  | [d1, d2, d3] => { results := [.lit (.bool false)], args := [d1, d2, d3] }
  | _ => none }
def BytesLogWrongFalsely : Prop := bytesLogRow.holds Try.pinned (OpenSpec.ofChange bytesLogWrong)

/-- 'millwheellaw03.FrameNumbers': WHATEVER THE INPUT: true; the input reads as it did. -/
def frameNumbersSpec : ChangeSpec := { name := "frameNumbers", fn := fun _ => fun
  | [] => { results := [.lit (.bool true)], args := [] }
  | _ => none }
def frameNumbersRow : OpenClaim := { program := "ytbnifagmbhiblaa", sum := "ee7526e7d7af3509f822c34dfa6f79ff6a59d3180c9d458f6d22e1670ea6aec9", func := "millwheel/millwheellaw03.FrameNumbers", spec := "frameNumbers", apart := false }
def FrameNumbersSaid : Prop := frameNumbersRow.holds Try.pinned (OpenSpec.ofChange frameNumbersSpec)

/-- ITS FALSE NEIGHBOUR: 'it returns false'. Refute it at one input. -/
def frameNumbersWrong : ChangeSpec := { name := "frameNumbers", fn := fun _ => fun
  | [] => { results := [.lit (.bool false)], args := [] }
  | _ => none }
def FrameNumbersWrongFalsely : Prop := frameNumbersRow.holds Try.pinned (OpenSpec.ofChange frameNumbersWrong)

/-- 'millwheellaw03.FrameTells': WHATEVER THE INPUT: true; the input reads as it did. -/
def frameTellsSpec : ChangeSpec := { name := "frameTells", fn := fun _ => fun
  | [d1, d2, d3, d4] => { results := [.lit (.bool true)], args := [d1, d2, d3, d4] }
  | _ => none }
def frameTellsRow : OpenClaim := { program := "ytbnifagmbhiblaa", sum := "ee7526e7d7af3509f822c34dfa6f79ff6a59d3180c9d458f6d22e1670ea6aec9", func := "millwheel/millwheellaw03.FrameTells", spec := "frameTells", apart := false }
def FrameTellsSaid : Prop := frameTellsRow.holds Try.pinned (OpenSpec.ofChange frameTellsSpec)

/-- ITS FALSE NEIGHBOUR: 'it returns false'. Refute it at one input. -/
def frameTellsWrong : ChangeSpec := { name := "frameTells", fn := fun _ => fun
  | [d1, d2, d3, d4] => { results := [.lit (.bool false)], args := [d1, d2, d3, d4] }
  | _ => none }
def FrameTellsWrongFalsely : Prop := frameTellsRow.holds Try.pinned (OpenSpec.ofChange frameTellsWrong)

/-- 'millwheellaw03.FrameTorn': WHATEVER THE INPUT: true; the input reads as it did. -/
def frameTornSpec : ChangeSpec := { name := "frameTorn", fn := fun _ => fun
  | [d1, d2, d3] => { results := [.lit (.bool true)], args := [d1, d2, d3] }
  | _ => none }
def frameTornRow : OpenClaim := { program := "ytbnifagmbhiblaa", sum := "ee7526e7d7af3509f822c34dfa6f79ff6a59d3180c9d458f6d22e1670ea6aec9", func := "millwheel/millwheellaw03.FrameTorn", spec := "frameTorn", apart := false }
def FrameTornSaid : Prop := frameTornRow.holds Try.pinned (OpenSpec.ofChange frameTornSpec)

/-- ITS FALSE NEIGHBOUR: 'it returns false'. Refute it at one input. -/
def frameTornWrong : ChangeSpec := { name := "frameTorn", fn := fun _ => fun
  | [d1, d2, d3] => { results := [.lit (.bool false)], args := [d1, d2, d3] }
  | _ => none }
def FrameTornWrongFalsely : Prop := frameTornRow.holds Try.pinned (OpenSpec.ofChange frameTornWrong)

/-- 'millwheellaw03.FrameBack': WHATEVER THE INPUT: true; the input reads as it did. -/
def frameBackSpec : ChangeSpec := { name := "frameBack", fn := fun _ => fun
  | [d1, d2, d3, d4] => { results := [.lit (.bool true)], args := [d1, d2, d3, d4] }
  | _ => none }
def frameBackRow : OpenClaim := { program := "ytbnifagmbhiblaa", sum := "ee7526e7d7af3509f822c34dfa6f79ff6a59d3180c9d458f6d22e1670ea6aec9", func := "millwheel/millwheellaw03.FrameBack", spec := "frameBack", apart := false }
def FrameBackSaid : Prop := frameBackRow.holds Try.pinned (OpenSpec.ofChange frameBackSpec)

/-- ITS FALSE NEIGHBOUR: 'it returns false'. Refute it at one input. -/
def frameBackWrong : ChangeSpec := { name := "frameBack", fn := fun _ => fun
  | [d1, d2, d3, d4] => { results := [.lit (.bool false)], args := [d1, d2, d3, d4] }
  | _ => none }
def FrameBackWrongFalsely : Prop := frameBackRow.holds Try.pinned (OpenSpec.ofChange frameBackWrong)

/-- 'millwheellaw03.FrameTurned': WHATEVER THE INPUT: true; the input reads as it did. -/
def frameTurnedSpec : ChangeSpec := { name := "frameTurned", fn := fun _ => fun
  | [d1, d2, d3, d4] => { results := [.lit (.bool true)], args := [d1, d2, d3, d4] }
  | _ => none }
def frameTurnedRow : OpenClaim := { program := "ytbnifagmbhiblaa", sum := "ee7526e7d7af3509f822c34dfa6f79ff6a59d3180c9d458f6d22e1670ea6aec9", func := "millwheel/millwheellaw03.FrameTurned", spec := "frameTurned", apart := false }
def FrameTurnedSaid : Prop := frameTurnedRow.holds Try.pinned (OpenSpec.ofChange frameTurnedSpec)

/-- ITS FALSE NEIGHBOUR: 'it returns false'. Refute it at one input. -/
def frameTurnedWrong : ChangeSpec := { name := "frameTurned", fn := fun _ => fun
  | [d1, d2, d3, d4] => { results := [.lit (.bool false)], args := [d1, d2, d3, d4] }
  | _ => none }
def FrameTurnedWrongFalsely : Prop := frameTurnedRow.holds Try.pinned (OpenSpec.ofChange frameTurnedWrong)

/-- 'millwheellaw03.FrameApart': WHATEVER THE INPUT: true; the input reads as it did. -/
def frameApartSpec : ChangeSpec := { name := "frameApart", fn := fun _ => fun
  | [d1, d2] => { results := [.lit (.bool true)], args := [d1, d2] }
  | _ => none }
def frameApartRow : OpenClaim := { program := "ytbnifagmbhiblaa", sum := "ee7526e7d7af3509f822c34dfa6f79ff6a59d3180c9d458f6d22e1670ea6aec9", func := "millwheel/millwheellaw03.FrameApart", spec := "frameApart", apart := false }
def FrameApartSaid : Prop := frameApartRow.holds Try.pinned (OpenSpec.ofChange frameApartSpec)

/-- ITS FALSE NEIGHBOUR: 'it returns false'. Refute it at one input. -/
def frameApartWrong : ChangeSpec := { name := "frameApart", fn := fun _ => fun
  | [d1, d2] => { results := [.lit (.bool false)], args := [d1, d2] }
  | _ => none }
def FrameApartWrongFalsely : Prop := frameApartRow.holds Try.pinned (OpenSpec.ofChange frameApartWrong)

/-- 'millwheellaw03.FrameSpares': WHATEVER THE INPUT: true; the input reads as it did. -/
def frameSparesSpec : ChangeSpec := { name := "frameSpares", fn := fun _ => fun
  | [d] => { results := [.lit (.bool true)], args := [d] }
  | _ => none }
def frameSparesRow : OpenClaim := { program := "ytbnifagmbhiblaa", sum := "ee7526e7d7af3509f822c34dfa6f79ff6a59d3180c9d458f6d22e1670ea6aec9", func := "millwheel/millwheellaw03.FrameSpares", spec := "frameSpares", apart := false }
def FrameSparesSaid : Prop := frameSparesRow.holds Try.pinned (OpenSpec.ofChange frameSparesSpec)

/-- ITS FALSE NEIGHBOUR: 'it returns false'. Refute it at one input. -/
def frameSparesWrong : ChangeSpec := { name := "frameSpares", fn := fun _ => fun
  | [d] => { results := [.lit (.bool false)], args := [d] }
  | _ => none }
def FrameSparesWrongFalsely : Prop := frameSparesRow.holds Try.pinned (OpenSpec.ofChange frameSparesWrong)

/- THE SECOND FORM. 'bulk': how many values and letters a reading holds, each counted each time it is reached (what is shared counts as often as it is met; a slice's spare places count too). A statement '..UptoSaid' is the law's where the arguments, and the package variables that the reading takes, are together of bulk at most 1048576: NARROWER than '..Said'. Prove '..Said' where nothing that the law and all that it calls make is longer than what came in: it says more and counts as full. Else prove '..UptoSaid'. A law counts once. -/
mutual
def uptoBulk {H : Type} : DataW H → Nat
  | .lit (.string bytes) => bytes.length + 1
  | .lit _ => 1
  | .nil => 1
  | .ptr d => uptoBulk d + 1
  | .slice elems spare => uptoBulkAll elems + uptoBulkAll spare + 1
  | .agg parts => uptoBulkAll parts + 1
  | .iface _ d => uptoBulk d + 1
  | .map entries => uptoBulkEntries entries + 1
  | .held _ => 1
def uptoBulkAll {H : Type} : List (DataW H) → Nat
  | [] => 0
  | d :: r => uptoBulk d + uptoBulkAll r
def uptoBulkEntries {H : Type} : List (Lit × DataW H) → Nat
  | [] => 0
  | x :: r => uptoBulkEntry x + uptoBulkEntries r
def uptoBulkEntry {H : Type} : Lit × DataW H → Nat
  | (.string bytes, d) => bytes.length + uptoBulk d + 1
  | (_, d) => uptoBulk d + 1
 end
def uptoSmall : (H : Type) → List (DataW H) → Bool := fun _ ds => decide (uptoBulkAll ds ≤ 1048576)
def OpenSpec.upto (s : _root_.Go.ChangeSpec) : _root_.Go.OpenSpec := { _root_.Go.OpenSpec.ofChange s with cond := some uptoSmall }

/-- 'millwheellaw01.BytesSigns', WHERE WHAT IT READS IS OF BULK AT MOST 1048576: true; the input reads as it did. -/
def bytesSignsUptoRow : OpenClaim := { program := "ytbnifagmbhiblaa", sum := "ee7526e7d7af3509f822c34dfa6f79ff6a59d3180c9d458f6d22e1670ea6aec9", func := "millwheel/millwheellaw01.BytesSigns", spec := "bytesSigns", unfollowed := true, recurses := true, apart := false, narrowed := true }
def BytesSignsUptoSaid : Prop := bytesSignsUptoRow.holds Try.pinned (OpenSpec.upto bytesSignsSpec)

/-- 'millwheellaw01.BytesGrow', WHERE WHAT IT READS IS OF BULK AT MOST 1048576: true; the input reads as it did. -/
def bytesGrowUptoRow : OpenClaim := { program := "ytbnifagmbhiblaa", sum := "ee7526e7d7af3509f822c34dfa6f79ff6a59d3180c9d458f6d22e1670ea6aec9", func := "millwheel/millwheellaw01.BytesGrow", spec := "bytesGrow", apart := false, narrowed := true }
def BytesGrowUptoSaid : Prop := bytesGrowUptoRow.holds Try.pinned (OpenSpec.upto bytesGrowSpec)

/-- 'millwheellaw01.BytesBehind', WHERE WHAT IT READS IS OF BULK AT MOST 1048576: true; the input reads as it did. -/
def bytesBehindUptoRow : OpenClaim := { program := "ytbnifagmbhiblaa", sum := "ee7526e7d7af3509f822c34dfa6f79ff6a59d3180c9d458f6d22e1670ea6aec9", func := "millwheel/millwheellaw01.BytesBehind", spec := "bytesBehind", unfollowed := true, recurses := true, apart := false, narrowed := true }
def BytesBehindUptoSaid : Prop := bytesBehindUptoRow.holds Try.pinned (OpenSpec.upto bytesBehindSpec)

/-- 'millwheellaw01.BytesSeen', WHERE WHAT IT READS IS OF BULK AT MOST 1048576: true; the input reads as it did. -/
def bytesSeenUptoRow : OpenClaim := { program := "ytbnifagmbhiblaa", sum := "ee7526e7d7af3509f822c34dfa6f79ff6a59d3180c9d458f6d22e1670ea6aec9", func := "millwheel/millwheellaw01.BytesSeen", spec := "bytesSeen", apart := false, narrowed := true }
def BytesSeenUptoSaid : Prop := bytesSeenUptoRow.holds Try.pinned (OpenSpec.upto bytesSeenSpec)

/-- 'millwheellaw01.BytesNumbers', WHERE WHAT IT READS IS OF BULK AT MOST 1048576: true; the input reads as it did. -/
def bytesNumbersUptoRow : OpenClaim := { program := "ytbnifagmbhiblaa", sum := "ee7526e7d7af3509f822c34dfa6f79ff6a59d3180c9d458f6d22e1670ea6aec9", func := "millwheel/millwheellaw01.BytesNumbers", spec := "bytesNumbers", apart := false, narrowed := true }
def BytesNumbersUptoSaid : Prop := bytesNumbersUptoRow.holds Try.pinned (OpenSpec.upto bytesNumbersSpec)

/-- 'millwheellaw01.BytesTells', WHERE WHAT IT READS IS OF BULK AT MOST 1048576: true; the input reads as it did. -/
def bytesTellsUptoRow : OpenClaim := { program := "ytbnifagmbhiblaa", sum := "ee7526e7d7af3509f822c34dfa6f79ff6a59d3180c9d458f6d22e1670ea6aec9", func := "millwheel/millwheellaw01.BytesTells", spec := "bytesTells", apart := false, narrowed := true }
def BytesTellsUptoSaid : Prop := bytesTellsUptoRow.holds Try.pinned (OpenSpec.upto bytesTellsSpec)

/-- 'millwheellaw01.BytesLog', WHERE WHAT IT READS IS OF BULK AT MOST 1048576: true; the input reads as it did. -/
def bytesLogUptoRow : OpenClaim := { program := "ytbnifagmbhiblaa", sum := "ee7526e7d7af3509f822c34dfa6f79ff6a59d3180c9d458f6d22e1670ea6aec9", func := "millwheel/millwheellaw01.BytesLog", spec := "bytesLog", apart := false, narrowed := true }
def BytesLogUptoSaid : Prop := bytesLogUptoRow.holds Try.pinned (OpenSpec.upto bytesLogSpec)

/-- 'millwheellaw03.FrameNumbers', WHERE WHAT IT READS IS OF BULK AT MOST 1048576: true; the input reads as it did. -/
def frameNumbersUptoRow : OpenClaim := { program := "ytbnifagmbhiblaa", sum := "ee7526e7d7af3509f822c34dfa6f79ff6a59d3180c9d458f6d22e1670ea6aec9", func := "millwheel/millwheellaw03.FrameNumbers", spec := "frameNumbers", apart := false, narrowed := true }
def FrameNumbersUptoSaid : Prop := frameNumbersUptoRow.holds Try.pinned (OpenSpec.upto frameNumbersSpec)

/-- 'millwheellaw03.FrameTells', WHERE WHAT IT READS IS OF BULK AT MOST 1048576: true; the input reads as it did. -/
def frameTellsUptoRow : OpenClaim := { program := "ytbnifagmbhiblaa", sum := "ee7526e7d7af3509f822c34dfa6f79ff6a59d3180c9d458f6d22e1670ea6aec9", func := "millwheel/millwheellaw03.FrameTells", spec := "frameTells", apart := false, narrowed := true }
def FrameTellsUptoSaid : Prop := frameTellsUptoRow.holds Try.pinned (OpenSpec.upto frameTellsSpec)

/-- 'millwheellaw03.FrameTorn', WHERE WHAT IT READS IS OF BULK AT MOST 1048576: true; the input reads as it did. -/
def frameTornUptoRow : OpenClaim := { program := "ytbnifagmbhiblaa", sum := "ee7526e7d7af3509f822c34dfa6f79ff6a59d3180c9d458f6d22e1670ea6aec9", func := "millwheel/millwheellaw03.FrameTorn", spec := "frameTorn", apart := false, narrowed := true }
def FrameTornUptoSaid : Prop := frameTornUptoRow.holds Try.pinned (OpenSpec.upto frameTornSpec)

/-- 'millwheellaw03.FrameBack', WHERE WHAT IT READS IS OF BULK AT MOST 1048576: true; the input reads as it did. -/
def frameBackUptoRow : OpenClaim := { program := "ytbnifagmbhiblaa", sum := "ee7526e7d7af3509f822c34dfa6f79ff6a59d3180c9d458f6d22e1670ea6aec9", func := "millwheel/millwheellaw03.FrameBack", spec := "frameBack", apart := false, narrowed := true }
def FrameBackUptoSaid : Prop := frameBackUptoRow.holds Try.pinned (OpenSpec.upto frameBackSpec)

/-- 'millwheellaw03.FrameTurned', WHERE WHAT IT READS IS OF BULK AT MOST 1048576: true; the input reads as it did. -/
def frameTurnedUptoRow : OpenClaim := { program := "ytbnifagmbhiblaa", sum := "ee7526e7d7af3509f822c34dfa6f79ff6a59d3180c9d458f6d22e1670ea6aec9", func := "millwheel/millwheellaw03.FrameTurned", spec := "frameTurned", apart := false, narrowed := true }
def FrameTurnedUptoSaid : Prop := frameTurnedUptoRow.holds Try.pinned (OpenSpec.upto frameTurnedSpec)

/-- 'millwheellaw03.FrameApart', WHERE WHAT IT READS IS OF BULK AT MOST 1048576: true; the input reads as it did. -/
def frameApartUptoRow : OpenClaim := { program := "ytbnifagmbhiblaa", sum := "ee7526e7d7af3509f822c34dfa6f79ff6a59d3180c9d458f6d22e1670ea6aec9", func := "millwheel/millwheellaw03.FrameApart", spec := "frameApart", apart := false, narrowed := true }
def FrameApartUptoSaid : Prop := frameApartUptoRow.holds Try.pinned (OpenSpec.upto frameApartSpec)

/-- 'millwheellaw03.FrameSpares', WHERE WHAT IT READS IS OF BULK AT MOST 1048576: true; the input reads as it did. -/
def frameSparesUptoRow : OpenClaim := { program := "ytbnifagmbhiblaa", sum := "ee7526e7d7af3509f822c34dfa6f79ff6a59d3180c9d458f6d22e1670ea6aec9", func := "millwheel/millwheellaw03.FrameSpares", spec := "frameSpares", apart := false, narrowed := true }
def FrameSparesUptoSaid : Prop := frameSparesUptoRow.holds Try.pinned (OpenSpec.upto frameSparesSpec)

end Rows
end Go.Proofs.Ytbnifagmbhiblaa
