/-
  No cell of these rows narrows 'for every input' (looked for: loops, veiled, ifaces, maps, wideKeys, modest, calm, conditions, laid).
  DERIVED. THE GIVEN ROWS OF THIS SEAT. 11 by the template 'for every input the law returns true; each argument reads behind the call as it read before'; 0 by the template 'total and deterministic' (their statements: YtphjmbhlokkdiaaTotals.lean).
  GIVEN WITH THE SEED: the statements are not yours to turn. If you find one false, say at which input.
  Laid BY PROGRAM, IN A SANDBOX (cutbox-rows.mjs): the forced cells as the released guide's own fill.sh prints them over the translation 45a0c31824e42994… (all of the seat's roots in one cut). By AI agents, Wed Nov 11 2026. No macro, syntax, notation, axiom, sorry.
-/
import Derived.Test.YtphjmbhlokkdiaaChecked
import GoSem.Claim
import GoSem.ClaimJoined
import GoSem.ClaimMapViews
import Derived.JoinedTies
import Derived.KernelRfl
namespace Go.Proofs.Ytphjmbhlokkdiaa
/- THE CELL 'sum', in the pinned program and in every row, IS THE sha256 OF THE DUMP (.gsa) THAT YtphjmbhlokkdiaaProg.lean LOADS. Nothing in Lean hashes anything: it is a label: what it is worth is what the hold of that sum in a sandbox is worth. -/
noncomputable def Try.pinned : Pinned := { name := "ytphjmbhlokkdiaa", sum := "45a0c31824e42994ee0fc589d85cd4b433c9406966278e84d7716f8a83f96f7a", checked := Try.checked }
namespace Rows
def none {H : Type} : Left H := { results := [], args := [] }

/-- 'millwheellaw11.EventForms': WHATEVER THE INPUT: true; the input reads as it did. -/
def eventFormsSpec : ChangeSpec := { name := "eventForms", fn := fun _ => fun
  | [d1, d2] => { results := [.lit (.bool true)], args := [d1, d2] }
  | _ => none }
def eventFormsRow : OpenClaim := { program := "ytphjmbhlokkdiaa", sum := "45a0c31824e42994ee0fc589d85cd4b433c9406966278e84d7716f8a83f96f7a", func := "millwheel/millwheellaw11.EventForms", spec := "eventForms", unfollowed := true, recurses := true, apart := false }
def EventFormsSaid : Prop := eventFormsRow.holds Try.pinned (OpenSpec.ofChange eventFormsSpec)

/-- ITS FALSE NEIGHBOUR: 'it returns false'. Refute it at one input. -/
def eventFormsWrong : ChangeSpec := { name := "eventForms", fn := fun _ => fun
  | [d1, d2] => { results := [.lit (.bool false)], args := [d1, d2] }
  | _ => none }
def EventFormsWrongFalsely : Prop := eventFormsRow.holds Try.pinned (OpenSpec.ofChange eventFormsWrong)

/-- 'millwheellaw17.FairRound': WHATEVER THE INPUT: true; the input reads as it did. -/
def fairRoundSpec : ChangeSpec := { name := "fairRound", fn := fun _ => fun
  | [d1, d2] => { results := [.lit (.bool true)], args := [d1, d2] }
  | _ => none }
def fairRoundRow : OpenClaim := { program := "ytphjmbhlokkdiaa", sum := "45a0c31824e42994ee0fc589d85cd4b433c9406966278e84d7716f8a83f96f7a", func := "millwheel/millwheellaw17.FairRound", spec := "fairRound", unfollowed := true, recurses := true, apart := false }
def FairRoundSaid : Prop := fairRoundRow.holds Try.pinned (OpenSpec.ofChange fairRoundSpec)

/-- ITS FALSE NEIGHBOUR: 'it returns false'. Refute it at one input. -/
def fairRoundWrong : ChangeSpec := { name := "fairRound", fn := fun _ => fun
  | [d1, d2] => { results := [.lit (.bool false)], args := [d1, d2] }
  | _ => none }
def FairRoundWrongFalsely : Prop := fairRoundRow.holds Try.pinned (OpenSpec.ofChange fairRoundWrong)

/-- 'millwheellaw17.FairAlone': WHATEVER THE INPUT: true; the input reads as it did. -/
def fairAloneSpec : ChangeSpec := { name := "fairAlone", fn := fun _ => fun
  | [d1, d2, d3] => { results := [.lit (.bool true)], args := [d1, d2, d3] }
  | _ => none }
def fairAloneRow : OpenClaim := { program := "ytphjmbhlokkdiaa", sum := "45a0c31824e42994ee0fc589d85cd4b433c9406966278e84d7716f8a83f96f7a", func := "millwheel/millwheellaw17.FairAlone", spec := "fairAlone", unfollowed := true, recurses := true, apart := false }
def FairAloneSaid : Prop := fairAloneRow.holds Try.pinned (OpenSpec.ofChange fairAloneSpec)

/-- ITS FALSE NEIGHBOUR: 'it returns false'. Refute it at one input. -/
def fairAloneWrong : ChangeSpec := { name := "fairAlone", fn := fun _ => fun
  | [d1, d2, d3] => { results := [.lit (.bool false)], args := [d1, d2, d3] }
  | _ => none }
def FairAloneWrongFalsely : Prop := fairAloneRow.holds Try.pinned (OpenSpec.ofChange fairAloneWrong)

/-- 'millwheellaw17.FairWeights': WHATEVER THE INPUT: true; the input reads as it did. -/
def fairWeightsSpec : ChangeSpec := { name := "fairWeights", fn := fun _ => fun
  | [d1, d2] => { results := [.lit (.bool true)], args := [d1, d2] }
  | _ => none }
def fairWeightsRow : OpenClaim := { program := "ytphjmbhlokkdiaa", sum := "45a0c31824e42994ee0fc589d85cd4b433c9406966278e84d7716f8a83f96f7a", func := "millwheel/millwheellaw17.FairWeights", spec := "fairWeights", unfollowed := true, recurses := true, apart := false }
def FairWeightsSaid : Prop := fairWeightsRow.holds Try.pinned (OpenSpec.ofChange fairWeightsSpec)

/-- ITS FALSE NEIGHBOUR: 'it returns false'. Refute it at one input. -/
def fairWeightsWrong : ChangeSpec := { name := "fairWeights", fn := fun _ => fun
  | [d1, d2] => { results := [.lit (.bool false)], args := [d1, d2] }
  | _ => none }
def FairWeightsWrongFalsely : Prop := fairWeightsRow.holds Try.pinned (OpenSpec.ofChange fairWeightsWrong)

/-- 'millwheellaw17.FairEmpty': WHATEVER THE INPUT: true; the input reads as it did. -/
def fairEmptySpec : ChangeSpec := { name := "fairEmpty", fn := fun _ => fun
  | [d1, d2] => { results := [.lit (.bool true)], args := [d1, d2] }
  | _ => none }
def fairEmptyRow : OpenClaim := { program := "ytphjmbhlokkdiaa", sum := "45a0c31824e42994ee0fc589d85cd4b433c9406966278e84d7716f8a83f96f7a", func := "millwheel/millwheellaw17.FairEmpty", spec := "fairEmpty", unfollowed := true, recurses := true, apart := false }
def FairEmptySaid : Prop := fairEmptyRow.holds Try.pinned (OpenSpec.ofChange fairEmptySpec)

/-- ITS FALSE NEIGHBOUR: 'it returns false'. Refute it at one input. -/
def fairEmptyWrong : ChangeSpec := { name := "fairEmpty", fn := fun _ => fun
  | [d1, d2] => { results := [.lit (.bool false)], args := [d1, d2] }
  | _ => none }
def FairEmptyWrongFalsely : Prop := fairEmptyRow.holds Try.pinned (OpenSpec.ofChange fairEmptyWrong)

/-- 'millwheellaw11.EventTells': WHATEVER THE INPUT: true; the input reads as it did. -/
def eventTellsSpec : ChangeSpec := { name := "eventTells", fn := fun _ => fun
  | [d1, d2, d3] => { results := [.lit (.bool true)], args := [d1, d2, d3] }
  | _ => none }
def eventTellsRow : OpenClaim := { program := "ytphjmbhlokkdiaa", sum := "45a0c31824e42994ee0fc589d85cd4b433c9406966278e84d7716f8a83f96f7a", func := "millwheel/millwheellaw11.EventTells", spec := "eventTells", unfollowed := true, recurses := true, apart := false }
def EventTellsSaid : Prop := eventTellsRow.holds Try.pinned (OpenSpec.ofChange eventTellsSpec)

/-- ITS FALSE NEIGHBOUR: 'it returns false'. Refute it at one input. -/
def eventTellsWrong : ChangeSpec := { name := "eventTells", fn := fun _ => fun
  | [d1, d2, d3] => { results := [.lit (.bool false)], args := [d1, d2, d3] }
  | _ => none }
def EventTellsWrongFalsely : Prop := eventTellsRow.holds Try.pinned (OpenSpec.ofChange eventTellsWrong)

/-- 'millwheellaw11.EventBack': WHATEVER THE INPUT: true; the input reads as it did. -/
def eventBackSpec : ChangeSpec := { name := "eventBack", fn := fun _ => fun
  | [d1, d2, d3] => { results := [.lit (.bool true)], args := [d1, d2, d3] }
  | _ => none }
def eventBackRow : OpenClaim := { program := "ytphjmbhlokkdiaa", sum := "45a0c31824e42994ee0fc589d85cd4b433c9406966278e84d7716f8a83f96f7a", func := "millwheel/millwheellaw11.EventBack", spec := "eventBack", unfollowed := true, recurses := true, apart := false }
def EventBackSaid : Prop := eventBackRow.holds Try.pinned (OpenSpec.ofChange eventBackSpec)

/-- ITS FALSE NEIGHBOUR: 'it returns false'. Refute it at one input. -/
def eventBackWrong : ChangeSpec := { name := "eventBack", fn := fun _ => fun
  | [d1, d2, d3] => { results := [.lit (.bool false)], args := [d1, d2, d3] }
  | _ => none }
def EventBackWrongFalsely : Prop := eventBackRow.holds Try.pinned (OpenSpec.ofChange eventBackWrong)

/-- 'millwheellaw11.EventCuts': WHATEVER THE INPUT: true; the input reads as it did. -/
def eventCutsSpec : ChangeSpec := { name := "eventCuts", fn := fun _ => fun
  | [d1, d2, d3] => { results := [.lit (.bool true)], args := [d1, d2, d3] }
  | _ => none }
def eventCutsRow : OpenClaim := { program := "ytphjmbhlokkdiaa", sum := "45a0c31824e42994ee0fc589d85cd4b433c9406966278e84d7716f8a83f96f7a", func := "millwheel/millwheellaw11.EventCuts", spec := "eventCuts", unfollowed := true, recurses := true, apart := false }
def EventCutsSaid : Prop := eventCutsRow.holds Try.pinned (OpenSpec.ofChange eventCutsSpec)

/-- ITS FALSE NEIGHBOUR: 'it returns false'. Refute it at one input. -/
def eventCutsWrong : ChangeSpec := { name := "eventCuts", fn := fun _ => fun
  | [d1, d2, d3] => { results := [.lit (.bool false)], args := [d1, d2, d3] }
  | _ => none }
def EventCutsWrongFalsely : Prop := eventCutsRow.holds Try.pinned (OpenSpec.ofChange eventCutsWrong)

/-- 'millwheellaw19.WorkersMore': WHATEVER THE INPUT: true; the input reads as it did. -/
def workersMoreSpec : ChangeSpec := { name := "workersMore", fn := fun _ => fun
  | [d1, d2, d3] => { results := [.lit (.bool true)], args := [d1, d2, d3] }
  | _ => none }
def workersMoreRow : OpenClaim := { program := "ytphjmbhlokkdiaa", sum := "45a0c31824e42994ee0fc589d85cd4b433c9406966278e84d7716f8a83f96f7a", func := "millwheel/millwheellaw19.WorkersMore", spec := "workersMore", inPlace := ["slices.overlaps[millwheel/api.Worker]"], unfollowed := true, recurses := true, apart := false }
def WorkersMoreSaid : Prop := workersMoreRow.holds Try.pinned (OpenSpec.ofChange workersMoreSpec)

/-- ITS FALSE NEIGHBOUR: 'it returns false'. Refute it at one input. -/
def workersMoreWrong : ChangeSpec := { name := "workersMore", fn := fun _ => fun
  | [d1, d2, d3] => { results := [.lit (.bool false)], args := [d1, d2, d3] }
  | _ => none }
def WorkersMoreWrongFalsely : Prop := workersMoreRow.holds Try.pinned (OpenSpec.ofChange workersMoreWrong)

/-- 'millwheellaw19.WorkersTell': WHATEVER THE INPUT: true; the input reads as it did. -/
def workersTellSpec : ChangeSpec := { name := "workersTell", fn := fun _ => fun
  | [d1, d2, d3] => { results := [.lit (.bool true)], args := [d1, d2, d3] }
  | _ => none }
def workersTellRow : OpenClaim := { program := "ytphjmbhlokkdiaa", sum := "45a0c31824e42994ee0fc589d85cd4b433c9406966278e84d7716f8a83f96f7a", func := "millwheel/millwheellaw19.WorkersTell", spec := "workersTell", inPlace := ["slices.overlaps[millwheel/api.Worker]"], unfollowed := true, recurses := true, apart := false }
def WorkersTellSaid : Prop := workersTellRow.holds Try.pinned (OpenSpec.ofChange workersTellSpec)

/-- ITS FALSE NEIGHBOUR: 'it returns false'. Refute it at one input. -/
def workersTellWrong : ChangeSpec := { name := "workersTell", fn := fun _ => fun
  | [d1, d2, d3] => { results := [.lit (.bool false)], args := [d1, d2, d3] }
  | _ => none }
def WorkersTellWrongFalsely : Prop := workersTellRow.holds Try.pinned (OpenSpec.ofChange workersTellWrong)

/-- 'millwheellaw19.WorkersGone': WHATEVER THE INPUT: true; the input reads as it did. -/
def workersGoneSpec : ChangeSpec := { name := "workersGone", fn := fun _ => fun
  | [d1, d2] => { results := [.lit (.bool true)], args := [d1, d2] }
  | _ => none }
def workersGoneRow : OpenClaim := { program := "ytphjmbhlokkdiaa", sum := "45a0c31824e42994ee0fc589d85cd4b433c9406966278e84d7716f8a83f96f7a", func := "millwheel/millwheellaw19.WorkersGone", spec := "workersGone", inPlace := ["slices.overlaps[millwheel/api.Worker]"], unfollowed := true, recurses := true, apart := false }
def WorkersGoneSaid : Prop := workersGoneRow.holds Try.pinned (OpenSpec.ofChange workersGoneSpec)

/-- ITS FALSE NEIGHBOUR: 'it returns false'. Refute it at one input. -/
def workersGoneWrong : ChangeSpec := { name := "workersGone", fn := fun _ => fun
  | [d1, d2] => { results := [.lit (.bool false)], args := [d1, d2] }
  | _ => none }
def WorkersGoneWrongFalsely : Prop := workersGoneRow.holds Try.pinned (OpenSpec.ofChange workersGoneWrong)

/- THE SECOND FORM. 'bulk': how many values and letters a reading holds, each counted each time it is reached (what is shared counts as often as it is met; a slice's spare places count too). A statement '..UptoSaid' is the law's where the arguments, and the package variables that the reading takes, are together of bulk at most 1048576: NARROWER than '..Said'. Prove '..Said' where nothing that the law and all that it calls make is longer than what came in: it says more and counts as full. Else prove '..UptoSaid'. A law counts once. -/
mutual
def uptoBulk {H : Type} : DataW H → Nat
  | .lit (.string bytes) => bytes.length + 1
  | .lit _ => 1
  | .nil => 1
  | .ptr d => uptoBulk d + 1
  | .slice elems spare => uptoBulkAll elems + uptoBulkAll spare + 1
  | .agg parts => uptoBulkAll parts + 1
  | .iface _ d => uptoBulk d + 1
  | .map entries => uptoBulkEntries entries + 1
  | .held _ => 1
def uptoBulkAll {H : Type} : List (DataW H) → Nat
  | [] => 0
  | d :: r => uptoBulk d + uptoBulkAll r
def uptoBulkEntries {H : Type} : List (Lit × DataW H) → Nat
  | [] => 0
  | x :: r => uptoBulkEntry x + uptoBulkEntries r
def uptoBulkEntry {H : Type} : Lit × DataW H → Nat
  | (.string bytes, d) => bytes.length + uptoBulk d + 1
  | (_, d) => uptoBulk d + 1
 end
def uptoSmall : (H : Type) → List (DataW H) → Bool := fun _ ds => decide (uptoBulkAll ds ≤ 1048576)
def OpenSpec.upto (s : _root_.Go.ChangeSpec) : _root_.Go.OpenSpec := { _root_.Go.OpenSpec.ofChange s with cond := some uptoSmall }

/-- 'millwheellaw11.EventForms', WHERE WHAT IT READS IS OF BULK AT MOST 1048576: true; the input reads as it did. -/
def eventFormsUptoRow : OpenClaim := { program := "ytphjmbhlokkdiaa", sum := "45a0c31824e42994ee0fc589d85cd4b433c9406966278e84d7716f8a83f96f7a", func := "millwheel/millwheellaw11.EventForms", spec := "eventForms", unfollowed := true, recurses := true, apart := false, narrowed := true }
def EventFormsUptoSaid : Prop := eventFormsUptoRow.holds Try.pinned (OpenSpec.upto eventFormsSpec)

/-- 'millwheellaw17.FairRound', WHERE WHAT IT READS IS OF BULK AT MOST 1048576: true; the input reads as it did. -/
def fairRoundUptoRow : OpenClaim := { program := "ytphjmbhlokkdiaa", sum := "45a0c31824e42994ee0fc589d85cd4b433c9406966278e84d7716f8a83f96f7a", func := "millwheel/millwheellaw17.FairRound", spec := "fairRound", unfollowed := true, recurses := true, apart := false, narrowed := true }
def FairRoundUptoSaid : Prop := fairRoundUptoRow.holds Try.pinned (OpenSpec.upto fairRoundSpec)

/-- 'millwheellaw17.FairAlone', WHERE WHAT IT READS IS OF BULK AT MOST 1048576: true; the input reads as it did. -/
def fairAloneUptoRow : OpenClaim := { program := "ytphjmbhlokkdiaa", sum := "45a0c31824e42994ee0fc589d85cd4b433c9406966278e84d7716f8a83f96f7a", func := "millwheel/millwheellaw17.FairAlone", spec := "fairAlone", unfollowed := true, recurses := true, apart := false, narrowed := true }
def FairAloneUptoSaid : Prop := fairAloneUptoRow.holds Try.pinned (OpenSpec.upto fairAloneSpec)

/-- 'millwheellaw17.FairWeights', WHERE WHAT IT READS IS OF BULK AT MOST 1048576: true; the input reads as it did. -/
def fairWeightsUptoRow : OpenClaim := { program := "ytphjmbhlokkdiaa", sum := "45a0c31824e42994ee0fc589d85cd4b433c9406966278e84d7716f8a83f96f7a", func := "millwheel/millwheellaw17.FairWeights", spec := "fairWeights", unfollowed := true, recurses := true, apart := false, narrowed := true }
def FairWeightsUptoSaid : Prop := fairWeightsUptoRow.holds Try.pinned (OpenSpec.upto fairWeightsSpec)

/-- 'millwheellaw17.FairEmpty', WHERE WHAT IT READS IS OF BULK AT MOST 1048576: true; the input reads as it did. -/
def fairEmptyUptoRow : OpenClaim := { program := "ytphjmbhlokkdiaa", sum := "45a0c31824e42994ee0fc589d85cd4b433c9406966278e84d7716f8a83f96f7a", func := "millwheel/millwheellaw17.FairEmpty", spec := "fairEmpty", unfollowed := true, recurses := true, apart := false, narrowed := true }
def FairEmptyUptoSaid : Prop := fairEmptyUptoRow.holds Try.pinned (OpenSpec.upto fairEmptySpec)

/-- 'millwheellaw11.EventTells', WHERE WHAT IT READS IS OF BULK AT MOST 1048576: true; the input reads as it did. -/
def eventTellsUptoRow : OpenClaim := { program := "ytphjmbhlokkdiaa", sum := "45a0c31824e42994ee0fc589d85cd4b433c9406966278e84d7716f8a83f96f7a", func := "millwheel/millwheellaw11.EventTells", spec := "eventTells", unfollowed := true, recurses := true, apart := false, narrowed := true }
def EventTellsUptoSaid : Prop := eventTellsUptoRow.holds Try.pinned (OpenSpec.upto eventTellsSpec)

/-- 'millwheellaw11.EventBack', WHERE WHAT IT READS IS OF BULK AT MOST 1048576: true; the input reads as it did. -/
def eventBackUptoRow : OpenClaim := { program := "ytphjmbhlokkdiaa", sum := "45a0c31824e42994ee0fc589d85cd4b433c9406966278e84d7716f8a83f96f7a", func := "millwheel/millwheellaw11.EventBack", spec := "eventBack", unfollowed := true, recurses := true, apart := false, narrowed := true }
def EventBackUptoSaid : Prop := eventBackUptoRow.holds Try.pinned (OpenSpec.upto eventBackSpec)

/-- 'millwheellaw11.EventCuts', WHERE WHAT IT READS IS OF BULK AT MOST 1048576: true; the input reads as it did. -/
def eventCutsUptoRow : OpenClaim := { program := "ytphjmbhlokkdiaa", sum := "45a0c31824e42994ee0fc589d85cd4b433c9406966278e84d7716f8a83f96f7a", func := "millwheel/millwheellaw11.EventCuts", spec := "eventCuts", unfollowed := true, recurses := true, apart := false, narrowed := true }
def EventCutsUptoSaid : Prop := eventCutsUptoRow.holds Try.pinned (OpenSpec.upto eventCutsSpec)

/-- 'millwheellaw19.WorkersMore', WHERE WHAT IT READS IS OF BULK AT MOST 1048576: true; the input reads as it did. -/
def workersMoreUptoRow : OpenClaim := { program := "ytphjmbhlokkdiaa", sum := "45a0c31824e42994ee0fc589d85cd4b433c9406966278e84d7716f8a83f96f7a", func := "millwheel/millwheellaw19.WorkersMore", spec := "workersMore", inPlace := ["slices.overlaps[millwheel/api.Worker]"], unfollowed := true, recurses := true, apart := false, narrowed := true }
def WorkersMoreUptoSaid : Prop := workersMoreUptoRow.holds Try.pinned (OpenSpec.upto workersMoreSpec)

/-- 'millwheellaw19.WorkersTell', WHERE WHAT IT READS IS OF BULK AT MOST 1048576: true; the input reads as it did. -/
def workersTellUptoRow : OpenClaim := { program := "ytphjmbhlokkdiaa", sum := "45a0c31824e42994ee0fc589d85cd4b433c9406966278e84d7716f8a83f96f7a", func := "millwheel/millwheellaw19.WorkersTell", spec := "workersTell", inPlace := ["slices.overlaps[millwheel/api.Worker]"], unfollowed := true, recurses := true, apart := false, narrowed := true }
def WorkersTellUptoSaid : Prop := workersTellUptoRow.holds Try.pinned (OpenSpec.upto workersTellSpec)

/-- 'millwheellaw19.WorkersGone', WHERE WHAT IT READS IS OF BULK AT MOST 1048576: true; the input reads as it did. -/
def workersGoneUptoRow : OpenClaim := { program := "ytphjmbhlokkdiaa", sum := "45a0c31824e42994ee0fc589d85cd4b433c9406966278e84d7716f8a83f96f7a", func := "millwheel/millwheellaw19.WorkersGone", spec := "workersGone", inPlace := ["slices.overlaps[millwheel/api.Worker]"], unfollowed := true, recurses := true, apart := false, narrowed := true }
def WorkersGoneUptoSaid : Prop := workersGoneUptoRow.holds Try.pinned (OpenSpec.upto workersGoneSpec)

end Rows
end Go.Proofs.Ytphjmbhlokkdiaa
