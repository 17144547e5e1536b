import Derived.Test.YtphjmbhlokkdiaaBase
import Derived.Maps.OwnSet
import Derived.Maps.OwnOps
import Derived.StringKeys
import Derived.Below
/- Maps from whole numbers to whole numbers. -/
namespace Go.Proofs.Ytphjmbhlokkdiaa
open Go.RowKit Go.Maps Go.WideShapes Go.WideMaps
set_option linter.unusedSimpArgs false
set_option linter.unusedVariables false

theorem lawI : Keyed Try.prog 3 := int_keyed Try.underlying3
theorem zeroIi (w : World) : (zeroValue 3).run Try.prog w = .ok (.int .i64 0) w := by kernel_rfl
theorem keyI {a : Int} (h : -9223372036854775808 ≤ a ∧ a ≤ 9223372036854775807) : keyOf Try.prog 3 (.int .i64 a) = some (.int .i64 a) :=
  keyOf_int_mk Try.underlying3 (by simp [Lit.wf, IntKind.min, IntKind.max, IntKind.signed, IntKind.bits]; omega)
/-- a map of the numbers that were seen -/
def SeenI (D : DataW Unit) (l : List Int) : Prop := ∀ s : Int, D.atKey (.int .i64 s) (.lit (.int .i64 0)) = .lit (.int .i64 (if s ∈ l then 1 else 0))
theorem seenI_empty : SeenI (.map []) [] := fun s => by simp [DataW.atKey]
theorem SeenI.put {D : DataW Unit} {l : List Int} (h : SeenI D l) (hD : IsMap D) (s : Int) : SeenI (D.put (.int .i64 s) (.lit (.int .i64 1))) (s :: l) := by
  intro r
  by_cases hr : r = s
  · subst hr
    rw [atKey_put_same hD (by trivial)]
    simp
  · rw [atKey_put_other (by simpa using hr), h r]
    simp [hr]
theorem SeenI.look {D : DataW Unit} {l : List Int} {w : World} {b n : Nat} (h : SeenI D l) (ho : w.ownsMap Try.prog 3 (plainElem Try.prog 3) b n D) {s : Int} (hs : -9223372036854775808 ≤ s ∧ s ≤ 9223372036854775807) :
    (Instr.lookup 65 (.map (some b)) (.int .i64 s) false).run Try.prog w = .ok (.int .i64 (if s ∈ l then 1 else 0)) w := by
  obtain ⟨c, hrun, hat, hw⟩ := ho.lookup_int lawI Try.underlying65 Try.underlying3 (zeroIi w) (keyI hs)
  rw [h s] at hat
  simp only [DataW.lit.injEq, Lit.int.injEq, true_and] at hat
  rw [hrun, ← hat]
theorem ownsMap_belowI {H : Type} {w w' : World} {P : Program} {k : TypeId} {R : Value → Option (DataW H × List MemPlace)} {b n : Nat} {D : DataW H} (h : w.ownsMap P k R b n D) (hb : Below w.heap.size w w') : w'.ownsMap P k R b n D :=
  h.kept (row := none) ⟨hb.os, hb.tape, hb.output, hb.size, fun i hi _ => hb.block i hi⟩ (by simp)
end Go.Proofs.Ytphjmbhlokkdiaa
