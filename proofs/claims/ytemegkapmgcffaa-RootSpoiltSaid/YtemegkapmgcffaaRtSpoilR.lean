import Derived.Test.YtemegkapmgcffaaLawRtSpoilt
/- RootSpoilt: the walk, for a number of noughts that is an integer. -/
namespace Go.Proofs.Ytemegkapmgcffaa
open Go.RowKit
set_option linter.unusedVariables false

theorem spoilt6_int {W0 : World} {A : Option Addr} {m c0 : Nat} {es : List Ro} (s : Sl W0 3 A m c0 (flatRo es)) (ok : ∀ e, e ∈ es → OkRo W0 e) (hn : m ≤ 9223372036854775807) (one two : Int) {z : Int} (hz : 0 ≤ z ∧ z ≤ 255) (gone : Bool) :
    Calls Try.prog 9 #[.slice A m c0, .int .i64 one, .int .i64 two, .int .u8 z, .bool gone] W0 fun x w' => x = .returned (.bool true) ∧ Below W0.heap.size W0 w' := by
  obtain ⟨nz, rfl⟩ := Int.eq_ofNat_of_zero_le hz.1
  exact spoilt6_any s ok hn one two nz (by omega) gone
end Go.Proofs.Ytemegkapmgcffaa
