import Derived.Test.YtphjmbhlokkdiaaBase
import Derived.WalkKit
namespace Go.Proofs.Ytphjmbhlokkdiaa
open Go.RowKit

set_option maxHeartbeats 400000 in
theorem pickK_any (x : Int) (n : Nat) (w : World) (hn : 0 < n) (hn2 : n ≤ 4611686018427387904) :
    Calls Try.prog 19 #[.int .i64 x, .int .i64 (n : Int)] w fun e w' => (∃ m : Nat, m < n ∧ e = .returned (.int .i64 (m : Int))) ∧ w = w' := by
  have hb := Int.tmod_lt_of_pos x (b := (n : Int)) (by omega)
  have hb2 : -(n : Int) < x.tmod (n : Int) := by
    have h3 : (x.tmod (n : Int)).natAbs < n := by rw [Int.natAbs_tmod]; simpa using Nat.mod_lt _ hn
    omega
  obtain ⟨r, hr⟩ : ∃ r, x.tmod (n : Int) = r := ⟨_, rfl⟩
  rw [hr] at hb hb2
  have hw : IntKind.i64.wrap r = r := IntWalk.i64_in _ (by omega)
  have hz : ¬ (n : Int) = 0 := by omega
  have hp : ¬ (n : Int) < 1 := by omega
  go_enter Try.func19, Try.ntmps19
  by_cases hlt : r < 0
  · obtain ⟨m, hm⟩ := Int.eq_ofNat_of_zero_le (show 0 ≤ r + n by omega)
    have hw2 : IntKind.i64.wrap (r + n) = (m : Int) := by rw [IntWalk.i64_in _ (by omega)]; exact hm
    go_wp2_with fail
    go_ret
    exact ⟨⟨m, by omega, by simp [*]⟩, rfl⟩
  · obtain ⟨m, rfl⟩ := Int.eq_ofNat_of_zero_le (show 0 ≤ r by omega)
    go_wp2_with fail
    go_ret
    exact ⟨⟨m, by omega, rfl⟩, rfl⟩
end Go.Proofs.Ytphjmbhlokkdiaa
