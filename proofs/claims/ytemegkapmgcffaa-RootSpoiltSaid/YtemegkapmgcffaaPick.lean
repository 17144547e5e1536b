import Derived.Test.YtemegkapmgcffaaMBy
import Derived.WalkKit
namespace Go.Proofs.Ytemegkapmgcffaa
open Go.RowKit

set_option maxHeartbeats 400000 in
theorem pick_any (x : Int) (n : Nat) (w : World) (hn : 0 < n) (hn2 : n ≤ 4611686018427387904) :
    Calls Try.prog 44 #[.int .i64 x, .int .i64 (n : Int)] w fun e w' => (∃ m : Nat, m < n ∧ e = .returned (.int .i64 (m : Int))) ∧ w = w' := by
  have hb := Int.tmod_lt_of_pos x (b := (n : Int)) (by omega)
  have hb2 : -(n : Int) < x.tmod (n : Int) := by
    have h3 : (x.tmod (n : Int)).natAbs < n := by rw [Int.natAbs_tmod]; simpa using Nat.mod_lt _ hn
    omega
  obtain ⟨r, hr⟩ : ∃ r, x.tmod (n : Int) = r := ⟨_, rfl⟩
  rw [hr] at hb hb2
  have hw : IntKind.i64.wrap r = r := IntWalk.i64_in _ (by omega)
  have hz : ¬ (n : Int) = 0 := by omega
  have hp : ¬ (n : Int) ≤ 0 := by omega
  go_enter Try.func44, Try.ntmps44
  go_wp2_with fail
  clear hr hw
  go_loop [0] (fun v => ∃ q : Int, v = .int .i64 q ∧ -(n : Int) < q ∧ q < (n : Int)) (fun v => (-(intOf v)).toNat)
  case atStart => exact ⟨r, rfl, hb2, hb⟩
  case round =>
    obtain ⟨q, rfl, hq1, hq2⟩ := hrel
    by_cases hlt : q < 0
    · go_wp2
      go_round
      case rel => exact ⟨q + n, by go_num, by omega, by omega⟩
      case measure => simp [intOf]; omega
    · obtain ⟨m, rfl⟩ := Int.eq_ofNat_of_zero_le (show 0 ≤ q by omega)
      go_wp2
      go_ret
      exact ⟨⟨m, by omega, rfl⟩, rfl⟩
end Go.Proofs.Ytemegkapmgcffaa
