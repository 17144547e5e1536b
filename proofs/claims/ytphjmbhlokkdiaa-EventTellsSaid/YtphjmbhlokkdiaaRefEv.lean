import Derived.Test.YtphjmbhlokkdiaaRegionP
import Derived.Test.YtphjmbhlokkdiaaPureEv
import Derived.Test.YtphjmbhlokkdiaaRefD
namespace Go.Proofs.Ytphjmbhlokkdiaa
open Go.RowKit
set_option linter.unusedSimpArgs false
set_option linter.unusedVariables false

theorem vbool {a b : Bool} (h : a = true ↔ b = true) : Value.bool a = .bool b := by rw [Bool.eq_iff_iff.2 h]

set_option maxRecDepth 100000 in
set_option maxHeartbeats 8000000 in
theorem refRight_any (e : Ev) (w : World) (hK : e.K < 256) : Calls Try.prog 30 #[e.v] w fun x w' => x = .returned (.bool (rightB e)) ∧ Below w.heap.size w w' := by
  have hbe := box_in w e
  have hbA := below_alloc1 w (.cells e.cells.toArray 24)
  have hse : (bstr e.S).size = e.S.length := rfl
  obtain ⟨z, hz⟩ : ∃ z, rightB e = z := ⟨_, rfl⟩
  rw [hz]
  have Hz := Lib.hid hz
  obtain ⟨r1, hr1⟩ : ∃ b, numberedB e.N = b := ⟨_, rfl⟩
  obtain ⟨r2, hr2⟩ : ∃ b, namedB e.S = b := ⟨_, rfl⟩
  obtain ⟨r3, hr3⟩ : ∃ b, statusB e.P = b := ⟨_, rfl⟩
  have Hq1 := Lib.hid hr1
  have Hq2 := Lib.hid hr2
  have Hq3 := Lib.hid hr3
  clear hz hr1 hr2 hr3
  have e1 := hbe 1 _ rfl
  unfold Ev.v
  unfold Ev.cells at *
  go_enter Try.func30, Try.ntmps30
  by_cases h1 : e.At < 0
  · obtain rfl : z = false := by rw [← Hz.out]; unfold rightB; simp; omega
    go_wp2_with fail
    go_ret
    exact ⟨rfl, hbA⟩
  by_cases h2 : 1099511627776 < e.At
  · obtain rfl : z = false := by rw [← Hz.out]; unfold rightB; simp; omega
    go_wp2_with fail
    go_ret
    exact ⟨rfl, hbA⟩
  have hz2 : Hid (z = kindB e e.K) := Lib.hid (by rw [← Hz.out]; unfold rightB; rw [decide_eq_true (show 0 ≤ e.At by omega), decide_eq_true (show e.At ≤ 1099511627776 by omega)]; simp)
  go_upto_region 3 with fail
  generalize w.alloc (.cells #[.int .u8 (e.K : Int), .int .i64 e.At, .int .i64 e.N, .int .i64 e.P, .int .i64 e.A, .int .i64 e.B, .string (bstr e.S)] 24) = W0 at *
  have e0 := hbe 0 _ rfl
  have e2 := hbe 2 _ rfl
  have e3 := hbe 3 _ rfl
  have e4 := hbe 4 _ rfl
  have e5 := hbe 5 _ rfl
  have e6 := hbe 6 _ rfl
  clear hbe e1 h1 h2 Hz
  go_cut [3] (fun s3 wx => s3 = .bool r1 ∧ wx = W0)
  case first =>
    go_wp2_with fail
    all_goals
      go_meet
      exact ⟨by rw [← Hq1.out]; unfold numberedB; exact vbool (by simp [*] <;> omega), rfl⟩
  case rest =>
  obtain ⟨rfl, rfl⟩ := hcut
  go_upto_region 4 with fail
  go_cut [4] (fun s4 wx => s4 = .bool r2 ∧ wx = wc)
  case first =>
    go_wp2_with fail
    all_goals
      go_meet
      exact ⟨by rw [← Hq2.out]; unfold namedB; exact vbool (by simp [*] <;> omega), rfl⟩
  case rest =>
  obtain ⟨rfl, rfl⟩ := hcut
  go_upto_region 5 with fail
  go_cut [5] (fun s5 wx => s5 = .bool r3 ∧ wx = wc)
  case first =>
    go_wp2_with fail
    all_goals
      go_meet
      exact ⟨by rw [← Hq3.out]; unfold statusB; exact vbool (by simp [*] <;> omega), rfl⟩
  case rest =>
  obtain ⟨rfl, rfl⟩ := hcut
  have hbx := hbA
  clear hbA
  have h8 : e.K = 1 ∨ e.K = 2 ∨ e.K = 3 ∨ e.K = 4 ∨ e.K = 5 ∨ e.K = 6 ∨ e.K = 7 ∨ (e.K = 0 ∨ 7 < e.K) := by omega
  have hz3 := hz2.out
  clear hz2
  obtain ⟨K, At, N, P, A, B, S⟩ := e
  simp only at *
  rcases h8 with rfl | rfl | rfl | rfl | rfl | rfl | rfl | h8
  · have Hz3 : Hid (z = (r2 && (N == 0) && (P == 0) && (B == 0))) := Lib.hid (by rw [hz3, ← Hq2.out]; rfl)
    clear hz3
    go_wp2_with fail
    all_goals
      go_ret
      exact ⟨by rw [Hz3.out]; exact ret_bool (by simp [*] <;> omega), hbx⟩
  · have hP : P = 1 ∨ P = 2 ∨ P = 3 ∨ (P ≠ 1 ∧ P ≠ 2 ∧ P ≠ 3) := by omega
    rcases hP with rfl | rfl | rfl | hP
    · have Hz3 : Hid (z = (r1 && (r2 && decide (0 ≤ B) && decide (B < 20)))) := Lib.hid (by rw [hz3, ← Hq1.out, ← Hq2.out]; simp [kindB, beginB])
      clear hz3
      go_wp2_with fail
      all_goals
        go_ret
        exact ⟨by rw [Hz3.out]; exact ret_bool (by simp [*] <;> omega), hbx⟩
    · have Hz3 : Hid (z = (r1 && ((S.length == 0) && decide (0 ≤ A) && (B == 0)))) := Lib.hid (by rw [hz3, ← Hq1.out]; simp [kindB, beginB])
      clear hz3
      go_wp2_with fail
      all_goals
        go_ret
        exact ⟨by rw [Hz3.out]; exact ret_bool (by simp [*] <;> omega), hbx⟩
    · have Hz3 : Hid (z = (r1 && (r2 && (B == 0)))) := Lib.hid (by rw [hz3, ← Hq1.out, ← Hq2.out]; simp [kindB, beginB])
      clear hz3
      go_wp2_with fail
      all_goals
        go_ret
        exact ⟨by rw [Hz3.out]; exact ret_bool (by simp [*] <;> omega), hbx⟩
    · obtain rfl : z = false := by
        rw [hz3]
        simp only [kindB, beginB]
        rw [if_neg hP.1, if_neg hP.2.1, if_neg hP.2.2]
        simp
      obtain ⟨hP1, hP2, hP3⟩ := hP
      clear hz3
      go_wp2_with fail
      all_goals
        go_ret
        exact ⟨rfl, hbx⟩
  · have Hz3 : Hid (z = (r1 && decide (1 ≤ P) && decide (P ≤ 100) && (A == 0) && ((B == 0) && (S.length == 0)))) := Lib.hid (by rw [hz3, ← Hq1.out]; rfl)
    clear hz3
    go_wp2_with fail
    all_goals
      go_ret
      exact ⟨by rw [Hz3.out]; exact ret_bool (by simp [*] <;> omega), hbx⟩
  · have Hz3 : Hid (z = (r1 && r3 && ((B == 0) && (S.length == 0)))) := Lib.hid (by rw [hz3, ← Hq1.out, ← Hq3.out]; rfl)
    clear hz3
    go_wp2_with fail
    all_goals
      go_ret
      exact ⟨by rw [Hz3.out]; exact ret_bool (by simp [*] <;> omega), hbx⟩
  · have Hz3 : Hid (z = ((N == 0) && (P == 0) && ((B == 0) && (S.length == 0)))) := Lib.hid (by rw [hz3]; rfl)
    clear hz3
    go_wp2_with fail
    all_goals
      go_ret
      exact ⟨by rw [Hz3.out]; exact ret_bool (by simp [*] <;> omega), hbx⟩
  · have Hz3 : Hid (z = ((N == 0) && (P == 0) && (A == 0) && ((B == 0) && (S.length == 0)))) := Lib.hid (by rw [hz3]; rfl)
    clear hz3
    go_wp2_with fail
    all_goals
      go_ret
      exact ⟨by rw [Hz3.out]; exact ret_bool (by simp [*] <;> omega), hbx⟩
  · have Hz3 : Hid (z = ((N == 0) && r3 && ((B == 0) && (S.length == 0)))) := Lib.hid (by rw [hz3, ← Hq3.out]; rfl)
    clear hz3
    go_wp2_with fail
    all_goals
      go_ret
      exact ⟨by rw [Hz3.out]; exact ret_bool (by simp [*] <;> omega), hbx⟩
  · obtain rfl : z = false := by
      rw [hz3]
      unfold kindB
      split <;> first | rfl | omega
    clear hz3
    rcases h8 with rfl | h8
    · go_wp2_with fail
      all_goals
        go_ret
        exact ⟨rfl, hbx⟩
    · have n1 : ¬ (K : Int) = 1 := by omega
      have n2 : ¬ (K : Int) = 2 := by omega
      have n3 : ¬ (K : Int) = 3 := by omega
      have n4 : ¬ (K : Int) = 4 := by omega
      have n5 : ¬ (K : Int) = 5 := by omega
      have n6 : ¬ (K : Int) = 6 := by omega
      have n7 : ¬ (K : Int) = 7 := by omega
      go_wp2_with fail
      all_goals
        go_ret
        exact ⟨rfl, hbx⟩
end Go.Proofs.Ytphjmbhlokkdiaa
