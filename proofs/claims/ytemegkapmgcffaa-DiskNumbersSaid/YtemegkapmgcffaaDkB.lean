import Derived.Test.YtemegkapmgcffaaDkA
/- The disk: names; what it is in memory; made, lit, deed. -/
namespace Go.Proofs.Ytemegkapmgcffaa
open Go.RowKit
set_option linter.unusedSimpArgs false
set_option linter.unusedVariables false

theorem all_snoc {l : Nm} {k : Nat} {x : UInt8} (h : l[k]? = some x) : (l.take (k + 1)).all chF = ((l.take k).all chF && chF x) := by
  rw [List.take_add_one, h]
  simp
theorem idx_str (s : Nm) (k : Nat) (x : UInt8) (hx : s[k]? = some x) (w : World) : (Instr.index 9 (.string (bstr s)) (.int .i64 (k : Int))).run Try.prog w = .ok (.int .u8 (x.toNat : Int)) w := by
  obtain ⟨h1, h2⟩ := List.getElem?_eq_some_iff.1 hx
  rw [run_index_string (h := Try.underlying9), dif_pos ⟨by omega, by show (k : Int) < (s.length : Int); omega⟩]
  subst h2
  rfl
set_option maxRecDepth 100000 in
set_option maxHeartbeats 4000000 in
theorem named_any (s : Nm) (hs : s.length ≤ maxLen) (w : World) : Calls Try.prog 83 #[.string (bstr s)] w fun e w' => e = .returned (.bool (namedF s)) ∧ w = w' := by
  have hsz : (bstr s).size = s.length := rfl
  have hm : s.length ≤ 9223372036854775807 := hs
  go_enter Try.func83, Try.ntmps83
  go_wp2_with fail
  go_loopw [9] (fun s9 wx => ∃ k : Nat, k ≤ s.length ∧ s9 = .int .i64 (k : Int) ∧ Hid ((s.take k).all chF = true) ∧ w = wx) (fun iv _ => s.length - (intOf iv).toNat)
  case atStart => exact ⟨0, by omega, rfl, Lib.hid (by simp), rfl⟩
  case round =>
    obtain ⟨k, hk, rfl, HA, rfl⟩ := hrel
    by_cases hkn : (k : Int) < (s.length : Int)
    · obtain ⟨x, hx⟩ := get_some s k (by omega)
      have HS := Lib.hid (all_snoc hx)
      have hix := idx_str s k x hx w
      have HM := Lib.hid (List.mem_of_getElem? hx)
      obtain ⟨c, hc⟩ : ∃ c : Nat, c = x.toNat := ⟨_, rfl⟩
      rw [← hc] at hix
      have HC := Lib.hid hc
      clear hx hc
      by_cases hch : (97 ≤ c ∧ c ≤ 122) ∨ (48 ≤ c ∧ c ≤ 57) ∨ c = 46 ∨ c = 45
      · have HT := Lib.hid (show (s.take (k + 1)).all chF = true by
          rw [HS.out, HA.out, Bool.true_and]
          unfold chF
          rw [← HC.out]
          simp only [Bool.or_eq_true, Bool.and_eq_true, decide_eq_true_eq]
          omega)
        by_cases h1 : 97 ≤ c
        · by_cases h2 : c ≤ 122
          · go_wp2_with fail
            go_roundw
            case rel => exact ⟨k + 1, by omega, by go_num, HT, trivial⟩
            case measure => simp [intOf]; omega
          · exfalso; omega
        · by_cases h3 : 48 ≤ c
          · by_cases h4 : c ≤ 57
            · go_wp2_with fail
              go_roundw
              case rel => exact ⟨k + 1, by omega, by go_num, HT, trivial⟩
              case measure => simp [intOf]; omega
            · exfalso; omega
          · by_cases h5 : c = 46
            · go_wp2_with fail
              go_roundw
              case rel => exact ⟨k + 1, by omega, by go_num, HT, trivial⟩
              case measure => simp [intOf]; omega
            · obtain rfl : c = 45 := by omega
              go_wp2_with fail
              go_roundw
              case rel => exact ⟨k + 1, by omega, by go_num, HT, trivial⟩
              case measure => simp [intOf]; omega
      · have HF := Lib.hid (show namedF s = false by
          have : chF x = false := by
            unfold chF
            rw [← HC.out]
            simp only [Bool.or_eq_false_iff, Bool.and_eq_false_iff, decide_eq_false_iff_not]
            omega
          have h2 : s.all chF = false := by
            rw [List.all_eq_false]
            exact ⟨x, HM.out, by simp [this]⟩
          simp [namedF, h2])
        have h5 : ¬ c = 46 := by omega
        have h6 : ¬ c = 45 := by omega
        have n6 : ((c : Int) != 46) = true := by simp; omega
        have n5 : ((c : Int) != 45) = true := by simp; omega
        by_cases h1 : 97 ≤ c
        · have h2 : ¬ c ≤ 122 := by omega
          have n1 : decide ((c : Int) ≤ 122) = false := by simp; omega
          have n2 : decide ((c : Int) ≤ 57) = false := by simp; omega
          go_wp2_with fail
          go_ret
          exact ⟨by rw [HF.out]; rfl, rfl⟩
        · by_cases h3 : 48 ≤ c
          · have h4 : ¬ c ≤ 57 := by omega
            have n2 : decide ((c : Int) ≤ 57) = false := by simp; omega
            go_wp2_with fail
            go_ret
            exact ⟨by rw [HF.out]; rfl, rfl⟩
          · go_wp2_with fail
            go_ret
            exact ⟨by rw [HF.out]; rfl, rfl⟩
    · obtain rfl : k = s.length := by omega
      rw [List.take_length] at HA
      have HF := Lib.hid (show namedF s = (decide (0 < s.length) && decide (s.length ≤ 60)) by unfold namedF; rw [HA.out, Bool.true_and])
      by_cases h1 : 0 < s.length
      · by_cases h2 : s.length ≤ 60
        · go_wp2_with fail
          go_ret
          exact ⟨by rw [HF.out]; simp [h1, h2]; try omega, rfl⟩
        · go_wp2_with fail
          go_ret
          exact ⟨by rw [HF.out]; simp [h2]; try omega, rfl⟩
      · go_wp2_with fail
        go_ret
        exact ⟨by rw [HF.out]; simp [h1], rfl⟩
end Go.Proofs.Ytemegkapmgcffaa
