import Derived.Test.YtemegkapmgcffaaGreatR2D
import Derived.BigQuiet
import Derived.Deep.QuietTactic
/- The document's disk, by value: Right. -/
namespace Go.Proofs.YtemegkapmgcffaaGreat
open Go.RowKit
set_option linter.unusedSimpArgs false
set_option linter.unusedVariables false

def let38 : Nm := [97, 98, 99, 100, 101, 102, 103, 104, 105, 106, 107, 108, 109, 110, 111, 112, 113, 114, 115, 116, 117, 118, 119, 120, 121, 122, 48, 49, 50, 51, 52, 53, 54, 55, 56, 57, 46, 45]
theorem let38_ch (x : UInt8) : let38.contains x = chF x := by
  have h : ∀ n : Fin 256, let38.contains (UInt8.ofNat n.val) = chF (UInt8.ofNat n.val) := by decide +kernel
  have := h ⟨x.toNat, x.toNat_lt⟩
  simpa using this
theorem con_snoc {l : Nm} {k : Nat} {x y : UInt8} (h : l[k]? = some y) : (l.take (k + 1)).contains x = ((l.take k).contains x || (y == x)) := by
  rw [List.take_add_one, h]
  simp [Bool.beq_comm]
  rw [eq_comm]
  by_cases h2 : x = y <;> simp [h2]
set_option maxRecDepth 100000 in
set_option maxHeartbeats 8000000 in
theorem r2Right_any (s : Nm) (hs : s.length ≤ maxLen) (w : World) : Calls Tryz.prog 41 #[.string (bstr s)] w fun e w' => e = .returned (.bool (namedF s)) ∧ Below w.heap.size w w' := by
  have hsz : (bstr s).size = s.length := rfl
  have hm : s.length ≤ 9223372036854775807 := hs
  go_enter Tryz.func41, Tryz.ntmps41
  by_cases h0 : s = []
  · subst h0
    have he : (bstr [] == (⟨#[]⟩ : ByteArray)) = true := by decide
    go_wp2_with fail
    go_ret
    exact ⟨rfl, Below.refl _ _⟩
  · have he : (s == []) = false := by simpa using h0
    have hp : 0 < s.length := List.length_pos_iff.2 h0
    by_cases h60 : (60 : Int) < (s.length : Int)
    · have HF := Lib.hid (show namedF s = false by
        unfold namedF
        have : ¬ s.length ≤ 60 := by omega
        simp [this])
      go_wp2_with fail
      go_ret
      exact ⟨by rw [HF.out]; rfl, Below.refl _ _⟩
    · clear h0
      go_wp2_with fail
      go_loopw [3] (fun s3 wx => ∃ i : Nat, i ≤ s.length ∧ s3 = .int .i64 (i : Int) ∧ Hid ((s.take i).all chF = true) ∧ Hid (Below w.heap.size w wx)) (fun iv _ => s.length - (intOf iv).toNat)
      case atStart => exact ⟨0, by omega, rfl, Lib.hid (by simp), Lib.hid (Below.refl _ _)⟩
      case round =>
        obtain ⟨i, hi, rfl, HA, HB⟩ := hrel
        by_cases g1 : (i : Int) < (s.length : Int)
        · obtain ⟨x, hx⟩ := get_some s i (by omega)
          have HS := Lib.hid (all_snoc hx)
          have HM := Lib.hid (List.mem_of_getElem? hx)
          have HIX := Lib.hid (fun w => idx_str s i x hx w)
          clear hx
          go_wp2_with fail
          go_loopw [4, 5] (fun s4 s5 wx => ∃ k : Nat, k ≤ 38 ∧ s4 = .bool ((let38.take k).contains x) ∧ s5 = .int .i64 (k : Int) ∧ Hid (Below w.heap.size w wx)) (fun _ iv _ => 38 - (intOf iv).toNat)
          case atStart => exact ⟨0, by omega, rfl, rfl, HB⟩
          case round =>
            obtain ⟨k, hk, rfl, rfl, HB2⟩ := hrel
            rename World => wx
            by_cases g2 : (k : Int) < 38
            · obtain ⟨y, hy⟩ := get_some let38 k (by show k < 38; omega)
              have HC := Lib.hid (con_snoc (x := x) hy)
              have hi1 : ∀ w : World, (Instr.index 9 (.string ⟨#[97, 98, 99, 100, 101, 102, 103, 104, 105, 106, 107, 108, 109, 110, 111, 112, 113, 114, 115, 116, 117, 118, 119, 120, 121, 122, 48, 49, 50, 51, 52, 53, 54, 55, 56, 57, 46, 45]⟩) (.int .i64 (k : Int))).run Tryz.prog w = .ok (.int .u8 (y.toNat : Int)) w := fun w => idx_str let38 k y hy w
              have hi2 := HIX.out
              obtain ⟨fb, hfb⟩ : ∃ fb, fb = (let38.take k).contains x := ⟨_, rfl⟩
              rw [← hfb] at HC ⊢
              clear hy hfb
              cases fb with
              | true =>
                go_upto_region 10 with fail
                go_quiet (fail)
                go_wp2_with fail
                go_roundw
                case rel => exact ⟨k + 1, by omega, by rw [HC.out]; rfl, by go_num, Lib.hid (below_drewN HB2.out _)⟩
                case measure => simp [intOf]; omega
              | false =>
                by_cases hxy : y = x
                · have hq : ((y.toNat : Int) == (x.toNat : Int)) = true := by rw [hxy]; simp
                  have HQ := Lib.hid (show (y == x) = true by simpa using hxy)
                  subst hxy
                  go_upto_region 10 with fail
                  go_quiet (fail)
                  go_wp2_with fail
                  go_roundw
                  case rel => exact ⟨k + 1, by omega, by rw [HC.out, HQ.out]; rfl, by go_num, Lib.hid (below_drewN HB2.out _)⟩
                  case measure => simp [intOf]; omega
                · have hq : ((y.toNat : Int) == (x.toNat : Int)) = false := by
                    simp
                    intro h
                    exact hxy (UInt8.toNat_inj.1 (by omega))
                  have hq2 : decide ((y.toNat : Int) = (x.toNat : Int)) = false := by
                    simp
                    intro h
                    exact hxy (UInt8.toNat_inj.1 (by omega))
                  have hq3 : ¬ y.toNat = x.toNat := fun h => hxy (UInt8.toNat_inj.1 h)
                  have HQ := Lib.hid (show (y == x) = false by simpa using hxy)
                  clear hxy
                  go_upto_region 10 with fail
                  go_quiet (fail)
                  go_wp2_with fail
                  go_roundw
                  case rel => exact ⟨k + 1, by omega, by rw [HC.out, HQ.out]; rfl, by go_num, Lib.hid (below_drewN HB2.out _)⟩
                  case measure => simp [intOf]; omega
            · obtain rfl : k = 38 := by omega
              have hch : (let38.take 38).contains x = chF x := by rw [show let38.take 38 = let38 from rfl]; exact let38_ch x
              rw [hch]
              clear hch
              cases hc : chF x with
              | true =>
                have HT := Lib.hid (show (s.take (i + 1)).all chF = true by rw [HS.out, HA.out, hc]; rfl)
                clear hc
                go_wp2_with fail
                go_roundw
                case rel => exact ⟨i + 1, by omega, by go_num, HT, HB2⟩
                case measure => simp [intOf]; omega
              | false =>
                have HF := Lib.hid (show namedF s = false by
                  have h2 : s.all chF = false := by
                    rw [List.all_eq_false]
                    exact ⟨x, HM.out, by simp [hc]⟩
                  unfold namedF
                  rw [h2]
                  rfl)
                clear hc
                go_wp2_with fail
                go_ret
                exact ⟨by rw [HF.out]; rfl, HB2.out⟩
        · obtain rfl : i = s.length := by omega
          have HF := Lib.hid (show namedF s = true by
            have h2 := HA.out
            rw [List.take_length] at h2
            unfold namedF
            rw [h2]
            simp
            omega)
          go_wp2_with fail
          go_ret
          exact ⟨by rw [HF.out]; rfl, HB.out⟩
end Go.Proofs.YtemegkapmgcffaaGreat
