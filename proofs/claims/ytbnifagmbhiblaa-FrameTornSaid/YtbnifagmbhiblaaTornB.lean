import Derived.Test.YtbnifagmbhiblaaFramedB
import Derived.Test.YtbnifagmbhiblaaLawApart
namespace Go.Proofs.Ytbnifagmbhiblaa
open Go.RowKit
set_option linter.unusedSimpArgs false
set_option linter.unusedVariables false

set_option maxRecDepth 100000 in
set_option maxHeartbeats 2000000 in
/-- lists of bytes that agree -/
theorem sameLists_any (P Q : Option Addr) (m d e : Nat) (us vs : List Part) (w : World) (hu : Ls w P m d us) (hv : Ls w Q m e vs) (hl : us.map Part.l = vs.map Part.l) (hm : m ≤ 100000) :
    Calls Try.prog 53 #[.slice P m d, .slice Q m e] w fun e w' => e = .returned (.bool true) ∧ Below w.heap.size w w' := by
  have Hu := Lib.hid hu.len
  have Hv := Lib.hid hv.len
  have Hl := Lib.hid hl
  clear hl
  go_enter Try.func53, Try.ntmps53
  go_upto_block 0 with fail
  go_cut [] (fun wx => Below w.heap.size w wx)
  case first =>
    go_wp2_with fail
    go_loopw [8] (fun iv wx => ∃ i : Nat, i ≤ m ∧ iv = .int .i64 (i : Nat) ∧ Below w.heap.size w wx) (fun iv _ => m - (intOf iv).toNat)
    case atStart => exact ⟨0, by omega, rfl, Below.refl _ _⟩
    case round =>
      obtain ⟨i, hi, rfl, hbx⟩ := hrel
      by_cases hlt : i < m
      · obtain ⟨p, hp⟩ := get_some us i (by rw [Hu.out]; exact hlt)
        obtain ⟨q, hq⟩ := get_some vs i (by rw [Hv.out]; exact hlt)
        have hlq : p.l = q.l := by
          have h1 := congrArg (fun x => x[i]?) Hl.out
          simp only [List.getElem?_map, hp, hq, Option.map_some, Option.some.injEq] at h1
          exact h1
        have hux := hu.below hbx
        have hvx := hv.below hbx
        obtain ⟨⟨ad, hP, hcp⟩, su⟩ := hux.at_ hp
        obtain ⟨⟨bd, hQ, hcq⟩, sv⟩ := hvx.at_ hq
        subst hP
        subst hQ
        obtain ⟨pA, pn, pc, ul⟩ := p
        obtain ⟨qA, qn, qc, vl⟩ := q
        dsimp only at hcp hcq su sv hlq
        obtain ⟨z, hz, hz2⟩ : ∃ z, (ul == vl) = z ∧ z = true := ⟨_, rfl, by simp [hlq]⟩
        have Hz := Lib.hid hz
        have Hz2 := Lib.hid hz2
        have hcu : ∀ wx, Below wr.heap.size wr wx → wx.cell? (ad.add i) = some (.slice pA pn pc) := fun wx hb => (World.cell?_of_block (hb.block _ (World.block_lt_of_cell? _ _ hcp))).trans hcp
        have hcv : ∀ wx, Below wr.heap.size wr wx → wx.cell? (bd.add i) = some (.slice qA qn qc) := fun wx hb => (World.cell?_of_block (hb.block _ (World.block_lt_of_cell? _ _ hcq))).trans hcq
        have hne : ((i : Int) == (m : Int)) = false := by simp; omega
        have hin : (0 : Int) ≤ (i : Int) ∧ (i : Int) < (m : Int) := by omega
        have hin2 : (0 : Int) ≤ (i : Int) ∧ (i : Int) < (m : Int) := by omega
        clear hp hq hz hz2 hcp hcq hlq hux hvx hu hv
        go_wp2_with fail
        --@region 53 4 lists4.spec
        refine wp_region_run (by kernel_rfl) (by kernel_rfl) ?_
        apply RunL.pure
        · intro vs w hb hd; clear hd; simp only [List.take, putL, Act.put, List.setIfInBounds_toArray, List.set_cons_zero, List.set_cons_succ]; unfold StepOK; go_simp; exact ⟨Below.refl _ _, isV_mk _ _⟩
        apply RunL.pure
        · intro vs w hb hd; clear hd; simp only [List.take, putL, Act.put, List.setIfInBounds_toArray, List.set_cons_zero, List.set_cons_succ]; unfold StepOK; go_simp; exact ⟨Below.refl _ _, isV_mk _ _⟩
        apply RunL.pure
        · intro vs w hb hd; have d1 : isV _ (vs 1) w := hd 1 (by decide) (by kernel_rfl); unfold isV at d1; clear hd; simp only [List.take, putL, Act.put, List.setIfInBounds_toArray, List.set_cons_zero, List.set_cons_succ]; unfold StepOK; go_simp; exact ⟨Below.refl _ _, isV_mk _ _⟩
        apply RunL.pure
        · intro vs w hb hd; have d0 : isV _ (vs 0) w := hd 0 (by decide) (by kernel_rfl); unfold isV at d0; have d2 : isV _ (vs 2) w := hd 2 (by decide) (by kernel_rfl); unfold isV at d2; clear hd; have hq := hne; simp only [List.take, putL, Act.put, List.setIfInBounds_toArray, List.set_cons_zero, List.set_cons_succ]; unfold StepOK; go_simp; exact ⟨Below.refl _ _, isV_mk _ _⟩
        apply RunL.pure
        · intro vs w hb hd; have d3 : isV _ (vs 3) w := hd 3 (by decide) (by kernel_rfl); unfold isV at d3; clear hd; simp only [List.take, putL, Act.put, List.setIfInBounds_toArray, List.set_cons_zero, List.set_cons_succ]; unfold StepOK; go_simp; exact ⟨Below.refl _ _, isV_mk _ _⟩
        apply RunL.pure
        · intro vs w hb hd; have d4 : isV _ (vs 4) w := hd 4 (by decide) (by kernel_rfl); unfold isV at d4; clear hd; simp only [List.take, putL, Act.put, List.setIfInBounds_toArray, List.set_cons_zero, List.set_cons_succ]; unfold StepOK; go_simp; exact ⟨Below.refl _ _, isV_mk _ _⟩
        apply RunL.pure
        · intro vs w hb hd; have d4 : isV _ (vs 4) w := hd 4 (by decide) (by kernel_rfl); unfold isV at d4; clear hd; simp only [List.take, putL, Act.put, List.setIfInBounds_toArray, List.set_cons_zero, List.set_cons_succ]; unfold StepOK; go_simp; exact ⟨Below.refl _ _, isV_mk _ _⟩
        apply RunL.pure
        · intro vs w hb hd; have d4 : isV _ (vs 4) w := hd 4 (by decide) (by kernel_rfl); unfold isV at d4; have d5 : isV _ (vs 5) w := hd 5 (by decide) (by kernel_rfl); unfold isV at d5; have d6 : isV _ (vs 6) w := hd 6 (by decide) (by kernel_rfl); unfold isV at d6; clear hd; have hq := hin; simp only [List.take, putL, Act.put, List.setIfInBounds_toArray, List.set_cons_zero, List.set_cons_succ]; unfold StepOK; go_simp; exact ⟨Below.refl _ _, isV_mk _ _⟩
        apply RunL.pure
        · intro vs w hb hd; have d4 : isV _ (vs 4) w := hd 4 (by decide) (by kernel_rfl); unfold isV at d4; have d7 : isV _ (vs 7) w := hd 7 (by decide) (by kernel_rfl); unfold isV at d7; clear hd; have hc := hcu _ hb; simp only [List.take, putL, Act.put, List.setIfInBounds_toArray, List.set_cons_zero, List.set_cons_succ]; unfold StepOK; go_simp; exact ⟨Below.refl _ _, isV_mk _ _⟩
        apply RunL.pure
        · intro vs w hb hd; have d4 : isV _ (vs 4) w := hd 4 (by decide) (by kernel_rfl); unfold isV at d4; clear hd; simp only [List.take, putL, Act.put, List.setIfInBounds_toArray, List.set_cons_zero, List.set_cons_succ]; unfold StepOK; go_simp; exact ⟨Below.refl _ _, isV_mk _ _⟩
        apply RunL.pure
        · intro vs w hb hd; have d4 : isV _ (vs 4) w := hd 4 (by decide) (by kernel_rfl); unfold isV at d4; clear hd; simp only [List.take, putL, Act.put, List.setIfInBounds_toArray, List.set_cons_zero, List.set_cons_succ]; unfold StepOK; go_simp; exact ⟨Below.refl _ _, isV_mk _ _⟩
        apply RunL.pure
        · intro vs w hb hd; have d4 : isV _ (vs 4) w := hd 4 (by decide) (by kernel_rfl); unfold isV at d4; have d9 : isV _ (vs 9) w := hd 9 (by decide) (by kernel_rfl); unfold isV at d9; have d10 : isV _ (vs 10) w := hd 10 (by decide) (by kernel_rfl); unfold isV at d10; clear hd; have hq := hin2; simp only [List.take, putL, Act.put, List.setIfInBounds_toArray, List.set_cons_zero, List.set_cons_succ]; unfold StepOK; go_simp; exact ⟨Below.refl _ _, isV_mk _ _⟩
        apply RunL.pure
        · intro vs w hb hd; have d4 : isV _ (vs 4) w := hd 4 (by decide) (by kernel_rfl); unfold isV at d4; have d11 : isV _ (vs 11) w := hd 11 (by decide) (by kernel_rfl); unfold isV at d11; clear hd; have hc := hcv _ hb; simp only [List.take, putL, Act.put, List.setIfInBounds_toArray, List.set_cons_zero, List.set_cons_succ]; unfold StepOK; go_simp; exact ⟨Below.refl _ _, isV_mk _ _⟩
        refine RunL.such (isV (.bool z)) (isV_stable _) ?_ ?_
        · intro vs w hb hd; have d4 : isV _ (vs 4) w := hd 4 (by decide) (by kernel_rfl); unfold isV at d4; have d8 : isV _ (vs 8) w := hd 8 (by decide) (by kernel_rfl); unfold isV at d8; have d12 : isV _ (vs 12) w := hd 12 (by decide) (by kernel_rfl); unfold isV at d12; clear hd; simp only [List.take, putL, Act.put, List.setIfInBounds_toArray, List.set_cons_zero, List.set_cons_succ]; unfold StepOK; go_simp; exact ⟨Below.refl _ _, such_of_bool (sameBytes_lit _ _ _ _ _ _ ul vl z _ (su.below hb) (sv.below hb) Hz.out)⟩
        apply RunL.pure
        · intro vs w hb hd; have d4 : isV _ (vs 4) w := hd 4 (by decide) (by kernel_rfl); unfold isV at d4; have d13 := hd 13 (by decide) (by kernel_rfl); simp only [TR, Nat.reduceAdd, Nat.reduceSub, List.getD_cons_zero, List.getD_cons_succ] at d13; clear hd; unfold isV at d13; simp only [List.take, putL, Act.put, List.setIfInBounds_toArray, List.set_cons_zero, List.set_cons_succ]; unfold StepOK; go_simp; exact ⟨Below.refl _ _, isV_mk _ _⟩
        apply RunL.pure
        · intro vs w hb hd; have d4 : isV _ (vs 4) w := hd 4 (by decide) (by kernel_rfl); unfold isV at d4; have d14 : isV _ (vs 14) w := hd 14 (by decide) (by kernel_rfl); unfold isV at d14; clear hd; simp only [List.take, putL, Act.put, List.setIfInBounds_toArray, List.set_cons_zero, List.set_cons_succ]; unfold StepOK; go_simp; exact ⟨Below.refl _ _, isV_mk _ _⟩
        intro vs w1 hb hd
        have e0 : isV _ (vs 0) w1 := hd 0 (by decide)
        have e1 : isV _ (vs 1) w1 := hd 1 (by decide)
        have e2 : isV _ (vs 2) w1 := hd 2 (by decide)
        have e3 : isV _ (vs 3) w1 := hd 3 (by decide)
        have e4 : isV _ (vs 4) w1 := hd 4 (by decide)
        have e5 : isV _ (vs 5) w1 := hd 5 (by decide)
        have e6 : isV _ (vs 6) w1 := hd 6 (by decide)
        have e7 : isV _ (vs 7) w1 := hd 7 (by decide)
        have e8 : isV _ (vs 8) w1 := hd 8 (by decide)
        have e9 : isV _ (vs 9) w1 := hd 9 (by decide)
        have e10 : isV _ (vs 10) w1 := hd 10 (by decide)
        have e11 : isV _ (vs 11) w1 := hd 11 (by decide)
        have e12 : isV _ (vs 12) w1 := hd 12 (by decide)
        have e13 := hd 13 (by decide); simp only [TR, Nat.reduceAdd, Nat.reduceSub, List.getD_cons_zero, List.getD_cons_succ] at e13
        have e14 : isV _ (vs 14) w1 := hd 14 (by decide)
        have e15 : isV _ (vs 15) w1 := hd 15 (by decide)
        clear hd
        unfold isV at e0 e1 e2 e3 e4 e5 e6 e7 e8 e9 e10 e11 e12 e14 e15
        simp only [putL, Act.put, List.setIfInBounds_toArray, List.set_cons_zero, List.set_cons_succ, e0, e1, e2, e3, e4, e5, e6, e7, e8, e9, e10, e11, e12, e14, e15]
        clear e0 e1 e2 e3 e4 e5 e6 e7 e8 e9 e10 e11 e12 e14 e15
        --@end
        unfold isV at e13
        have hz3 := Hz2.out
        subst hz3
        have hbx2 := hbx.trans (hb.mono hbx.size)
        clear hcu hcv su sv hb hbx e13
        go_wp2_with fail
        go_roundw
        case rel => exact ⟨i + 1, by omega, by go_num, hbx2⟩
        case measure => simp [intOf]; omega
      · obtain rfl : i = m := by omega
        go_wp2_with fail
        go_meet
        exact hbx
  case rest =>
    have hm2 : ((m : Int) == (m : Int)) = true := by simp
    go_wp2_with fail
    go_ret
    exact ⟨rfl, hcut⟩
end Go.Proofs.Ytbnifagmbhiblaa
