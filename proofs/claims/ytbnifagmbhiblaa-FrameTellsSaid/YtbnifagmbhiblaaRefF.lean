import Derived.Test.YtbnifagmbhiblaaRefE
import Derived.Test.YtbnifagmbhiblaaFrameC
import Derived.Test.YtbnifagmbhiblaaLawApart
import Derived.Test.YtbnifagmbhiblaaRegion
namespace Go.Proofs.Ytbnifagmbhiblaa
open Go.RowKit
set_option linter.unusedSimpArgs false
set_option linter.unusedVariables false

set_option maxHeartbeats 400000 in
theorem refSeal_any (A : Option Addr) (n c : Nat) (l : List UInt8) (w : World) (hs : Sl w 1 A n c (bytesV l)) (hn : n ≤ 1000000) :
    Calls Try.prog 37 #[.slice A n c] w fun e w' => ∃ A' m c', e = .returned (.slice A' m c') ∧ Sl w' 1 A' m c' (bytesV (l ++ crc4 (crc l))) ∧ Below w.heap.size w w' := by
  have hr := (crc l).isLt
  go_enter Try.func37, Try.ntmps37
  go_wp2_with fail
  refine (refCrc_any _ _ _ l _ hs hn).mono ?_; rintro e w1 ⟨rfl, hb1⟩
  go_wp2_with fail
  have hblk := sl_new w1 (crc4 (crc l)) 5 4 rfl
  have hal := below_alloc1 w1 (.cells (bytesV (crc4 (crc l))).toArray 5)
  have hs2 := (hs.below hb1).below hal
  rw [crc4_cells]
  generalize w1.alloc (.cells (bytesV (crc4 (crc l))).toArray 5) = w2 at *
  refine (both_any _ _ _ _ _ _ l (crc4 (crc l)) _ hs2 hblk (by omega) (by omega)).mono ?_; rintro e w3 ⟨rfl, hown, hb3⟩
  go_wp2_with fail
  go_ret
  have hbA := hb1.trans (hal.mono hb1.size)
  exact ⟨_, _, _, rfl, ownsRow_sl hown, hbA.trans (hb3.mono hbA.size)⟩

set_option maxRecDepth 100000 in
set_option maxHeartbeats 1000000 in
theorem refUnseal_any (A : Option Addr) (n c : Nat) (l : List UInt8) (w : World) (hs : Sl w 1 A n c (bytesV l)) (hn : n ≤ 1000000) :
    Calls Try.prog 35 #[.slice A n c] w fun e w' => ∃ A' n' c', e = .returned (.tuple #[.slice A' n' c', .int .i64 ((unsld l).2 : Nat)]) ∧
      Sl w' 1 A' n' c' (bytesV (unsld l).1) ∧ Below w.heap.size w w' := by
  have hbl := hs.blen
  obtain ⟨q, hq⟩ : ∃ q, q = unsld l := ⟨_, rfl⟩
  have hq' := hq
  unfold unsld at hq'
  rw [hbl] at hq'
  rw [← hq]
  by_cases h1 : n < 4
  · rw [if_pos h1] at hq'
    subst hq'
    go_enter Try.func35, Try.ntmps35
    go_wp2
    go_ret2
    exact ⟨none, 0, 0, rfl, Sl.nil _ _, Below.refl _ _⟩
  · rw [if_neg h1] at hq'
    obtain ⟨k, rfl⟩ : ∃ k, n = k + 4 := ⟨n - 4, by omega⟩
    rw [show k + 4 - 4 = k by omega] at hq'
    obtain ⟨y, hy⟩ : ∃ y, y = l.take k := ⟨_, rfl⟩
    have hcut := cutb_to .i64 A (k + 4) c k (k : Int) rfl (by have := hs.le; omega)
    have hsk := slb_to hs k (by omega)
    rw [← hy] at hq' hsk
    obtain ⟨x, hx⟩ : ∃ x, x = y ++ crc4 (crc y) := ⟨_, rfl⟩
    rw [← hx] at hq'
    have Hx := Lib.hid hx
    have Hq := Lib.hid hq'
    obtain ⟨z, hz⟩ : ∃ z, (x == l) = z := ⟨_, rfl⟩
    have hsn := Sl.nil w 1
    rw [show ([] : List Value) = bytesV [] from rfl] at hsn
    clear hq hq' hx hy
    go_enter Try.func35, Try.ntmps35
    go_wp2_with (go_at_call 57; refine (both_any _ _ _ _ _ _ [] y _ hsn hsk (by omega) (by omega)).mono ?_; rintro e w1 ⟨rfl, hown, hb1⟩; simp only [Nat.zero_add] at hown ⊢)
    have hsy := ownsRow_sl hown
    rw [List.nil_append] at hsy
    have hs1 := hs.below hb1
    clear hown hsn hsk hs hcut
    --@region 35 4 unseal4.spec
    refine wp_region_run (by kernel_rfl) (by kernel_rfl) ?_
    apply RunL.pure
    · intro vs w hb hd; clear hd; simp only [List.take, putL, Act.put, List.setIfInBounds_toArray, List.set_cons_zero, List.set_cons_succ]; unfold StepOK; go_simp; exact ⟨Below.refl _ _, isV_mk _ _⟩
    refine RunL.such (isB x) (isB_stable _) ?_ ?_
    · intro vs w hb hd; have d0 : isV _ (vs 0) w := hd 0 (by decide) (by kernel_rfl); unfold isV at d0; clear hd; simp only [List.take, putL, Act.put, List.setIfInBounds_toArray, List.set_cons_zero, List.set_cons_succ]; unfold StepOK; go_simp; refine ⟨Below.refl _ _, (refSeal_any _ _ _ y _ (hsy.below hb) (by omega)).mono ?_⟩; rintro e w' ⟨A1, m1, c1, rfl, h1, h2⟩; exact ⟨_, rfl, h2, _, _, _, rfl, by rw [Hx.out]; exact h1⟩
    apply RunL.pure
    · intro vs w hb hd; have d1 := hd 1 (by decide) (by kernel_rfl); simp only [TR, Nat.reduceAdd, Nat.reduceSub, List.getD_cons_zero, List.getD_cons_succ] at d1; clear hd; obtain ⟨Aq, nq, cq, eq, hq⟩ := isB_elim d1; have hcv := run_str hq; simp only [List.take, putL, Act.put, List.setIfInBounds_toArray, List.set_cons_zero, List.set_cons_succ]; unfold StepOK; go_simp; exact ⟨Below.refl _ _, isV_mk _ _⟩
    apply RunL.pure
    · intro vs w hb hd; clear hd; simp only [List.take, putL, Act.put, List.setIfInBounds_toArray, List.set_cons_zero, List.set_cons_succ]; unfold StepOK; go_simp; exact ⟨Below.refl _ _, isV_mk _ _⟩
    apply RunL.pure
    · intro vs w hb hd; have d3 : isV _ (vs 3) w := hd 3 (by decide) (by kernel_rfl); unfold isV at d3; clear hd; have hcv := run_str (hs1.below hb); simp only [List.take, putL, Act.put, List.setIfInBounds_toArray, List.set_cons_zero, List.set_cons_succ]; unfold StepOK; go_simp; exact ⟨Below.refl _ _, isV_mk _ _⟩
    apply RunL.pure
    · intro vs w hb hd; have d2 : isV _ (vs 2) w := hd 2 (by decide) (by kernel_rfl); unfold isV at d2; have d4 : isV _ (vs 4) w := hd 4 (by decide) (by kernel_rfl); unfold isV at d4; clear hd; have hq := hz; simp only [List.take, putL, Act.put, List.setIfInBounds_toArray, List.set_cons_zero, List.set_cons_succ]; unfold StepOK; go_simp; exact ⟨Below.refl _ _, isV_mk _ _⟩
    intro vs w1 hb hd
    have e0 : isV _ (vs 0) w1 := hd 0 (by decide)
    have e1 := hd 1 (by decide); simp only [TR, Nat.reduceAdd, Nat.reduceSub, List.getD_cons_zero, List.getD_cons_succ] at e1
    have e2 : isV _ (vs 2) w1 := hd 2 (by decide)
    have e3 : isV _ (vs 3) w1 := hd 3 (by decide)
    have e4 : isV _ (vs 4) w1 := hd 4 (by decide)
    have e5 : isV _ (vs 5) w1 := hd 5 (by decide)
    clear hd
    unfold isV at e0 e2 e3 e4 e5
    simp only [putL, Act.put, List.setIfInBounds_toArray, List.set_cons_zero, List.set_cons_succ, e0, e2, e3, e4, e5]
    clear e0 e2 e3 e4 e5
    --@end
    unfold isB at e1
    obtain ⟨_, _, _, _, hqq⟩ := e1
    have hbA := hb1.trans (hb.mono hb1.size)
    have hsz := hsy.below hb
    clear hb hb1 hqq hs1 hsy
    cases z with
    | true =>
      have hqe : q = (y, 0) := by rw [Hq.out, if_pos (by simpa using hz)]
      have Hq2 := Lib.hid hqe
      clear hqe hz
      go_wp2_with fail
      go_ret2
      exact ⟨_, _, _, by rw [Hq2.out]; rfl, by rw [Hq2.out]; exact hsz, hbA⟩
    | false =>
      have hqe : q = ([], 12) := by rw [Hq.out, if_neg (by simpa using hz)]
      have Hq2 := Lib.hid hqe
      clear hqe hz
      go_wp2_with fail
      go_ret2
      exact ⟨none, 0, 0, by rw [Hq2.out]; rfl, by rw [Hq2.out]; exact Sl.nil _ _, hbA⟩
end Go.Proofs.Ytbnifagmbhiblaa
