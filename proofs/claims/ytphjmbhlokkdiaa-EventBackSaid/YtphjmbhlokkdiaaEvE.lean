import Derived.Test.YtphjmbhlokkdiaaEvC
import Derived.Test.YtphjmbhlokkdiaaOwnWalks
namespace Go.Proofs.Ytphjmbhlokkdiaa
open Go.RowKit
set_option linter.unusedSimpArgs false
set_option linter.unusedVariables false

/-- a reader in memory -/
def RdIn (base : Nat) (w : World) (g : Nat) (A : Option Addr) (n c at_ bad : Nat) : Prop :=
  w.ownsRow base 104 1 (.slice (some ⟨g, 0, none⟩) 3 3) 3 [.slice A n c, .int .i64 (at_ : Int), .int .i64 (bad : Int)]
theorem RdIn.below {base : Nat} {w w' : World} {g : Nat} {A : Option Addr} {n c at_ bad : Nat} (h : RdIn base w g A n c at_ bad) (hb : Below w.heap.size w w') : RdIn base w' g A n c at_ bad := Own.below h hb
theorem getUint_such (A : Option Addr) (n c : Nat) (l : List UInt8) (at_ : Int) (q1 q2 q3 : Nat) (w : World) (hs : Sl w 1 A n c (bytesV l)) (hl : n ≤ 1000000) (hg : gu l at_ = (q1, q2, q3)) :
    Calls Try.prog 94 #[.slice A n c, .int .i64 at_] w fun e w' => ∃ v, e = .returned v ∧ Below w.heap.size w w' ∧ isV (.tuple #[.int .u64 (q1 : Int), .int .i64 (q2 : Int), .int .i64 (q3 : Int)]) v w' :=
  (getUint_any A n c l at_ w hs (by omega)).mono fun e w' ⟨h1, h2⟩ => ⟨_, h1, h2 ▸ Below.refl _ _, by rw [hg]; exact isV_mk _ _⟩
theorem getInt_such (A : Option Addr) (n c : Nat) (l : List UInt8) (at_ : Int) (q1 : Int) (q2 q3 : Nat) (w : World) (hs : Sl w 1 A n c (bytesV l)) (hl : n ≤ 1000000) (hg : gi l at_ = (q1, q2, q3)) :
    Calls Try.prog 95 #[.slice A n c, .int .i64 at_] w fun e w' => ∃ v, e = .returned v ∧ Below w.heap.size w w' ∧ isV (.tuple #[.int .i64 q1, .int .i64 (q2 : Int), .int .i64 (q3 : Int)]) v w' :=
  (getInt_any A n c l at_ w hs (by omega)).mono fun e w' ⟨h1, h2⟩ => ⟨_, h1, h2 ▸ Below.refl _ _, by rw [hg]; exact isV_mk _ _⟩

/-- a number that is read, the place behind it, the error that stays -/
def rdN (l : List UInt8) (at_ bad : Nat) : Nat × Nat × Nat :=
  if bad ≠ 0 then (0, at_, bad) else if (gu l at_).2.2 ≠ 0 then (0, at_, (gu l at_).2.2) else if 4611686018427387904 < (gu l at_).1 then (0, at_, 10) else ((gu l at_).1, (gu l at_).2.1, 0)

set_option maxRecDepth 100000 in
set_option maxHeartbeats 2000000 in
theorem number_any (base g : Nat) (A : Option Addr) (n c at_ bad : Nat) (l : List UInt8) (w : World) (h : RdIn base w g A n c at_ bad) (hs : Sl w 1 A n c (bytesV l)) (hn : n ≤ 1000000) :
    Calls Try.prog 72 #[.pointer (some ⟨g, 0, none⟩)] w fun x w' => x = .returned (.int .i64 ((rdN l at_ bad).1 : Nat)) ∧ RdIn base w' g A n c (rdN l at_ bad).2.1 (rdN l at_ bad).2.2 ∧ w.grownBy w' (some g) := by
  have c2 := h.cellAt 2 (by omega)
  simp only [List.getElem?_cons_succ, List.getElem?_cons_zero] at c2
  unfold rdN
  by_cases hb0 : bad = 0
  · subst hb0
    obtain ⟨⟨q1, q2, q3⟩, hg⟩ : ∃ q, gu l at_ = q := ⟨_, rfl⟩
    have hq1 : q1 < 18446744073709551616 := by have := gu_lt l at_; rw [hg] at this; exact this
    have HG := Lib.hid hg
    rw [if_neg (by simp), hg]
    simp only
    obtain ⟨pr, hp⟩ : ∃ p : Nat × Nat × Nat, p = if q3 ≠ 0 then (0, at_, q3) else if 4611686018427387904 < q1 then (0, at_, 10) else (q1, q2, 0) := ⟨_, rfl⟩
    rw [← hp]
    have HP := Lib.hid hp
    clear hg hp
    have hc0 : ∀ wx, Below w.heap.size w wx → wx.cell? ⟨g, 0, none⟩ = some (.slice A n c) := fun wx hb => by
      have := (h.below hb).cellAt 0 (by omega)
      simpa using this
    have hc1 : ∀ wx, Below w.heap.size w wx → wx.cell? ⟨g, 1, none⟩ = some (.int .i64 (at_ : Int)) := fun wx hb => by
      have := (h.below hb).cellAt 1 (by omega)
      simpa using this
    go_enter Try.func72, Try.ntmps72
    go_wp2_with fail
    --@region 72 3 number3.spec
    refine wp_region_run (by kernel_rfl) (by kernel_rfl) ?_
    apply RunL.pure
    · intro vs w hb hd; clear hd; simp only [List.take, putL, Act.put, List.setIfInBounds_toArray, List.set_cons_zero, List.set_cons_succ]; unfold StepOK; go_simp; exact ⟨Below.refl _ _, isV_mk _ _⟩
    apply RunL.pure
    · intro vs w hb hd; have d0 : isV _ (vs 0) w := hd 0 (by decide) (by kernel_rfl); unfold isV at d0; clear hd; simp only [List.take, putL, Act.put, List.setIfInBounds_toArray, List.set_cons_zero, List.set_cons_succ]; unfold StepOK; go_simp; exact ⟨Below.refl _ _, isV_mk _ _⟩
    apply RunL.pure
    · intro vs w hb hd; have d1 : isV _ (vs 1) w := hd 1 (by decide) (by kernel_rfl); unfold isV at d1; clear hd; simp only [List.take, putL, Act.put, List.setIfInBounds_toArray, List.set_cons_zero, List.set_cons_succ]; unfold StepOK; go_simp; exact ⟨Below.refl _ _, isV_mk _ _⟩
    apply RunL.pure
    · intro vs w hb hd; have d2 : isV _ (vs 2) w := hd 2 (by decide) (by kernel_rfl); unfold isV at d2; clear hd; have hc := hc0 _ hb; simp only [List.take, putL, Act.put, List.setIfInBounds_toArray, List.set_cons_zero, List.set_cons_succ]; unfold StepOK; go_simp; exact ⟨Below.refl _ _, isV_mk _ _⟩
    apply RunL.pure
    · intro vs w hb hd; clear hd; simp only [List.take, putL, Act.put, List.setIfInBounds_toArray, List.set_cons_zero, List.set_cons_succ]; unfold StepOK; go_simp; exact ⟨Below.refl _ _, isV_mk _ _⟩
    apply RunL.pure
    · intro vs w hb hd; have d4 : isV _ (vs 4) w := hd 4 (by decide) (by kernel_rfl); unfold isV at d4; clear hd; simp only [List.take, putL, Act.put, List.setIfInBounds_toArray, List.set_cons_zero, List.set_cons_succ]; unfold StepOK; go_simp; exact ⟨Below.refl _ _, isV_mk _ _⟩
    apply RunL.pure
    · intro vs w hb hd; have d5 : isV _ (vs 5) w := hd 5 (by decide) (by kernel_rfl); unfold isV at d5; clear hd; simp only [List.take, putL, Act.put, List.setIfInBounds_toArray, List.set_cons_zero, List.set_cons_succ]; unfold StepOK; go_simp; exact ⟨Below.refl _ _, isV_mk _ _⟩
    apply RunL.pure
    · intro vs w hb hd; have d6 : isV _ (vs 6) w := hd 6 (by decide) (by kernel_rfl); unfold isV at d6; clear hd; have hc := hc1 _ hb; simp only [List.take, putL, Act.put, List.setIfInBounds_toArray, List.set_cons_zero, List.set_cons_succ]; unfold StepOK; go_simp; exact ⟨Below.refl _ _, isV_mk _ _⟩
    refine RunL.such (isV (.tuple #[.int .u64 (q1 : Int), .int .i64 (q2 : Int), .int .i64 (q3 : Int)])) (isV_stable _) ?_ ?_
    · intro vs w hb hd; have d3 : isV _ (vs 3) w := hd 3 (by decide) (by kernel_rfl); unfold isV at d3; have d7 : isV _ (vs 7) w := hd 7 (by decide) (by kernel_rfl); unfold isV at d7; clear hd; simp only [List.take, putL, Act.put, List.setIfInBounds_toArray, List.set_cons_zero, List.set_cons_succ]; unfold StepOK; go_simp; exact ⟨Below.refl _ _, getUint_such _ _ _ l _ q1 q2 q3 _ (hs.below hb) (by omega) HG.out⟩
    apply RunL.pure
    · intro vs w hb hd; have d8 := hd 8 (by decide) (by kernel_rfl); simp only [TR, Nat.reduceAdd, Nat.reduceSub, List.getD_cons_zero, List.getD_cons_succ] at d8; clear hd; unfold isV at d8; simp only [List.take, putL, Act.put, List.setIfInBounds_toArray, List.set_cons_zero, List.set_cons_succ]; unfold StepOK; go_simp; exact ⟨Below.refl _ _, isV_mk _ _⟩
    apply RunL.pure
    · intro vs w hb hd; have d9 : isV _ (vs 9) w := hd 9 (by decide) (by kernel_rfl); unfold isV at d9; clear hd; simp only [List.take, putL, Act.put, List.setIfInBounds_toArray, List.set_cons_zero, List.set_cons_succ]; unfold StepOK; go_simp; exact ⟨Below.refl _ _, isV_mk _ _⟩
    apply RunL.pure
    · intro vs w hb hd; have d9 : isV _ (vs 9) w := hd 9 (by decide) (by kernel_rfl); unfold isV at d9; clear hd; simp only [List.take, putL, Act.put, List.setIfInBounds_toArray, List.set_cons_zero, List.set_cons_succ]; unfold StepOK; go_simp; exact ⟨Below.refl _ _, isV_mk _ _⟩
    apply RunL.pure
    · intro vs w hb hd; have d9 : isV _ (vs 9) w := hd 9 (by decide) (by kernel_rfl); unfold isV at d9; clear hd; simp only [List.take, putL, Act.put, List.setIfInBounds_toArray, List.set_cons_zero, List.set_cons_succ]; unfold StepOK; go_simp; exact ⟨Below.refl _ _, isV_mk _ _⟩
    apply RunL.pure
    · intro vs w hb hd; have d0 : isV _ (vs 0) w := hd 0 (by decide) (by kernel_rfl); unfold isV at d0; have d1 : isV _ (vs 1) w := hd 1 (by decide) (by kernel_rfl); unfold isV at d1; have d2 : isV _ (vs 2) w := hd 2 (by decide) (by kernel_rfl); unfold isV at d2; have d3 : isV _ (vs 3) w := hd 3 (by decide) (by kernel_rfl); unfold isV at d3; have d4 : isV _ (vs 4) w := hd 4 (by decide) (by kernel_rfl); unfold isV at d4; have d5 : isV _ (vs 5) w := hd 5 (by decide) (by kernel_rfl); unfold isV at d5; have d6 : isV _ (vs 6) w := hd 6 (by decide) (by kernel_rfl); unfold isV at d6; have d7 : isV _ (vs 7) w := hd 7 (by decide) (by kernel_rfl); unfold isV at d7; have d8 := hd 8 (by decide) (by kernel_rfl); simp only [TR, Nat.reduceAdd, Nat.reduceSub, List.getD_cons_zero, List.getD_cons_succ] at d8; have d9 : isV _ (vs 9) w := hd 9 (by decide) (by kernel_rfl); unfold isV at d9; have d10 : isV _ (vs 10) w := hd 10 (by decide) (by kernel_rfl); unfold isV at d10; clear hd; simp only [List.take, putL, Act.put, List.setIfInBounds_toArray, List.set_cons_zero, List.set_cons_succ]; unfold StepOK; go_simp; exact ⟨Below.refl _ _, isV_mk _ _⟩
    apply RunL.pure
    · intro vs w hb hd; have d0 : isV _ (vs 0) w := hd 0 (by decide) (by kernel_rfl); unfold isV at d0; have d1 : isV _ (vs 1) w := hd 1 (by decide) (by kernel_rfl); unfold isV at d1; have d2 : isV _ (vs 2) w := hd 2 (by decide) (by kernel_rfl); unfold isV at d2; have d3 : isV _ (vs 3) w := hd 3 (by decide) (by kernel_rfl); unfold isV at d3; have d4 : isV _ (vs 4) w := hd 4 (by decide) (by kernel_rfl); unfold isV at d4; have d5 : isV _ (vs 5) w := hd 5 (by decide) (by kernel_rfl); unfold isV at d5; have d6 : isV _ (vs 6) w := hd 6 (by decide) (by kernel_rfl); unfold isV at d6; have d7 : isV _ (vs 7) w := hd 7 (by decide) (by kernel_rfl); unfold isV at d7; have d8 := hd 8 (by decide) (by kernel_rfl); simp only [TR, Nat.reduceAdd, Nat.reduceSub, List.getD_cons_zero, List.getD_cons_succ] at d8; have d9 : isV _ (vs 9) w := hd 9 (by decide) (by kernel_rfl); unfold isV at d9; have d10 : isV _ (vs 10) w := hd 10 (by decide) (by kernel_rfl); unfold isV at d10; have d11 : isV _ (vs 11) w := hd 11 (by decide) (by kernel_rfl); unfold isV at d11; have d13 : isV _ (vs 13) w := hd 13 (by decide) (by kernel_rfl); unfold isV at d13; clear hd; simp only [List.take, putL, Act.put, List.setIfInBounds_toArray, List.set_cons_zero, List.set_cons_succ]; unfold StepOK; go_simp; exact ⟨Below.refl _ _, isV_mk _ _⟩
    apply RunL.pure
    · intro vs w hb hd; have d0 : isV _ (vs 0) w := hd 0 (by decide) (by kernel_rfl); unfold isV at d0; have d1 : isV _ (vs 1) w := hd 1 (by decide) (by kernel_rfl); unfold isV at d1; have d2 : isV _ (vs 2) w := hd 2 (by decide) (by kernel_rfl); unfold isV at d2; have d3 : isV _ (vs 3) w := hd 3 (by decide) (by kernel_rfl); unfold isV at d3; have d4 : isV _ (vs 4) w := hd 4 (by decide) (by kernel_rfl); unfold isV at d4; have d5 : isV _ (vs 5) w := hd 5 (by decide) (by kernel_rfl); unfold isV at d5; have d6 : isV _ (vs 6) w := hd 6 (by decide) (by kernel_rfl); unfold isV at d6; have d7 : isV _ (vs 7) w := hd 7 (by decide) (by kernel_rfl); unfold isV at d7; have d8 := hd 8 (by decide) (by kernel_rfl); simp only [TR, Nat.reduceAdd, Nat.reduceSub, List.getD_cons_zero, List.getD_cons_succ] at d8; have d9 : isV _ (vs 9) w := hd 9 (by decide) (by kernel_rfl); unfold isV at d9; have d10 : isV _ (vs 10) w := hd 10 (by decide) (by kernel_rfl); unfold isV at d10; have d11 : isV _ (vs 11) w := hd 11 (by decide) (by kernel_rfl); unfold isV at d11; have d12 : isV _ (vs 12) w := hd 12 (by decide) (by kernel_rfl); unfold isV at d12; have d13 : isV _ (vs 13) w := hd 13 (by decide) (by kernel_rfl); unfold isV at d13; have d14 : isV _ (vs 14) w := hd 14 (by decide) (by kernel_rfl); unfold isV at d14; clear hd; simp only [List.take, putL, Act.put, List.setIfInBounds_toArray, List.set_cons_zero, List.set_cons_succ]; unfold StepOK; go_simp; exact ⟨Below.refl _ _, isV_mk _ _⟩
    intro vs w1 hb hd
    have e0 : isV _ (vs 0) w1 := hd 0 (by decide)
    have e1 : isV _ (vs 1) w1 := hd 1 (by decide)
    have e2 : isV _ (vs 2) w1 := hd 2 (by decide)
    have e3 : isV _ (vs 3) w1 := hd 3 (by decide)
    have e4 : isV _ (vs 4) w1 := hd 4 (by decide)
    have e5 : isV _ (vs 5) w1 := hd 5 (by decide)
    have e6 : isV _ (vs 6) w1 := hd 6 (by decide)
    have e7 : isV _ (vs 7) w1 := hd 7 (by decide)
    have e8 := hd 8 (by decide); simp only [TR, Nat.reduceAdd, Nat.reduceSub, List.getD_cons_zero, List.getD_cons_succ] at e8
    have e9 : isV _ (vs 9) w1 := hd 9 (by decide)
    have e10 : isV _ (vs 10) w1 := hd 10 (by decide)
    have e11 : isV _ (vs 11) w1 := hd 11 (by decide)
    have e12 : isV _ (vs 12) w1 := hd 12 (by decide)
    have e13 : isV _ (vs 13) w1 := hd 13 (by decide)
    have e14 : isV _ (vs 14) w1 := hd 14 (by decide)
    have e15 : isV _ (vs 15) w1 := hd 15 (by decide)
    clear hd
    unfold isV at e0 e1 e2 e3 e4 e5 e6 e7 e9 e10 e11 e12 e13 e14 e15
    simp only [putL, Act.put, List.setIfInBounds_toArray, List.set_cons_zero, List.set_cons_succ, e0, e1, e2, e3, e4, e5, e6, e7, e9, e10, e11, e12, e13, e14, e15]
    clear e0 e1 e2 e3 e4 e5 e6 e7 e9 e10 e11 e12 e13 e14 e15
    --@end
    unfold isV at e8
    have h1 : RdIn base w1 g A n c at_ 0 := h.below hb
    have hgr := below_grownBy hb (some g)
    clear hb e8 h hs hc0 hc1 c2
    have f1 := h1.frozenAt 1
    have f2 := h1.frozenAt 2
    have g1 := h1.cellAt 1 (by omega)
    have g2 := h1.cellAt 2 (by omega)
    simp only [List.getElem?_cons_succ, List.getElem?_cons_zero] at g1 g2
    have s1 := h1.stored 1 (.int .i64 (q2 : Int))
    have s2 := h1.stored 2 (.int .i64 (q3 : Int))
    have s3 := h1.stored 2 (.int .i64 10)
    by_cases h3 : q3 = 0
    · subst h3
      by_cases h4 : 4611686018427387904 < q1
      · obtain rfl : pr = (0, at_, 10) := by rw [HP.out, if_neg (by simp), if_pos h4]
        clear s1 s2
        go_wp2_with fail
        go_ret
        exact ⟨rfl, s3.1, grownBy_trans hgr s3.2⟩
      · obtain rfl : pr = (q1, q2, 0) := by rw [HP.out, if_neg (by simp), if_neg h4]
        clear s2 s3
        go_wp2_with fail
        go_ret
        exact ⟨rfl, s1.1, grownBy_trans hgr s1.2⟩
    · obtain rfl : pr = (0, at_, q3) := by rw [HP.out, if_pos h3]
      have h30 : 0 < q3 := by omega
      clear s1 s3
      go_wp2_with fail
      go_ret
      exact ⟨rfl, s2.1, grownBy_trans hgr s2.2⟩
  · rw [if_pos hb0]
    have hb1 : 0 < bad := by omega
    go_enter Try.func72, Try.ntmps72
    go_wp2_with fail
    go_ret
    exact ⟨rfl, h, World.grownBy.refl _ _⟩
/-- a number with a sign that is read -/
def rdI (l : List UInt8) (at_ bad : Nat) : Int × Nat × Nat :=
  if bad ≠ 0 then (0, at_, bad) else if (gi l at_).2.2 ≠ 0 then (0, at_, (gi l at_).2.2) else ((gi l at_).1, (gi l at_).2.1, 0)

set_option maxRecDepth 100000 in
set_option maxHeartbeats 2000000 in
theorem rsigned_any (base g : Nat) (A : Option Addr) (n c at_ bad : Nat) (l : List UInt8) (w : World) (h : RdIn base w g A n c at_ bad) (hs : Sl w 1 A n c (bytesV l)) (hn : n ≤ 1000000) :
    Calls Try.prog 73 #[.pointer (some ⟨g, 0, none⟩)] w fun x w' => x = .returned (.int .i64 (rdI l at_ bad).1) ∧ RdIn base w' g A n c (rdI l at_ bad).2.1 (rdI l at_ bad).2.2 ∧ w.grownBy w' (some g) := by
  have c2 := h.cellAt 2 (by omega)
  simp only [List.getElem?_cons_succ, List.getElem?_cons_zero] at c2
  unfold rdI
  by_cases hb0 : bad = 0
  · subst hb0
    obtain ⟨⟨q1, q2, q3⟩, hg⟩ : ∃ q : Int × Nat × Nat, gi l at_ = q := ⟨_, rfl⟩
    have HG := Lib.hid hg
    rw [if_neg (by simp), hg]
    simp only
    obtain ⟨pr, hp⟩ : ∃ p : Int × Nat × Nat, p = if q3 ≠ 0 then (0, at_, q3) else (q1, q2, 0) := ⟨_, rfl⟩
    rw [← hp]
    have HP := Lib.hid hp
    clear hg hp
    have hc0 : ∀ wx, Below w.heap.size w wx → wx.cell? ⟨g, 0, none⟩ = some (.slice A n c) := fun wx hb => by
      have := (h.below hb).cellAt 0 (by omega)
      simpa using this
    have hc1 : ∀ wx, Below w.heap.size w wx → wx.cell? ⟨g, 1, none⟩ = some (.int .i64 (at_ : Int)) := fun wx hb => by
      have := (h.below hb).cellAt 1 (by omega)
      simpa using this
    go_enter Try.func73, Try.ntmps73
    go_wp2_with fail
    --@region 73 3 signed3.spec
    refine wp_region_run (by kernel_rfl) (by kernel_rfl) ?_
    apply RunL.pure
    · intro vs w hb hd; clear hd; simp only [List.take, putL, Act.put, List.setIfInBounds_toArray, List.set_cons_zero, List.set_cons_succ]; unfold StepOK; go_simp; exact ⟨Below.refl _ _, isV_mk _ _⟩
    apply RunL.pure
    · intro vs w hb hd; have d0 : isV _ (vs 0) w := hd 0 (by decide) (by kernel_rfl); unfold isV at d0; clear hd; simp only [List.take, putL, Act.put, List.setIfInBounds_toArray, List.set_cons_zero, List.set_cons_succ]; unfold StepOK; go_simp; exact ⟨Below.refl _ _, isV_mk _ _⟩
    apply RunL.pure
    · intro vs w hb hd; have d1 : isV _ (vs 1) w := hd 1 (by decide) (by kernel_rfl); unfold isV at d1; clear hd; simp only [List.take, putL, Act.put, List.setIfInBounds_toArray, List.set_cons_zero, List.set_cons_succ]; unfold StepOK; go_simp; exact ⟨Below.refl _ _, isV_mk _ _⟩
    apply RunL.pure
    · intro vs w hb hd; have d2 : isV _ (vs 2) w := hd 2 (by decide) (by kernel_rfl); unfold isV at d2; clear hd; have hc := hc0 _ hb; simp only [List.take, putL, Act.put, List.setIfInBounds_toArray, List.set_cons_zero, List.set_cons_succ]; unfold StepOK; go_simp; exact ⟨Below.refl _ _, isV_mk _ _⟩
    apply RunL.pure
    · intro vs w hb hd; clear hd; simp only [List.take, putL, Act.put, List.setIfInBounds_toArray, List.set_cons_zero, List.set_cons_succ]; unfold StepOK; go_simp; exact ⟨Below.refl _ _, isV_mk _ _⟩
    apply RunL.pure
    · intro vs w hb hd; have d4 : isV _ (vs 4) w := hd 4 (by decide) (by kernel_rfl); unfold isV at d4; clear hd; simp only [List.take, putL, Act.put, List.setIfInBounds_toArray, List.set_cons_zero, List.set_cons_succ]; unfold StepOK; go_simp; exact ⟨Below.refl _ _, isV_mk _ _⟩
    apply RunL.pure
    · intro vs w hb hd; have d5 : isV _ (vs 5) w := hd 5 (by decide) (by kernel_rfl); unfold isV at d5; clear hd; simp only [List.take, putL, Act.put, List.setIfInBounds_toArray, List.set_cons_zero, List.set_cons_succ]; unfold StepOK; go_simp; exact ⟨Below.refl _ _, isV_mk _ _⟩
    apply RunL.pure
    · intro vs w hb hd; have d6 : isV _ (vs 6) w := hd 6 (by decide) (by kernel_rfl); unfold isV at d6; clear hd; have hc := hc1 _ hb; simp only [List.take, putL, Act.put, List.setIfInBounds_toArray, List.set_cons_zero, List.set_cons_succ]; unfold StepOK; go_simp; exact ⟨Below.refl _ _, isV_mk _ _⟩
    refine RunL.such (isV (.tuple #[.int .i64 q1, .int .i64 (q2 : Int), .int .i64 (q3 : Int)])) (isV_stable _) ?_ ?_
    · intro vs w hb hd; have d3 : isV _ (vs 3) w := hd 3 (by decide) (by kernel_rfl); unfold isV at d3; have d7 : isV _ (vs 7) w := hd 7 (by decide) (by kernel_rfl); unfold isV at d7; clear hd; simp only [List.take, putL, Act.put, List.setIfInBounds_toArray, List.set_cons_zero, List.set_cons_succ]; unfold StepOK; go_simp; exact ⟨Below.refl _ _, getInt_such _ _ _ l _ q1 q2 q3 _ (hs.below hb) (by omega) HG.out⟩
    apply RunL.pure
    · intro vs w hb hd; have d8 := hd 8 (by decide) (by kernel_rfl); simp only [TR, Nat.reduceAdd, Nat.reduceSub, List.getD_cons_zero, List.getD_cons_succ] at d8; clear hd; unfold isV at d8; simp only [List.take, putL, Act.put, List.setIfInBounds_toArray, List.set_cons_zero, List.set_cons_succ]; unfold StepOK; go_simp; exact ⟨Below.refl _ _, isV_mk _ _⟩
    apply RunL.pure
    · intro vs w hb hd; have d9 : isV _ (vs 9) w := hd 9 (by decide) (by kernel_rfl); unfold isV at d9; clear hd; simp only [List.take, putL, Act.put, List.setIfInBounds_toArray, List.set_cons_zero, List.set_cons_succ]; unfold StepOK; go_simp; exact ⟨Below.refl _ _, isV_mk _ _⟩
    apply RunL.pure
    · intro vs w hb hd; have d9 : isV _ (vs 9) w := hd 9 (by decide) (by kernel_rfl); unfold isV at d9; clear hd; simp only [List.take, putL, Act.put, List.setIfInBounds_toArray, List.set_cons_zero, List.set_cons_succ]; unfold StepOK; go_simp; exact ⟨Below.refl _ _, isV_mk _ _⟩
    apply RunL.pure
    · intro vs w hb hd; have d9 : isV _ (vs 9) w := hd 9 (by decide) (by kernel_rfl); unfold isV at d9; clear hd; simp only [List.take, putL, Act.put, List.setIfInBounds_toArray, List.set_cons_zero, List.set_cons_succ]; unfold StepOK; go_simp; exact ⟨Below.refl _ _, isV_mk _ _⟩
    apply RunL.pure
    · intro vs w hb hd; have d0 : isV _ (vs 0) w := hd 0 (by decide) (by kernel_rfl); unfold isV at d0; have d1 : isV _ (vs 1) w := hd 1 (by decide) (by kernel_rfl); unfold isV at d1; have d2 : isV _ (vs 2) w := hd 2 (by decide) (by kernel_rfl); unfold isV at d2; have d3 : isV _ (vs 3) w := hd 3 (by decide) (by kernel_rfl); unfold isV at d3; have d4 : isV _ (vs 4) w := hd 4 (by decide) (by kernel_rfl); unfold isV at d4; have d5 : isV _ (vs 5) w := hd 5 (by decide) (by kernel_rfl); unfold isV at d5; have d6 : isV _ (vs 6) w := hd 6 (by decide) (by kernel_rfl); unfold isV at d6; have d7 : isV _ (vs 7) w := hd 7 (by decide) (by kernel_rfl); unfold isV at d7; have d8 := hd 8 (by decide) (by kernel_rfl); simp only [TR, Nat.reduceAdd, Nat.reduceSub, List.getD_cons_zero, List.getD_cons_succ] at d8; have d9 : isV _ (vs 9) w := hd 9 (by decide) (by kernel_rfl); unfold isV at d9; have d10 : isV _ (vs 10) w := hd 10 (by decide) (by kernel_rfl); unfold isV at d10; clear hd; simp only [List.take, putL, Act.put, List.setIfInBounds_toArray, List.set_cons_zero, List.set_cons_succ]; unfold StepOK; go_simp; exact ⟨Below.refl _ _, isV_mk _ _⟩
    apply RunL.pure
    · intro vs w hb hd; have d0 : isV _ (vs 0) w := hd 0 (by decide) (by kernel_rfl); unfold isV at d0; have d1 : isV _ (vs 1) w := hd 1 (by decide) (by kernel_rfl); unfold isV at d1; have d2 : isV _ (vs 2) w := hd 2 (by decide) (by kernel_rfl); unfold isV at d2; have d3 : isV _ (vs 3) w := hd 3 (by decide) (by kernel_rfl); unfold isV at d3; have d4 : isV _ (vs 4) w := hd 4 (by decide) (by kernel_rfl); unfold isV at d4; have d5 : isV _ (vs 5) w := hd 5 (by decide) (by kernel_rfl); unfold isV at d5; have d6 : isV _ (vs 6) w := hd 6 (by decide) (by kernel_rfl); unfold isV at d6; have d7 : isV _ (vs 7) w := hd 7 (by decide) (by kernel_rfl); unfold isV at d7; have d8 := hd 8 (by decide) (by kernel_rfl); simp only [TR, Nat.reduceAdd, Nat.reduceSub, List.getD_cons_zero, List.getD_cons_succ] at d8; have d9 : isV _ (vs 9) w := hd 9 (by decide) (by kernel_rfl); unfold isV at d9; have d10 : isV _ (vs 10) w := hd 10 (by decide) (by kernel_rfl); unfold isV at d10; have d11 : isV _ (vs 11) w := hd 11 (by decide) (by kernel_rfl); unfold isV at d11; have d13 : isV _ (vs 13) w := hd 13 (by decide) (by kernel_rfl); unfold isV at d13; clear hd; simp only [List.take, putL, Act.put, List.setIfInBounds_toArray, List.set_cons_zero, List.set_cons_succ]; unfold StepOK; go_simp; exact ⟨Below.refl _ _, isV_mk _ _⟩
    apply RunL.pure
    · intro vs w hb hd; have d0 : isV _ (vs 0) w := hd 0 (by decide) (by kernel_rfl); unfold isV at d0; have d1 : isV _ (vs 1) w := hd 1 (by decide) (by kernel_rfl); unfold isV at d1; have d2 : isV _ (vs 2) w := hd 2 (by decide) (by kernel_rfl); unfold isV at d2; have d3 : isV _ (vs 3) w := hd 3 (by decide) (by kernel_rfl); unfold isV at d3; have d4 : isV _ (vs 4) w := hd 4 (by decide) (by kernel_rfl); unfold isV at d4; have d5 : isV _ (vs 5) w := hd 5 (by decide) (by kernel_rfl); unfold isV at d5; have d6 : isV _ (vs 6) w := hd 6 (by decide) (by kernel_rfl); unfold isV at d6; have d7 : isV _ (vs 7) w := hd 7 (by decide) (by kernel_rfl); unfold isV at d7; have d8 := hd 8 (by decide) (by kernel_rfl); simp only [TR, Nat.reduceAdd, Nat.reduceSub, List.getD_cons_zero, List.getD_cons_succ] at d8; have d9 : isV _ (vs 9) w := hd 9 (by decide) (by kernel_rfl); unfold isV at d9; have d10 : isV _ (vs 10) w := hd 10 (by decide) (by kernel_rfl); unfold isV at d10; have d11 : isV _ (vs 11) w := hd 11 (by decide) (by kernel_rfl); unfold isV at d11; have d12 : isV _ (vs 12) w := hd 12 (by decide) (by kernel_rfl); unfold isV at d12; have d13 : isV _ (vs 13) w := hd 13 (by decide) (by kernel_rfl); unfold isV at d13; have d14 : isV _ (vs 14) w := hd 14 (by decide) (by kernel_rfl); unfold isV at d14; clear hd; simp only [List.take, putL, Act.put, List.setIfInBounds_toArray, List.set_cons_zero, List.set_cons_succ]; unfold StepOK; go_simp; exact ⟨Below.refl _ _, isV_mk _ _⟩
    intro vs w1 hb hd
    have e0 : isV _ (vs 0) w1 := hd 0 (by decide)
    have e1 : isV _ (vs 1) w1 := hd 1 (by decide)
    have e2 : isV _ (vs 2) w1 := hd 2 (by decide)
    have e3 : isV _ (vs 3) w1 := hd 3 (by decide)
    have e4 : isV _ (vs 4) w1 := hd 4 (by decide)
    have e5 : isV _ (vs 5) w1 := hd 5 (by decide)
    have e6 : isV _ (vs 6) w1 := hd 6 (by decide)
    have e7 : isV _ (vs 7) w1 := hd 7 (by decide)
    have e8 := hd 8 (by decide); simp only [TR, Nat.reduceAdd, Nat.reduceSub, List.getD_cons_zero, List.getD_cons_succ] at e8
    have e9 : isV _ (vs 9) w1 := hd 9 (by decide)
    have e10 : isV _ (vs 10) w1 := hd 10 (by decide)
    have e11 : isV _ (vs 11) w1 := hd 11 (by decide)
    have e12 : isV _ (vs 12) w1 := hd 12 (by decide)
    have e13 : isV _ (vs 13) w1 := hd 13 (by decide)
    have e14 : isV _ (vs 14) w1 := hd 14 (by decide)
    have e15 : isV _ (vs 15) w1 := hd 15 (by decide)
    clear hd
    unfold isV at e0 e1 e2 e3 e4 e5 e6 e7 e9 e10 e11 e12 e13 e14 e15
    simp only [putL, Act.put, List.setIfInBounds_toArray, List.set_cons_zero, List.set_cons_succ, e0, e1, e2, e3, e4, e5, e6, e7, e9, e10, e11, e12, e13, e14, e15]
    clear e0 e1 e2 e3 e4 e5 e6 e7 e9 e10 e11 e12 e13 e14 e15
    --@end
    unfold isV at e8
    have h1 : RdIn base w1 g A n c at_ 0 := h.below hb
    have hgr := below_grownBy hb (some g)
    clear hb e8 h hs hc0 hc1 c2
    have f1 := h1.frozenAt 1
    have f2 := h1.frozenAt 2
    have g1 := h1.cellAt 1 (by omega)
    have g2 := h1.cellAt 2 (by omega)
    simp only [List.getElem?_cons_succ, List.getElem?_cons_zero] at g1 g2
    have s1 := h1.stored 1 (.int .i64 (q2 : Int))
    have s2 := h1.stored 2 (.int .i64 (q3 : Int))
    by_cases h3 : q3 = 0
    · subst h3
      obtain rfl : pr = (q1, q2, 0) := by rw [HP.out, if_neg (by simp)]
      clear s2
      go_wp2_with fail
      go_ret
      exact ⟨rfl, s1.1, grownBy_trans hgr s1.2⟩
    · obtain rfl : pr = (0, at_, q3) := by rw [HP.out, if_pos h3]
      have h30 : 0 < q3 := by omega
      clear s1
      go_wp2_with fail
      go_ret
      exact ⟨rfl, s2.1, grownBy_trans hgr s2.2⟩
  · rw [if_pos hb0]
    have hb1 : 0 < bad := by omega
    go_enter Try.func73, Try.ntmps73
    go_wp2_with fail
    go_ret
    exact ⟨rfl, h, World.grownBy.refl _ _⟩
/-- a text that is read -/
def rdS (l : List UInt8) (at_ bad : Nat) : List UInt8 × Nat × Nat :=
  if bad ≠ 0 then ([], at_, bad) else if (gb l at_ 40).2.2 = 3 then ([], at_, 10) else if (gb l at_ 40).2.2 ≠ 0 then ([], at_, (gb l at_ 40).2.2) else ((gb l at_ 40).1, (gb l at_ 40).2.1, 0)
/-- a row of bytes of the call's own -/
def isO (base : Nat) (l : List UInt8) : Value → World → Prop := fun v w => ∃ A n c, v = .slice A n c ∧ Own base 5 1 w A n c (bytesV l)
theorem isO_elim {base : Nat} {l : List UInt8} {v : Value} {w : World} (h : isO base l v w) : ∃ A n c, v = .slice A n c ∧ Own base 5 1 w A n c (bytesV l) := h
theorem isO_stable (base : Nat) (l : List UInt8) : Stable (isO base l) := fun _ _ _ hb ⟨A, n, c, e, h⟩ => ⟨A, n, c, e, h.below hb⟩
/-- three things that a read gives, bytes first -/
def isG (base : Nat) (l : List UInt8) (x y : Int) : Value → World → Prop := fun v w => ∃ A n c, v = .tuple #[.slice A n c, .int .i64 x, .int .i64 y] ∧ Own base 5 1 w A n c (bytesV l)
theorem isG_elim {base : Nat} {l : List UInt8} {x y : Int} {v : Value} {w : World} (h : isG base l x y v w) : ∃ A n c, v = .tuple #[.slice A n c, .int .i64 x, .int .i64 y] ∧ Own base 5 1 w A n c (bytesV l) := h
theorem isG_stable (base : Nat) (l : List UInt8) (x y : Int) : Stable (isG base l x y) := fun _ _ _ hb ⟨A, n, c, e, h⟩ => ⟨A, n, c, e, h.below hb⟩
theorem getBlob_such (base : Nat) (A : Option Addr) (n c : Nat) (l : List UInt8) (at_ : Int) (q1 : List UInt8) (q2 q3 : Nat) (w : World) (hs : Sl w 1 A n c (bytesV l)) (hl : n ≤ 1000000) (hg : gb l at_ 40 = (q1, q2, q3)) (hb : base ≤ w.heap.size) :
    Calls Try.prog 96 #[.slice A n c, .int .i64 at_, .int .i64 40] w fun e w' => ∃ v, e = .returned v ∧ Below w.heap.size w w' ∧ isG base q1 (q2 : Int) (q3 : Int) v w' :=
  (getBlob_any A n c l at_ 40 w hs (by omega) (by omega) (by omega)).mono fun e w' ⟨A', n', c', h1, h2, h3⟩ => ⟨_, h1, h3, A', n', c', by rw [hg], by rw [hg] at h2; exact World.ownsRow.mono h2 hb⟩

set_option maxRecDepth 100000 in
set_option maxHeartbeats 2000000 in
theorem text_any (base g : Nat) (A : Option Addr) (n c at_ bad : Nat) (l : List UInt8) (w : World) (h : RdIn base w g A n c at_ bad) (hs : Sl w 1 A n c (bytesV l)) (hn : n ≤ 1000000) :
    Calls Try.prog 74 #[.pointer (some ⟨g, 0, none⟩)] w fun x w' => x = .returned (.string (bstr (rdS l at_ bad).1)) ∧ RdIn base w' g A n c (rdS l at_ bad).2.1 (rdS l at_ bad).2.2 ∧ w.grownBy w' (some g) := by
  have c2 := h.cellAt 2 (by omega)
  simp only [List.getElem?_cons_succ, List.getElem?_cons_zero] at c2
  unfold rdS
  by_cases hb0 : bad = 0
  · subst hb0
    obtain ⟨⟨q1, q2, q3⟩, hg⟩ : ∃ q : List UInt8 × Nat × Nat, gb l at_ 40 = q := ⟨_, rfl⟩
    have HG := Lib.hid hg
    rw [if_neg (by simp), hg]
    simp only
    obtain ⟨pr, hp⟩ : ∃ p : List UInt8 × Nat × Nat, p = if q3 = 3 then ([], at_, 10) else if q3 ≠ 0 then ([], at_, q3) else (q1, q2, 0) := ⟨_, rfl⟩
    rw [← hp]
    have HP := Lib.hid hp
    clear hg hp
    have hc0 : ∀ wx, Below w.heap.size w wx → wx.cell? ⟨g, 0, none⟩ = some (.slice A n c) := fun wx hb => by
      have := (h.below hb).cellAt 0 (by omega)
      simpa using this
    have hc1 : ∀ wx, Below w.heap.size w wx → wx.cell? ⟨g, 1, none⟩ = some (.int .i64 (at_ : Int)) := fun wx hb => by
      have := (h.below hb).cellAt 1 (by omega)
      simpa using this
    go_enter Try.func74, Try.ntmps74
    go_wp2_with fail
    --@region 74 3 text3.spec
    refine wp_region_run (by kernel_rfl) (by kernel_rfl) ?_
    apply RunL.pure
    · intro vs w hb hd; clear hd; simp only [List.take, putL, Act.put, List.setIfInBounds_toArray, List.set_cons_zero, List.set_cons_succ]; unfold StepOK; go_simp; exact ⟨Below.refl _ _, isV_mk _ _⟩
    apply RunL.pure
    · intro vs w hb hd; have d0 : isV _ (vs 0) w := hd 0 (by decide) (by kernel_rfl); unfold isV at d0; clear hd; simp only [List.take, putL, Act.put, List.setIfInBounds_toArray, List.set_cons_zero, List.set_cons_succ]; unfold StepOK; go_simp; exact ⟨Below.refl _ _, isV_mk _ _⟩
    apply RunL.pure
    · intro vs w hb hd; have d1 : isV _ (vs 1) w := hd 1 (by decide) (by kernel_rfl); unfold isV at d1; clear hd; simp only [List.take, putL, Act.put, List.setIfInBounds_toArray, List.set_cons_zero, List.set_cons_succ]; unfold StepOK; go_simp; exact ⟨Below.refl _ _, isV_mk _ _⟩
    apply RunL.pure
    · intro vs w hb hd; have d2 : isV _ (vs 2) w := hd 2 (by decide) (by kernel_rfl); unfold isV at d2; clear hd; have hc := hc0 _ hb; simp only [List.take, putL, Act.put, List.setIfInBounds_toArray, List.set_cons_zero, List.set_cons_succ]; unfold StepOK; go_simp; exact ⟨Below.refl _ _, isV_mk _ _⟩
    apply RunL.pure
    · intro vs w hb hd; clear hd; simp only [List.take, putL, Act.put, List.setIfInBounds_toArray, List.set_cons_zero, List.set_cons_succ]; unfold StepOK; go_simp; exact ⟨Below.refl _ _, isV_mk _ _⟩
    apply RunL.pure
    · intro vs w hb hd; have d4 : isV _ (vs 4) w := hd 4 (by decide) (by kernel_rfl); unfold isV at d4; clear hd; simp only [List.take, putL, Act.put, List.setIfInBounds_toArray, List.set_cons_zero, List.set_cons_succ]; unfold StepOK; go_simp; exact ⟨Below.refl _ _, isV_mk _ _⟩
    apply RunL.pure
    · intro vs w hb hd; have d5 : isV _ (vs 5) w := hd 5 (by decide) (by kernel_rfl); unfold isV at d5; clear hd; simp only [List.take, putL, Act.put, List.setIfInBounds_toArray, List.set_cons_zero, List.set_cons_succ]; unfold StepOK; go_simp; exact ⟨Below.refl _ _, isV_mk _ _⟩
    apply RunL.pure
    · intro vs w hb hd; have d6 : isV _ (vs 6) w := hd 6 (by decide) (by kernel_rfl); unfold isV at d6; clear hd; have hc := hc1 _ hb; simp only [List.take, putL, Act.put, List.setIfInBounds_toArray, List.set_cons_zero, List.set_cons_succ]; unfold StepOK; go_simp; exact ⟨Below.refl _ _, isV_mk _ _⟩
    refine RunL.such (isG w.heap.size q1 (q2 : Int) (q3 : Int)) (isG_stable _ _ _ _) ?_ ?_
    · intro vs w hb hd; have d3 : isV _ (vs 3) w := hd 3 (by decide) (by kernel_rfl); unfold isV at d3; have d7 : isV _ (vs 7) w := hd 7 (by decide) (by kernel_rfl); unfold isV at d7; clear hd; simp only [List.take, putL, Act.put, List.setIfInBounds_toArray, List.set_cons_zero, List.set_cons_succ]; unfold StepOK; go_simp; exact ⟨Below.refl _ _, getBlob_such _ _ _ _ l _ q1 q2 q3 _ (hs.below hb) (by omega) HG.out hb.size⟩
    refine RunL.such (isG w.heap.size q1 (q2 : Int) (q3 : Int)) (isG_stable _ _ _ _) ?_ ?_
    · intro vs w hb hd; have d8 := hd 8 (by decide) (by kernel_rfl); simp only [TR, Nat.reduceAdd, Nat.reduceSub, List.getD_cons_zero, List.getD_cons_succ] at d8; clear hd; obtain ⟨Aq, nq, cq, eq, hq⟩ := isG_elim d8; simp only [List.take, putL, Act.put, List.setIfInBounds_toArray, List.set_cons_zero, List.set_cons_succ]; unfold StepOK; go_simp; exact ⟨Below.refl _ _, Aq, nq, cq, rfl, hq⟩
    refine RunL.such (isO w.heap.size q1) (isO_stable _ _) ?_ ?_
    · intro vs w hb hd; have d9 := hd 9 (by decide) (by kernel_rfl); simp only [TR, Nat.reduceAdd, Nat.reduceSub, List.getD_cons_zero, List.getD_cons_succ] at d9; clear hd; obtain ⟨Aq, nq, cq, eq, hq⟩ := isG_elim d9; simp only [List.take, putL, Act.put, List.setIfInBounds_toArray, List.set_cons_zero, List.set_cons_succ]; unfold StepOK; go_simp; exact ⟨Below.refl _ _, Aq, nq, cq, rfl, hq⟩
    refine RunL.such (isV (.int .i64 (q2 : Int))) (isV_stable _) ?_ ?_
    · intro vs w hb hd; have d9 := hd 9 (by decide) (by kernel_rfl); simp only [TR, Nat.reduceAdd, Nat.reduceSub, List.getD_cons_zero, List.getD_cons_succ] at d9; clear hd; obtain ⟨Aq, nq, cq, eq, hq⟩ := isG_elim d9; simp only [List.take, putL, Act.put, List.setIfInBounds_toArray, List.set_cons_zero, List.set_cons_succ]; unfold StepOK; go_simp; exact ⟨Below.refl _ _, isV_mk _ _⟩
    refine RunL.such (isV (.int .i64 (q3 : Int))) (isV_stable _) ?_ ?_
    · intro vs w hb hd; have d9 := hd 9 (by decide) (by kernel_rfl); simp only [TR, Nat.reduceAdd, Nat.reduceSub, List.getD_cons_zero, List.getD_cons_succ] at d9; clear hd; obtain ⟨Aq, nq, cq, eq, hq⟩ := isG_elim d9; simp only [List.take, putL, Act.put, List.setIfInBounds_toArray, List.set_cons_zero, List.set_cons_succ]; unfold StepOK; go_simp; exact ⟨Below.refl _ _, isV_mk _ _⟩
    refine RunL.such (isO w.heap.size q1) (isO_stable _ _) ?_ ?_
    · intro vs w hb hd; have d0 : isV _ (vs 0) w := hd 0 (by decide) (by kernel_rfl); unfold isV at d0; have d1 : isV _ (vs 1) w := hd 1 (by decide) (by kernel_rfl); unfold isV at d1; have d2 : isV _ (vs 2) w := hd 2 (by decide) (by kernel_rfl); unfold isV at d2; have d3 : isV _ (vs 3) w := hd 3 (by decide) (by kernel_rfl); unfold isV at d3; have d4 : isV _ (vs 4) w := hd 4 (by decide) (by kernel_rfl); unfold isV at d4; have d5 : isV _ (vs 5) w := hd 5 (by decide) (by kernel_rfl); unfold isV at d5; have d6 : isV _ (vs 6) w := hd 6 (by decide) (by kernel_rfl); unfold isV at d6; have d7 : isV _ (vs 7) w := hd 7 (by decide) (by kernel_rfl); unfold isV at d7; have d8 := hd 8 (by decide) (by kernel_rfl); simp only [TR, Nat.reduceAdd, Nat.reduceSub, List.getD_cons_zero, List.getD_cons_succ] at d8; have d9 := hd 9 (by decide) (by kernel_rfl); simp only [TR, Nat.reduceAdd, Nat.reduceSub, List.getD_cons_zero, List.getD_cons_succ] at d9; have d10 := hd 10 (by decide) (by kernel_rfl); simp only [TR, Nat.reduceAdd, Nat.reduceSub, List.getD_cons_zero, List.getD_cons_succ] at d10; clear hd; obtain ⟨Aq, nq, cq, eq, hq⟩ := isO_elim d10; simp only [List.take, putL, Act.put, List.setIfInBounds_toArray, List.set_cons_zero, List.set_cons_succ]; unfold StepOK; go_simp; exact ⟨Below.refl _ _, Aq, nq, cq, rfl, hq⟩
    refine RunL.such (isV (.int .i64 (q2 : Int))) (isV_stable _) ?_ ?_
    · intro vs w hb hd; have d0 : isV _ (vs 0) w := hd 0 (by decide) (by kernel_rfl); unfold isV at d0; have d1 : isV _ (vs 1) w := hd 1 (by decide) (by kernel_rfl); unfold isV at d1; have d2 : isV _ (vs 2) w := hd 2 (by decide) (by kernel_rfl); unfold isV at d2; have d3 : isV _ (vs 3) w := hd 3 (by decide) (by kernel_rfl); unfold isV at d3; have d4 : isV _ (vs 4) w := hd 4 (by decide) (by kernel_rfl); unfold isV at d4; have d5 : isV _ (vs 5) w := hd 5 (by decide) (by kernel_rfl); unfold isV at d5; have d6 : isV _ (vs 6) w := hd 6 (by decide) (by kernel_rfl); unfold isV at d6; have d7 : isV _ (vs 7) w := hd 7 (by decide) (by kernel_rfl); unfold isV at d7; have d8 := hd 8 (by decide) (by kernel_rfl); simp only [TR, Nat.reduceAdd, Nat.reduceSub, List.getD_cons_zero, List.getD_cons_succ] at d8; have d9 := hd 9 (by decide) (by kernel_rfl); simp only [TR, Nat.reduceAdd, Nat.reduceSub, List.getD_cons_zero, List.getD_cons_succ] at d9; have d10 := hd 10 (by decide) (by kernel_rfl); simp only [TR, Nat.reduceAdd, Nat.reduceSub, List.getD_cons_zero, List.getD_cons_succ] at d10; have d11 := hd 11 (by decide) (by kernel_rfl); simp only [TR, Nat.reduceAdd, Nat.reduceSub, List.getD_cons_zero, List.getD_cons_succ] at d11; have d13 := hd 13 (by decide) (by kernel_rfl); simp only [TR, Nat.reduceAdd, Nat.reduceSub, List.getD_cons_zero, List.getD_cons_succ] at d13; clear hd; unfold isV at d11; simp only [List.take, putL, Act.put, List.setIfInBounds_toArray, List.set_cons_zero, List.set_cons_succ]; unfold StepOK; go_simp; exact ⟨Below.refl _ _, isV_mk _ _⟩
    refine RunL.such (isV (.int .i64 (q3 : Int))) (isV_stable _) ?_ ?_
    · intro vs w hb hd; have d0 : isV _ (vs 0) w := hd 0 (by decide) (by kernel_rfl); unfold isV at d0; have d1 : isV _ (vs 1) w := hd 1 (by decide) (by kernel_rfl); unfold isV at d1; have d2 : isV _ (vs 2) w := hd 2 (by decide) (by kernel_rfl); unfold isV at d2; have d3 : isV _ (vs 3) w := hd 3 (by decide) (by kernel_rfl); unfold isV at d3; have d4 : isV _ (vs 4) w := hd 4 (by decide) (by kernel_rfl); unfold isV at d4; have d5 : isV _ (vs 5) w := hd 5 (by decide) (by kernel_rfl); unfold isV at d5; have d6 : isV _ (vs 6) w := hd 6 (by decide) (by kernel_rfl); unfold isV at d6; have d7 : isV _ (vs 7) w := hd 7 (by decide) (by kernel_rfl); unfold isV at d7; have d8 := hd 8 (by decide) (by kernel_rfl); simp only [TR, Nat.reduceAdd, Nat.reduceSub, List.getD_cons_zero, List.getD_cons_succ] at d8; have d9 := hd 9 (by decide) (by kernel_rfl); simp only [TR, Nat.reduceAdd, Nat.reduceSub, List.getD_cons_zero, List.getD_cons_succ] at d9; have d10 := hd 10 (by decide) (by kernel_rfl); simp only [TR, Nat.reduceAdd, Nat.reduceSub, List.getD_cons_zero, List.getD_cons_succ] at d10; have d11 := hd 11 (by decide) (by kernel_rfl); simp only [TR, Nat.reduceAdd, Nat.reduceSub, List.getD_cons_zero, List.getD_cons_succ] at d11; have d12 := hd 12 (by decide) (by kernel_rfl); simp only [TR, Nat.reduceAdd, Nat.reduceSub, List.getD_cons_zero, List.getD_cons_succ] at d12; have d13 := hd 13 (by decide) (by kernel_rfl); simp only [TR, Nat.reduceAdd, Nat.reduceSub, List.getD_cons_zero, List.getD_cons_succ] at d13; have d14 := hd 14 (by decide) (by kernel_rfl); simp only [TR, Nat.reduceAdd, Nat.reduceSub, List.getD_cons_zero, List.getD_cons_succ] at d14; clear hd; unfold isV at d12; simp only [List.take, putL, Act.put, List.setIfInBounds_toArray, List.set_cons_zero, List.set_cons_succ]; unfold StepOK; go_simp; exact ⟨Below.refl _ _, isV_mk _ _⟩
    intro vs w1 hb hd
    have e0 : isV _ (vs 0) w1 := hd 0 (by decide)
    have e1 : isV _ (vs 1) w1 := hd 1 (by decide)
    have e2 : isV _ (vs 2) w1 := hd 2 (by decide)
    have e3 : isV _ (vs 3) w1 := hd 3 (by decide)
    have e4 : isV _ (vs 4) w1 := hd 4 (by decide)
    have e5 : isV _ (vs 5) w1 := hd 5 (by decide)
    have e6 : isV _ (vs 6) w1 := hd 6 (by decide)
    have e7 : isV _ (vs 7) w1 := hd 7 (by decide)
    have e8 := hd 8 (by decide); simp only [TR, Nat.reduceAdd, Nat.reduceSub, List.getD_cons_zero, List.getD_cons_succ] at e8
    have e9 := hd 9 (by decide); simp only [TR, Nat.reduceAdd, Nat.reduceSub, List.getD_cons_zero, List.getD_cons_succ] at e9
    have e10 := hd 10 (by decide); simp only [TR, Nat.reduceAdd, Nat.reduceSub, List.getD_cons_zero, List.getD_cons_succ] at e10
    have e11 := hd 11 (by decide); simp only [TR, Nat.reduceAdd, Nat.reduceSub, List.getD_cons_zero, List.getD_cons_succ] at e11
    have e12 := hd 12 (by decide); simp only [TR, Nat.reduceAdd, Nat.reduceSub, List.getD_cons_zero, List.getD_cons_succ] at e12
    have e13 := hd 13 (by decide); simp only [TR, Nat.reduceAdd, Nat.reduceSub, List.getD_cons_zero, List.getD_cons_succ] at e13
    have e14 := hd 14 (by decide); simp only [TR, Nat.reduceAdd, Nat.reduceSub, List.getD_cons_zero, List.getD_cons_succ] at e14
    have e15 := hd 15 (by decide); simp only [TR, Nat.reduceAdd, Nat.reduceSub, List.getD_cons_zero, List.getD_cons_succ] at e15
    clear hd
    unfold isV at e0 e1 e2 e3 e4 e5 e6 e7
    simp only [putL, Act.put, List.setIfInBounds_toArray, List.set_cons_zero, List.set_cons_succ, e0, e1, e2, e3, e4, e5, e6, e7]
    clear e0 e1 e2 e3 e4 e5 e6 e7
    --@end
    unfold isV at e11 e12 e14 e15
    simp only [e11, e12, e14, e15]
    obtain ⟨Aq, nq, cq, eq, hq⟩ := isO_elim e13
    rw [eq]
    clear e11 e12 e13 e14 e15 e8 e9 e10 eq
    have h1 : RdIn base w1 g A n c at_ 0 := h.below hb
    have hgr := below_grownBy hb (some g)
    have hgl := (World.ownsRow.lt h g rfl).2
    clear hb h hs hc0 hc1 c2
    have f1 := h1.frozenAt 1
    have f2 := h1.frozenAt 2
    have g1 := h1.cellAt 1 (by omega)
    have g2 := h1.cellAt 2 (by omega)
    simp only [List.getElem?_cons_succ, List.getElem?_cons_zero] at g1 g2
    have s1 := h1.stored 1 (.int .i64 (q2 : Int))
    have s2 := h1.stored 2 (.int .i64 (q3 : Int))
    have s3 := h1.stored 2 (.int .i64 10)
    by_cases h5 : q3 = 3
    · subst h5
      obtain rfl : pr = ([], at_, 10) := by rw [HP.out, if_pos rfl]
      clear s1 s2
      go_wp2_with fail
      go_ret
      exact ⟨rfl, s3.1, grownBy_trans hgr s3.2⟩
    · by_cases h3 : q3 = 0
      · subst h3
        obtain rfl : pr = (q1, q2, 0) := by rw [HP.out, if_neg (by simp), if_neg (by simp)]
        have hq2 : Own w.heap.size 5 1 (w1.setCell ⟨g, 1, none⟩ (.int .i64 (q2 : Int))) Aq nq cq (bytesV q1) := by
          refine World.ownsRow.kept hq s1.2 ?_
          cases Aq with
          | none => exact .inl rfl
          | some ad =>
            have := (World.ownsRow.lt hq ad.block rfl).1
            exact .inr (by simp [Value.ownBlock]; omega)
        clear s2 s3 hq
        have hcv := run_str hq2.sl
        go_wp2_with fail
        go_ret
        exact ⟨rfl, s1.1, grownBy_trans hgr s1.2⟩
      · obtain rfl : pr = ([], at_, q3) := by rw [HP.out, if_neg h5, if_pos h3]
        have h30 : 0 < q3 := by omega
        clear s1 s3
        go_wp2_with fail
        go_ret
        exact ⟨rfl, s2.1, grownBy_trans hgr s2.2⟩
  · rw [if_pos hb0]
    have hb1 : 0 < bad := by omega
    go_enter Try.func74, Try.ntmps74
    go_wp2_with fail
    go_ret
    exact ⟨rfl, h, World.grownBy.refl _ _⟩
end Go.Proofs.Ytphjmbhlokkdiaa
