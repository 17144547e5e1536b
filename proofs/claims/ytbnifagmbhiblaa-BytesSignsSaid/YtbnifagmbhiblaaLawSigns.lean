import Derived.Test.YtbnifagmbhiblaaLawGrow
namespace Go.Proofs.Ytbnifagmbhiblaa
open Go.RowKit
set_option linter.unusedSimpArgs false
set_option linter.unusedVariables false

theorem wf_i64 {a : Int} (h : (Lit.int .i64 a).wf = true) : -9223372036854775808 ≤ a ∧ a ≤ 9223372036854775807 := by
  simp [Lit.wf, IntKind.min, IntKind.max, IntKind.signed, IntKind.bits] at h; omega

set_option maxHeartbeats 400000 in
theorem near_any (i : Int) (w : World) (h1 : -9223372036854775808 ≤ i) (h2 : i ≤ 9223372036854775807) :
    Calls Try.prog 20 #[.int .i64 i] w fun e w' => e = .returned (.int .u64 (i.natAbs : Int)) ∧ w = w' := by
  by_cases h : i < 0
  all_goals
    go_enter Try.func20, Try.ntmps20
    go_wp2
    go_ret
    exact ⟨ret_int (by omega), rfl⟩

set_option maxRecDepth 100000 in
set_option maxHeartbeats 1000000 in
theorem walk_signs (n : Nat) (i k : Int) (hn : n < 18446744073709551616) (hi1 : -9223372036854775808 ≤ i) (hi2 : i ≤ 9223372036854775807) (hk1 : -9223372036854775808 ≤ k) (hk2 : k ≤ 9223372036854775807) (w : World) :
    Calls Try.prog 3 #[.int .u64 (n : Int), .int .i64 i, .int .i64 k] w fun e w' => e = .returned (.bool true) ∧ Below w.heap.size w w' := by
  obtain ⟨x, hx⟩ : ∃ x, x = unzz n := ⟨_, rfl⟩
  have hx1 : -9223372036854775808 ≤ x := by rw [hx]; exact (unzz_range n hn).1
  have hx2 : x ≤ 9223372036854775807 := by rw [hx]; exact (unzz_range n hn).2
  have hneg : decide (x < 0) = ((n : Int) % 2 == 1) := by
    by_cases h : x < 0
    · have h2 := (unzz_neg n).1 (by rw [← hx]; exact h)
      have h3 : ((n : Int) % 2 == 1) = true := by simp; omega
      rw [h3]; simp [h]
    · have h2 : ¬ n % 2 = 1 := fun e => h (by rw [hx]; exact (unzz_neg n).2 e)
      have h3 : ((n : Int) % 2 == 1) = false := by simp; omega
      rw [h3]; simp [h]
  obtain ⟨sg, hsg1, hsg2, hss⟩ : ∃ b, decide (x < 0) = b ∧ ((n : Int).tmod 2 == 1) = b ∧ (b == b) = true := ⟨_, rfl, by rw [hneg, Int.tmod_eq_emod_of_nonneg (by omega)], by simp⟩
  clear hneg
  have hzx : zz x = n := by rw [hx]; exact zz_unzz n
  have Hg := Lib.hid (gi_uv0 n hn)
  rw [← hx] at Hg
  have Hzx := Lib.hid hzx
  clear hx hzx
  go_enter Try.func3, Try.ntmps3
  go_wp2_with fail
  refine (uint_nil n _ _ hn rfl).mono ?_; rintro e w1 ⟨v1, rfl, hb1, A1, n1, c1, rfl, hs1⟩
  have hl1 := Lib.hid hs1.blen
  go_wp2_with fail
  refine (getInt_any _ _ _ (uv n) _ _ hs1 (by have := hl1.out; have := uv_len_ten n hn; omega)).mono ?_; rintro e w' ⟨rfl, rfl⟩
  rw [Hg.out, hl1.out]; dsimp only
  go_wp2_with fail
  refine (int_nil x _ hx1 hx2).mono ?_; rintro e w2 ⟨v2, rfl, hn2, A2, n2, c2, rfl, hs2⟩
  have hb2 := hb1.trans (hn2.mono hb1.size)
  rw [Hzx.out] at hs2
  have h12 : n2 = n1 := by rw [← hs2.blen, hl1.out]
  subst h12
  clear hs1 hn2 hb1
  go_wp2_with fail
  --@region 3 3 signs3.spec
  refine wp_region_run (by kernel_rfl) (by kernel_rfl) ?_
  apply RunL.pure
  · intro vs w hb hd; clear hd; simp only [List.take, putL, Act.put, List.setIfInBounds_toArray, List.set_cons_zero, List.set_cons_succ]; unfold StepOK; go_simp; exact ⟨Below.refl _ _, isV_mk _ _⟩
  apply RunL.pure
  · intro vs w hb hd; have d0 : isV _ (vs 0) w := hd 0 (by decide) (by kernel_rfl); unfold isV at d0; clear hd; simp only [List.take, putL, Act.put, List.setIfInBounds_toArray, List.set_cons_zero, List.set_cons_succ]; unfold StepOK; go_simp; exact ⟨Below.refl _ _, isV_mk _ _⟩
  apply RunL.pure
  · intro vs w hb hd; have d1 : isV _ (vs 1) w := hd 1 (by decide) (by kernel_rfl); unfold isV at d1; clear hd; simp only [List.take, putL, Act.put, List.setIfInBounds_toArray, List.set_cons_zero, List.set_cons_succ]; unfold StepOK; go_simp; exact ⟨Below.refl _ _, isV_mk _ _⟩
  apply RunL.pure
  · intro vs w hb hd; have d2 : isV _ (vs 2) w := hd 2 (by decide) (by kernel_rfl); unfold isV at d2; clear hd; simp only [List.take, putL, Act.put, List.setIfInBounds_toArray, List.set_cons_zero, List.set_cons_succ]; unfold StepOK; go_simp; exact ⟨Below.refl _ _, isV_mk _ _⟩
  apply RunL.pure
  · intro vs w hb hd; have d2 : isV _ (vs 2) w := hd 2 (by decide) (by kernel_rfl); unfold isV at d2; clear hd; simp only [List.take, putL, Act.put, List.setIfInBounds_toArray, List.set_cons_zero, List.set_cons_succ]; unfold StepOK; go_simp; exact ⟨Below.refl _ _, isV_mk _ _⟩
  apply RunL.pure
  · intro vs w hb hd; have d2 : isV _ (vs 2) w := hd 2 (by decide) (by kernel_rfl); unfold isV at d2; have d4 : isV _ (vs 4) w := hd 4 (by decide) (by kernel_rfl); unfold isV at d4; clear hd; simp only [List.take, putL, Act.put, List.setIfInBounds_toArray, List.set_cons_zero, List.set_cons_succ]; unfold StepOK; go_simp; exact ⟨Below.refl _ _, isV_mk _ _⟩
  apply RunL.pure
  · intro vs w hb hd; have d2 : isV _ (vs 2) w := hd 2 (by decide) (by kernel_rfl); unfold isV at d2; have d3 : isV _ (vs 3) w := hd 3 (by decide) (by kernel_rfl); unfold isV at d3; have d5 : isV _ (vs 5) w := hd 5 (by decide) (by kernel_rfl); unfold isV at d5; clear hd; simp only [List.take, putL, Act.put, List.setIfInBounds_toArray, List.set_cons_zero, List.set_cons_succ]; unfold StepOK; go_simp; exact ⟨Below.refl _ _, isV_mk _ _⟩
  apply RunL.pure
  · intro vs w hb hd; have d2 : isV _ (vs 2) w := hd 2 (by decide) (by kernel_rfl); unfold isV at d2; have d6 : isV _ (vs 6) w := hd 6 (by decide) (by kernel_rfl); unfold isV at d6; clear hd; simp only [List.take, putL, Act.put, List.setIfInBounds_toArray, List.set_cons_zero, List.set_cons_succ]; unfold StepOK; go_simp; exact ⟨Below.refl _ _, isV_mk _ _⟩
  apply RunL.pure
  · intro vs w hb hd; have d2 : isV _ (vs 2) w := hd 2 (by decide) (by kernel_rfl); unfold isV at d2; have d7 : isV _ (vs 7) w := hd 7 (by decide) (by kernel_rfl); unfold isV at d7; clear hd; simp only [List.take, putL, Act.put, List.setIfInBounds_toArray, List.set_cons_zero, List.set_cons_succ]; unfold StepOK; go_simp; exact ⟨Below.refl _ _, isV_mk _ _⟩
  apply RunL.pure
  · intro vs w hb hd; have d8 : isV _ (vs 8) w := hd 8 (by decide) (by kernel_rfl); unfold isV at d8; clear hd; simp only [List.take, putL, Act.put, List.setIfInBounds_toArray, List.set_cons_zero, List.set_cons_succ]; unfold StepOK; go_simp; exact ⟨Below.refl _ _, isV_mk _ _⟩
  apply RunL.pure
  · intro vs w hb hd; have d8 : isV _ (vs 8) w := hd 8 (by decide) (by kernel_rfl); unfold isV at d8; have d9 : isV _ (vs 9) w := hd 9 (by decide) (by kernel_rfl); unfold isV at d9; clear hd; have hcv := run_str (hs2.below hb); simp only [List.take, putL, Act.put, List.setIfInBounds_toArray, List.set_cons_zero, List.set_cons_succ]; unfold StepOK; go_simp; exact ⟨Below.refl _ _, isV_mk _ _⟩
  apply RunL.pure
  · intro vs w hb hd; have d8 : isV _ (vs 8) w := hd 8 (by decide) (by kernel_rfl); unfold isV at d8; clear hd; simp only [List.take, putL, Act.put, List.setIfInBounds_toArray, List.set_cons_zero, List.set_cons_succ]; unfold StepOK; go_simp; exact ⟨Below.refl _ _, isV_mk _ _⟩
  refine RunL.such (isB (uv n)) (isB_stable _) ?_ ?_
  · intro vs w hb hd; have d8 : isV _ (vs 8) w := hd 8 (by decide) (by kernel_rfl); unfold isV at d8; have d11 : isV _ (vs 11) w := hd 11 (by decide) (by kernel_rfl); unfold isV at d11; clear hd; simp only [List.take, putL, Act.put, List.setIfInBounds_toArray, List.set_cons_zero, List.set_cons_succ]; unfold StepOK; go_simp; exact ⟨Below.refl _ _, uint_nil n _ _ hn rfl⟩
  apply RunL.pure
  · intro vs w hb hd; have d8 : isV _ (vs 8) w := hd 8 (by decide) (by kernel_rfl); unfold isV at d8; have d12 := hd 12 (by decide) (by kernel_rfl); simp only [TR, Nat.reduceAdd, Nat.reduceSub, List.getD_cons_zero, List.getD_cons_succ] at d12; clear hd; obtain ⟨Aq, nq, cq, eq, hq⟩ := isB_elim d12; have hcv := run_str hq; clear hq d12; simp only [List.take, putL, Act.put, List.setIfInBounds_toArray, List.set_cons_zero, List.set_cons_succ]; unfold StepOK; go_simp; exact ⟨Below.refl _ _, isV_mk _ _⟩
  apply RunL.pure
  · intro vs w hb hd; have d8 : isV _ (vs 8) w := hd 8 (by decide) (by kernel_rfl); unfold isV at d8; have d10 : isV _ (vs 10) w := hd 10 (by decide) (by kernel_rfl); unfold isV at d10; have d13 : isV _ (vs 13) w := hd 13 (by decide) (by kernel_rfl); unfold isV at d13; clear hd; simp only [List.take, putL, Act.put, List.setIfInBounds_toArray, List.set_cons_zero, List.set_cons_succ]; unfold StepOK; go_simp; exact ⟨Below.refl _ _, isV_mk _ _⟩
  apply RunL.pure
  · intro vs w hb hd; have d8 : isV _ (vs 8) w := hd 8 (by decide) (by kernel_rfl); unfold isV at d8; have d14 : isV _ (vs 14) w := hd 14 (by decide) (by kernel_rfl); unfold isV at d14; clear hd; simp only [List.take, putL, Act.put, List.setIfInBounds_toArray, List.set_cons_zero, List.set_cons_succ]; unfold StepOK; go_simp; exact ⟨Below.refl _ _, isV_mk _ _⟩
  apply RunL.pure
  · intro vs w hb hd; have d12 := hd 12 (by decide) (by kernel_rfl); simp only [TR, Nat.reduceAdd, Nat.reduceSub, List.getD_cons_zero, List.getD_cons_succ] at d12; have d15 : isV _ (vs 15) w := hd 15 (by decide) (by kernel_rfl); unfold isV at d15; clear hd; simp only [List.take, putL, Act.put, List.setIfInBounds_toArray, List.set_cons_zero, List.set_cons_succ]; unfold StepOK; go_simp; exact ⟨Below.refl _ _, isV_mk _ _⟩
  apply RunL.pure
  · intro vs w hb hd; have d16 : isV _ (vs 16) w := hd 16 (by decide) (by kernel_rfl); unfold isV at d16; clear hd; simp only [List.take, putL, Act.put, List.setIfInBounds_toArray, List.set_cons_zero, List.set_cons_succ]; unfold StepOK; go_simp; exact ⟨Below.refl _ _, isV_mk _ _⟩
  apply RunL.pure
  · intro vs w hb hd; have d16 : isV _ (vs 16) w := hd 16 (by decide) (by kernel_rfl); unfold isV at d16; have d17 : isV _ (vs 17) w := hd 17 (by decide) (by kernel_rfl); unfold isV at d17; clear hd; simp only [List.take, putL, Act.put, List.setIfInBounds_toArray, List.set_cons_zero, List.set_cons_succ]; unfold StepOK; go_simp; exact ⟨Below.refl _ _, isV_mk _ _⟩
  apply RunL.pure
  · intro vs w hb hd; have d16 : isV _ (vs 16) w := hd 16 (by decide) (by kernel_rfl); unfold isV at d16; clear hd; simp only [List.take, putL, Act.put, List.setIfInBounds_toArray, List.set_cons_zero, List.set_cons_succ]; unfold StepOK; go_simp; exact ⟨Below.refl _ _, isV_mk _ _⟩
  apply RunL.pure
  · intro vs w hb hd; have d16 : isV _ (vs 16) w := hd 16 (by decide) (by kernel_rfl); unfold isV at d16; have d19 : isV _ (vs 19) w := hd 19 (by decide) (by kernel_rfl); unfold isV at d19; clear hd; simp only [List.take, putL, Act.put, List.setIfInBounds_toArray, List.set_cons_zero, List.set_cons_succ]; unfold StepOK; go_simp; exact ⟨Below.refl _ _, isV_mk _ _⟩
  apply RunL.pure
  · intro vs w hb hd; have d16 : isV _ (vs 16) w := hd 16 (by decide) (by kernel_rfl); unfold isV at d16; have d20 : isV _ (vs 20) w := hd 20 (by decide) (by kernel_rfl); unfold isV at d20; clear hd; simp only [List.take, putL, Act.put, List.setIfInBounds_toArray, List.set_cons_zero, List.set_cons_succ]; unfold StepOK; go_simp; exact ⟨Below.refl _ _, isV_mk _ _⟩
  apply RunL.pure
  · intro vs w hb hd; have d16 : isV _ (vs 16) w := hd 16 (by decide) (by kernel_rfl); unfold isV at d16; have d18 : isV _ (vs 18) w := hd 18 (by decide) (by kernel_rfl); unfold isV at d18; have d21 : isV _ (vs 21) w := hd 21 (by decide) (by kernel_rfl); unfold isV at d21; clear hd; simp only [List.take, putL, Act.put, List.setIfInBounds_toArray, List.set_cons_zero, List.set_cons_succ]; unfold StepOK; go_simp; exact ⟨Below.refl _ _, isV_mk _ _⟩
  apply RunL.pure
  · intro vs w hb hd; have d16 : isV _ (vs 16) w := hd 16 (by decide) (by kernel_rfl); unfold isV at d16; have d22 : isV _ (vs 22) w := hd 22 (by decide) (by kernel_rfl); unfold isV at d22; clear hd; simp only [List.take, putL, Act.put, List.setIfInBounds_toArray, List.set_cons_zero, List.set_cons_succ]; unfold StepOK; go_simp; exact ⟨Below.refl _ _, isV_mk _ _⟩
  intro vs w1 hb hd
  have e0 : isV _ (vs 0) w1 := hd 0 (by decide)
  have e1 : isV _ (vs 1) w1 := hd 1 (by decide)
  have e2 : isV _ (vs 2) w1 := hd 2 (by decide)
  have e3 : isV _ (vs 3) w1 := hd 3 (by decide)
  have e4 : isV _ (vs 4) w1 := hd 4 (by decide)
  have e5 : isV _ (vs 5) w1 := hd 5 (by decide)
  have e6 : isV _ (vs 6) w1 := hd 6 (by decide)
  have e7 : isV _ (vs 7) w1 := hd 7 (by decide)
  have e8 : isV _ (vs 8) w1 := hd 8 (by decide)
  have e9 : isV _ (vs 9) w1 := hd 9 (by decide)
  have e10 : isV _ (vs 10) w1 := hd 10 (by decide)
  have e11 : isV _ (vs 11) w1 := hd 11 (by decide)
  have e12 := hd 12 (by decide); simp only [TR, Nat.reduceAdd, Nat.reduceSub, List.getD_cons_zero, List.getD_cons_succ] at e12
  have e13 : isV _ (vs 13) w1 := hd 13 (by decide)
  have e14 : isV _ (vs 14) w1 := hd 14 (by decide)
  have e15 : isV _ (vs 15) w1 := hd 15 (by decide)
  have e16 : isV _ (vs 16) w1 := hd 16 (by decide)
  have e17 : isV _ (vs 17) w1 := hd 17 (by decide)
  have e18 : isV _ (vs 18) w1 := hd 18 (by decide)
  have e19 : isV _ (vs 19) w1 := hd 19 (by decide)
  have e20 : isV _ (vs 20) w1 := hd 20 (by decide)
  have e21 : isV _ (vs 21) w1 := hd 21 (by decide)
  have e22 : isV _ (vs 22) w1 := hd 22 (by decide)
  have e23 : isV _ (vs 23) w1 := hd 23 (by decide)
  clear hd
  unfold isV at e0 e1 e2 e3 e4 e5 e6 e7 e8 e9 e10 e11 e13 e14 e15 e16 e17 e18 e19 e20 e21 e22 e23
  simp only [putL, Act.put, List.setIfInBounds_toArray, List.set_cons_zero, List.set_cons_succ, e0, e1, e2, e3, e4, e5, e6, e7, e8, e9, e10, e11, e13, e14, e15, e16, e17, e18, e19, e20, e21, e22, e23]
  clear e0 e1 e2 e3 e4 e5 e6 e7 e8 e9 e10 e11 e13 e14 e15 e16 e17 e18 e19 e20 e21 e22 e23
  --@end
  have hb3 := hb2.trans (hb.mono hb2.size)
  clear hb hb2 hs2 e12 hsg1 hsg2 hss
  have hsame : (uv (zz i) == uv (zz k)) = (i == k) := by
    by_cases h : i = k
    · subst h; simp
    · have h1 : ¬ uv (zz i) = uv (zz k) := fun e => h (zz_inj.1 (uv_inj.1 e))
      have h2 : (i == k) = false := by simp [h]
      rw [h2]; simp [h1]
  have Hsame := Lib.hid hsame
  clear hsame
  go_wp2_with fail
  refine (int_nil i _ hi1 hi2).mono ?_; rintro e w4 ⟨v4, rfl, hn4, A4, n4, c4, rfl, hs4⟩
  have hb4 := hb3.trans (hn4.mono hb3.size)
  go_wp2_with fail
  refine (int_nil k _ hk1 hk2).mono ?_; rintro e w5 ⟨v5, rfl, hn5, A5, n5, c5, rfl, hs5⟩
  have hb5 := hb4.trans (hn5.mono hb4.size)
  have hc4 := run_str (hs4.below hn5)
  have hc5 := run_str hs5
  have hl4 := Lib.hid hs4.blen
  have hle : i.natAbs < k.natAbs → n4 ≤ n5 := fun h => by
    rw [← hs4.blen, ← hs5.blen]; exact uv_len_mono (zz_near h)
  have Hle := Lib.hid hle
  have hsame := Hsame.out
  clear hs4 hn5 hb4 hb3 hs5 hn4 hle
  have hpos : ∀ q, i ≤ 0 ∨ (0 < i ∧ (uv (zz (-i))).length = q → q ≤ n4) := fun q => by
    by_cases h : i ≤ 0
    · exact .inl h
    · right
      rintro ⟨h1, h2⟩
      rw [← hl4.out, ← h2]
      exact uv_len_mono (by unfold zz; rw [if_pos (by omega), if_neg (by omega)]; omega)
  have Hpos := Lib.hid hpos
  clear hpos
  by_cases hnear : i.natAbs < k.natAbs
  · have hle := Hle.out hnear
    have hnear' : ((i.natAbs : Nat) : Int) < ((k.natAbs : Nat) : Int) := by omega
    by_cases hi : i ≤ 0
    · go_wp2_with (first | (go_at_call 20; refine (near_any _ _ (by omega) (by omega)).mono ?_; rintro e w' ⟨rfl, rfl⟩) | (go_at_call 21; refine (awake_any _).mono ?_; rintro e w6 ⟨rfl, hn6⟩))
      go_ret
      exact ⟨rfl, hb5.trans (hn6.mono hb5.size)⟩
    · go_wp2_with (go_at_call 20; refine (near_any _ _ (by omega) (by omega)).mono ?_; rintro e w' ⟨rfl, rfl⟩)
      refine (int_nil (-i) _ (by omega) (by omega)).mono ?_; rintro e w7 ⟨v7, rfl, hn7, A7, n7, c7, rfl, hs7⟩
      have hle7 := (Hpos.out n7).resolve_left (by omega) ⟨by omega, hs7.blen⟩
      have hb7 := hb5.trans (hn7.mono hb5.size)
      clear hs7 hn7
      go_wp2_with (go_at_call 21; refine (awake_any _).mono ?_; rintro e w6 ⟨rfl, hn6⟩)
      go_ret
      exact ⟨rfl, hb7.trans (hn6.mono hb7.size)⟩
  · have hnear' : ¬ ((i.natAbs : Nat) : Int) < ((k.natAbs : Nat) : Int) := by omega
    by_cases hi : i ≤ 0
    · go_wp2_with (first | (go_at_call 20; refine (near_any _ _ (by omega) (by omega)).mono ?_; rintro e w' ⟨rfl, rfl⟩) | (go_at_call 21; refine (awake_any _).mono ?_; rintro e w6 ⟨rfl, hn6⟩))
      go_ret
      exact ⟨rfl, hb5.trans (hn6.mono hb5.size)⟩
    · go_wp2_with (go_at_call 20; refine (near_any _ _ (by omega) (by omega)).mono ?_; rintro e w' ⟨rfl, rfl⟩)
      refine (int_nil (-i) _ (by omega) (by omega)).mono ?_; rintro e w7 ⟨v7, rfl, hn7, A7, n7, c7, rfl, hs7⟩
      have hle7 := (Hpos.out n7).resolve_left (by omega) ⟨by omega, hs7.blen⟩
      have hb7 := hb5.trans (hn7.mono hb5.size)
      clear hs7 hn7
      go_wp2_with (go_at_call 21; refine (awake_any _).mono ?_; rintro e w6 ⟨rfl, hn6⟩)
      go_ret
      exact ⟨rfl, hb7.trans (hn6.mono hb7.size)⟩

theorem walk_bytesSigns (a0 a1 a2 : Int) (w0 : (Lit.int .u64 a0).wf = true) (w1 : (Lit.int .i64 a1).wf = true) (w2 : (Lit.int .i64 a2).wf = true) (w : World) :
    Calls Try.prog 3 #[.int .u64 a0, .int .i64 a1, .int .i64 a2] w fun e w' => e = .returned (.bool true) ∧ Below w.heap.size w w' := by
  obtain ⟨n, rfl⟩ := Int.eq_ofNat_of_zero_le (wf_u64 w0).1
  have hn : n < 18446744073709551616 := by have := (wf_u64 w0).2; omega
  have h1 := wf_i64 w1
  have h2 := wf_i64 w2
  exact walk_signs n a1 a2 hn h1.1 h1.2 h2.1 h2.2 w

end Go.Proofs.Ytbnifagmbhiblaa
