import Derived.Test.YtbnifagmbhiblaaRefF
namespace Go.Proofs.Ytbnifagmbhiblaa
open Go.RowKit
set_option linter.unusedSimpArgs false
set_option linter.unusedVariables false

theorem crc_such (A : Option Addr) (n c : Nat) (l : List UInt8) (K : Int) (w : World) (hs : Sl w 1 A n c (bytesV l)) (hn : n ≤ 1000000) (hK : ((crc l).toNat : Int) = K) :
    Calls Try.prog 23 #[.slice A n c] w fun e w' => ∃ v, e = .returned v ∧ Below w.heap.size w w' ∧ isV (.int .u32 K) v w' :=
  (crc_any A n c l w hs (by omega)).mono fun e w' ⟨h1, h2⟩ => ⟨_, h1, h2 ▸ Below.refl _ _, by rw [hK]; exact isV_mk _ _⟩
theorem refCrc_such (A : Option Addr) (n c : Nat) (l : List UInt8) (K : Int) (w : World) (hs : Sl w 1 A n c (bytesV l)) (hn : n ≤ 1000000) (hK : ((crc l).toNat : Int) = K) :
    Calls Try.prog 36 #[.slice A n c] w fun e w' => ∃ v, e = .returned v ∧ Below w.heap.size w w' ∧ isV (.int .u32 K) v w' :=
  (refCrc_any A n c l w hs (by omega)).mono fun e w' ⟨h1, h2⟩ => ⟨_, h1, h2, by rw [hK]; exact isV_mk _ _⟩
theorem seal_such (A : Option Addr) (n c : Nat) (l sl : List UInt8) (w : World) (hs : Sl w 1 A n c (bytesV l)) (hn : n ≤ 1000000) (hl : l ++ crc4 (crc l) = sl) :
    Calls Try.prog 25 #[.slice A n c] w fun e w' => ∃ v, e = .returned v ∧ Below w.heap.size w w' ∧ isB sl v w' :=
  (seal_any A n c l w hs (by omega)).mono fun e w' ⟨h1, h2, h3⟩ => ⟨_, h1, h3, _, _, _, rfl, by rw [← hl]; exact ownsRow_sl h2⟩
theorem refSeal_such (A : Option Addr) (n c : Nat) (l sl : List UInt8) (w : World) (hs : Sl w 1 A n c (bytesV l)) (hn : n ≤ 1000000) (hl : l ++ crc4 (crc l) = sl) :
    Calls Try.prog 37 #[.slice A n c] w fun e w' => ∃ v, e = .returned v ∧ Below w.heap.size w w' ∧ isB sl v w' :=
  (refSeal_any A n c l w hs (by omega)).mono fun e w' ⟨A1, m1, c1, h1, h2, h3⟩ => ⟨_, h1, h3, _, _, _, rfl, by rw [← hl]; exact h2⟩
theorem refUint_such (A : Option Addr) (n c : Nat) (l : List UInt8) (N : Nat) (s1 : List UInt8) (w : World) (hs : Sl w 1 A n c (bytesV l)) (hn : n ≤ 1000000) (hN : N < 18446744073709551616) (hl : l ++ uv N = s1) :
    Calls Try.prog 39 #[.slice A n c, .int .u64 (N : Int)] w fun e w' => ∃ v, e = .returned v ∧ Below w.heap.size w w' ∧ isB s1 v w' :=
  (refUint_any A n c l N _ w hs hn hN rfl).mono fun e w' ⟨A1, m1, c1, h1, h2, h3⟩ => ⟨_, h1, h3, _, _, _, rfl, by rw [← hl]; exact h2⟩
theorem nilB (w : World) : Sl w 1 none 0 0 (bytesV []) := Sl.nil w 1
theorem refInt_such (I : Int) (s2 : List UInt8) (w : World) (h1 : -9223372036854775808 ≤ I) (h2 : I ≤ 9223372036854775807) (hl : uv (zz I) = s2) :
    Calls Try.prog 40 #[.slice none 0 0, .int .i64 I] w fun e w' => ∃ v, e = .returned v ∧ Below w.heap.size w w' ∧ isB s2 v w' :=
  (refInt_any none 0 0 [] I w (nilB w) (by omega) h1 h2).mono fun e w' ⟨A1, m1, c1, h1, h2, h3⟩ => ⟨_, h1, h3, _, _, _, rfl, by rw [← hl]; simpa using h2⟩
theorem refBlob_such (A : Option Addr) (n c : Nat) (l s3 : List UInt8) (w : World) (hs : Sl w 1 A n c (bytesV l)) (hn : n ≤ 1000000) (hl : uv l.length ++ l = s3) :
    Calls Try.prog 41 #[.slice none 0 0, .slice A n c] w fun e w' => ∃ v, e = .returned v ∧ Below w.heap.size w w' ∧ isB s3 v w' :=
  (refBlob_any none A 0 0 n c [] l w (nilB w) hs (by omega) hn).mono fun e w' ⟨A1, m1, c1, h1, h2, h3⟩ => ⟨_, h1, h3, _, _, _, rfl, by rw [← hl]; simpa using h2⟩

set_option maxRecDepth 100000 in
set_option maxHeartbeats 2000000 in
theorem walk_tells (B : Option Addr) (N n c : Nat) (l : List UInt8) (at_ most : Int) (w : World) (hN : N < 18446744073709551616) (hs : Sl w 1 B n c (bytesV l))
    (hm1 : -9223372036854775808 ≤ most) (hm2 : most ≤ 9223372036854775807) :
    Calls Try.prog 8 #[.int .u64 (N : Int), .slice B n c, .int .i64 at_, .int .i64 most] w fun e w' => e = .returned (.bool true) ∧ Below w.heap.size w w' := by
  by_cases h0 : 500 < n
  · go_enter Try.func8, Try.ntmps8
    go_wp2_with (go_at_call 21; refine (awake_any _).mono ?_; rintro e w6 ⟨rfl, hn6⟩)
    go_ret
    exact ⟨rfl, hn6⟩
  obtain ⟨I, hI⟩ : ∃ I, IntKind.i64.wrap (N : Int) = I := ⟨_, rfl⟩
  have hI12 : -9223372036854775808 ≤ I ∧ I ≤ 9223372036854775807 := by rw [← hI, IntKind.wrap_i64]; omega
  obtain ⟨hI1, hI2⟩ := hI12
  obtain ⟨g, hg⟩ : ∃ g, g = gu l at_ := ⟨_, rfl⟩
  obtain ⟨gI, hgi⟩ : ∃ g, g = gi l at_ := ⟨_, rfl⟩
  obtain ⟨gB, hgb⟩ : ∃ g, g = gb l at_ most := ⟨_, rfl⟩
  obtain ⟨gU, hun⟩ : ∃ g, g = unsld l := ⟨_, rfl⟩
  obtain ⟨g1, g2, g3⟩ := g
  obtain ⟨i1, i2, i3⟩ := gI
  obtain ⟨b1, b2, b3⟩ := gB
  obtain ⟨u1, u2⟩ := gU
  have Hg := Lib.hid hg.symm
  have Hi := Lib.hid hgi.symm
  have Hgb := Lib.hid hgb.symm
  have Hu := Lib.hid hun.symm
  have HN := Lib.hid hN
  clear hg hgi hgb hun hN
  go_enter Try.func8, Try.ntmps8
  go_wp2_with fail
  refine (copyBytes_any _ _ _ l _ hs (by omega)).mono ?_; rintro e w1 ⟨rfl, hown1, hb1⟩
  have hin1 := ownsRow_sl hown1
  have hbb1 := hs.below hb1
  clear hown1 hs
  go_wp2_with fail
  refine (getUint_any _ _ _ l _ _ hin1 (by omega)).mono ?_; rintro e w1' ⟨rfl, rfl⟩
  rw [Hg.out]
  dsimp only
  go_wp2_with fail
  refine (refGetUint_any _ _ _ l _ _ hbb1 (by omega)).mono ?_; rintro e w1' ⟨rfl, rfl⟩
  rw [Hg.out]
  dsimp only
  go_wp2_with fail
  refine (getInt_any _ _ _ l _ _ hin1 (by omega)).mono ?_; rintro e w1' ⟨rfl, rfl⟩
  rw [Hi.out]
  dsimp only
  go_wp2_with fail
  refine (refGetInt_any _ _ _ l _ _ hbb1 (by omega)).mono ?_; rintro e w1' ⟨rfl, rfl⟩
  rw [Hi.out]
  dsimp only
  go_wp2_with fail
  refine (getBlob_any _ _ _ l _ _ _ hin1 (by omega) hm1 hm2).mono ?_; rintro e w2 ⟨A2, n2, c2, rfl, hown2, hb2⟩
  rw [Hgb.out] at hown2 ⊢
  dsimp only at hown2 ⊢
  have hs1 := ownsRow_sl hown2
  have hin2 := hin1.below hb2
  have hbb2 := hbb1.below hb2
  have hbA := hb1.trans (hb2.mono hb1.size)
  clear hin1 hbb1 hown2 hb2 hb1
  go_wp2_with fail
  refine (refGetBlob_any _ _ _ l _ _ _ hbb2 (by omega) hm1 hm2).mono ?_; rintro e w3 ⟨A3, n3, c3, rfl, hs2, hb3⟩
  rw [Hgb.out] at hs2 ⊢
  dsimp only at hs2 ⊢
  have hs1 := hs1.below hb3
  have hin3 := hin2.below hb3
  have hbb3 := hbb2.below hb3
  have hbB := hbA.trans (hb3.mono hbA.size)
  clear hin2 hbb2 hb3 hbA
  go_wp2_with fail
  refine (unseal_any _ _ _ l _ hin3 (by omega)).mono ?_; rintro e w4 ⟨A4, n4, c4, rfl, happ4, hb4⟩
  rw [Hu.out] at happ4 ⊢
  dsimp only at happ4 ⊢
  have hp1 := happ4.sl
  have hs1 := hs1.below hb4
  have hs2 := hs2.below hb4
  have hin4 := hin3.below hb4
  have hbb4 := hbb3.below hb4
  have hbC := hbB.trans (hb4.mono hbB.size)
  clear hin3 hbb3 hb4 hbB happ4
  go_wp2_with fail
  refine (refUnseal_any _ _ _ l _ hbb4 (by omega)).mono ?_; rintro e w5 ⟨A5, n5, c5, rfl, hp2, hb5⟩
  rw [Hu.out] at hp2 ⊢
  dsimp only at hp2 ⊢
  have hp1 := hp1.below hb5
  have hs1 := hs1.below hb5
  have hs2 := hs2.below hb5
  have hin := hin4.below hb5
  have hb0 := hbb4.below hb5
  have hbD := hbC.trans (hb5.mono hbC.size)
  clear hin4 hbb4 hb5 hbC
  obtain ⟨K, hK⟩ : ∃ K, ((crc l).toNat : Int) = K := ⟨_, rfl⟩
  obtain ⟨sl, hsl⟩ : ∃ s, l ++ crc4 (crc l) = s := ⟨_, rfl⟩
  have HK := Lib.hid hK
  have Hsl := Lib.hid hsl
  clear hK hsl
  go_wp2_with fail
  --@region 8 16 tells16.spec
  refine wp_region_run (by kernel_rfl) (by kernel_rfl) ?_
  apply RunL.pure
  · intro vs w hb hd; clear hd; simp only [List.take, putL, Act.put, List.setIfInBounds_toArray, List.set_cons_zero, List.set_cons_succ]; unfold StepOK; go_simp; exact ⟨Below.refl _ _, isV_mk _ _⟩
  apply RunL.pure
  · intro vs w hb hd; have d0 : isV _ (vs 0) w := hd 0 (by decide) (by kernel_rfl); unfold isV at d0; clear hd; have hcv := run_str (hs1.below hb); simp only [List.take, putL, Act.put, List.setIfInBounds_toArray, List.set_cons_zero, List.set_cons_succ]; unfold StepOK; go_simp; exact ⟨Below.refl _ _, isV_mk _ _⟩
  apply RunL.pure
  · intro vs w hb hd; clear hd; simp only [List.take, putL, Act.put, List.setIfInBounds_toArray, List.set_cons_zero, List.set_cons_succ]; unfold StepOK; go_simp; exact ⟨Below.refl _ _, isV_mk _ _⟩
  apply RunL.pure
  · intro vs w hb hd; have d2 : isV _ (vs 2) w := hd 2 (by decide) (by kernel_rfl); unfold isV at d2; clear hd; have hcv := run_str (hs2.below hb); simp only [List.take, putL, Act.put, List.setIfInBounds_toArray, List.set_cons_zero, List.set_cons_succ]; unfold StepOK; go_simp; exact ⟨Below.refl _ _, isV_mk _ _⟩
  apply RunL.pure
  · intro vs w hb hd; have d1 : isV _ (vs 1) w := hd 1 (by decide) (by kernel_rfl); unfold isV at d1; have d3 : isV _ (vs 3) w := hd 3 (by decide) (by kernel_rfl); unfold isV at d3; clear hd; simp only [List.take, putL, Act.put, List.setIfInBounds_toArray, List.set_cons_zero, List.set_cons_succ]; unfold StepOK; go_simp; exact ⟨Below.refl _ _, isV_mk _ _⟩
  apply RunL.pure
  · intro vs w hb hd; have d4 : isV _ (vs 4) w := hd 4 (by decide) (by kernel_rfl); unfold isV at d4; clear hd; simp only [List.take, putL, Act.put, List.setIfInBounds_toArray, List.set_cons_zero, List.set_cons_succ]; unfold StepOK; go_simp; exact ⟨Below.refl _ _, isV_mk _ _⟩
  apply RunL.pure
  · intro vs w hb hd; have d5 : isV _ (vs 5) w := hd 5 (by decide) (by kernel_rfl); unfold isV at d5; clear hd; simp only [List.take, putL, Act.put, List.setIfInBounds_toArray, List.set_cons_zero, List.set_cons_succ]; unfold StepOK; go_simp; exact ⟨Below.refl _ _, isV_mk _ _⟩
  apply RunL.pure
  · intro vs w hb hd; have d5 : isV _ (vs 5) w := hd 5 (by decide) (by kernel_rfl); unfold isV at d5; clear hd; simp only [List.take, putL, Act.put, List.setIfInBounds_toArray, List.set_cons_zero, List.set_cons_succ]; unfold StepOK; go_simp; exact ⟨Below.refl _ _, isV_mk _ _⟩
  apply RunL.pure
  · intro vs w hb hd; have d5 : isV _ (vs 5) w := hd 5 (by decide) (by kernel_rfl); unfold isV at d5; have d6 : isV _ (vs 6) w := hd 6 (by decide) (by kernel_rfl); unfold isV at d6; have d7 : isV _ (vs 7) w := hd 7 (by decide) (by kernel_rfl); unfold isV at d7; clear hd; simp only [List.take, putL, Act.put, List.setIfInBounds_toArray, List.set_cons_zero, List.set_cons_succ]; unfold StepOK; go_simp; exact ⟨Below.refl _ _, isV_mk _ _⟩
  apply RunL.pure
  · intro vs w hb hd; have d5 : isV _ (vs 5) w := hd 5 (by decide) (by kernel_rfl); unfold isV at d5; have d8 : isV _ (vs 8) w := hd 8 (by decide) (by kernel_rfl); unfold isV at d8; clear hd; simp only [List.take, putL, Act.put, List.setIfInBounds_toArray, List.set_cons_zero, List.set_cons_succ]; unfold StepOK; go_simp; exact ⟨Below.refl _ _, isV_mk _ _⟩
  apply RunL.pure
  · intro vs w hb hd; have d5 : isV _ (vs 5) w := hd 5 (by decide) (by kernel_rfl); unfold isV at d5; have d9 : isV _ (vs 9) w := hd 9 (by decide) (by kernel_rfl); unfold isV at d9; clear hd; simp only [List.take, putL, Act.put, List.setIfInBounds_toArray, List.set_cons_zero, List.set_cons_succ]; unfold StepOK; go_simp; exact ⟨Below.refl _ _, isV_mk _ _⟩
  apply RunL.pure
  · intro vs w hb hd; have d10 : isV _ (vs 10) w := hd 10 (by decide) (by kernel_rfl); unfold isV at d10; clear hd; simp only [List.take, putL, Act.put, List.setIfInBounds_toArray, List.set_cons_zero, List.set_cons_succ]; unfold StepOK; go_simp; exact ⟨Below.refl _ _, isV_mk _ _⟩
  apply RunL.pure
  · intro vs w hb hd; have d10 : isV _ (vs 10) w := hd 10 (by decide) (by kernel_rfl); unfold isV at d10; clear hd; simp only [List.take, putL, Act.put, List.setIfInBounds_toArray, List.set_cons_zero, List.set_cons_succ]; unfold StepOK; go_simp; exact ⟨Below.refl _ _, isV_mk _ _⟩
  apply RunL.pure
  · intro vs w hb hd; have d10 : isV _ (vs 10) w := hd 10 (by decide) (by kernel_rfl); unfold isV at d10; have d11 : isV _ (vs 11) w := hd 11 (by decide) (by kernel_rfl); unfold isV at d11; have d12 : isV _ (vs 12) w := hd 12 (by decide) (by kernel_rfl); unfold isV at d12; clear hd; simp only [List.take, putL, Act.put, List.setIfInBounds_toArray, List.set_cons_zero, List.set_cons_succ]; unfold StepOK; go_simp; exact ⟨Below.refl _ _, isV_mk _ _⟩
  apply RunL.pure
  · intro vs w hb hd; have d10 : isV _ (vs 10) w := hd 10 (by decide) (by kernel_rfl); unfold isV at d10; have d13 : isV _ (vs 13) w := hd 13 (by decide) (by kernel_rfl); unfold isV at d13; clear hd; simp only [List.take, putL, Act.put, List.setIfInBounds_toArray, List.set_cons_zero, List.set_cons_succ]; unfold StepOK; go_simp; exact ⟨Below.refl _ _, isV_mk _ _⟩
  apply RunL.pure
  · intro vs w hb hd; have d10 : isV _ (vs 10) w := hd 10 (by decide) (by kernel_rfl); unfold isV at d10; have d14 : isV _ (vs 14) w := hd 14 (by decide) (by kernel_rfl); unfold isV at d14; clear hd; simp only [List.take, putL, Act.put, List.setIfInBounds_toArray, List.set_cons_zero, List.set_cons_succ]; unfold StepOK; go_simp; exact ⟨Below.refl _ _, isV_mk _ _⟩
  apply RunL.pure
  · intro vs w hb hd; have d15 : isV _ (vs 15) w := hd 15 (by decide) (by kernel_rfl); unfold isV at d15; clear hd; simp only [List.take, putL, Act.put, List.setIfInBounds_toArray, List.set_cons_zero, List.set_cons_succ]; unfold StepOK; go_simp; exact ⟨Below.refl _ _, isV_mk _ _⟩
  apply RunL.pure
  · intro vs w hb hd; have d15 : isV _ (vs 15) w := hd 15 (by decide) (by kernel_rfl); unfold isV at d15; have d16 : isV _ (vs 16) w := hd 16 (by decide) (by kernel_rfl); unfold isV at d16; clear hd; have hcv := run_str (hp1.below hb); simp only [List.take, putL, Act.put, List.setIfInBounds_toArray, List.set_cons_zero, List.set_cons_succ]; unfold StepOK; go_simp; exact ⟨Below.refl _ _, isV_mk _ _⟩
  apply RunL.pure
  · intro vs w hb hd; have d15 : isV _ (vs 15) w := hd 15 (by decide) (by kernel_rfl); unfold isV at d15; clear hd; simp only [List.take, putL, Act.put, List.setIfInBounds_toArray, List.set_cons_zero, List.set_cons_succ]; unfold StepOK; go_simp; exact ⟨Below.refl _ _, isV_mk _ _⟩
  apply RunL.pure
  · intro vs w hb hd; have d15 : isV _ (vs 15) w := hd 15 (by decide) (by kernel_rfl); unfold isV at d15; have d18 : isV _ (vs 18) w := hd 18 (by decide) (by kernel_rfl); unfold isV at d18; clear hd; have hcv := run_str (hp2.below hb); simp only [List.take, putL, Act.put, List.setIfInBounds_toArray, List.set_cons_zero, List.set_cons_succ]; unfold StepOK; go_simp; exact ⟨Below.refl _ _, isV_mk _ _⟩
  apply RunL.pure
  · intro vs w hb hd; have d15 : isV _ (vs 15) w := hd 15 (by decide) (by kernel_rfl); unfold isV at d15; have d17 : isV _ (vs 17) w := hd 17 (by decide) (by kernel_rfl); unfold isV at d17; have d19 : isV _ (vs 19) w := hd 19 (by decide) (by kernel_rfl); unfold isV at d19; clear hd; simp only [List.take, putL, Act.put, List.setIfInBounds_toArray, List.set_cons_zero, List.set_cons_succ]; unfold StepOK; go_simp; exact ⟨Below.refl _ _, isV_mk _ _⟩
  apply RunL.pure
  · intro vs w hb hd; have d15 : isV _ (vs 15) w := hd 15 (by decide) (by kernel_rfl); unfold isV at d15; have d20 : isV _ (vs 20) w := hd 20 (by decide) (by kernel_rfl); unfold isV at d20; clear hd; simp only [List.take, putL, Act.put, List.setIfInBounds_toArray, List.set_cons_zero, List.set_cons_succ]; unfold StepOK; go_simp; exact ⟨Below.refl _ _, isV_mk _ _⟩
  apply RunL.pure
  · intro vs w hb hd; have d15 : isV _ (vs 15) w := hd 15 (by decide) (by kernel_rfl); unfold isV at d15; have d21 : isV _ (vs 21) w := hd 21 (by decide) (by kernel_rfl); unfold isV at d21; clear hd; simp only [List.take, putL, Act.put, List.setIfInBounds_toArray, List.set_cons_zero, List.set_cons_succ]; unfold StepOK; go_simp; exact ⟨Below.refl _ _, isV_mk _ _⟩
  apply RunL.pure
  · intro vs w hb hd; have d22 : isV _ (vs 22) w := hd 22 (by decide) (by kernel_rfl); unfold isV at d22; clear hd; simp only [List.take, putL, Act.put, List.setIfInBounds_toArray, List.set_cons_zero, List.set_cons_succ]; unfold StepOK; go_simp; exact ⟨Below.refl _ _, isV_mk _ _⟩
  apply RunL.pure
  · intro vs w hb hd; have d22 : isV _ (vs 22) w := hd 22 (by decide) (by kernel_rfl); unfold isV at d22; clear hd; simp only [List.take, putL, Act.put, List.setIfInBounds_toArray, List.set_cons_zero, List.set_cons_succ]; unfold StepOK; go_simp; exact ⟨Below.refl _ _, isV_mk _ _⟩
  apply RunL.pure
  · intro vs w hb hd; have d22 : isV _ (vs 22) w := hd 22 (by decide) (by kernel_rfl); unfold isV at d22; have d23 : isV _ (vs 23) w := hd 23 (by decide) (by kernel_rfl); unfold isV at d23; have d24 : isV _ (vs 24) w := hd 24 (by decide) (by kernel_rfl); unfold isV at d24; clear hd; simp only [List.take, putL, Act.put, List.setIfInBounds_toArray, List.set_cons_zero, List.set_cons_succ]; unfold StepOK; go_simp; exact ⟨Below.refl _ _, isV_mk _ _⟩
  apply RunL.pure
  · intro vs w hb hd; have d22 : isV _ (vs 22) w := hd 22 (by decide) (by kernel_rfl); unfold isV at d22; have d25 : isV _ (vs 25) w := hd 25 (by decide) (by kernel_rfl); unfold isV at d25; clear hd; simp only [List.take, putL, Act.put, List.setIfInBounds_toArray, List.set_cons_zero, List.set_cons_succ]; unfold StepOK; go_simp; exact ⟨Below.refl _ _, isV_mk _ _⟩
  apply RunL.pure
  · intro vs w hb hd; have d22 : isV _ (vs 22) w := hd 22 (by decide) (by kernel_rfl); unfold isV at d22; have d26 : isV _ (vs 26) w := hd 26 (by decide) (by kernel_rfl); unfold isV at d26; clear hd; simp only [List.take, putL, Act.put, List.setIfInBounds_toArray, List.set_cons_zero, List.set_cons_succ]; unfold StepOK; go_simp; exact ⟨Below.refl _ _, isV_mk _ _⟩
  apply RunL.pure
  · intro vs w hb hd; have d27 : isV _ (vs 27) w := hd 27 (by decide) (by kernel_rfl); unfold isV at d27; clear hd; simp only [List.take, putL, Act.put, List.setIfInBounds_toArray, List.set_cons_zero, List.set_cons_succ]; unfold StepOK; go_simp; exact ⟨Below.refl _ _, isV_mk _ _⟩
  refine RunL.such (isV (.int .u32 K)) (isV_stable _) ?_ ?_
  · intro vs w hb hd; have d27 : isV _ (vs 27) w := hd 27 (by decide) (by kernel_rfl); unfold isV at d27; have d28 : isV _ (vs 28) w := hd 28 (by decide) (by kernel_rfl); unfold isV at d28; clear hd; simp only [List.take, putL, Act.put, List.setIfInBounds_toArray, List.set_cons_zero, List.set_cons_succ]; unfold StepOK; go_simp; exact ⟨Below.refl _ _, crc_such _ _ _ l K _ (hin.below hb) (by omega) HK.out⟩
  apply RunL.pure
  · intro vs w hb hd; have d27 : isV _ (vs 27) w := hd 27 (by decide) (by kernel_rfl); unfold isV at d27; clear hd; simp only [List.take, putL, Act.put, List.setIfInBounds_toArray, List.set_cons_zero, List.set_cons_succ]; unfold StepOK; go_simp; exact ⟨Below.refl _ _, isV_mk _ _⟩
  refine RunL.such (isV (.int .u32 K)) (isV_stable _) ?_ ?_
  · intro vs w hb hd; have d27 : isV _ (vs 27) w := hd 27 (by decide) (by kernel_rfl); unfold isV at d27; have d29 := hd 29 (by decide) (by kernel_rfl); simp only [TR, Nat.reduceAdd, Nat.reduceSub, List.getD_cons_zero, List.getD_cons_succ] at d29; have d30 : isV _ (vs 30) w := hd 30 (by decide) (by kernel_rfl); unfold isV at d30; clear hd; simp only [List.take, putL, Act.put, List.setIfInBounds_toArray, List.set_cons_zero, List.set_cons_succ]; unfold StepOK; go_simp; exact ⟨Below.refl _ _, refCrc_such _ _ _ l K _ (hb0.below hb) (by omega) HK.out⟩
  apply RunL.pure
  · intro vs w hb hd; have d27 : isV _ (vs 27) w := hd 27 (by decide) (by kernel_rfl); unfold isV at d27; have d29 := hd 29 (by decide) (by kernel_rfl); simp only [TR, Nat.reduceAdd, Nat.reduceSub, List.getD_cons_zero, List.getD_cons_succ] at d29; have d31 := hd 31 (by decide) (by kernel_rfl); simp only [TR, Nat.reduceAdd, Nat.reduceSub, List.getD_cons_zero, List.getD_cons_succ] at d31; clear hd; unfold isV at d29 d31; simp only [List.take, putL, Act.put, List.setIfInBounds_toArray, List.set_cons_zero, List.set_cons_succ]; unfold StepOK; go_simp; exact ⟨Below.refl _ _, isV_mk _ _⟩
  apply RunL.pure
  · intro vs w hb hd; have d27 : isV _ (vs 27) w := hd 27 (by decide) (by kernel_rfl); unfold isV at d27; have d32 : isV _ (vs 32) w := hd 32 (by decide) (by kernel_rfl); unfold isV at d32; clear hd; simp only [List.take, putL, Act.put, List.setIfInBounds_toArray, List.set_cons_zero, List.set_cons_succ]; unfold StepOK; go_simp; exact ⟨Below.refl _ _, isV_mk _ _⟩
  apply RunL.pure
  · intro vs w hb hd; have d31 := hd 31 (by decide) (by kernel_rfl); simp only [TR, Nat.reduceAdd, Nat.reduceSub, List.getD_cons_zero, List.getD_cons_succ] at d31; have d33 : isV _ (vs 33) w := hd 33 (by decide) (by kernel_rfl); unfold isV at d33; clear hd; simp only [List.take, putL, Act.put, List.setIfInBounds_toArray, List.set_cons_zero, List.set_cons_succ]; unfold StepOK; go_simp; exact ⟨Below.refl _ _, isV_mk _ _⟩
  apply RunL.pure
  · intro vs w hb hd; have d34 : isV _ (vs 34) w := hd 34 (by decide) (by kernel_rfl); unfold isV at d34; clear hd; simp only [List.take, putL, Act.put, List.setIfInBounds_toArray, List.set_cons_zero, List.set_cons_succ]; unfold StepOK; go_simp; exact ⟨Below.refl _ _, isV_mk _ _⟩
  refine RunL.such (isB sl) (isB_stable _) ?_ ?_
  · intro vs w hb hd; have d34 : isV _ (vs 34) w := hd 34 (by decide) (by kernel_rfl); unfold isV at d34; have d35 : isV _ (vs 35) w := hd 35 (by decide) (by kernel_rfl); unfold isV at d35; clear hd; simp only [List.take, putL, Act.put, List.setIfInBounds_toArray, List.set_cons_zero, List.set_cons_succ]; unfold StepOK; go_simp; exact ⟨Below.refl _ _, seal_such _ _ _ l sl _ (hin.below hb) (by omega) Hsl.out⟩
  apply RunL.pure
  · intro vs w hb hd; have d34 : isV _ (vs 34) w := hd 34 (by decide) (by kernel_rfl); unfold isV at d34; have d36 := hd 36 (by decide) (by kernel_rfl); simp only [TR, Nat.reduceAdd, Nat.reduceSub, List.getD_cons_zero, List.getD_cons_succ] at d36; clear hd; obtain ⟨Aq, nq, cq, eq, hq⟩ := isB_elim d36; have hcv := run_str hq; simp only [List.take, putL, Act.put, List.setIfInBounds_toArray, List.set_cons_zero, List.set_cons_succ]; unfold StepOK; go_simp; exact ⟨Below.refl _ _, isV_mk _ _⟩
  apply RunL.pure
  · intro vs w hb hd; have d34 : isV _ (vs 34) w := hd 34 (by decide) (by kernel_rfl); unfold isV at d34; clear hd; simp only [List.take, putL, Act.put, List.setIfInBounds_toArray, List.set_cons_zero, List.set_cons_succ]; unfold StepOK; go_simp; exact ⟨Below.refl _ _, isV_mk _ _⟩
  refine RunL.such (isB sl) (isB_stable _) ?_ ?_
  · intro vs w hb hd; have d34 : isV _ (vs 34) w := hd 34 (by decide) (by kernel_rfl); unfold isV at d34; have d36 := hd 36 (by decide) (by kernel_rfl); simp only [TR, Nat.reduceAdd, Nat.reduceSub, List.getD_cons_zero, List.getD_cons_succ] at d36; have d38 : isV _ (vs 38) w := hd 38 (by decide) (by kernel_rfl); unfold isV at d38; clear hd; simp only [List.take, putL, Act.put, List.setIfInBounds_toArray, List.set_cons_zero, List.set_cons_succ]; unfold StepOK; go_simp; exact ⟨Below.refl _ _, refSeal_such _ _ _ l sl _ (hb0.below hb) (by omega) Hsl.out⟩
  apply RunL.pure
  · intro vs w hb hd; have d34 : isV _ (vs 34) w := hd 34 (by decide) (by kernel_rfl); unfold isV at d34; have d39 := hd 39 (by decide) (by kernel_rfl); simp only [TR, Nat.reduceAdd, Nat.reduceSub, List.getD_cons_zero, List.getD_cons_succ] at d39; clear hd; obtain ⟨Aq, nq, cq, eq, hq⟩ := isB_elim d39; have hcv := run_str hq; simp only [List.take, putL, Act.put, List.setIfInBounds_toArray, List.set_cons_zero, List.set_cons_succ]; unfold StepOK; go_simp; exact ⟨Below.refl _ _, isV_mk _ _⟩
  apply RunL.pure
  · intro vs w hb hd; have d34 : isV _ (vs 34) w := hd 34 (by decide) (by kernel_rfl); unfold isV at d34; have d37 : isV _ (vs 37) w := hd 37 (by decide) (by kernel_rfl); unfold isV at d37; have d40 : isV _ (vs 40) w := hd 40 (by decide) (by kernel_rfl); unfold isV at d40; clear hd; simp only [List.take, putL, Act.put, List.setIfInBounds_toArray, List.set_cons_zero, List.set_cons_succ]; unfold StepOK; go_simp; exact ⟨Below.refl _ _, isV_mk _ _⟩
  apply RunL.pure
  · intro vs w hb hd; have d34 : isV _ (vs 34) w := hd 34 (by decide) (by kernel_rfl); unfold isV at d34; have d41 : isV _ (vs 41) w := hd 41 (by decide) (by kernel_rfl); unfold isV at d41; clear hd; simp only [List.take, putL, Act.put, List.setIfInBounds_toArray, List.set_cons_zero, List.set_cons_succ]; unfold StepOK; go_simp; exact ⟨Below.refl _ _, isV_mk _ _⟩
  intro vs w1 hb hd
  have e0 : isV _ (vs 0) w1 := hd 0 (by decide)
  have e1 : isV _ (vs 1) w1 := hd 1 (by decide)
  have e2 : isV _ (vs 2) w1 := hd 2 (by decide)
  have e3 : isV _ (vs 3) w1 := hd 3 (by decide)
  have e4 : isV _ (vs 4) w1 := hd 4 (by decide)
  have e5 : isV _ (vs 5) w1 := hd 5 (by decide)
  have e6 : isV _ (vs 6) w1 := hd 6 (by decide)
  have e7 : isV _ (vs 7) w1 := hd 7 (by decide)
  have e8 : isV _ (vs 8) w1 := hd 8 (by decide)
  have e9 : isV _ (vs 9) w1 := hd 9 (by decide)
  have e10 : isV _ (vs 10) w1 := hd 10 (by decide)
  have e11 : isV _ (vs 11) w1 := hd 11 (by decide)
  have e12 : isV _ (vs 12) w1 := hd 12 (by decide)
  have e13 : isV _ (vs 13) w1 := hd 13 (by decide)
  have e14 : isV _ (vs 14) w1 := hd 14 (by decide)
  have e15 : isV _ (vs 15) w1 := hd 15 (by decide)
  have e16 : isV _ (vs 16) w1 := hd 16 (by decide)
  have e17 : isV _ (vs 17) w1 := hd 17 (by decide)
  have e18 : isV _ (vs 18) w1 := hd 18 (by decide)
  have e19 : isV _ (vs 19) w1 := hd 19 (by decide)
  have e20 : isV _ (vs 20) w1 := hd 20 (by decide)
  have e21 : isV _ (vs 21) w1 := hd 21 (by decide)
  have e22 : isV _ (vs 22) w1 := hd 22 (by decide)
  have e23 : isV _ (vs 23) w1 := hd 23 (by decide)
  have e24 : isV _ (vs 24) w1 := hd 24 (by decide)
  have e25 : isV _ (vs 25) w1 := hd 25 (by decide)
  have e26 : isV _ (vs 26) w1 := hd 26 (by decide)
  have e27 : isV _ (vs 27) w1 := hd 27 (by decide)
  have e28 : isV _ (vs 28) w1 := hd 28 (by decide)
  have e29 := hd 29 (by decide); simp only [TR, Nat.reduceAdd, Nat.reduceSub, List.getD_cons_zero, List.getD_cons_succ] at e29
  have e30 : isV _ (vs 30) w1 := hd 30 (by decide)
  have e31 := hd 31 (by decide); simp only [TR, Nat.reduceAdd, Nat.reduceSub, List.getD_cons_zero, List.getD_cons_succ] at e31
  have e32 : isV _ (vs 32) w1 := hd 32 (by decide)
  have e33 : isV _ (vs 33) w1 := hd 33 (by decide)
  have e34 : isV _ (vs 34) w1 := hd 34 (by decide)
  have e35 : isV _ (vs 35) w1 := hd 35 (by decide)
  have e36 := hd 36 (by decide); simp only [TR, Nat.reduceAdd, Nat.reduceSub, List.getD_cons_zero, List.getD_cons_succ] at e36
  have e37 : isV _ (vs 37) w1 := hd 37 (by decide)
  have e38 : isV _ (vs 38) w1 := hd 38 (by decide)
  have e39 := hd 39 (by decide); simp only [TR, Nat.reduceAdd, Nat.reduceSub, List.getD_cons_zero, List.getD_cons_succ] at e39
  have e40 : isV _ (vs 40) w1 := hd 40 (by decide)
  have e41 : isV _ (vs 41) w1 := hd 41 (by decide)
  have e42 : isV _ (vs 42) w1 := hd 42 (by decide)
  clear hd
  unfold isV at e0 e1 e2 e3 e4 e5 e6 e7 e8 e9 e10 e11 e12 e13 e14 e15 e16 e17 e18 e19 e20 e21 e22 e23 e24 e25 e26 e27 e28 e30 e32 e33 e34 e35 e37 e38 e40 e41 e42
  simp only [putL, Act.put, List.setIfInBounds_toArray, List.set_cons_zero, List.set_cons_succ, e0, e1, e2, e3, e4, e5, e6, e7, e8, e9, e10, e11, e12, e13, e14, e15, e16, e17, e18, e19, e20, e21, e22, e23, e24, e25, e26, e27, e28, e30, e32, e33, e34, e35, e37, e38, e40, e41, e42]
  clear e0 e1 e2 e3 e4 e5 e6 e7 e8 e9 e10 e11 e12 e13 e14 e15 e16 e17 e18 e19 e20 e21 e22 e23 e24 e25 e26 e27 e28 e30 e32 e33 e34 e35 e37 e38 e40 e41 e42
  --@end
  have hin := hin.below hb
  have hb0 := hb0.below hb
  have hbE := hbD.trans (hb.mono hbD.size)
  clear hb hbD e29 e31 e36 e39 hs1 hs2 hp1 hp2
  go_wp2_with fail
  refine (uint_at w1.heap.size _ _ _ l N _ _ (.inr ⟨hin, rfl⟩) (Nat.le_refl _) HN.out (by omega) rfl).mono ?_; rintro e w7 ⟨A7, n7, c7, rfl, hto⟩
  have hb7 := hto.below (Nat.le_refl _)
  have ho1 := hto.app.sl
  have hin7 := hin.below hb7
  have hb07 := hb0.below hb7
  have hbF := hbE.trans (hb7.mono hbE.size)
  clear hto hb7 hin hb0 hbE
  go_wp2_with fail
  refine (int_nil I _ hI1 hI2).mono ?_; rintro e w8 ⟨v8, rfl, hb8, hv8⟩
  obtain ⟨A8, n8, c8, rfl, ho2⟩ := isB_elim hv8
  have ho1 := ho1.below hb8
  have hin8 := hin7.below hb8
  have hb08 := hb07.below hb8
  have hbG := hbF.trans (hb8.mono hbF.size)
  clear hv8 hb8 hin7 hb07 hbF
  go_wp2_with fail
  refine (blob_nil _ _ _ l _ hin8 (by omega)).mono ?_; rintro e w9 ⟨v9, rfl, hb9, hv9⟩
  obtain ⟨A9, n9, c9, rfl, ho3⟩ := isB_elim hv9
  have ho1 := ho1.below hb9
  have ho2 := ho2.below hb9
  have hin := hin8.below hb9
  have hb0 := hb08.below hb9
  have hbH := hbG.trans (hb9.mono hbG.size)
  clear hv9 hb9 hin8 hb08 hbG
  obtain ⟨s1, hs1⟩ : ∃ s, l ++ uv N = s := ⟨_, rfl⟩
  obtain ⟨s2, hs2⟩ : ∃ s, uv (zz I) = s := ⟨_, rfl⟩
  obtain ⟨s3, hs3⟩ : ∃ s, uv l.length ++ l = s := ⟨_, rfl⟩
  rw [hs1] at ho1
  rw [hs2] at ho2
  rw [hs3] at ho3
  have Hs1 := Lib.hid hs1
  have Hs2 := Lib.hid hs2
  have Hs3 := Lib.hid hs3
  clear hs1 hs2 hs3
  go_wp2_with fail
  --@region 8 19 tells19.spec
  refine wp_region_run (by kernel_rfl) (by kernel_rfl) ?_
  apply RunL.pure
  · intro vs w hb hd; clear hd; simp only [List.take, putL, Act.put, List.setIfInBounds_toArray, List.set_cons_zero, List.set_cons_succ]; unfold StepOK; go_simp; exact ⟨Below.refl _ _, isV_mk _ _⟩
  apply RunL.pure
  · intro vs w hb hd; have d0 : isV _ (vs 0) w := hd 0 (by decide) (by kernel_rfl); unfold isV at d0; clear hd; have hcv := run_str (ho1.below hb); simp only [List.take, putL, Act.put, List.setIfInBounds_toArray, List.set_cons_zero, List.set_cons_succ]; unfold StepOK; go_simp; exact ⟨Below.refl _ _, isV_mk _ _⟩
  apply RunL.pure
  · intro vs w hb hd; clear hd; simp only [List.take, putL, Act.put, List.setIfInBounds_toArray, List.set_cons_zero, List.set_cons_succ]; unfold StepOK; go_simp; exact ⟨Below.refl _ _, isV_mk _ _⟩
  apply RunL.pure
  · intro vs w hb hd; clear hd; simp only [List.take, putL, Act.put, List.setIfInBounds_toArray, List.set_cons_zero, List.set_cons_succ]; unfold StepOK; go_simp; exact ⟨Below.refl _ _, isV_mk _ _⟩
  refine RunL.such (isB s1) (isB_stable _) ?_ ?_
  · intro vs w hb hd; have d2 : isV _ (vs 2) w := hd 2 (by decide) (by kernel_rfl); unfold isV at d2; have d3 : isV _ (vs 3) w := hd 3 (by decide) (by kernel_rfl); unfold isV at d3; clear hd; simp only [List.take, putL, Act.put, List.setIfInBounds_toArray, List.set_cons_zero, List.set_cons_succ]; unfold StepOK; go_simp; exact ⟨Below.refl _ _, refUint_such _ _ _ l N s1 _ (hb0.below hb) (by omega) HN.out Hs1.out⟩
  apply RunL.pure
  · intro vs w hb hd; have d4 := hd 4 (by decide) (by kernel_rfl); simp only [TR, Nat.reduceAdd, Nat.reduceSub, List.getD_cons_zero, List.getD_cons_succ] at d4; clear hd; obtain ⟨Aq, nq, cq, eq, hq⟩ := isB_elim d4; have hcv := run_str hq; simp only [List.take, putL, Act.put, List.setIfInBounds_toArray, List.set_cons_zero, List.set_cons_succ]; unfold StepOK; go_simp; exact ⟨Below.refl _ _, isV_mk _ _⟩
  apply RunL.pure
  · intro vs w hb hd; have d1 : isV _ (vs 1) w := hd 1 (by decide) (by kernel_rfl); unfold isV at d1; have d5 : isV _ (vs 5) w := hd 5 (by decide) (by kernel_rfl); unfold isV at d5; clear hd; simp only [List.take, putL, Act.put, List.setIfInBounds_toArray, List.set_cons_zero, List.set_cons_succ]; unfold StepOK; go_simp; exact ⟨Below.refl _ _, isV_mk _ _⟩
  apply RunL.pure
  · intro vs w hb hd; have d4 := hd 4 (by decide) (by kernel_rfl); simp only [TR, Nat.reduceAdd, Nat.reduceSub, List.getD_cons_zero, List.getD_cons_succ] at d4; have d6 : isV _ (vs 6) w := hd 6 (by decide) (by kernel_rfl); unfold isV at d6; clear hd; simp only [List.take, putL, Act.put, List.setIfInBounds_toArray, List.set_cons_zero, List.set_cons_succ]; unfold StepOK; go_simp; exact ⟨Below.refl _ _, isV_mk _ _⟩
  apply RunL.pure
  · intro vs w hb hd; have d7 : isV _ (vs 7) w := hd 7 (by decide) (by kernel_rfl); unfold isV at d7; clear hd; simp only [List.take, putL, Act.put, List.setIfInBounds_toArray, List.set_cons_zero, List.set_cons_succ]; unfold StepOK; go_simp; exact ⟨Below.refl _ _, isV_mk _ _⟩
  apply RunL.pure
  · intro vs w hb hd; have d7 : isV _ (vs 7) w := hd 7 (by decide) (by kernel_rfl); unfold isV at d7; have d8 : isV _ (vs 8) w := hd 8 (by decide) (by kernel_rfl); unfold isV at d8; clear hd; have hcv := run_str (ho2.below hb); simp only [List.take, putL, Act.put, List.setIfInBounds_toArray, List.set_cons_zero, List.set_cons_succ]; unfold StepOK; go_simp; exact ⟨Below.refl _ _, isV_mk _ _⟩
  apply RunL.pure
  · intro vs w hb hd; have d7 : isV _ (vs 7) w := hd 7 (by decide) (by kernel_rfl); unfold isV at d7; clear hd; simp only [List.take, putL, Act.put, List.setIfInBounds_toArray, List.set_cons_zero, List.set_cons_succ]; unfold StepOK; go_simp; exact ⟨Below.refl _ _, isV_mk _ _⟩
  apply RunL.pure
  · intro vs w hb hd; have d7 : isV _ (vs 7) w := hd 7 (by decide) (by kernel_rfl); unfold isV at d7; have d10 : isV _ (vs 10) w := hd 10 (by decide) (by kernel_rfl); unfold isV at d10; clear hd; have hq := hI; simp only [List.take, putL, Act.put, List.setIfInBounds_toArray, List.set_cons_zero, List.set_cons_succ]; unfold StepOK; go_simp; exact ⟨Below.refl _ _, isV_mk _ _⟩
  refine RunL.such (isB s2) (isB_stable _) ?_ ?_
  · intro vs w hb hd; have d7 : isV _ (vs 7) w := hd 7 (by decide) (by kernel_rfl); unfold isV at d7; have d11 : isV _ (vs 11) w := hd 11 (by decide) (by kernel_rfl); unfold isV at d11; clear hd; simp only [List.take, putL, Act.put, List.setIfInBounds_toArray, List.set_cons_zero, List.set_cons_succ]; unfold StepOK; go_simp; exact ⟨Below.refl _ _, refInt_such I s2 _ hI1 hI2 Hs2.out⟩
  apply RunL.pure
  · intro vs w hb hd; have d7 : isV _ (vs 7) w := hd 7 (by decide) (by kernel_rfl); unfold isV at d7; have d12 := hd 12 (by decide) (by kernel_rfl); simp only [TR, Nat.reduceAdd, Nat.reduceSub, List.getD_cons_zero, List.getD_cons_succ] at d12; clear hd; obtain ⟨Aq, nq, cq, eq, hq⟩ := isB_elim d12; have hcv := run_str hq; simp only [List.take, putL, Act.put, List.setIfInBounds_toArray, List.set_cons_zero, List.set_cons_succ]; unfold StepOK; go_simp; exact ⟨Below.refl _ _, isV_mk _ _⟩
  apply RunL.pure
  · intro vs w hb hd; have d7 : isV _ (vs 7) w := hd 7 (by decide) (by kernel_rfl); unfold isV at d7; have d9 : isV _ (vs 9) w := hd 9 (by decide) (by kernel_rfl); unfold isV at d9; have d13 : isV _ (vs 13) w := hd 13 (by decide) (by kernel_rfl); unfold isV at d13; clear hd; simp only [List.take, putL, Act.put, List.setIfInBounds_toArray, List.set_cons_zero, List.set_cons_succ]; unfold StepOK; go_simp; exact ⟨Below.refl _ _, isV_mk _ _⟩
  apply RunL.pure
  · intro vs w hb hd; have d7 : isV _ (vs 7) w := hd 7 (by decide) (by kernel_rfl); unfold isV at d7; have d14 : isV _ (vs 14) w := hd 14 (by decide) (by kernel_rfl); unfold isV at d14; clear hd; simp only [List.take, putL, Act.put, List.setIfInBounds_toArray, List.set_cons_zero, List.set_cons_succ]; unfold StepOK; go_simp; exact ⟨Below.refl _ _, isV_mk _ _⟩
  apply RunL.pure
  · intro vs w hb hd; have d12 := hd 12 (by decide) (by kernel_rfl); simp only [TR, Nat.reduceAdd, Nat.reduceSub, List.getD_cons_zero, List.getD_cons_succ] at d12; have d15 : isV _ (vs 15) w := hd 15 (by decide) (by kernel_rfl); unfold isV at d15; clear hd; simp only [List.take, putL, Act.put, List.setIfInBounds_toArray, List.set_cons_zero, List.set_cons_succ]; unfold StepOK; go_simp; exact ⟨Below.refl _ _, isV_mk _ _⟩
  apply RunL.pure
  · intro vs w hb hd; have d16 : isV _ (vs 16) w := hd 16 (by decide) (by kernel_rfl); unfold isV at d16; clear hd; simp only [List.take, putL, Act.put, List.setIfInBounds_toArray, List.set_cons_zero, List.set_cons_succ]; unfold StepOK; go_simp; exact ⟨Below.refl _ _, isV_mk _ _⟩
  apply RunL.pure
  · intro vs w hb hd; have d16 : isV _ (vs 16) w := hd 16 (by decide) (by kernel_rfl); unfold isV at d16; have d17 : isV _ (vs 17) w := hd 17 (by decide) (by kernel_rfl); unfold isV at d17; clear hd; have hcv := run_str (ho3.below hb); simp only [List.take, putL, Act.put, List.setIfInBounds_toArray, List.set_cons_zero, List.set_cons_succ]; unfold StepOK; go_simp; exact ⟨Below.refl _ _, isV_mk _ _⟩
  apply RunL.pure
  · intro vs w hb hd; have d16 : isV _ (vs 16) w := hd 16 (by decide) (by kernel_rfl); unfold isV at d16; clear hd; simp only [List.take, putL, Act.put, List.setIfInBounds_toArray, List.set_cons_zero, List.set_cons_succ]; unfold StepOK; go_simp; exact ⟨Below.refl _ _, isV_mk _ _⟩
  refine RunL.such (isB s3) (isB_stable _) ?_ ?_
  · intro vs w hb hd; have d16 : isV _ (vs 16) w := hd 16 (by decide) (by kernel_rfl); unfold isV at d16; have d19 : isV _ (vs 19) w := hd 19 (by decide) (by kernel_rfl); unfold isV at d19; clear hd; simp only [List.take, putL, Act.put, List.setIfInBounds_toArray, List.set_cons_zero, List.set_cons_succ]; unfold StepOK; go_simp; exact ⟨Below.refl _ _, refBlob_such _ _ _ l s3 _ (hb0.below hb) (by omega) Hs3.out⟩
  apply RunL.pure
  · intro vs w hb hd; have d16 : isV _ (vs 16) w := hd 16 (by decide) (by kernel_rfl); unfold isV at d16; have d20 := hd 20 (by decide) (by kernel_rfl); simp only [TR, Nat.reduceAdd, Nat.reduceSub, List.getD_cons_zero, List.getD_cons_succ] at d20; clear hd; obtain ⟨Aq, nq, cq, eq, hq⟩ := isB_elim d20; have hcv := run_str hq; simp only [List.take, putL, Act.put, List.setIfInBounds_toArray, List.set_cons_zero, List.set_cons_succ]; unfold StepOK; go_simp; exact ⟨Below.refl _ _, isV_mk _ _⟩
  apply RunL.pure
  · intro vs w hb hd; have d16 : isV _ (vs 16) w := hd 16 (by decide) (by kernel_rfl); unfold isV at d16; have d18 : isV _ (vs 18) w := hd 18 (by decide) (by kernel_rfl); unfold isV at d18; have d21 : isV _ (vs 21) w := hd 21 (by decide) (by kernel_rfl); unfold isV at d21; clear hd; simp only [List.take, putL, Act.put, List.setIfInBounds_toArray, List.set_cons_zero, List.set_cons_succ]; unfold StepOK; go_simp; exact ⟨Below.refl _ _, isV_mk _ _⟩
  apply RunL.pure
  · intro vs w hb hd; have d16 : isV _ (vs 16) w := hd 16 (by decide) (by kernel_rfl); unfold isV at d16; have d22 : isV _ (vs 22) w := hd 22 (by decide) (by kernel_rfl); unfold isV at d22; clear hd; simp only [List.take, putL, Act.put, List.setIfInBounds_toArray, List.set_cons_zero, List.set_cons_succ]; unfold StepOK; go_simp; exact ⟨Below.refl _ _, isV_mk _ _⟩
  apply RunL.pure
  · intro vs w hb hd; have d20 := hd 20 (by decide) (by kernel_rfl); simp only [TR, Nat.reduceAdd, Nat.reduceSub, List.getD_cons_zero, List.getD_cons_succ] at d20; have d23 : isV _ (vs 23) w := hd 23 (by decide) (by kernel_rfl); unfold isV at d23; clear hd; simp only [List.take, putL, Act.put, List.setIfInBounds_toArray, List.set_cons_zero, List.set_cons_succ]; unfold StepOK; go_simp; exact ⟨Below.refl _ _, isV_mk _ _⟩
  apply RunL.pure
  · intro vs w hb hd; have d24 : isV _ (vs 24) w := hd 24 (by decide) (by kernel_rfl); unfold isV at d24; clear hd; simp only [List.take, putL, Act.put, List.setIfInBounds_toArray, List.set_cons_zero, List.set_cons_succ]; unfold StepOK; go_simp; exact ⟨Below.refl _ _, isV_mk _ _⟩
  apply RunL.pure
  · intro vs w hb hd; have d24 : isV _ (vs 24) w := hd 24 (by decide) (by kernel_rfl); unfold isV at d24; have d25 : isV _ (vs 25) w := hd 25 (by decide) (by kernel_rfl); unfold isV at d25; clear hd; have hcv := run_str (hin.below hb); simp only [List.take, putL, Act.put, List.setIfInBounds_toArray, List.set_cons_zero, List.set_cons_succ]; unfold StepOK; go_simp; exact ⟨Below.refl _ _, isV_mk _ _⟩
  apply RunL.pure
  · intro vs w hb hd; have d24 : isV _ (vs 24) w := hd 24 (by decide) (by kernel_rfl); unfold isV at d24; clear hd; simp only [List.take, putL, Act.put, List.setIfInBounds_toArray, List.set_cons_zero, List.set_cons_succ]; unfold StepOK; go_simp; exact ⟨Below.refl _ _, isV_mk _ _⟩
  apply RunL.pure
  · intro vs w hb hd; have d24 : isV _ (vs 24) w := hd 24 (by decide) (by kernel_rfl); unfold isV at d24; have d27 : isV _ (vs 27) w := hd 27 (by decide) (by kernel_rfl); unfold isV at d27; clear hd; have hcv := run_str (hb0.below hb); simp only [List.take, putL, Act.put, List.setIfInBounds_toArray, List.set_cons_zero, List.set_cons_succ]; unfold StepOK; go_simp; exact ⟨Below.refl _ _, isV_mk _ _⟩
  apply RunL.pure
  · intro vs w hb hd; have d24 : isV _ (vs 24) w := hd 24 (by decide) (by kernel_rfl); unfold isV at d24; have d26 : isV _ (vs 26) w := hd 26 (by decide) (by kernel_rfl); unfold isV at d26; have d28 : isV _ (vs 28) w := hd 28 (by decide) (by kernel_rfl); unfold isV at d28; clear hd; simp only [List.take, putL, Act.put, List.setIfInBounds_toArray, List.set_cons_zero, List.set_cons_succ]; unfold StepOK; go_simp; exact ⟨Below.refl _ _, isV_mk _ _⟩
  apply RunL.pure
  · intro vs w hb hd; have d24 : isV _ (vs 24) w := hd 24 (by decide) (by kernel_rfl); unfold isV at d24; have d29 : isV _ (vs 29) w := hd 29 (by decide) (by kernel_rfl); unfold isV at d29; clear hd; simp only [List.take, putL, Act.put, List.setIfInBounds_toArray, List.set_cons_zero, List.set_cons_succ]; unfold StepOK; go_simp; exact ⟨Below.refl _ _, isV_mk _ _⟩
  apply RunL.pure
  · intro vs w hb hd; have d24 : isV _ (vs 24) w := hd 24 (by decide) (by kernel_rfl); unfold isV at d24; have d30 : isV _ (vs 30) w := hd 30 (by decide) (by kernel_rfl); unfold isV at d30; clear hd; simp only [List.take, putL, Act.put, List.setIfInBounds_toArray, List.set_cons_zero, List.set_cons_succ]; unfold StepOK; go_simp; exact ⟨Below.refl _ _, isV_mk _ _⟩
  refine RunL.such (isV (.bool true)) (isV_stable _) ?_ ?_
  · intro vs w hb hd; have d31 : isV _ (vs 31) w := hd 31 (by decide) (by kernel_rfl); unfold isV at d31; clear hd; simp only [List.take, putL, Act.put, List.setIfInBounds_toArray, List.set_cons_zero, List.set_cons_succ]; unfold StepOK; go_simp; exact ⟨Below.refl _ _, such_of_bool (awake_any _)⟩
  apply RunL.pure
  · intro vs w hb hd; have d31 : isV _ (vs 31) w := hd 31 (by decide) (by kernel_rfl); unfold isV at d31; have d32 := hd 32 (by decide) (by kernel_rfl); simp only [TR, Nat.reduceAdd, Nat.reduceSub, List.getD_cons_zero, List.getD_cons_succ] at d32; clear hd; unfold isV at d32; simp only [List.take, putL, Act.put, List.setIfInBounds_toArray, List.set_cons_zero, List.set_cons_succ]; unfold StepOK; go_simp; exact ⟨Below.refl _ _, isV_mk _ _⟩
  apply RunL.pure
  · intro vs w hb hd; have d0 : isV _ (vs 0) w := hd 0 (by decide) (by kernel_rfl); unfold isV at d0; have d1 : isV _ (vs 1) w := hd 1 (by decide) (by kernel_rfl); unfold isV at d1; have d2 : isV _ (vs 2) w := hd 2 (by decide) (by kernel_rfl); unfold isV at d2; have d3 : isV _ (vs 3) w := hd 3 (by decide) (by kernel_rfl); unfold isV at d3; have d4 := hd 4 (by decide) (by kernel_rfl); simp only [TR, Nat.reduceAdd, Nat.reduceSub, List.getD_cons_zero, List.getD_cons_succ] at d4; have d5 : isV _ (vs 5) w := hd 5 (by decide) (by kernel_rfl); unfold isV at d5; have d6 : isV _ (vs 6) w := hd 6 (by decide) (by kernel_rfl); unfold isV at d6; have d7 : isV _ (vs 7) w := hd 7 (by decide) (by kernel_rfl); unfold isV at d7; have d8 : isV _ (vs 8) w := hd 8 (by decide) (by kernel_rfl); unfold isV at d8; have d9 : isV _ (vs 9) w := hd 9 (by decide) (by kernel_rfl); unfold isV at d9; have d10 : isV _ (vs 10) w := hd 10 (by decide) (by kernel_rfl); unfold isV at d10; have d11 : isV _ (vs 11) w := hd 11 (by decide) (by kernel_rfl); unfold isV at d11; have d12 := hd 12 (by decide) (by kernel_rfl); simp only [TR, Nat.reduceAdd, Nat.reduceSub, List.getD_cons_zero, List.getD_cons_succ] at d12; have d13 : isV _ (vs 13) w := hd 13 (by decide) (by kernel_rfl); unfold isV at d13; have d14 : isV _ (vs 14) w := hd 14 (by decide) (by kernel_rfl); unfold isV at d14; have d15 : isV _ (vs 15) w := hd 15 (by decide) (by kernel_rfl); unfold isV at d15; have d16 : isV _ (vs 16) w := hd 16 (by decide) (by kernel_rfl); unfold isV at d16; have d17 : isV _ (vs 17) w := hd 17 (by decide) (by kernel_rfl); unfold isV at d17; have d18 : isV _ (vs 18) w := hd 18 (by decide) (by kernel_rfl); unfold isV at d18; have d19 : isV _ (vs 19) w := hd 19 (by decide) (by kernel_rfl); unfold isV at d19; have d20 := hd 20 (by decide) (by kernel_rfl); simp only [TR, Nat.reduceAdd, Nat.reduceSub, List.getD_cons_zero, List.getD_cons_succ] at d20; have d21 : isV _ (vs 21) w := hd 21 (by decide) (by kernel_rfl); unfold isV at d21; have d22 : isV _ (vs 22) w := hd 22 (by decide) (by kernel_rfl); unfold isV at d22; have d23 : isV _ (vs 23) w := hd 23 (by decide) (by kernel_rfl); unfold isV at d23; have d24 : isV _ (vs 24) w := hd 24 (by decide) (by kernel_rfl); unfold isV at d24; have d25 : isV _ (vs 25) w := hd 25 (by decide) (by kernel_rfl); unfold isV at d25; have d26 : isV _ (vs 26) w := hd 26 (by decide) (by kernel_rfl); unfold isV at d26; have d27 : isV _ (vs 27) w := hd 27 (by decide) (by kernel_rfl); unfold isV at d27; have d28 : isV _ (vs 28) w := hd 28 (by decide) (by kernel_rfl); unfold isV at d28; have d29 : isV _ (vs 29) w := hd 29 (by decide) (by kernel_rfl); unfold isV at d29; have d30 : isV _ (vs 30) w := hd 30 (by decide) (by kernel_rfl); unfold isV at d30; have d31 : isV _ (vs 31) w := hd 31 (by decide) (by kernel_rfl); unfold isV at d31; have d32 := hd 32 (by decide) (by kernel_rfl); simp only [TR, Nat.reduceAdd, Nat.reduceSub, List.getD_cons_zero, List.getD_cons_succ] at d32; have d33 : isV _ (vs 33) w := hd 33 (by decide) (by kernel_rfl); unfold isV at d33; clear hd; simp only [List.take, putL, Act.put, List.setIfInBounds_toArray, List.set_cons_zero, List.set_cons_succ]; unfold StepOK; go_simp; exact ⟨Below.refl _ _, isV_mk _ _⟩
  intro vs w1 hb hd
  have e0 : isV _ (vs 0) w1 := hd 0 (by decide)
  have e1 : isV _ (vs 1) w1 := hd 1 (by decide)
  have e2 : isV _ (vs 2) w1 := hd 2 (by decide)
  have e3 : isV _ (vs 3) w1 := hd 3 (by decide)
  have e4 := hd 4 (by decide); simp only [TR, Nat.reduceAdd, Nat.reduceSub, List.getD_cons_zero, List.getD_cons_succ] at e4
  have e5 : isV _ (vs 5) w1 := hd 5 (by decide)
  have e6 : isV _ (vs 6) w1 := hd 6 (by decide)
  have e7 : isV _ (vs 7) w1 := hd 7 (by decide)
  have e8 : isV _ (vs 8) w1 := hd 8 (by decide)
  have e9 : isV _ (vs 9) w1 := hd 9 (by decide)
  have e10 : isV _ (vs 10) w1 := hd 10 (by decide)
  have e11 : isV _ (vs 11) w1 := hd 11 (by decide)
  have e12 := hd 12 (by decide); simp only [TR, Nat.reduceAdd, Nat.reduceSub, List.getD_cons_zero, List.getD_cons_succ] at e12
  have e13 : isV _ (vs 13) w1 := hd 13 (by decide)
  have e14 : isV _ (vs 14) w1 := hd 14 (by decide)
  have e15 : isV _ (vs 15) w1 := hd 15 (by decide)
  have e16 : isV _ (vs 16) w1 := hd 16 (by decide)
  have e17 : isV _ (vs 17) w1 := hd 17 (by decide)
  have e18 : isV _ (vs 18) w1 := hd 18 (by decide)
  have e19 : isV _ (vs 19) w1 := hd 19 (by decide)
  have e20 := hd 20 (by decide); simp only [TR, Nat.reduceAdd, Nat.reduceSub, List.getD_cons_zero, List.getD_cons_succ] at e20
  have e21 : isV _ (vs 21) w1 := hd 21 (by decide)
  have e22 : isV _ (vs 22) w1 := hd 22 (by decide)
  have e23 : isV _ (vs 23) w1 := hd 23 (by decide)
  have e24 : isV _ (vs 24) w1 := hd 24 (by decide)
  have e25 : isV _ (vs 25) w1 := hd 25 (by decide)
  have e26 : isV _ (vs 26) w1 := hd 26 (by decide)
  have e27 : isV _ (vs 27) w1 := hd 27 (by decide)
  have e28 : isV _ (vs 28) w1 := hd 28 (by decide)
  have e29 : isV _ (vs 29) w1 := hd 29 (by decide)
  have e30 : isV _ (vs 30) w1 := hd 30 (by decide)
  have e31 : isV _ (vs 31) w1 := hd 31 (by decide)
  have e32 := hd 32 (by decide); simp only [TR, Nat.reduceAdd, Nat.reduceSub, List.getD_cons_zero, List.getD_cons_succ] at e32
  have e33 : isV _ (vs 33) w1 := hd 33 (by decide)
  have e34 : isV _ (vs 34) w1 := hd 34 (by decide)
  clear hd
  unfold isV at e0 e1 e2 e3 e5 e6 e7 e8 e9 e10 e11 e13 e14 e15 e16 e17 e18 e19 e21 e22 e23 e24 e25 e26 e27 e28 e29 e30 e31 e33 e34
  simp only [putL, Act.put, List.setIfInBounds_toArray, List.set_cons_zero, List.set_cons_succ, e0, e1, e2, e3, e5, e6, e7, e8, e9, e10, e11, e13, e14, e15, e16, e17, e18, e19, e21, e22, e23, e24, e25, e26, e27, e28, e29, e30, e31, e33, e34]
  clear e0 e1 e2 e3 e5 e6 e7 e8 e9 e10 e11 e13 e14 e15 e16 e17 e18 e19 e21 e22 e23 e24 e25 e26 e27 e28 e29 e30 e31 e33 e34
  --@end
  unfold isV at e32
  have hbI := hbH.trans (hb.mono hbH.size)
  clear hb hbH e4 e12 e20
  go_wp2_with fail
  go_ret
  exact ⟨rfl, hbI⟩
end Go.Proofs.Ytbnifagmbhiblaa
