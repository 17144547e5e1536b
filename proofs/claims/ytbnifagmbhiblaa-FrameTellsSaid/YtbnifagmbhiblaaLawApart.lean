import Derived.Test.YtbnifagmbhiblaaFrameLaw
namespace Go.Proofs.Ytbnifagmbhiblaa
open Go.RowKit
set_option linter.unusedSimpArgs false
set_option linter.unusedVariables false

theorem such_of_bool {f : FuncId} {args : Array Value} {w : World} {v : Value} (h : Calls Try.prog f args w fun e w' => e = .returned v ∧ Below w.heap.size w w') :
    Calls Try.prog f args w fun e w' => ∃ u, e = .returned u ∧ Below w.heap.size w w' ∧ isV v u w' :=
  h.mono fun e w' ⟨h1, h2⟩ => ⟨_, h1, h2, isV_mk _ _⟩

theorem frm_apart {a b : List UInt8} (ha0 : 0 < a.length) (ha : a.length ≤ 1048576) (hb0 : 0 < b.length) (hb : b.length ≤ 1048576) (n : Nat) (h1 : (frm a).length ≤ n ∨ (frm b).length ≤ n) (h : (frm a).take n = (frm b).take n) : a = b := by
  have key : ∀ {a b : List UInt8}, 0 < a.length → a.length ≤ 1048576 → 0 < b.length → b.length ≤ 1048576 → (frm a).length ≤ n → (frm a).take n = (frm b).take n → a = b := by
    intro a b ha0 ha hb0 hb h1 h
    rw [List.take_of_length_le h1] at h
    have e1 := fg_frm [] a ((frm b).drop n) 0 rfl ha0 ha
    have e2 := fg_frm [] b [] 0 rfl hb0 hb
    rw [h] at e1
    simp only [List.nil_append, List.take_append_drop, List.append_nil] at e1 e2
    rw [e2] at e1
    simp only [Prod.mk.injEq] at e1
    exact e1.1.symm
  rcases h1 with h1 | h1
  · exact key ha0 ha hb0 hb h1 h
  · exact (key hb0 hb ha0 ha h1 h.symm).symm

set_option maxRecDepth 100000 in
set_option maxHeartbeats 1000000 in
theorem walk_apart (A B : Option Addr) (na pa nb pb : Nat) (a b : List UInt8) (w : World) (sa : Sl w 1 A na pa (bytesV a)) (sb : Sl w 1 B nb pb (bytesV b)) :
    Calls Try.prog 15 #[.slice A na pa, .slice B nb pb] w fun e w' => e = .returned (.bool true) ∧ Below w.heap.size w w' := by
  by_cases h1 : na = 0
  · subst h1
    go_enter Try.func15, Try.ntmps15
    go_wp2_with (go_at_call 47; refine (awake03_any _).mono ?_; rintro e w6 ⟨rfl, hn6⟩)
    go_ret
    exact ⟨rfl, hn6⟩
  have h1b : ((na : Int) == 0) = false := by simp; omega
  by_cases h2 : nb = 0
  · subst h2
    go_enter Try.func15, Try.ntmps15
    go_wp2_with (go_at_call 47; refine (awake03_any _).mono ?_; rintro e w6 ⟨rfl, hn6⟩)
    go_ret
    exact ⟨rfl, hn6⟩
  have h2b : ((nb : Int) == 0) = false := by simp; omega
  by_cases h3 : 500 < na
  · go_enter Try.func15, Try.ntmps15
    go_wp2_with (go_at_call 47; refine (awake03_any _).mono ?_; rintro e w6 ⟨rfl, hn6⟩)
    go_ret
    exact ⟨rfl, hn6⟩
  by_cases h4 : 500 < nb
  · go_enter Try.func15, Try.ntmps15
    go_wp2_with (go_at_call 47; refine (awake03_any _).mono ?_; rintro e w6 ⟨rfl, hn6⟩)
    go_ret
    exact ⟨rfl, hn6⟩
  have Hla := Lib.hid sa.blen
  have Hlb := Lib.hid sb.blen
  go_enter Try.func15, Try.ntmps15
  go_wp2_with fail
  refine (put_nil _ _ _ a _ sa (by omega) (by omega)).mono ?_; rintro e w1 ⟨A1, n1, c1, rfl, hax, hb1⟩
  have sb1 := sb.below hb1
  have sa1 := sa.below hb1
  clear sa sb
  go_wp2_with fail
  refine (put_nil _ _ _ b _ sb1 (by omega) (by omega)).mono ?_; rintro e w2 ⟨A2, n2, c2, rfl, hay, hb2⟩
  have sx := hax.sl.below hb2
  have sy := hay.sl
  have sa := sa1.below hb2
  have sb := sb1.below hb2
  have hbB := hb1.trans (hb2.mono hb1.size)
  clear hax hay sa1 sb1 hb1 hb2
  obtain ⟨m, hm⟩ : ∃ m, m = min n1 n2 := ⟨_, rfl⟩
  have hm1 : m ≤ n1 := by omega
  have hm2 : m ≤ n2 := by omega
  have hmi : min (n1 : Int) (n2 : Int) = (m : Int) := by omega
  have hx := sx.blen
  have hy := sy.blen
  have hxl := frm_len a
  have hyl := frm_len b
  rw [Hla.out] at hxl
  rw [Hlb.out] at hyl
  have hua := uv_pos na
  have hub := uv_pos nb
  have hm7 : ¬ (m : Int) < 7 := by omega
  have hcx := cutb_to .i64 A1 n1 c1 m m rfl (Nat.le_trans hm1 sx.le)
  have hcy := cutb_to .i64 A2 n2 c2 m m rfl (Nat.le_trans hm2 sy.le)
  have sxm := slb_to sx m hm1
  have sym := slb_to sy m hm2
  obtain ⟨z, hz1, hz2, hzz⟩ : ∃ z, ((frm a).take m == (frm b).take m) = z ∧ (a == b) = z ∧ (z == z) = true := by
    refine ⟨_, rfl, ?_, by simp⟩
    rw [Bool.eq_iff_iff, beq_iff_eq, beq_iff_eq]
    constructor
    · intro h; rw [h]
    · intro h
      exact frm_apart (by rw [Hla.out]; omega) (by rw [Hla.out]; omega) (by rw [Hlb.out]; omega) (by rw [Hlb.out]; omega) m (by omega) h
  have Hz1 := Lib.hid hz1
  have Hz2 := Lib.hid hz2
  have Hx := Lib.hid hx
  have Hxl := Lib.hid hxl
  clear hz1 hz2 hm hx hy hxl hyl sy
  go_wp2_with fail
  --@region 15 6 apart6.spec
  refine wp_region_run (by kernel_rfl) (by kernel_rfl) ?_
  apply RunL.pure
  · intro vs w hb hd; clear hd; simp only [List.take, putL, Act.put, List.setIfInBounds_toArray, List.set_cons_zero, List.set_cons_succ]; unfold StepOK; go_simp; exact ⟨Below.refl _ _, isV_mk _ _⟩
  apply RunL.pure
  · intro vs w hb hd; have d0 : isV _ (vs 0) w := hd 0 (by decide) (by kernel_rfl); unfold isV at d0; clear hd; simp only [List.take, putL, Act.put, List.setIfInBounds_toArray, List.set_cons_zero, List.set_cons_succ]; unfold StepOK; go_simp; exact ⟨Below.refl _ _, isV_mk _ _⟩
  apply RunL.pure
  · intro vs w hb hd; have d1 : isV _ (vs 1) w := hd 1 (by decide) (by kernel_rfl); unfold isV at d1; clear hd; simp only [List.take, putL, Act.put, List.setIfInBounds_toArray, List.set_cons_zero, List.set_cons_succ]; unfold StepOK; go_simp; exact ⟨Below.refl _ _, isV_mk _ _⟩
  apply RunL.pure
  · intro vs w hb hd; have d2 : isV _ (vs 2) w := hd 2 (by decide) (by kernel_rfl); unfold isV at d2; clear hd; simp only [List.take, putL, Act.put, List.setIfInBounds_toArray, List.set_cons_zero, List.set_cons_succ]; unfold StepOK; go_simp; exact ⟨Below.refl _ _, isV_mk _ _⟩
  apply RunL.pure
  · intro vs w hb hd; have d2 : isV _ (vs 2) w := hd 2 (by decide) (by kernel_rfl); unfold isV at d2; have d3 : isV _ (vs 3) w := hd 3 (by decide) (by kernel_rfl); unfold isV at d3; clear hd; simp only [List.take, putL, Act.put, List.setIfInBounds_toArray, List.set_cons_zero, List.set_cons_succ]; unfold StepOK; go_simp; exact ⟨Below.refl _ _, isV_mk _ _⟩
  apply RunL.pure
  · intro vs w hb hd; have d2 : isV _ (vs 2) w := hd 2 (by decide) (by kernel_rfl); unfold isV at d2; have d4 : isV _ (vs 4) w := hd 4 (by decide) (by kernel_rfl); unfold isV at d4; clear hd; simp only [List.take, putL, Act.put, List.setIfInBounds_toArray, List.set_cons_zero, List.set_cons_succ]; unfold StepOK; go_simp; exact ⟨Below.refl _ _, isV_mk _ _⟩
  apply RunL.pure
  · intro vs w hb hd; have d2 : isV _ (vs 2) w := hd 2 (by decide) (by kernel_rfl); unfold isV at d2; have d5 : isV _ (vs 5) w := hd 5 (by decide) (by kernel_rfl); unfold isV at d5; clear hd; simp only [List.take, putL, Act.put, List.setIfInBounds_toArray, List.set_cons_zero, List.set_cons_succ]; unfold StepOK; go_simp; exact ⟨Below.refl _ _, isV_mk _ _⟩
  apply RunL.pure
  · intro vs w hb hd; have d6 : isV _ (vs 6) w := hd 6 (by decide) (by kernel_rfl); unfold isV at d6; clear hd; simp only [List.take, putL, Act.put, List.setIfInBounds_toArray, List.set_cons_zero, List.set_cons_succ]; unfold StepOK; go_simp; exact ⟨Below.refl _ _, isV_mk _ _⟩
  apply RunL.pure
  · intro vs w hb hd; have d6 : isV _ (vs 6) w := hd 6 (by decide) (by kernel_rfl); unfold isV at d6; have d7 : isV _ (vs 7) w := hd 7 (by decide) (by kernel_rfl); unfold isV at d7; clear hd; simp only [List.take, putL, Act.put, List.setIfInBounds_toArray, List.set_cons_zero, List.set_cons_succ]; unfold StepOK; go_simp; exact ⟨Below.refl _ _, isV_mk _ _⟩
  apply RunL.pure
  · intro vs w hb hd; have d6 : isV _ (vs 6) w := hd 6 (by decide) (by kernel_rfl); unfold isV at d6; have d8 : isV _ (vs 8) w := hd 8 (by decide) (by kernel_rfl); unfold isV at d8; clear hd; simp only [List.take, putL, Act.put, List.setIfInBounds_toArray, List.set_cons_zero, List.set_cons_succ]; unfold StepOK; go_simp; exact ⟨Below.refl _ _, isV_mk _ _⟩
  apply RunL.pure
  · intro vs w hb hd; have d6 : isV _ (vs 6) w := hd 6 (by decide) (by kernel_rfl); unfold isV at d6; have d9 : isV _ (vs 9) w := hd 9 (by decide) (by kernel_rfl); unfold isV at d9; clear hd; simp only [List.take, putL, Act.put, List.setIfInBounds_toArray, List.set_cons_zero, List.set_cons_succ]; unfold StepOK; go_simp; exact ⟨Below.refl _ _, isV_mk _ _⟩
  apply RunL.pure
  · intro vs w hb hd; have d10 : isV _ (vs 10) w := hd 10 (by decide) (by kernel_rfl); unfold isV at d10; clear hd; simp only [List.take, putL, Act.put, List.setIfInBounds_toArray, List.set_cons_zero, List.set_cons_succ]; unfold StepOK; go_simp; exact ⟨Below.refl _ _, isV_mk _ _⟩
  apply RunL.pure
  · intro vs w hb hd; have d10 : isV _ (vs 10) w := hd 10 (by decide) (by kernel_rfl); unfold isV at d10; clear hd; simp only [List.take, putL, Act.put, List.setIfInBounds_toArray, List.set_cons_zero, List.set_cons_succ]; unfold StepOK; go_simp; exact ⟨Below.refl _ _, isV_mk _ _⟩
  apply RunL.pure
  · intro vs w hb hd; have d10 : isV _ (vs 10) w := hd 10 (by decide) (by kernel_rfl); unfold isV at d10; have d11 : isV _ (vs 11) w := hd 11 (by decide) (by kernel_rfl); unfold isV at d11; have d12 : isV _ (vs 12) w := hd 12 (by decide) (by kernel_rfl); unfold isV at d12; clear hd; have hq := hcx; simp only [List.take, putL, Act.put, List.setIfInBounds_toArray, List.set_cons_zero, List.set_cons_succ]; unfold StepOK; go_simp; exact ⟨Below.refl _ _, isV_mk _ _⟩
  apply RunL.pure
  · intro vs w hb hd; have d10 : isV _ (vs 10) w := hd 10 (by decide) (by kernel_rfl); unfold isV at d10; clear hd; simp only [List.take, putL, Act.put, List.setIfInBounds_toArray, List.set_cons_zero, List.set_cons_succ]; unfold StepOK; go_simp; exact ⟨Below.refl _ _, isV_mk _ _⟩
  apply RunL.pure
  · intro vs w hb hd; have d10 : isV _ (vs 10) w := hd 10 (by decide) (by kernel_rfl); unfold isV at d10; clear hd; simp only [List.take, putL, Act.put, List.setIfInBounds_toArray, List.set_cons_zero, List.set_cons_succ]; unfold StepOK; go_simp; exact ⟨Below.refl _ _, isV_mk _ _⟩
  apply RunL.pure
  · intro vs w hb hd; have d10 : isV _ (vs 10) w := hd 10 (by decide) (by kernel_rfl); unfold isV at d10; have d14 : isV _ (vs 14) w := hd 14 (by decide) (by kernel_rfl); unfold isV at d14; have d15 : isV _ (vs 15) w := hd 15 (by decide) (by kernel_rfl); unfold isV at d15; clear hd; have hq := hcy; simp only [List.take, putL, Act.put, List.setIfInBounds_toArray, List.set_cons_zero, List.set_cons_succ]; unfold StepOK; go_simp; exact ⟨Below.refl _ _, isV_mk _ _⟩
  refine RunL.such (isV (.bool z)) (isV_stable _) ?_ ?_
  · intro vs w hb hd; have d10 : isV _ (vs 10) w := hd 10 (by decide) (by kernel_rfl); unfold isV at d10; have d13 : isV _ (vs 13) w := hd 13 (by decide) (by kernel_rfl); unfold isV at d13; have d16 : isV _ (vs 16) w := hd 16 (by decide) (by kernel_rfl); unfold isV at d16; clear hd; simp only [List.take, putL, Act.put, List.setIfInBounds_toArray, List.set_cons_zero, List.set_cons_succ]; unfold StepOK; go_simp; exact ⟨Below.refl _ _, such_of_bool (sameBytes_lit _ _ _ _ _ _ _ _ z _ (sxm.below hb) (sym.below hb) Hz1.out)⟩
  apply RunL.pure
  · intro vs w hb hd; have d10 : isV _ (vs 10) w := hd 10 (by decide) (by kernel_rfl); unfold isV at d10; clear hd; simp only [List.take, putL, Act.put, List.setIfInBounds_toArray, List.set_cons_zero, List.set_cons_succ]; unfold StepOK; go_simp; exact ⟨Below.refl _ _, isV_mk _ _⟩
  apply RunL.pure
  · intro vs w hb hd; have d10 : isV _ (vs 10) w := hd 10 (by decide) (by kernel_rfl); unfold isV at d10; clear hd; simp only [List.take, putL, Act.put, List.setIfInBounds_toArray, List.set_cons_zero, List.set_cons_succ]; unfold StepOK; go_simp; exact ⟨Below.refl _ _, isV_mk _ _⟩
  refine RunL.such (isV (.bool z)) (isV_stable _) ?_ ?_
  · intro vs w hb hd; have d10 : isV _ (vs 10) w := hd 10 (by decide) (by kernel_rfl); unfold isV at d10; have d17 := hd 17 (by decide) (by kernel_rfl); simp only [TR, Nat.reduceAdd, Nat.reduceSub, List.getD_cons_zero, List.getD_cons_succ] at d17; have d18 : isV _ (vs 18) w := hd 18 (by decide) (by kernel_rfl); unfold isV at d18; have d19 : isV _ (vs 19) w := hd 19 (by decide) (by kernel_rfl); unfold isV at d19; clear hd; simp only [List.take, putL, Act.put, List.setIfInBounds_toArray, List.set_cons_zero, List.set_cons_succ]; unfold StepOK; go_simp; exact ⟨Below.refl _ _, such_of_bool (sameBytes_lit _ _ _ _ _ _ a b z _ (sa.below hb) (sb.below hb) Hz2.out)⟩
  apply RunL.pure
  · intro vs w hb hd; have d10 : isV _ (vs 10) w := hd 10 (by decide) (by kernel_rfl); unfold isV at d10; have d17 := hd 17 (by decide) (by kernel_rfl); simp only [TR, Nat.reduceAdd, Nat.reduceSub, List.getD_cons_zero, List.getD_cons_succ] at d17; have d20 := hd 20 (by decide) (by kernel_rfl); simp only [TR, Nat.reduceAdd, Nat.reduceSub, List.getD_cons_zero, List.getD_cons_succ] at d20; clear hd; unfold isV at d17 d20; simp only [List.take, putL, Act.put, List.setIfInBounds_toArray, List.set_cons_zero, List.set_cons_succ]; unfold StepOK; go_simp; exact ⟨Below.refl _ _, isV_mk _ _⟩
  apply RunL.pure
  · intro vs w hb hd; have d10 : isV _ (vs 10) w := hd 10 (by decide) (by kernel_rfl); unfold isV at d10; have d21 : isV _ (vs 21) w := hd 21 (by decide) (by kernel_rfl); unfold isV at d21; clear hd; simp only [List.take, putL, Act.put, List.setIfInBounds_toArray, List.set_cons_zero, List.set_cons_succ]; unfold StepOK; go_simp; exact ⟨Below.refl _ _, isV_mk _ _⟩
  intro vs w1 hb hd
  have e0 : isV _ (vs 0) w1 := hd 0 (by decide)
  have e1 : isV _ (vs 1) w1 := hd 1 (by decide)
  have e2 : isV _ (vs 2) w1 := hd 2 (by decide)
  have e3 : isV _ (vs 3) w1 := hd 3 (by decide)
  have e4 : isV _ (vs 4) w1 := hd 4 (by decide)
  have e5 : isV _ (vs 5) w1 := hd 5 (by decide)
  have e6 : isV _ (vs 6) w1 := hd 6 (by decide)
  have e7 : isV _ (vs 7) w1 := hd 7 (by decide)
  have e8 : isV _ (vs 8) w1 := hd 8 (by decide)
  have e9 : isV _ (vs 9) w1 := hd 9 (by decide)
  have e10 : isV _ (vs 10) w1 := hd 10 (by decide)
  have e11 : isV _ (vs 11) w1 := hd 11 (by decide)
  have e12 : isV _ (vs 12) w1 := hd 12 (by decide)
  have e13 : isV _ (vs 13) w1 := hd 13 (by decide)
  have e14 : isV _ (vs 14) w1 := hd 14 (by decide)
  have e15 : isV _ (vs 15) w1 := hd 15 (by decide)
  have e16 : isV _ (vs 16) w1 := hd 16 (by decide)
  have e17 := hd 17 (by decide); simp only [TR, Nat.reduceAdd, Nat.reduceSub, List.getD_cons_zero, List.getD_cons_succ] at e17
  have e18 : isV _ (vs 18) w1 := hd 18 (by decide)
  have e19 : isV _ (vs 19) w1 := hd 19 (by decide)
  have e20 := hd 20 (by decide); simp only [TR, Nat.reduceAdd, Nat.reduceSub, List.getD_cons_zero, List.getD_cons_succ] at e20
  have e21 : isV _ (vs 21) w1 := hd 21 (by decide)
  have e22 : isV _ (vs 22) w1 := hd 22 (by decide)
  clear hd
  unfold isV at e0 e1 e2 e3 e4 e5 e6 e7 e8 e9 e10 e11 e12 e13 e14 e15 e16 e18 e19 e21 e22
  simp only [putL, Act.put, List.setIfInBounds_toArray, List.set_cons_zero, List.set_cons_succ, e0, e1, e2, e3, e4, e5, e6, e7, e8, e9, e10, e11, e12, e13, e14, e15, e16, e18, e19, e21, e22]
  clear e0 e1 e2 e3 e4 e5 e6 e7 e8 e9 e10 e11 e12 e13 e14 e15 e16 e18 e19 e21 e22
  --@end
  unfold isV at e17 e20
  have sx := sx.below hb
  have hbC := hbB.trans (hb.mono hbB.size)
  clear e17 e20 hb hbB sa sb sxm sym hcx hcy
  obtain ⟨k, hk⟩ : ∃ k, n1 = k + 1 := ⟨n1 - 1, by have := Hx.out; have := Hxl.out; omega⟩
  have hlast : (frm a)[k]? = some 165 := by
    have : (frm a).length = k + 1 := by rw [Hx.out, hk]
    have e : frm a = (uv a.length ++ (a ++ crc4 (crc a))) ++ [165] := by simp [frm]
    have e2 : (uv a.length ++ (a ++ crc4 (crc a))).length = k := by rw [e] at this; simp at this ⊢; omega
    rw [e, ← e2]; simp
  obtain ⟨ad, rfl, hcell⟩ := sx.byteAt hlast
  have hin : (0 : Int) ≤ (k : Int) ∧ (k : Int) < (k : Int) + 1 := by omega
  clear hlast
  have hu10 := uv_len_ten na (by omega)
  have hkn : k + 1 = (uv na).length + na + 5 := by rw [← hk, ← Hx.out, Hxl.out]
  have hk1 : k ≤ 1000 := by omega
  have hwk : wrap64 (k : Int) = (k : Int) := IntWalk.wrap64_in _ (by omega)
  clear hu10
  have Hkn := Lib.hid hkn
  clear hkn
  subst hk
  by_cases h127 : 127 < na
  · have hu : (uv na).length = 2 := by
      have := uv_len_ge 1 na (by omega)
      have := uv_len_le 1 na (by omega)
      omega
    have heq : ((k : Int) + 1 == 2 + (na : Int) + 5) = true := by
      have h2 := Hkn.out
      simp; omega
    clear hu
    go_wp2_with (go_at_call 47; refine (awake03_any _).mono ?_; rintro e w6 ⟨rfl, hn6⟩)
    go_ret
    exact ⟨rfl, hbC.trans (hn6.mono hbC.size)⟩
  · have hu := uv_len_small na (by omega)
    have heq : ((k : Int) + 1 == 1 + (na : Int) + 5) = true := by
      have h2 := Hkn.out
      simp; omega
    clear hu
    go_wp2_with (go_at_call 47; refine (awake03_any _).mono ?_; rintro e w6 ⟨rfl, hn6⟩)
    go_ret
    exact ⟨rfl, hbC.trans (hn6.mono hbC.size)⟩
end Go.Proofs.Ytbnifagmbhiblaa
