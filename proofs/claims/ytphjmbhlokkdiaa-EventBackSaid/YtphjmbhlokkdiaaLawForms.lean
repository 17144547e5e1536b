import Derived.Test.YtphjmbhlokkdiaaEvD
namespace Go.Proofs.Ytphjmbhlokkdiaa
open Go.RowKit
set_option linter.unusedSimpArgs false
set_option linter.unusedVariables false

theorem uv_split {n m : Nat} {r s : List UInt8} (hn : n < 18446744073709551616) (hm : m < 18446744073709551616) (h : uv n ++ r = uv m ++ s) : n = m ∧ r = s := by
  have h1 := guL_uv r n 0 0 (by omega) (by simpa using hn) (by omega)
  have h2 := guL_uv s m 0 0 (by omega) (by simpa using hm) (by omega)
  rw [h, h2] at h1
  simp at h1
  have e : n = m := h1.1.symm
  subst e
  exact ⟨rfl, List.append_cancel_left h⟩
theorem zz_inj2 {i j : Int} (h : zz i = zz j) : i = j := by
  unfold zz at h
  split at h <;> split at h <;> omega
theorem evB_inj {e f : Ev} (he : e.ok) (hf : f.ok) (h1 : rightB e = true) (h2 : rightB f = true) (h : evB e = evB f) : (e.K : Int) = (f.K : Int) ∧ e.At = f.At ∧ e.N = f.N ∧ e.P = f.P ∧ e.A = f.A ∧ e.B = f.B ∧ e.S = f.S := by
  obtain ⟨p1, p2, p3, p4, p5, p6, p7, p8, p9⟩ := right_pos h1
  obtain ⟨q1, q2, q3, q4, q5, q6, q7, q8, q9⟩ := right_pos h2
  have hk := he.K
  have hk2 := hf.K
  unfold evB Ev.nums at h
  simp only [List.flatMap_cons, List.flatMap_nil, List.append_assoc, List.append_nil] at h
  obtain ⟨e1, h⟩ := uv_split (by omega) (by omega) h
  obtain ⟨e2, h⟩ := uv_split (by omega) (by omega) h
  obtain ⟨e3, h⟩ := uv_split (by omega) (by omega) h
  obtain ⟨e4, h⟩ := uv_split (by omega) (by omega) h
  obtain ⟨e5, h⟩ := uv_split (zz_lt2 he.A) (zz_lt2 hf.A) h
  obtain ⟨e6, h⟩ := uv_split (by omega) (by omega) h
  obtain ⟨e7, h⟩ := uv_split (by omega) (by omega) h
  exact ⟨by omega, by omega, by omega, by omega, zz_inj2 e5, by omega, h⟩
theorem evB_congr {e f : Ev} (h : (e.K : Int) = (f.K : Int) ∧ e.At = f.At ∧ e.N = f.N ∧ e.P = f.P ∧ e.A = f.A ∧ e.B = f.B ∧ e.S = f.S) : evB e = evB f := by
  obtain ⟨K, At, N, P, A, B, S⟩ := e
  obtain ⟨K', At', N', P', A', B', S'⟩ := f
  simp only at h
  obtain ⟨h1, rfl, rfl, rfl, rfl, rfl, rfl⟩ := h
  have : K = K' := by omega
  subst this
  rfl
theorem ifs7 {p1 p2 p3 p4 p5 p6 p7 : Prop} [Decidable p1] [Decidable p2] [Decidable p3] [Decidable p4] [Decidable p5] [Decidable p6] [Decidable p7] (w : World) (z : Bool) (h : z = true ↔ p1 ∧ p2 ∧ p3 ∧ p4 ∧ p5 ∧ p6 ∧ p7) :
    (if p1 then if p2 then if p3 then if p4 then if p5 then if p6 then if p7 then Result.ok (Next.value (Value.bool true)) w else Result.ok (Next.value (Value.bool false)) w else Result.ok (Next.value (Value.bool false)) w else Result.ok (Next.value (Value.bool false)) w
      else Result.ok (Next.value (Value.bool false)) w else Result.ok (Next.value (Value.bool false)) w else Result.ok (Next.value (Value.bool false)) w else Result.ok (Next.value (Value.bool false)) w) = Result.ok (Next.value (Value.bool z)) w := by
  cases z with
  | true =>
    obtain ⟨h1, h2, h3, h4, h5, h6, h7⟩ := h.1 rfl
    rw [if_pos h1, if_pos h2, if_pos h3, if_pos h4, if_pos h5, if_pos h6, if_pos h7]
  | false =>
    have hn : ¬ (p1 ∧ p2 ∧ p3 ∧ p4 ∧ p5 ∧ p6 ∧ p7) := fun hh => by have := h.2 hh; cases this
    repeat' split
    all_goals (first | rfl | (exact absurd ⟨by assumption, by assumption, by assumption, by assumption, by assumption, by assumption, by assumption⟩ hn))
theorem right_more {e : Ev} (h : rightB e = true) : rightB { e with B := 21 } = false ∧ rightB { e with At := 1099511627777 } = false ∧ rightB { e with K := e.K + 7 } = false ∧ 1 ≤ e.K ∧ e.K ≤ 7 := by
  obtain ⟨K, At, N, P, A, B, S⟩ := e
  have hk : 1 ≤ K ∧ K ≤ 7 := by
    unfold rightB kindB at h
    simp only [Bool.and_eq_true] at h
    have h1 := h.1.1
    split at h1
    all_goals (first | omega | (cases h1))
  refine ⟨?_, ?_, ?_, hk.1, hk.2⟩
  · have h7 : K = 1 ∨ K = 2 ∨ K = 3 ∨ K = 4 ∨ K = 5 ∨ K = 6 ∨ K = 7 := by omega
    rcases h7 with rfl | rfl | rfl | rfl | rfl | rfl | rfl
    all_goals simp [rightB, kindB, plainB, beginB]
    all_goals (try (intros; omega))
    all_goals (try (intros; split <;> simp))
  · simp [rightB]
  · have hkf : kindB { K := K + 7, At := At, N := N, P := P, A := A, B := B, S := S } (K + 7) = false := by
      obtain ⟨k, hk2⟩ : ∃ k, k = K + 7 := ⟨_, rfl⟩
      rw [← hk2]
      unfold kindB
      split <;> first | rfl | omega
    unfold rightB
    rw [hkf]
    rfl
theorem box_in (w : World) (e : Ev) : EvIn (w.alloc (.cells e.cells.toArray 24)) w.heap.size e := by
  intro j u hj
  have := (sl_cells w e.cells 24).cells j u hj
  obtain ⟨ad, h1, h2⟩ := this
  cases h1
  rwa [add_plain] at h2

set_option maxRecDepth 100000 in
set_option maxHeartbeats 4000000 in
theorem walk_forms (e f : Ev) (w : World) (he : e.ok) (hf : f.ok) :
    Calls Try.prog 3 #[e.v, f.v] w fun x w' => x = .returned (.bool true) ∧ Below w.heap.size w w' := by
  have hbe0 := box_in w e
  have hb0 := below_alloc1 w (.cells e.cells.toArray 24)
  have hs0 : (w.alloc (.cells e.cells.toArray 24)).heap.size = w.heap.size + 1 := by simp
  obtain ⟨Wa, hWa⟩ : ∃ Wa, Wa = w.alloc (.cells e.cells.toArray 24) := ⟨_, rfl⟩
  rw [← hWa] at hbe0 hb0 hs0
  have hbf1 := box_in Wa f
  have hb1 := below_alloc1 Wa (.cells f.cells.toArray 24)
  have hbe1 := hbe0.below hb1
  have hbA := hb0.trans (hb1.mono hb0.size)
  rw [hs0] at hbf1
  subst hWa
  clear hbe0 hb0 hb1 hs0
  have hse : (bstr e.S).size = e.S.length := rfl
  have hsf : (bstr f.S).size = f.S.length := rfl
  obtain ⟨z1, hz1⟩ : ∃ z, rightB e = z := ⟨_, rfl⟩
  obtain ⟨z2, hz2⟩ : ∃ z, rightB f = z := ⟨_, rfl⟩
  have Hz1 := Lib.hid hz1
  have Hz2 := Lib.hid hz2
  clear hz1 hz2
  have e6 := hbe1 6 _ rfl
  have f6 := hbf1 6 _ rfl
  unfold Ev.v
  unfold Ev.cells at *
  go_enter Try.func3, Try.ntmps3
  by_cases h1 : 3000 < e.S.length
  · go_wp2_with (go_at_call 15; refine (awake11_any _).mono ?_; rintro x w6 ⟨rfl, hn6⟩)
    go_ret
    exact ⟨rfl, hbA.trans (hn6.mono hbA.size)⟩
  by_cases h2 : 3000 < f.S.length
  · go_wp2_with (go_at_call 15; refine (awake11_any _).mono ?_; rintro x w6 ⟨rfl, hn6⟩)
    go_ret
    exact ⟨rfl, hbA.trans (hn6.mono hbA.size)⟩
  have e0 := hbe1 0 _ rfl
  have e1 := hbe1 1 _ rfl
  have e2 := hbe1 2 _ rfl
  have e3 := hbe1 3 _ rfl
  have e4 := hbe1 4 _ rfl
  have e5 := hbe1 5 _ rfl
  go_wp2_with fail
  generalize (w.alloc (.cells #[.int .u8 (e.K : Int), .int .i64 e.At, .int .i64 e.N, .int .i64 e.P, .int .i64 e.A, .int .i64 e.B, .string (bstr e.S)] 24)).alloc (.cells #[.int .u8 (f.K : Int), .int .i64 f.At, .int .i64 f.N, .int .i64 f.P, .int .i64 f.A, .int .i64 f.B, .string (bstr f.S)] 24) = W0 at *
  clear e0 e1 e2 e3 e4 e5 e6 f6
  refine (right_any e _ he.K).mono ?_; rintro x w1 ⟨rfl, hn1⟩
  rw [Hz1.out]
  have hbe := hbe1.below hn1
  have hbf := hbf1.below hn1
  have hbB := hbA.trans (hn1.mono hbA.size)
  clear hbe1 hbf1 hn1 hbA
  cases z1 with
  | false =>
    go_wp2_with (go_at_call 15; refine (awake11_any _).mono ?_; rintro x w6 ⟨rfl, hn6⟩)
    go_ret
    exact ⟨rfl, hbB.trans (hn6.mono hbB.size)⟩
  | true =>
    have f0 := hbf 0 _ rfl
    have f1 := hbf 1 _ rfl
    have f2 := hbf 2 _ rfl
    have f3 := hbf 3 _ rfl
    have f4 := hbf 4 _ rfl
    have f5 := hbf 5 _ rfl
    have f6 := hbf 6 _ rfl
    go_wp2_with fail
    clear f0 f1 f2 f3 f4 f5 f6
    refine (right_any f _ hf.K).mono ?_; rintro x w2 ⟨rfl, hn2⟩
    rw [Hz2.out]
    have hbe := hbe.below hn2
    have hbf := hbf.below hn2
    have hbC := hbB.trans (hn2.mono hbB.size)
    clear hn2 hbB
    cases z2 with
    | false =>
      go_wp2_with (go_at_call 15; refine (awake11_any _).mono ?_; rintro x w6 ⟨rfl, hn6⟩)
      go_ret
      exact ⟨rfl, hbC.trans (hn6.mono hbC.size)⟩
    | true =>
      have e0 := hbe 0 _ rfl
      have e1 := hbe 1 _ rfl
      have e2 := hbe 2 _ rfl
      have e3 := hbe 3 _ rfl
      have e4 := hbe 4 _ rfl
      have e5 := hbe 5 _ rfl
      have e6 := hbe 6 _ rfl
      go_wp2_with fail
      clear e0 e1 e2 e3 e4 e5 e6
      refine (evBytes_any w2.heap.size none 0 0 [] e _ (App.nil _ _ _ _) (Nat.le_refl _) (fun ad h => by cases h) (by omega) he Hz1.out).mono ?_; rintro x w3 ⟨A3, n3, c3, rfl, hto⟩
      have hn3 := hto.below (Nat.le_refl _)
      have sa := hto.app.sl
      rw [List.nil_append] at sa
      have hbe := hbe.below hn3
      have hbf := hbf.below hn3
      have hbD := hbC.trans (hn3.mono hbC.size)
      clear hto hn3 hbC
      have f0 := hbf 0 _ rfl
      have f1 := hbf 1 _ rfl
      have f2 := hbf 2 _ rfl
      have f3 := hbf 3 _ rfl
      have f4 := hbf 4 _ rfl
      have f5 := hbf 5 _ rfl
      have f6 := hbf 6 _ rfl
      go_wp2_with fail
      clear f0 f1 f2 f3 f4 f5 f6
      refine (evBytes_any w3.heap.size none 0 0 [] f _ (App.nil _ _ _ _) (Nat.le_refl _) (fun ad h => by cases h) (by omega) hf Hz2.out).mono ?_; rintro x w4 ⟨A4, n4, c4, rfl, hto⟩
      have hn4 := hto.below (Nat.le_refl _)
      have sb := hto.app.sl
      rw [List.nil_append] at sb
      have hbe := hbe.below hn4
      have hbf := hbf.below hn4
      have sa := sa.below hn4
      have hbE := hbD.trans (hn4.mono hbD.size)
      clear hto hn4 hbD
      obtain ⟨z, hz⟩ : ∃ z, (evB e == evB f) = z := ⟨_, rfl⟩
      have Hz := Lib.hid hz
      have hzz : z = true ↔ (e.K : Int) = (f.K : Int) ∧ e.At = f.At ∧ e.N = f.N ∧ e.P = f.P ∧ e.A = f.A ∧ e.B = f.B ∧ e.S = f.S := by
        rw [← hz, beq_iff_eq]
        exact ⟨evB_inj he hf Hz1.out Hz2.out, evB_congr⟩
      have Hzz := Lib.hid hzz
      clear hz hzz
      go_wp2_with fail
      --@region 3 5 forms5.spec
      refine wp_region_run (by kernel_rfl) (by kernel_rfl) ?_
      apply RunL.pure
      · intro vs w hb hd; clear hd; simp only [List.take, putL, Act.put, List.setIfInBounds_toArray, List.set_cons_zero, List.set_cons_succ]; unfold StepOK; go_simp; exact ⟨Below.refl _ _, isV_mk _ _⟩
      apply RunL.pure
      · intro vs w hb hd; clear hd; simp only [List.take, putL, Act.put, List.setIfInBounds_toArray, List.set_cons_zero, List.set_cons_succ]; unfold StepOK; go_simp; exact ⟨Below.refl _ _, isV_mk _ _⟩
      refine RunL.such (isV (.bool z)) (isV_stable _) ?_ ?_
      · intro vs w hb hd; have d0 : isV _ (vs 0) w := hd 0 (by decide) (by kernel_rfl); unfold isV at d0; have d1 : isV _ (vs 1) w := hd 1 (by decide) (by kernel_rfl); unfold isV at d1; clear hd; simp only [List.take, putL, Act.put, List.setIfInBounds_toArray, List.set_cons_zero, List.set_cons_succ]; unfold StepOK; go_simp; exact ⟨Below.refl _ _, such_of_bool (sameBytes_lit _ _ _ _ _ _ (evB e) (evB f) z _ (sa.below hb) (sb.below hb) Hz.out)⟩
      apply RunL.pure
      · intro vs w hb hd; clear hd; have hE := hbe.below hb; have c0 := hE 0 _ rfl; have c1 := hE 1 _ rfl; have c2 := hE 2 _ rfl; have c3 := hE 3 _ rfl; have c4 := hE 4 _ rfl; have c5 := hE 5 _ rfl; have c6 := hE 6 _ rfl; clear hE; simp only [List.take, putL, Act.put, List.setIfInBounds_toArray, List.set_cons_zero, List.set_cons_succ]; unfold StepOK; go_simp; exact ⟨Below.refl _ _, isV_mk _ _⟩
      apply RunL.pure
      · intro vs w hb hd; clear hd; have hE := hbf.below hb; have c0 := hE 0 _ rfl; have c1 := hE 1 _ rfl; have c2 := hE 2 _ rfl; have c3 := hE 3 _ rfl; have c4 := hE 4 _ rfl; have c5 := hE 5 _ rfl; have c6 := hE 6 _ rfl; clear hE; simp only [List.take, putL, Act.put, List.setIfInBounds_toArray, List.set_cons_zero, List.set_cons_succ]; unfold StepOK; go_simp; exact ⟨Below.refl _ _, isV_mk _ _⟩
      refine RunL.such (isV (.bool z)) (isV_stable _) ?_ ?_
      · intro vs w hb hd; have d3 : isV _ (vs 3) w := hd 3 (by decide) (by kernel_rfl); unfold isV at d3; have d4 : isV _ (vs 4) w := hd 4 (by decide) (by kernel_rfl); unfold isV at d4; clear hd; simp only [List.take, putL, Act.put, List.setIfInBounds_toArray, List.set_cons_zero, List.set_cons_succ]; unfold StepOK; go_simp; rw [ifs7 _ z Hzz.out]; exact ⟨Below.refl _ _, isV_mk _ _⟩
      apply RunL.pure
      · intro vs w hb hd; have d2 := hd 2 (by decide) (by kernel_rfl); simp only [TR, Nat.reduceAdd, Nat.reduceSub, List.getD_cons_zero, List.getD_cons_succ] at d2; have d5 := hd 5 (by decide) (by kernel_rfl); simp only [TR, Nat.reduceAdd, Nat.reduceSub, List.getD_cons_zero, List.getD_cons_succ] at d5; clear hd; unfold isV at d2 d5; simp only [List.take, putL, Act.put, List.setIfInBounds_toArray, List.set_cons_zero, List.set_cons_succ]; unfold StepOK; go_simp; exact ⟨Below.refl _ _, isV_mk _ _⟩
      intro vs w1 hb hd
      have e0 : isV _ (vs 0) w1 := hd 0 (by decide)
      have e1 : isV _ (vs 1) w1 := hd 1 (by decide)
      have e2 := hd 2 (by decide); simp only [TR, Nat.reduceAdd, Nat.reduceSub, List.getD_cons_zero, List.getD_cons_succ] at e2
      have e3 : isV _ (vs 3) w1 := hd 3 (by decide)
      have e4 : isV _ (vs 4) w1 := hd 4 (by decide)
      have e5 := hd 5 (by decide); simp only [TR, Nat.reduceAdd, Nat.reduceSub, List.getD_cons_zero, List.getD_cons_succ] at e5
      have e6 : isV _ (vs 6) w1 := hd 6 (by decide)
      clear hd
      unfold isV at e0 e1 e3 e4 e6
      simp only [putL, Act.put, List.setIfInBounds_toArray, List.set_cons_zero, List.set_cons_succ, e0, e1, e3, e4, e6]
      clear e0 e1 e3 e4 e6
      --@end
      unfold isV at e2 e5
      have hbe := hbe.below hb
      have hbF := hbE.trans (hb.mono hbE.size)
      clear hb hbE sa sb hbf e2 e5
      obtain ⟨m1, m2, m3, mk1, mk7⟩ := right_more Hz1.out
      obtain ⟨K3, hK3⟩ : ∃ K3, K3 = e.K + 7 := ⟨_, rfl⟩
      have hk7 : (e.K : Int) + 7 = (K3 : Int) := by omega
      rw [← hK3] at m3
      have hb1 := below_alloc1 w1 (.cells #[.int .u8 ((e.K : Int)), .int .i64 (e.At), .int .i64 e.N, .int .i64 e.P, .int .i64 e.A, .int .i64 (21), .string (bstr e.S)] 24)
      have hb2 := below_alloc1 (w1.alloc (.cells #[.int .u8 ((e.K : Int)), .int .i64 (e.At), .int .i64 e.N, .int .i64 e.P, .int .i64 e.A, .int .i64 (21), .string (bstr e.S)] 24)) (.cells #[.int .u8 ((e.K : Int)), .int .i64 (1099511627777), .int .i64 e.N, .int .i64 e.P, .int .i64 e.A, .int .i64 (e.B), .string (bstr e.S)] 24)
      have hb3 := below_alloc1 ((w1.alloc (.cells #[.int .u8 ((e.K : Int)), .int .i64 (e.At), .int .i64 e.N, .int .i64 e.P, .int .i64 e.A, .int .i64 (21), .string (bstr e.S)] 24)).alloc (.cells #[.int .u8 ((e.K : Int)), .int .i64 (1099511627777), .int .i64 e.N, .int .i64 e.P, .int .i64 e.A, .int .i64 (e.B), .string (bstr e.S)] 24)) (.cells #[.int .u8 ((K3 : Int)), .int .i64 (e.At), .int .i64 e.N, .int .i64 e.P, .int .i64 e.A, .int .i64 (e.B), .string (bstr e.S)] 24)
      have hx1 := hbe.below hb1
      have hx2 := hx1.below hb2
      have hbG := hbF.trans (hb1.mono hbF.size)
      have hbH := hbG.trans (hb2.mono hbG.size)
      have hbI := hbH.trans (hb3.mono hbH.size)
      have M1 := Lib.hid m1
      have M2 := Lib.hid m2
      have M3 := Lib.hid m3
      have hK3l : K3 < 256 := by omega
      clear hK3
      have e0 := hbe 0 _ rfl
      have x0 := hx1 0 _ rfl
      have y0 := hx2 0 _ rfl
      have e1 := hbe 1 _ rfl
      have x1 := hx1 1 _ rfl
      have y1 := hx2 1 _ rfl
      have e2 := hbe 2 _ rfl
      have x2 := hx1 2 _ rfl
      have y2 := hx2 2 _ rfl
      have e3 := hbe 3 _ rfl
      have x3 := hx1 3 _ rfl
      have y3 := hx2 3 _ rfl
      have e4 := hbe 4 _ rfl
      have x4 := hx1 4 _ rfl
      have y4 := hx2 4 _ rfl
      have e5 := hbe 5 _ rfl
      have x5 := hx1 5 _ rfl
      have y5 := hx2 5 _ rfl
      have e6 := hbe 6 _ rfl
      have x6 := hx1 6 _ rfl
      have y6 := hx2 6 _ rfl
      have hbl : EvIn ((w1.alloc (.cells #[.int .u8 ((e.K : Int)), .int .i64 (e.At), .int .i64 e.N, .int .i64 e.P, .int .i64 e.A, .int .i64 (21), .string (bstr e.S)] 24)).alloc (.cells #[.int .u8 ((e.K : Int)), .int .i64 (1099511627777), .int .i64 e.N, .int .i64 e.P, .int .i64 e.A, .int .i64 (e.B), .string (bstr e.S)] 24)) (w1.heap.size + 1) { e with At := 1099511627777 } := by
        have h := box_in (w1.alloc (.cells #[.int .u8 ((e.K : Int)), .int .i64 (e.At), .int .i64 e.N, .int .i64 e.P, .int .i64 e.A, .int .i64 (21), .string (bstr e.S)] 24)) { e with At := 1099511627777 }
        rw [show (w1.alloc (.cells #[.int .u8 ((e.K : Int)), .int .i64 (e.At), .int .i64 e.N, .int .i64 e.P, .int .i64 e.A, .int .i64 (21), .string (bstr e.S)] 24)).heap.size = w1.heap.size + 1 by simp] at h
        exact h
      have hbl3 := hbl.below hb3
      have hbo3 : EvIn (((w1.alloc (.cells #[.int .u8 ((e.K : Int)), .int .i64 (e.At), .int .i64 e.N, .int .i64 e.P, .int .i64 e.A, .int .i64 (21), .string (bstr e.S)] 24)).alloc (.cells #[.int .u8 ((e.K : Int)), .int .i64 (1099511627777), .int .i64 e.N, .int .i64 e.P, .int .i64 e.A, .int .i64 (e.B), .string (bstr e.S)] 24)).alloc (.cells #[.int .u8 ((K3 : Int)), .int .i64 (e.At), .int .i64 e.N, .int .i64 e.P, .int .i64 e.A, .int .i64 (e.B), .string (bstr e.S)] 24)) (w1.heap.size + 2) { e with K := K3 } := by
        have h := box_in ((w1.alloc (.cells #[.int .u8 ((e.K : Int)), .int .i64 (e.At), .int .i64 e.N, .int .i64 e.P, .int .i64 e.A, .int .i64 (21), .string (bstr e.S)] 24)).alloc (.cells #[.int .u8 ((e.K : Int)), .int .i64 (1099511627777), .int .i64 e.N, .int .i64 e.P, .int .i64 e.A, .int .i64 (e.B), .string (bstr e.S)] 24)) { e with K := K3 }
        rw [show ((w1.alloc (.cells #[.int .u8 ((e.K : Int)), .int .i64 (e.At), .int .i64 e.N, .int .i64 e.P, .int .i64 e.A, .int .i64 (21), .string (bstr e.S)] 24)).alloc (.cells #[.int .u8 ((e.K : Int)), .int .i64 (1099511627777), .int .i64 e.N, .int .i64 e.P, .int .i64 e.A, .int .i64 (e.B), .string (bstr e.S)] 24)).heap.size = w1.heap.size + 2 by simp] at h
        exact h
      clear m1 m2 m3 hx1 hx2 hbe hb1 hb2 hb3 hbF hbG hbH hbl
      go_wp2_with fail
      clear e0 e1 e2 e3 e4 e5 e6 x0 x1 x2 x3 x4 x5 x6 y0 y1 y2 y3 y4 y5 y6
      generalize (((w1.alloc (.cells #[.int .u8 ((e.K : Int)), .int .i64 (e.At), .int .i64 e.N, .int .i64 e.P, .int .i64 e.A, .int .i64 (21), .string (bstr e.S)] 24)).alloc (.cells #[.int .u8 ((e.K : Int)), .int .i64 (1099511627777), .int .i64 e.N, .int .i64 e.P, .int .i64 e.A, .int .i64 (e.B), .string (bstr e.S)] 24)).alloc (.cells #[.int .u8 ((K3 : Int)), .int .i64 (e.At), .int .i64 e.N, .int .i64 e.P, .int .i64 e.A, .int .i64 (e.B), .string (bstr e.S)] 24)) = W5 at *
      refine (right_any { e with B := 21 } _ he.K).mono ?_; rintro x w6 ⟨rfl, hn6⟩
      rw [M1.out]
      have hbl6 := hbl3.below hn6
      have hbo6 := hbo3.below hn6
      have hbJ := hbI.trans (hn6.mono hbI.size)
      clear hbl3 hbo3 hn6 hbI
      have l0 := hbl6 0 _ rfl
      have l1 := hbl6 1 _ rfl
      have l2 := hbl6 2 _ rfl
      have l3 := hbl6 3 _ rfl
      have l4 := hbl6 4 _ rfl
      have l5 := hbl6 5 _ rfl
      have l6 := hbl6 6 _ rfl
      go_wp2_with fail
      clear l0 l1 l2 l3 l4 l5 l6
      refine (right_any { e with At := 1099511627777 } _ he.K).mono ?_; rintro x w7 ⟨rfl, hn7⟩
      rw [M2.out]
      have hbo7 := hbo6.below hn7
      have hbK := hbJ.trans (hn7.mono hbJ.size)
      clear hbl6 hbo6 hn7 hbJ
      have o0 := hbo7 0 _ rfl
      have o1 := hbo7 1 _ rfl
      have o2 := hbo7 2 _ rfl
      have o3 := hbo7 3 _ rfl
      have o4 := hbo7 4 _ rfl
      have o5 := hbo7 5 _ rfl
      have o6 := hbo7 6 _ rfl
      go_wp2_with fail
      clear o0 o1 o2 o3 o4 o5 o6
      refine (right_any { e with K := K3 } _ hK3l).mono ?_; rintro x w8 ⟨rfl, hn8⟩
      rw [M3.out]
      have hbL := hbK.trans (hn8.mono hbK.size)
      clear hbo7 hn8 hbK
      go_wp2_with (go_at_call 15; refine (awake11_any _).mono ?_; rintro x w9 ⟨rfl, hn9⟩)
      go_ret
      exact ⟨rfl, hbL.trans (hn9.mono hbL.size)⟩
end Go.Proofs.Ytphjmbhlokkdiaa
