import Derived.Test.YtcidifmikcnkcaaPureRing
/- Rings: the names of the thousand queues. -/
namespace Go.Proofs.Ytcidifmikcnkcaa
open Go.RowKit Go.Maps Go.WideShapes Go.WideMaps Go.Sort
set_option linter.unusedSimpArgs false
set_option linter.unusedVariables false

def letN (t : Nat) : UInt8 := UInt8.ofNat (97 + t)
def nmN (h t u : Nat) : Nm := [113] ++ List.replicate h 120 ++ [letN t] ++ [letN u]
def nameN (i : Nat) : Nm := nmN (i / 100) (i / 10 % 10) (i % 10)
theorem slice_let (t : Nat) (ht : t < 10) (w : World) : (Instr.slice 9 (.string { data := #[97, 98, 99, 100, 101, 102, 103, 104, 105, 106] }) (some (.int .i64 (t : Int))) (some (.int .i64 ((t : Int) + 1))) none).run Try.prog w = .ok (.string (bstr [letN t])) w := by
  have h := run_slice_string (P := Try.prog) w 9 { data := #[97, 98, 99, 100, 101, 102, 103, 104, 105, 106] } .i64 .i64 (t : Int) ((t : Int) + 1) Try.underlying9 (by omega) (by omega) (by show _ ≤ ((10 : Nat) : Int); omega)
  rw [h]
  have : t = 0 ∨ t = 1 ∨ t = 2 ∨ t = 3 ∨ t = 4 ∨ t = 5 ∨ t = 6 ∨ t = 7 ∨ t = 8 ∨ t = 9 := by omega
  rcases this with rfl | rfl | rfl | rfl | rfl | rfl | rfl | rfl | rfl | rfl <;> rfl
theorem bstr_cat (a b : Nm) : bstr a ++ bstr b = bstr (a ++ b) := by
  apply ByteArray.ext
  simp [bstr]
theorem size_cat (a b : Nm) : (bstr a).size = a.length ∧ (bstr b).size = b.length := ⟨rfl, rfl⟩
theorem repL (h : Nat) : Lib.repeatL [120] h = List.replicate h 120 := by
  induction h with
  | zero => rfl
  | succ h ih =>
    rw [Lib.repeatL, ih, List.replicate_succ]
    rfl
theorem rep_any (h : Nat) (hh : h ≤ 1000) (w : World) : Calls Try.prog 11 #[.string { data := #[120] }, .int .i64 (h : Int)] w fun e w' => e = .returned (.string (bstr (List.replicate h 120))) ∧ Below w.heap.size w w' :=
  (Try.strings_Repeat { data := #[120] } h w (by omega) (by show 1 * h ≤ _; omega)).mono fun e w' ⟨h1, h2⟩ => ⟨by rw [h1, show ({ data := #[120] } : ByteArray).data.toList = [120] from rfl, repL]; rfl, h2⟩
set_option maxRecDepth 100000 in
set_option maxHeartbeats 4000000 in
theorem name_any (i : Nat) (hi : i < 1100) (W : World) :
    Calls Try.prog 19 #[.int .i64 (i : Int)] W fun e w' => e = .returned (.string (bstr (nameN i))) ∧ Below W.heap.size W w' := by
  obtain ⟨h, hh⟩ : ∃ h, h = i / 100 := ⟨_, rfl⟩
  obtain ⟨t, ht0⟩ : ∃ t, t = i / 10 % 10 := ⟨_, rfl⟩
  obtain ⟨u, hu0⟩ : ∃ u, u = i % 10 := ⟨_, rfl⟩
  obtain ⟨s, hs0⟩ : ∃ s, s = i / 10 := ⟨_, rfl⟩
  have ht : t < 10 := by omega
  have hu : u < 10 := by omega
  have hh1 : h ≤ 11 := by omega
  have hq1 : (i : Int).tdiv 100 = (h : Int) := by rw [Int.tdiv_eq_ediv_of_nonneg (by omega)]; omega
  have hq2 : (i : Int).tdiv 10 = (s : Int) := by rw [Int.tdiv_eq_ediv_of_nonneg (by omega)]; omega
  have hq3 : (s : Int).tmod 10 = (t : Int) := by rw [Int.tmod_eq_emod_of_nonneg (by omega)]; omega
  have hq4 : (i : Int).tmod 10 = (u : Int) := by rw [Int.tmod_eq_emod_of_nonneg (by omega)]; omega
  have hw1 : IntKind.i64.wrap (h : Int) = (h : Int) := by rw [IntKind.wrap_i64]; omega
  have hw2 : IntKind.i64.wrap (s : Int) = (s : Int) := by rw [IntKind.wrap_i64]; omega
  have hw3 : IntKind.i64.wrap ((t : Int) + 1) = (t : Int) + 1 := by rw [IntKind.wrap_i64]; omega
  have hw4 : IntKind.i64.wrap ((u : Int) + 1) = (u : Int) + 1 := by rw [IntKind.wrap_i64]; omega
  have hw5 : IntKind.i64.wrap (t : Int) = (t : Int) := by rw [IntKind.wrap_i64]; omega
  have hw6 : IntKind.i64.wrap (u : Int) = (u : Int) := by rw [IntKind.wrap_i64]; omega
  have HN := Lib.hid (show nameN i = nmN h t u by unfold nameN; rw [← hh, ← ht0, ← hu0])
  have HSL := Lib.hid slice_let
  obtain ⟨R, hR⟩ : ∃ R : Nm, R = List.replicate h 120 := ⟨_, rfl⟩
  have HRp := Lib.hid (show ∀ w, Calls Try.prog 11 #[.string { data := #[120] }, .int .i64 (h : Int)] w fun e w' => e = .returned (.string (bstr R)) ∧ Below w.heap.size w w' from fun w => by rw [hR]; exact rep_any h (by omega) w)
  have hRl : R.length ≤ 11 := by rw [hR, List.length_replicate]; omega
  have hRs : (bstr R).size = R.length := rfl
  obtain ⟨X1, hX1⟩ : ∃ X1 : Nm, X1 = [113] ++ R := ⟨_, rfl⟩
  obtain ⟨X2, hX2⟩ : ∃ X2 : Nm, X2 = X1 ++ [letN t] := ⟨_, rfl⟩
  obtain ⟨X3, hX3⟩ : ∃ X3 : Nm, X3 = X2 ++ [letN u] := ⟨_, rfl⟩
  have HX := Lib.hid (show nameN i = X3 by rw [HN.out, hX3, hX2, hX1, hR]; rfl)
  have l1 : X1.length = 1 + R.length := by rw [hX1]; simp; omega
  have l2 : X2.length = X1.length + 1 := by rw [hX2]; simp
  have c1 : ({ data := #[113] } : ByteArray) ++ bstr R = bstr X1 := by rw [hX1]; exact bstr_cat [113] R
  have c2 : bstr X1 ++ bstr [letN t] = bstr X2 := by rw [hX2]; exact bstr_cat _ _
  have c3 : bstr X2 ++ bstr [letN u] = bstr X3 := by rw [hX3]; exact bstr_cat _ _
  have s1 : (bstr X1).size = X1.length := rfl
  have s2 : (bstr X2).size = X2.length := rfl
  have st : (bstr [letN t]).size = 1 := rfl
  have su : (bstr [letN u]).size = 1 := rfl
  have n1 : ¬ 9223372036854775807 < 1 + R.length := by omega
  have n2 : ¬ 9223372036854775807 < X1.length + 1 := by omega
  have n3 : ¬ 9223372036854775807 < X2.length + 1 := by omega
  clear hR hX1 hX2 hX3 l1 l2
  clear hh ht0 hu0 hs0
  go_enter Try.func19, Try.ntmps19
  go_upto_region 1 with fail
  --@region 19 1 name1.spec
  refine wp_region_run (by kernel_rfl) (by kernel_rfl) ?_
  apply RunL.pure
  · intro vs w hb hd; clear hd; simp only [List.take, putL, Act.put, List.setIfInBounds_toArray, List.set_cons_zero, List.set_cons_succ]; unfold StepOK; go_simp; exact ⟨Below.refl _ _, isV_mk _ _⟩
  apply RunL.pure
  · intro vs w hb hd; have d0 : isV _ (vs 0) w := hd 0 (by decide) (by kernel_rfl); unfold isV at d0; clear hd; have hx1 := hq1; simp only [List.take, putL, Act.put, List.setIfInBounds_toArray, List.set_cons_zero, List.set_cons_succ]; unfold StepOK; go_simp; exact ⟨Below.refl _ _, isV_mk _ _⟩
  refine RunL.such (isV (.string (bstr R))) (isV_stable _) ?_ ?_
  · intro vs w hb hd; have d1 : isV _ (vs 1) w := hd 1 (by decide) (by kernel_rfl); unfold isV at d1; clear hd; simp only [List.take, putL, Act.put, List.setIfInBounds_toArray, List.set_cons_zero, List.set_cons_succ]; unfold StepOK; go_simp; exact ⟨Below.refl _ _, such_of_bool (HRp.out _)⟩
  apply RunL.pure
  · intro vs w hb hd; have d2 := hd 2 (by decide) (by kernel_rfl); simp only [TR, Nat.reduceAdd, Nat.reduceSub, List.getD_cons_zero, List.getD_cons_succ] at d2; clear hd; unfold isV at d2; simp only [List.take, putL, Act.put, List.setIfInBounds_toArray, List.set_cons_zero, List.set_cons_succ]; unfold StepOK; go_simp; exact ⟨Below.refl _ _, isV_mk _ _⟩
  apply RunL.pure
  · intro vs w hb hd; clear hd; simp only [List.take, putL, Act.put, List.setIfInBounds_toArray, List.set_cons_zero, List.set_cons_succ]; unfold StepOK; go_simp; exact ⟨Below.refl _ _, isV_mk _ _⟩
  apply RunL.pure
  · intro vs w hb hd; have d4 : isV _ (vs 4) w := hd 4 (by decide) (by kernel_rfl); unfold isV at d4; clear hd; simp only [List.take, putL, Act.put, List.setIfInBounds_toArray, List.set_cons_zero, List.set_cons_succ]; unfold StepOK; go_simp; exact ⟨Below.refl _ _, isV_mk _ _⟩
  apply RunL.pure
  · intro vs w hb hd; have d5 : isV _ (vs 5) w := hd 5 (by decide) (by kernel_rfl); unfold isV at d5; clear hd; simp only [List.take, putL, Act.put, List.setIfInBounds_toArray, List.set_cons_zero, List.set_cons_succ]; unfold StepOK; go_simp; exact ⟨Below.refl _ _, isV_mk _ _⟩
  apply RunL.pure
  · intro vs w hb hd; clear hd; simp only [List.take, putL, Act.put, List.setIfInBounds_toArray, List.set_cons_zero, List.set_cons_succ]; unfold StepOK; go_simp; exact ⟨Below.refl _ _, isV_mk _ _⟩
  apply RunL.pure
  · intro vs w hb hd; have d7 : isV _ (vs 7) w := hd 7 (by decide) (by kernel_rfl); unfold isV at d7; clear hd; simp only [List.take, putL, Act.put, List.setIfInBounds_toArray, List.set_cons_zero, List.set_cons_succ]; unfold StepOK; go_simp; exact ⟨Below.refl _ _, isV_mk _ _⟩
  apply RunL.pure
  · intro vs w hb hd; have d8 : isV _ (vs 8) w := hd 8 (by decide) (by kernel_rfl); unfold isV at d8; clear hd; simp only [List.take, putL, Act.put, List.setIfInBounds_toArray, List.set_cons_zero, List.set_cons_succ]; unfold StepOK; go_simp; exact ⟨Below.refl _ _, isV_mk _ _⟩
  apply RunL.pure
  · intro vs w hb hd; have d9 : isV _ (vs 9) w := hd 9 (by decide) (by kernel_rfl); unfold isV at d9; clear hd; simp only [List.take, putL, Act.put, List.setIfInBounds_toArray, List.set_cons_zero, List.set_cons_succ]; unfold StepOK; go_simp; exact ⟨Below.refl _ _, isV_mk _ _⟩
  apply RunL.pure
  · intro vs w hb hd; have d6 : isV _ (vs 6) w := hd 6 (by decide) (by kernel_rfl); unfold isV at d6; have d10 : isV _ (vs 10) w := hd 10 (by decide) (by kernel_rfl); unfold isV at d10; clear hd; have hx1 := HSL.out t ht w; simp only [List.take, putL, Act.put, List.setIfInBounds_toArray, List.set_cons_zero, List.set_cons_succ]; unfold StepOK; go_simp; exact ⟨Below.refl _ _, isV_mk _ _⟩
  apply RunL.pure
  · intro vs w hb hd; have d3 : isV _ (vs 3) w := hd 3 (by decide) (by kernel_rfl); unfold isV at d3; have d11 : isV _ (vs 11) w := hd 11 (by decide) (by kernel_rfl); unfold isV at d11; clear hd; simp only [List.take, putL, Act.put, List.setIfInBounds_toArray, List.set_cons_zero, List.set_cons_succ]; unfold StepOK; go_simp; exact ⟨Below.refl _ _, isV_mk _ _⟩
  apply RunL.pure
  · intro vs w hb hd; clear hd; simp only [List.take, putL, Act.put, List.setIfInBounds_toArray, List.set_cons_zero, List.set_cons_succ]; unfold StepOK; go_simp; exact ⟨Below.refl _ _, isV_mk _ _⟩
  apply RunL.pure
  · intro vs w hb hd; have d13 : isV _ (vs 13) w := hd 13 (by decide) (by kernel_rfl); unfold isV at d13; clear hd; simp only [List.take, putL, Act.put, List.setIfInBounds_toArray, List.set_cons_zero, List.set_cons_succ]; unfold StepOK; go_simp; exact ⟨Below.refl _ _, isV_mk _ _⟩
  apply RunL.pure
  · intro vs w hb hd; clear hd; simp only [List.take, putL, Act.put, List.setIfInBounds_toArray, List.set_cons_zero, List.set_cons_succ]; unfold StepOK; go_simp; exact ⟨Below.refl _ _, isV_mk _ _⟩
  apply RunL.pure
  · intro vs w hb hd; have d15 : isV _ (vs 15) w := hd 15 (by decide) (by kernel_rfl); unfold isV at d15; clear hd; simp only [List.take, putL, Act.put, List.setIfInBounds_toArray, List.set_cons_zero, List.set_cons_succ]; unfold StepOK; go_simp; exact ⟨Below.refl _ _, isV_mk _ _⟩
  apply RunL.pure
  · intro vs w hb hd; have d16 : isV _ (vs 16) w := hd 16 (by decide) (by kernel_rfl); unfold isV at d16; clear hd; simp only [List.take, putL, Act.put, List.setIfInBounds_toArray, List.set_cons_zero, List.set_cons_succ]; unfold StepOK; go_simp; exact ⟨Below.refl _ _, isV_mk _ _⟩
  apply RunL.pure
  · intro vs w hb hd; have d14 : isV _ (vs 14) w := hd 14 (by decide) (by kernel_rfl); unfold isV at d14; have d17 : isV _ (vs 17) w := hd 17 (by decide) (by kernel_rfl); unfold isV at d17; clear hd; have hx1 := HSL.out u hu w; simp only [List.take, putL, Act.put, List.setIfInBounds_toArray, List.set_cons_zero, List.set_cons_succ]; unfold StepOK; go_simp; exact ⟨Below.refl _ _, isV_mk _ _⟩
  apply RunL.pure
  · intro vs w hb hd; have d12 : isV _ (vs 12) w := hd 12 (by decide) (by kernel_rfl); unfold isV at d12; have d18 : isV _ (vs 18) w := hd 18 (by decide) (by kernel_rfl); unfold isV at d18; clear hd; simp only [List.take, putL, Act.put, List.setIfInBounds_toArray, List.set_cons_zero, List.set_cons_succ]; unfold StepOK; go_simp; exact ⟨Below.refl _ _, isV_mk _ _⟩
  apply RunL.pure
  · intro vs w hb hd; have d0 : isV _ (vs 0) w := hd 0 (by decide) (by kernel_rfl); unfold isV at d0; have d1 : isV _ (vs 1) w := hd 1 (by decide) (by kernel_rfl); unfold isV at d1; have d2 := hd 2 (by decide) (by kernel_rfl); simp only [TR, Nat.reduceAdd, Nat.reduceSub, List.getD_cons_zero, List.getD_cons_succ] at d2; have d3 : isV _ (vs 3) w := hd 3 (by decide) (by kernel_rfl); unfold isV at d3; have d4 : isV _ (vs 4) w := hd 4 (by decide) (by kernel_rfl); unfold isV at d4; have d5 : isV _ (vs 5) w := hd 5 (by decide) (by kernel_rfl); unfold isV at d5; have d6 : isV _ (vs 6) w := hd 6 (by decide) (by kernel_rfl); unfold isV at d6; have d7 : isV _ (vs 7) w := hd 7 (by decide) (by kernel_rfl); unfold isV at d7; have d8 : isV _ (vs 8) w := hd 8 (by decide) (by kernel_rfl); unfold isV at d8; have d9 : isV _ (vs 9) w := hd 9 (by decide) (by kernel_rfl); unfold isV at d9; have d10 : isV _ (vs 10) w := hd 10 (by decide) (by kernel_rfl); unfold isV at d10; have d11 : isV _ (vs 11) w := hd 11 (by decide) (by kernel_rfl); unfold isV at d11; have d12 : isV _ (vs 12) w := hd 12 (by decide) (by kernel_rfl); unfold isV at d12; have d13 : isV _ (vs 13) w := hd 13 (by decide) (by kernel_rfl); unfold isV at d13; have d14 : isV _ (vs 14) w := hd 14 (by decide) (by kernel_rfl); unfold isV at d14; have d15 : isV _ (vs 15) w := hd 15 (by decide) (by kernel_rfl); unfold isV at d15; have d16 : isV _ (vs 16) w := hd 16 (by decide) (by kernel_rfl); unfold isV at d16; have d17 : isV _ (vs 17) w := hd 17 (by decide) (by kernel_rfl); unfold isV at d17; have d18 : isV _ (vs 18) w := hd 18 (by decide) (by kernel_rfl); unfold isV at d18; have d19 : isV _ (vs 19) w := hd 19 (by decide) (by kernel_rfl); unfold isV at d19; clear hd; simp only [List.take, putL, Act.put, List.setIfInBounds_toArray, List.set_cons_zero, List.set_cons_succ]; unfold StepOK; go_simp; exact ⟨Below.refl _ _, isV_mk _ _⟩
  intro vs w1 hb hd
  have e0 : isV _ (vs 0) w1 := hd 0 (by decide)
  have e1 : isV _ (vs 1) w1 := hd 1 (by decide)
  have e2 := hd 2 (by decide); simp only [TR, Nat.reduceAdd, Nat.reduceSub, List.getD_cons_zero, List.getD_cons_succ] at e2
  have e3 : isV _ (vs 3) w1 := hd 3 (by decide)
  have e4 : isV _ (vs 4) w1 := hd 4 (by decide)
  have e5 : isV _ (vs 5) w1 := hd 5 (by decide)
  have e6 : isV _ (vs 6) w1 := hd 6 (by decide)
  have e7 : isV _ (vs 7) w1 := hd 7 (by decide)
  have e8 : isV _ (vs 8) w1 := hd 8 (by decide)
  have e9 : isV _ (vs 9) w1 := hd 9 (by decide)
  have e10 : isV _ (vs 10) w1 := hd 10 (by decide)
  have e11 : isV _ (vs 11) w1 := hd 11 (by decide)
  have e12 : isV _ (vs 12) w1 := hd 12 (by decide)
  have e13 : isV _ (vs 13) w1 := hd 13 (by decide)
  have e14 : isV _ (vs 14) w1 := hd 14 (by decide)
  have e15 : isV _ (vs 15) w1 := hd 15 (by decide)
  have e16 : isV _ (vs 16) w1 := hd 16 (by decide)
  have e17 : isV _ (vs 17) w1 := hd 17 (by decide)
  have e18 : isV _ (vs 18) w1 := hd 18 (by decide)
  have e19 : isV _ (vs 19) w1 := hd 19 (by decide)
  have e20 : isV _ (vs 20) w1 := hd 20 (by decide)
  clear hd
  unfold isV at e0 e1 e3 e4 e5 e6 e7 e8 e9 e10 e11 e12 e13 e14 e15 e16 e17 e18 e19 e20
  simp only [putL, Act.put, List.setIfInBounds_toArray, List.set_cons_zero, List.set_cons_succ, e0, e1, e3, e4, e5, e6, e7, e8, e9, e10, e11, e12, e13, e14, e15, e16, e17, e18, e19, e20]
  clear e0 e1 e3 e4 e5 e6 e7 e8 e9 e10 e11 e12 e13 e14 e15 e16 e17 e18 e19 e20
  --@end
  go_wp2_with fail
  go_ret
  rw [HX.out]
  exact ⟨rfl, hb⟩
end Go.Proofs.Ytcidifmikcnkcaa
