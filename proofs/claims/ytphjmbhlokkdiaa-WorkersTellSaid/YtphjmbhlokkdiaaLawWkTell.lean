import Derived.Test.YtphjmbhlokkdiaaWkF
import Derived.Test.YtphjmbhlokkdiaaRegion
/- WorkersTell: the walk. -/
namespace Go.Proofs.Ytphjmbhlokkdiaa
open Go.RowKit Go.Proofs.YtphjmbhlokkdiaaW.PrintWords Go.Proofs.YtphjmbhlokkdiaaW.PrintLast Go.Proofs.YtphjmbhlokkdiaaW.PrintMore
set_option linter.unusedSimpArgs false
set_option linter.unusedVariables false

theorem same_any (A B : Option Addr) (n n2 c d : Nat) (xs : List Wk) (w : World) (h1 : Sl w 2 A n c (flatW xs)) (h2 : Sl w 2 B n2 d (flatW xs)) (hm : n ≤ 100000) :
    Calls Try.prog 37 #[.slice A n c, .slice B n2 d] w fun e w' => e = .returned (.bool true) ∧ Below w.heap.size w w' := by
  obtain rfl := slW_len h1
  obtain rfl := slW_len h2
  exact (PWorkersTell.millwheellaw19_Same.calls (xs.length + 1) A c xs B d xs true _ (c_of_slW h1 (by omega)) h1.le (c_of_slW h2 (by omega)) h2.le (wsame_f xs hm _ (by omega))).mono fun e w' ⟨e1, e2⟩ => ⟨e1, e2.below⟩
theorem rright_any (A : Option Addr) (m d : Nat) (xs : List Wk) (w : World) (hs : Sl w 2 A m d (flatW xs)) (hm : m ≤ 100000) :
    Calls Try.prog 39 #[.slice A m d] w fun e w' => e = .returned (.bool (rightW xs)) ∧ Below w.heap.size w w' := by
  obtain rfl := slW_len hs
  exact (PWorkersTell.millwheelref19_Right.calls (xs.length + 1) A d xs (rightW xs) _ (c_of_slW hs (by omega)) hs.le (rright_f xs _ (by omega))).mono fun e w' ⟨e1, e2⟩ => ⟨e1, e2.below⟩
theorem rknown_any (A : Option Addr) (m d : Nat) (xs : List Wk) (id : Int) (w : World) (hs : Sl w 2 A m d (flatW xs)) (hm : m ≤ 100000) :
    Calls Try.prog 41 #[.slice A m d, .int .i64 id] w fun e w' => e = .returned (.bool (knownW xs id)) ∧ Below w.heap.size w w' := by
  obtain rfl := slW_len hs
  exact (PWorkersTell.millwheelref19_Known.calls (xs.length + 1) A d xs id (knownW xs id) _ (c_of_slW hs (by omega)) hs.le (rknown_f xs id hm _ (by omega))).mono fun e w' ⟨e1, e2⟩ => ⟨e1, e2.below⟩
theorem rleaveW_any (A : Option Addr) (m d : Nat) (xs : List Wk) (id : Int) (w : World) (hs : Sl w 2 A m d (flatW xs)) (hm : m ≤ 100000) :
    Calls Try.prog 36 #[.slice A m d, .int .i64 id] w fun e w' => ∃ A' n' c', e = .returned (.tuple #[.slice A' n' c', .int .i64 (leaveW xs id).2]) ∧ Sl w' 2 A' n' c' (flatW (leaveW xs id).1) ∧ Below w.heap.size w w' := by
  obtain rfl := slW_len hs
  refine (PWorkersTell.millwheelref19_Leave.calls (xs.length + 1) A d xs id (leaveW xs id).1 (leaveW xs id).2 _ (c_of_slW hs (by omega)) hs.le (rleave_f xs id hm _ (by omega))).mono fun e w' ⟨v, e1, e2, e3⟩ => ?_
  obtain ⟨A', c', rfl, ho⟩ := sl_of_RW e2
  exact ⟨A', _, c', e1, ho.sl, e3⟩
def isG (l : List Int) : Value → World → Prop := fun v w => ∃ A c, v = .slice A l.length c ∧ Sl w 1 A l.length c (intsL l)
theorem isG_elim {l : List Int} {v : Value} {w : World} (h : isG l v w) : ∃ A c, v = .slice A l.length c ∧ Sl w 1 A l.length c (intsL l) := h
theorem isG_stable (l : List Int) : Stable (isG l) := fun _ _ _ hb ⟨A, c, h1, h2⟩ => ⟨A, c, h1, h2.below hb⟩
theorem gone_such (A : Option Addr) (m d : Nat) (xs : List Wk) (now most : Int) (w : World) (hs : Sl w 2 A m d (flatW xs)) (hm : m ≤ 100000) :
    Calls Try.prog 31 #[.slice A m d, .int .i64 now, .int .i64 most] w fun e w' => ∃ v, e = .returned v ∧ Below w.heap.size w w' ∧ isG (goneW xs now most) v w' :=
  (wgone_any A m d xs now most w hs (by omega)).mono fun e w' ⟨A', c', e1, e2, e3⟩ => ⟨_, e1, e3, A', c', rfl, e2⟩
theorem rgone_such (A : Option Addr) (m d : Nat) (xs : List Wk) (now most : Int) (w : World) (hs : Sl w 2 A m d (flatW xs)) (hm : m ≤ 100000) :
    Calls Try.prog 43 #[.slice A m d, .int .i64 now, .int .i64 most] w fun e w' => ∃ v, e = .returned v ∧ Below w.heap.size w w' ∧ isG (goneW xs now most) v w' := by
  obtain rfl := slW_len hs
  refine (PWorkersTell.millwheelref19_Gone.calls (3 * xs.length + 5) A d xs now most (goneW xs now most) _ (c_of_slW hs (by omega)) hs.le (rgone_f xs now most hm _ (by omega))).mono fun e w' ⟨v, e1, e2, e3⟩ => ?_
  obtain ⟨_, inner, ho, hr⟩ := e2
  have he : inner = intsL (goneW xs now most) := by
    have := reps_flat (f := fun x => [Value.int .i64 x]) (s := 1) (fun x cs hx => by obtain rfl := hx; rfl) (fun _ => rfl) hr
    rw [this, intsL]
    induction goneW xs now most with
    | nil => rfl
    | cons a r ih => simp [ih]
  subst he
  obtain ⟨A', c', rfl, h⟩ := ownsRow_sliceI ho
  exact ⟨_, e1, e3, A', c', rfl, Own.sl h⟩
theorem gone_len (xs : List Wk) (now most : Int) : (goneW xs now most).length ≤ xs.length := by
  unfold goneW goneL
  split
  · simp only [List.length_map]; exact List.length_filter_le _ _
  · simp
theorem cell_keep {w w' : World} (hb : Below w.heap.size w w') {a : Addr} {v : Value} (h : w.cell? a = some v) : w'.cell? a = some v := (World.cell?_of_block (hb.block _ (World.block_lt_of_cell? _ _ h))).trans h
theorem hn_any : True := trivial
theorem seen_len (xs : List Wk) (id now : Int) : (seenW xs id now).1.length ≤ xs.length + 1 := by
  unfold seenW
  split
  · simp
  · split
    · simp
    · split
      · simp
      · split
        · simp
        · simp; omega
theorem leave_len (xs : List Wk) (id : Int) : (leaveW xs id).1.length ≤ xs.length := by
  unfold leaveW
  split
  · split
    · exact List.length_filter_le _ _
    · simp
  · simp

set_option maxRecDepth 100000 in
set_option maxHeartbeats 8000000 in
theorem walk_wktell (A : Option Addr) (m d : Nat) (xs : List Wk) (id x0 x1 : Int) (w : World) (hs : Sl w 2 A m d (flatW xs)) (hd : d ≤ 9223372036854775807) :
    Calls Try.prog 12 #[.slice A m d, .int .i64 id, .agg #[.int .i64 x0, .int .i64 x1]] w fun e w' => e = .returned (.bool true) ∧ Below w.heap.size w w' := by
  have hl := slW_len hs
  have hle := hs.le
  obtain ⟨m7, hm7⟩ : ∃ m7, m7 = min m 70 := ⟨_, rfl⟩
  have hmin : min (m : Int) 70 = (m7 : Int) := by rw [hm7]; omega
  have hm70 : m7 ≤ 70 := by omega
  have hm7d : m7 ≤ d := by omega
  have hy := slW_take hs (k := m7) (by omega)
  obtain ⟨ys, hys⟩ : ∃ ys, ys = xs.take m7 := ⟨_, rfl⟩
  rw [← hys] at hy
  clear hl hle hm7 hys hs
  have hb0 := below_alloc1 w (.cells #[.int .i64 x0, .int .i64 x1] 69)
  have s0 := hy.below hb0
  have hbx := sl_cells w [.int .i64 x0, .int .i64 x1] 69
  clear hy
  go_enter Try.func12, Try.ntmps12
  go_wp2_with fail
  obtain ⟨W0, hW0⟩ : ∃ W0, W0 = w.alloc (.cells #[.int .i64 x0, .int .i64 x1] 69) := ⟨_, rfl⟩
  have z0 : W0.cell? ⟨w.heap.size, 0, none⟩ = some (.int .i64 x0) := by
    rw [hW0]
    obtain ⟨a, h1, h2⟩ := hbx.cells 0 _ rfl
    cases h1; exact h2
  have z1 : W0.cell? ⟨w.heap.size, 1, none⟩ = some (.int .i64 x1) := by
    rw [hW0]
    obtain ⟨a, h1, h2⟩ := hbx.cells 1 _ rfl
    cases h1; exact h2
  rw [← hW0] at s0 hb0 ⊢
  clear hW0 hbx
  refine (seenW_any A m7 d ys id x0 _ s0 (by omega)).mono ?_; rintro x w1 ⟨A7, n7, c7, rfl, s7, hb1⟩
  have s1 := s0.below hb1
  have z0 := cell_keep hb1 z0
  have z1 := cell_keep hb1 z1
  have hbA := hb0.trans (hb1.mono hb0.size)
  have hn7 := slW_len s7
  have hle7 := seen_len ys id x0
  have hly := slW_len s1
  have Hn7 := Lib.hid (show n7 ≤ 71 by omega)
  clear s0 hb0 hb1 hn7 hle7 hly
  go_wp2_with fail
  refine (rseenW_any A m7 d ys id x0 _ s1 (by omega)).mono ?_; rintro x w2 ⟨A9, n9, c9, rfl, s9, hb2⟩
  have s2 := s1.below hb2
  have s7 := s7.below hb2
  have z0 := cell_keep hb2 z0
  have z1 := cell_keep hb2 z1
  have hbB := hbA.trans (hb2.mono hbA.size)
  clear s1 hbA hb2
  go_wp2_with fail
  refine (leaveW_any A m7 d ys id _ s2 (by omega)).mono ?_; rintro x w3 ⟨A11, n11, c11, rfl, s11, hb3⟩
  have s3 := s2.below hb3
  have s7 := s7.below hb3
  have s9 := s9.below hb3
  have z0 := cell_keep hb3 z0
  have z1 := cell_keep hb3 z1
  have hbC := hbB.trans (hb3.mono hbB.size)
  have hn11 := slW_len s11
  have hle11 := leave_len ys id
  have hly := slW_len s3
  have Hn11 := Lib.hid (show n11 ≤ 70 by omega)
  clear s2 hbB hb3 hn11 hle11 hly
  go_wp2_with fail
  refine (rleaveW_any A m7 d ys id _ s3 (by omega)).mono ?_; rintro x w4 ⟨A13, n13, c13, rfl, s13, hb4⟩
  have sY := s3.below hb4
  have s7 := s7.below hb4
  have s9 := s9.below hb4
  have s11 := s11.below hb4
  have z0 := cell_keep hb4 z0
  have z1 := cell_keep hb4 z1
  have hbD := hbC.trans (hb4.mono hbC.size)
  have hly := slW_len sY
  clear s3 hbC hb4
  go_upto_region 6 with fail
  --@region 12 6 wktell6.spec
  refine wp_region_run (by kernel_rfl) (by kernel_rfl) ?_
  apply RunL.pure
  · intro vs w hb hd; clear hd; simp only [List.take, putL, Act.put, List.setIfInBounds_toArray, List.set_cons_zero, List.set_cons_succ]; unfold StepOK; go_simp; exact ⟨Below.refl _ _, isV_mk _ _⟩
  apply RunL.pure
  · intro vs w hb hd; clear hd; simp only [List.take, putL, Act.put, List.setIfInBounds_toArray, List.set_cons_zero, List.set_cons_succ]; unfold StepOK; go_simp; exact ⟨Below.refl _ _, isV_mk _ _⟩
  refine RunL.such (isV (.bool true)) (isV_stable _) ?_ ?_
  · intro vs w hb hd; have d0 : isV _ (vs 0) w := hd 0 (by decide) (by kernel_rfl); unfold isV at d0; have d1 : isV _ (vs 1) w := hd 1 (by decide) (by kernel_rfl); unfold isV at d1; clear hd; simp only [List.take, putL, Act.put, List.setIfInBounds_toArray, List.set_cons_zero, List.set_cons_succ]; unfold StepOK; go_simp; exact ⟨Below.refl _ _, such_of_bool (same_any _ _ _ _ _ _ _ _ (s7.below hb) (s9.below hb) (by have := Hn7.out; omega))⟩
  apply RunL.pure
  · intro vs w hb hd; have d2 := hd 2 (by decide) (by kernel_rfl); simp only [TR, Nat.reduceAdd, Nat.reduceSub, List.getD_cons_zero, List.getD_cons_succ] at d2; clear hd; unfold isV at d2; simp only [List.take, putL, Act.put, List.setIfInBounds_toArray, List.set_cons_zero, List.set_cons_succ]; unfold StepOK; go_simp; exact ⟨Below.refl _ _, isV_mk _ _⟩
  apply RunL.pure
  · intro vs w hb hd; have d3 : isV _ (vs 3) w := hd 3 (by decide) (by kernel_rfl); unfold isV at d3; clear hd; simp only [List.take, putL, Act.put, List.setIfInBounds_toArray, List.set_cons_zero, List.set_cons_succ]; unfold StepOK; go_simp; exact ⟨Below.refl _ _, isV_mk _ _⟩
  apply RunL.pure
  · intro vs w hb hd; have d3 : isV _ (vs 3) w := hd 3 (by decide) (by kernel_rfl); unfold isV at d3; clear hd; simp only [List.take, putL, Act.put, List.setIfInBounds_toArray, List.set_cons_zero, List.set_cons_succ]; unfold StepOK; go_simp; exact ⟨Below.refl _ _, isV_mk _ _⟩
  apply RunL.pure
  · intro vs w hb hd; have d3 : isV _ (vs 3) w := hd 3 (by decide) (by kernel_rfl); unfold isV at d3; have d4 : isV _ (vs 4) w := hd 4 (by decide) (by kernel_rfl); unfold isV at d4; have d5 : isV _ (vs 5) w := hd 5 (by decide) (by kernel_rfl); unfold isV at d5; clear hd; simp only [List.take, putL, Act.put, List.setIfInBounds_toArray, List.set_cons_zero, List.set_cons_succ]; unfold StepOK; go_simp; exact ⟨Below.refl _ _, isV_mk _ _⟩
  apply RunL.pure
  · intro vs w hb hd; have d3 : isV _ (vs 3) w := hd 3 (by decide) (by kernel_rfl); unfold isV at d3; have d6 : isV _ (vs 6) w := hd 6 (by decide) (by kernel_rfl); unfold isV at d6; clear hd; simp only [List.take, putL, Act.put, List.setIfInBounds_toArray, List.set_cons_zero, List.set_cons_succ]; unfold StepOK; go_simp; exact ⟨Below.refl _ _, isV_mk _ _⟩
  apply RunL.pure
  · intro vs w hb hd; have d3 : isV _ (vs 3) w := hd 3 (by decide) (by kernel_rfl); unfold isV at d3; have d7 : isV _ (vs 7) w := hd 7 (by decide) (by kernel_rfl); unfold isV at d7; clear hd; simp only [List.take, putL, Act.put, List.setIfInBounds_toArray, List.set_cons_zero, List.set_cons_succ]; unfold StepOK; go_simp; exact ⟨Below.refl _ _, isV_mk _ _⟩
  apply RunL.pure
  · intro vs w hb hd; have d8 : isV _ (vs 8) w := hd 8 (by decide) (by kernel_rfl); unfold isV at d8; clear hd; simp only [List.take, putL, Act.put, List.setIfInBounds_toArray, List.set_cons_zero, List.set_cons_succ]; unfold StepOK; go_simp; exact ⟨Below.refl _ _, isV_mk _ _⟩
  apply RunL.pure
  · intro vs w hb hd; have d8 : isV _ (vs 8) w := hd 8 (by decide) (by kernel_rfl); unfold isV at d8; clear hd; simp only [List.take, putL, Act.put, List.setIfInBounds_toArray, List.set_cons_zero, List.set_cons_succ]; unfold StepOK; go_simp; exact ⟨Below.refl _ _, isV_mk _ _⟩
  refine RunL.such (isV (.bool true)) (isV_stable _) ?_ ?_
  · intro vs w hb hd; have d8 : isV _ (vs 8) w := hd 8 (by decide) (by kernel_rfl); unfold isV at d8; have d9 : isV _ (vs 9) w := hd 9 (by decide) (by kernel_rfl); unfold isV at d9; have d10 : isV _ (vs 10) w := hd 10 (by decide) (by kernel_rfl); unfold isV at d10; clear hd; simp only [List.take, putL, Act.put, List.setIfInBounds_toArray, List.set_cons_zero, List.set_cons_succ]; unfold StepOK; go_simp; exact ⟨Below.refl _ _, such_of_bool (same_any _ _ _ _ _ _ _ _ (s11.below hb) (s13.below hb) (by have := Hn11.out; omega))⟩
  apply RunL.pure
  · intro vs w hb hd; have d8 : isV _ (vs 8) w := hd 8 (by decide) (by kernel_rfl); unfold isV at d8; have d11 := hd 11 (by decide) (by kernel_rfl); simp only [TR, Nat.reduceAdd, Nat.reduceSub, List.getD_cons_zero, List.getD_cons_succ] at d11; clear hd; unfold isV at d11; simp only [List.take, putL, Act.put, List.setIfInBounds_toArray, List.set_cons_zero, List.set_cons_succ]; unfold StepOK; go_simp; exact ⟨Below.refl _ _, isV_mk _ _⟩
  apply RunL.pure
  · intro vs w hb hd; have d11 := hd 11 (by decide) (by kernel_rfl); simp only [TR, Nat.reduceAdd, Nat.reduceSub, List.getD_cons_zero, List.getD_cons_succ] at d11; have d12 : isV _ (vs 12) w := hd 12 (by decide) (by kernel_rfl); unfold isV at d12; clear hd; simp only [List.take, putL, Act.put, List.setIfInBounds_toArray, List.set_cons_zero, List.set_cons_succ]; unfold StepOK; go_simp; exact ⟨Below.refl _ _, isV_mk _ _⟩
  apply RunL.pure
  · intro vs w hb hd; have d13 : isV _ (vs 13) w := hd 13 (by decide) (by kernel_rfl); unfold isV at d13; clear hd; simp only [List.take, putL, Act.put, List.setIfInBounds_toArray, List.set_cons_zero, List.set_cons_succ]; unfold StepOK; go_simp; exact ⟨Below.refl _ _, isV_mk _ _⟩
  apply RunL.pure
  · intro vs w hb hd; have d13 : isV _ (vs 13) w := hd 13 (by decide) (by kernel_rfl); unfold isV at d13; clear hd; simp only [List.take, putL, Act.put, List.setIfInBounds_toArray, List.set_cons_zero, List.set_cons_succ]; unfold StepOK; go_simp; exact ⟨Below.refl _ _, isV_mk _ _⟩
  apply RunL.pure
  · intro vs w hb hd; have d13 : isV _ (vs 13) w := hd 13 (by decide) (by kernel_rfl); unfold isV at d13; have d14 : isV _ (vs 14) w := hd 14 (by decide) (by kernel_rfl); unfold isV at d14; have d15 : isV _ (vs 15) w := hd 15 (by decide) (by kernel_rfl); unfold isV at d15; clear hd; simp only [List.take, putL, Act.put, List.setIfInBounds_toArray, List.set_cons_zero, List.set_cons_succ]; unfold StepOK; go_simp; exact ⟨Below.refl _ _, isV_mk _ _⟩
  apply RunL.pure
  · intro vs w hb hd; have d13 : isV _ (vs 13) w := hd 13 (by decide) (by kernel_rfl); unfold isV at d13; have d16 : isV _ (vs 16) w := hd 16 (by decide) (by kernel_rfl); unfold isV at d16; clear hd; simp only [List.take, putL, Act.put, List.setIfInBounds_toArray, List.set_cons_zero, List.set_cons_succ]; unfold StepOK; go_simp; exact ⟨Below.refl _ _, isV_mk _ _⟩
  apply RunL.pure
  · intro vs w hb hd; have d13 : isV _ (vs 13) w := hd 13 (by decide) (by kernel_rfl); unfold isV at d13; have d17 : isV _ (vs 17) w := hd 17 (by decide) (by kernel_rfl); unfold isV at d17; clear hd; simp only [List.take, putL, Act.put, List.setIfInBounds_toArray, List.set_cons_zero, List.set_cons_succ]; unfold StepOK; go_simp; exact ⟨Below.refl _ _, isV_mk _ _⟩
  apply RunL.pure
  · intro vs w hb hd; have d18 : isV _ (vs 18) w := hd 18 (by decide) (by kernel_rfl); unfold isV at d18; clear hd; simp only [List.take, putL, Act.put, List.setIfInBounds_toArray, List.set_cons_zero, List.set_cons_succ]; unfold StepOK; go_simp; exact ⟨Below.refl _ _, isV_mk _ _⟩
  refine RunL.such (isV (.bool (rightW ys))) (isV_stable _) ?_ ?_
  · intro vs w hb hd; have d18 : isV _ (vs 18) w := hd 18 (by decide) (by kernel_rfl); unfold isV at d18; have d19 : isV _ (vs 19) w := hd 19 (by decide) (by kernel_rfl); unfold isV at d19; clear hd; simp only [List.take, putL, Act.put, List.setIfInBounds_toArray, List.set_cons_zero, List.set_cons_succ]; unfold StepOK; go_simp; exact ⟨Below.refl _ _, such_of_bool (wright_any _ _ _ ys _ (sY.below hb) (by omega))⟩
  apply RunL.pure
  · intro vs w hb hd; have d18 : isV _ (vs 18) w := hd 18 (by decide) (by kernel_rfl); unfold isV at d18; clear hd; simp only [List.take, putL, Act.put, List.setIfInBounds_toArray, List.set_cons_zero, List.set_cons_succ]; unfold StepOK; go_simp; exact ⟨Below.refl _ _, isV_mk _ _⟩
  refine RunL.such (isV (.bool (rightW ys))) (isV_stable _) ?_ ?_
  · intro vs w hb hd; have d18 : isV _ (vs 18) w := hd 18 (by decide) (by kernel_rfl); unfold isV at d18; have d20 := hd 20 (by decide) (by kernel_rfl); simp only [TR, Nat.reduceAdd, Nat.reduceSub, List.getD_cons_zero, List.getD_cons_succ] at d20; have d21 : isV _ (vs 21) w := hd 21 (by decide) (by kernel_rfl); unfold isV at d21; clear hd; simp only [List.take, putL, Act.put, List.setIfInBounds_toArray, List.set_cons_zero, List.set_cons_succ]; unfold StepOK; go_simp; exact ⟨Below.refl _ _, such_of_bool (rright_any _ _ _ ys _ (sY.below hb) (by omega))⟩
  apply RunL.pure
  · intro vs w hb hd; have d18 : isV _ (vs 18) w := hd 18 (by decide) (by kernel_rfl); unfold isV at d18; have d20 := hd 20 (by decide) (by kernel_rfl); simp only [TR, Nat.reduceAdd, Nat.reduceSub, List.getD_cons_zero, List.getD_cons_succ] at d20; have d22 := hd 22 (by decide) (by kernel_rfl); simp only [TR, Nat.reduceAdd, Nat.reduceSub, List.getD_cons_zero, List.getD_cons_succ] at d22; clear hd; unfold isV at d20 d22; simp only [List.take, putL, Act.put, List.setIfInBounds_toArray, List.set_cons_zero, List.set_cons_succ]; unfold StepOK; go_simp; exact ⟨Below.refl _ _, isV_mk _ _⟩
  apply RunL.pure
  · intro vs w hb hd; have d18 : isV _ (vs 18) w := hd 18 (by decide) (by kernel_rfl); unfold isV at d18; have d23 : isV _ (vs 23) w := hd 23 (by decide) (by kernel_rfl); unfold isV at d23; clear hd; simp only [List.take, putL, Act.put, List.setIfInBounds_toArray, List.set_cons_zero, List.set_cons_succ]; unfold StepOK; go_simp; exact ⟨Below.refl _ _, isV_mk _ _⟩
  apply RunL.pure
  · intro vs w hb hd; have d22 := hd 22 (by decide) (by kernel_rfl); simp only [TR, Nat.reduceAdd, Nat.reduceSub, List.getD_cons_zero, List.getD_cons_succ] at d22; have d24 : isV _ (vs 24) w := hd 24 (by decide) (by kernel_rfl); unfold isV at d24; clear hd; simp only [List.take, putL, Act.put, List.setIfInBounds_toArray, List.set_cons_zero, List.set_cons_succ]; unfold StepOK; go_simp; exact ⟨Below.refl _ _, isV_mk _ _⟩
  apply RunL.pure
  · intro vs w hb hd; have d25 : isV _ (vs 25) w := hd 25 (by decide) (by kernel_rfl); unfold isV at d25; clear hd; simp only [List.take, putL, Act.put, List.setIfInBounds_toArray, List.set_cons_zero, List.set_cons_succ]; unfold StepOK; go_simp; exact ⟨Below.refl _ _, isV_mk _ _⟩
  apply RunL.pure
  · intro vs w hb hd; have d25 : isV _ (vs 25) w := hd 25 (by decide) (by kernel_rfl); unfold isV at d25; clear hd; simp only [List.take, putL, Act.put, List.setIfInBounds_toArray, List.set_cons_zero, List.set_cons_succ]; unfold StepOK; go_simp; exact ⟨Below.refl _ _, isV_mk _ _⟩
  refine RunL.such (isV (.bool (knownW ys id))) (isV_stable _) ?_ ?_
  · intro vs w hb hd; have d25 : isV _ (vs 25) w := hd 25 (by decide) (by kernel_rfl); unfold isV at d25; have d26 : isV _ (vs 26) w := hd 26 (by decide) (by kernel_rfl); unfold isV at d26; have d27 : isV _ (vs 27) w := hd 27 (by decide) (by kernel_rfl); unfold isV at d27; clear hd; simp only [List.take, putL, Act.put, List.setIfInBounds_toArray, List.set_cons_zero, List.set_cons_succ]; unfold StepOK; go_simp; exact ⟨Below.refl _ _, such_of_bool (knownW_any _ _ _ ys id _ (sY.below hb) (by omega))⟩
  apply RunL.pure
  · intro vs w hb hd; have d25 : isV _ (vs 25) w := hd 25 (by decide) (by kernel_rfl); unfold isV at d25; clear hd; simp only [List.take, putL, Act.put, List.setIfInBounds_toArray, List.set_cons_zero, List.set_cons_succ]; unfold StepOK; go_simp; exact ⟨Below.refl _ _, isV_mk _ _⟩
  apply RunL.pure
  · intro vs w hb hd; have d25 : isV _ (vs 25) w := hd 25 (by decide) (by kernel_rfl); unfold isV at d25; clear hd; simp only [List.take, putL, Act.put, List.setIfInBounds_toArray, List.set_cons_zero, List.set_cons_succ]; unfold StepOK; go_simp; exact ⟨Below.refl _ _, isV_mk _ _⟩
  refine RunL.such (isV (.bool (knownW ys id))) (isV_stable _) ?_ ?_
  · intro vs w hb hd; have d25 : isV _ (vs 25) w := hd 25 (by decide) (by kernel_rfl); unfold isV at d25; have d28 := hd 28 (by decide) (by kernel_rfl); simp only [TR, Nat.reduceAdd, Nat.reduceSub, List.getD_cons_zero, List.getD_cons_succ] at d28; have d29 : isV _ (vs 29) w := hd 29 (by decide) (by kernel_rfl); unfold isV at d29; have d30 : isV _ (vs 30) w := hd 30 (by decide) (by kernel_rfl); unfold isV at d30; clear hd; simp only [List.take, putL, Act.put, List.setIfInBounds_toArray, List.set_cons_zero, List.set_cons_succ]; unfold StepOK; go_simp; exact ⟨Below.refl _ _, such_of_bool (rknown_any _ _ _ ys id _ (sY.below hb) (by omega))⟩
  apply RunL.pure
  · intro vs w hb hd; have d25 : isV _ (vs 25) w := hd 25 (by decide) (by kernel_rfl); unfold isV at d25; have d28 := hd 28 (by decide) (by kernel_rfl); simp only [TR, Nat.reduceAdd, Nat.reduceSub, List.getD_cons_zero, List.getD_cons_succ] at d28; have d31 := hd 31 (by decide) (by kernel_rfl); simp only [TR, Nat.reduceAdd, Nat.reduceSub, List.getD_cons_zero, List.getD_cons_succ] at d31; clear hd; unfold isV at d28 d31; simp only [List.take, putL, Act.put, List.setIfInBounds_toArray, List.set_cons_zero, List.set_cons_succ]; unfold StepOK; go_simp; exact ⟨Below.refl _ _, isV_mk _ _⟩
  apply RunL.pure
  · intro vs w hb hd; have d25 : isV _ (vs 25) w := hd 25 (by decide) (by kernel_rfl); unfold isV at d25; have d32 : isV _ (vs 32) w := hd 32 (by decide) (by kernel_rfl); unfold isV at d32; clear hd; simp only [List.take, putL, Act.put, List.setIfInBounds_toArray, List.set_cons_zero, List.set_cons_succ]; unfold StepOK; go_simp; exact ⟨Below.refl _ _, isV_mk _ _⟩
  apply RunL.pure
  · intro vs w hb hd; have d31 := hd 31 (by decide) (by kernel_rfl); simp only [TR, Nat.reduceAdd, Nat.reduceSub, List.getD_cons_zero, List.getD_cons_succ] at d31; have d33 : isV _ (vs 33) w := hd 33 (by decide) (by kernel_rfl); unfold isV at d33; clear hd; simp only [List.take, putL, Act.put, List.setIfInBounds_toArray, List.set_cons_zero, List.set_cons_succ]; unfold StepOK; go_simp; exact ⟨Below.refl _ _, isV_mk _ _⟩
  apply RunL.pure
  · intro vs w hb hd; have d34 : isV _ (vs 34) w := hd 34 (by decide) (by kernel_rfl); unfold isV at d34; clear hd; simp only [List.take, putL, Act.put, List.setIfInBounds_toArray, List.set_cons_zero, List.set_cons_succ]; unfold StepOK; go_simp; exact ⟨Below.refl _ _, isV_mk _ _⟩
  apply RunL.pure
  · intro vs w hb hd; have d34 : isV _ (vs 34) w := hd 34 (by decide) (by kernel_rfl); unfold isV at d34; clear hd; simp only [List.take, putL, Act.put, List.setIfInBounds_toArray, List.set_cons_zero, List.set_cons_succ]; unfold StepOK; go_simp; exact ⟨Below.refl _ _, isV_mk _ _⟩
  apply RunL.pure
  · intro vs w hb hd; have d34 : isV _ (vs 34) w := hd 34 (by decide) (by kernel_rfl); unfold isV at d34; have d36 : isV _ (vs 36) w := hd 36 (by decide) (by kernel_rfl); unfold isV at d36; clear hd; have k0 := cell_keep hb z0; simp only [List.take, putL, Act.put, List.setIfInBounds_toArray, List.set_cons_zero, List.set_cons_succ]; unfold StepOK; go_simp; exact ⟨Below.refl _ _, isV_mk _ _⟩
  apply RunL.pure
  · intro vs w hb hd; have d34 : isV _ (vs 34) w := hd 34 (by decide) (by kernel_rfl); unfold isV at d34; clear hd; simp only [List.take, putL, Act.put, List.setIfInBounds_toArray, List.set_cons_zero, List.set_cons_succ]; unfold StepOK; go_simp; exact ⟨Below.refl _ _, isV_mk _ _⟩
  apply RunL.pure
  · intro vs w hb hd; have d34 : isV _ (vs 34) w := hd 34 (by decide) (by kernel_rfl); unfold isV at d34; have d38 : isV _ (vs 38) w := hd 38 (by decide) (by kernel_rfl); unfold isV at d38; clear hd; have k0 := cell_keep hb z1; simp only [List.take, putL, Act.put, List.setIfInBounds_toArray, List.set_cons_zero, List.set_cons_succ]; unfold StepOK; go_simp; exact ⟨Below.refl _ _, isV_mk _ _⟩
  refine RunL.such (isG (goneW ys x0 x1)) (isG_stable _) ?_ ?_
  · intro vs w hb hd; have d34 : isV _ (vs 34) w := hd 34 (by decide) (by kernel_rfl); unfold isV at d34; have d35 : isV _ (vs 35) w := hd 35 (by decide) (by kernel_rfl); unfold isV at d35; have d37 : isV _ (vs 37) w := hd 37 (by decide) (by kernel_rfl); unfold isV at d37; have d39 : isV _ (vs 39) w := hd 39 (by decide) (by kernel_rfl); unfold isV at d39; clear hd; simp only [List.take, putL, Act.put, List.setIfInBounds_toArray, List.set_cons_zero, List.set_cons_succ]; unfold StepOK; go_simp; exact ⟨Below.refl _ _, gone_such _ _ _ _ _ _ _ (sY.below hb) (by omega)⟩
  apply RunL.pure
  · intro vs w hb hd; have d34 : isV _ (vs 34) w := hd 34 (by decide) (by kernel_rfl); unfold isV at d34; clear hd; simp only [List.take, putL, Act.put, List.setIfInBounds_toArray, List.set_cons_zero, List.set_cons_succ]; unfold StepOK; go_simp; exact ⟨Below.refl _ _, isV_mk _ _⟩
  apply RunL.pure
  · intro vs w hb hd; have d34 : isV _ (vs 34) w := hd 34 (by decide) (by kernel_rfl); unfold isV at d34; clear hd; simp only [List.take, putL, Act.put, List.setIfInBounds_toArray, List.set_cons_zero, List.set_cons_succ]; unfold StepOK; go_simp; exact ⟨Below.refl _ _, isV_mk _ _⟩
  apply RunL.pure
  · intro vs w hb hd; have d34 : isV _ (vs 34) w := hd 34 (by decide) (by kernel_rfl); unfold isV at d34; have d42 : isV _ (vs 42) w := hd 42 (by decide) (by kernel_rfl); unfold isV at d42; clear hd; have k0 := cell_keep hb z0; simp only [List.take, putL, Act.put, List.setIfInBounds_toArray, List.set_cons_zero, List.set_cons_succ]; unfold StepOK; go_simp; exact ⟨Below.refl _ _, isV_mk _ _⟩
  apply RunL.pure
  · intro vs w hb hd; have d34 : isV _ (vs 34) w := hd 34 (by decide) (by kernel_rfl); unfold isV at d34; clear hd; simp only [List.take, putL, Act.put, List.setIfInBounds_toArray, List.set_cons_zero, List.set_cons_succ]; unfold StepOK; go_simp; exact ⟨Below.refl _ _, isV_mk _ _⟩
  apply RunL.pure
  · intro vs w hb hd; have d34 : isV _ (vs 34) w := hd 34 (by decide) (by kernel_rfl); unfold isV at d34; have d44 : isV _ (vs 44) w := hd 44 (by decide) (by kernel_rfl); unfold isV at d44; clear hd; have k0 := cell_keep hb z1; simp only [List.take, putL, Act.put, List.setIfInBounds_toArray, List.set_cons_zero, List.set_cons_succ]; unfold StepOK; go_simp; exact ⟨Below.refl _ _, isV_mk _ _⟩
  refine RunL.such (isG (goneW ys x0 x1)) (isG_stable _) ?_ ?_
  · intro vs w hb hd; have d34 : isV _ (vs 34) w := hd 34 (by decide) (by kernel_rfl); unfold isV at d34; have d40 := hd 40 (by decide) (by kernel_rfl); simp only [TR, Nat.reduceAdd, Nat.reduceSub, List.getD_cons_zero, List.getD_cons_succ] at d40; have d41 : isV _ (vs 41) w := hd 41 (by decide) (by kernel_rfl); unfold isV at d41; have d43 : isV _ (vs 43) w := hd 43 (by decide) (by kernel_rfl); unfold isV at d43; have d45 : isV _ (vs 45) w := hd 45 (by decide) (by kernel_rfl); unfold isV at d45; clear hd; simp only [List.take, putL, Act.put, List.setIfInBounds_toArray, List.set_cons_zero, List.set_cons_succ]; unfold StepOK; go_simp; exact ⟨Below.refl _ _, rgone_such _ _ _ _ _ _ _ (sY.below hb) (by omega)⟩
  refine RunL.such (isV (.bool true)) (isV_stable _) ?_ ?_
  · intro vs w hb hd; have d34 : isV _ (vs 34) w := hd 34 (by decide) (by kernel_rfl); unfold isV at d34; have d40 := hd 40 (by decide) (by kernel_rfl); simp only [TR, Nat.reduceAdd, Nat.reduceSub, List.getD_cons_zero, List.getD_cons_succ] at d40; have d46 := hd 46 (by decide) (by kernel_rfl); simp only [TR, Nat.reduceAdd, Nat.reduceSub, List.getD_cons_zero, List.getD_cons_succ] at d46; clear hd; obtain ⟨Aq, cq, eq, hq⟩ := isG_elim d40; obtain ⟨Ar, cr, er, hr⟩ := isG_elim d46; simp only [List.take, putL, Act.put, List.setIfInBounds_toArray, List.set_cons_zero, List.set_cons_succ]; unfold StepOK; go_simp; exact ⟨Below.refl _ _, such_of_bool (kints_any _ _ _ _ _ _ _ hq hr (by have := gone_len ys x0 x1; omega))⟩
  apply RunL.pure
  · intro vs w hb hd; have d34 : isV _ (vs 34) w := hd 34 (by decide) (by kernel_rfl); unfold isV at d34; have d47 := hd 47 (by decide) (by kernel_rfl); simp only [TR, Nat.reduceAdd, Nat.reduceSub, List.getD_cons_zero, List.getD_cons_succ] at d47; clear hd; unfold isV at d47; simp only [List.take, putL, Act.put, List.setIfInBounds_toArray, List.set_cons_zero, List.set_cons_succ]; unfold StepOK; go_simp; exact ⟨Below.refl _ _, isV_mk _ _⟩
  apply RunL.pure
  · intro vs w hb hd; have d47 := hd 47 (by decide) (by kernel_rfl); simp only [TR, Nat.reduceAdd, Nat.reduceSub, List.getD_cons_zero, List.getD_cons_succ] at d47; have d48 : isV _ (vs 48) w := hd 48 (by decide) (by kernel_rfl); unfold isV at d48; clear hd; simp only [List.take, putL, Act.put, List.setIfInBounds_toArray, List.set_cons_zero, List.set_cons_succ]; unfold StepOK; go_simp; exact ⟨Below.refl _ _, isV_mk _ _⟩
  refine RunL.such (isV (.bool true)) (isV_stable _) ?_ ?_
  · intro vs w hb hd; have d49 : isV _ (vs 49) w := hd 49 (by decide) (by kernel_rfl); unfold isV at d49; clear hd; simp only [List.take, putL, Act.put, List.setIfInBounds_toArray, List.set_cons_zero, List.set_cons_succ]; unfold StepOK; go_simp; exact ⟨Below.refl _ _, such_of_bool (awake19_any _)⟩
  apply RunL.pure
  · intro vs w hb hd; have d49 : isV _ (vs 49) w := hd 49 (by decide) (by kernel_rfl); unfold isV at d49; have d50 := hd 50 (by decide) (by kernel_rfl); simp only [TR, Nat.reduceAdd, Nat.reduceSub, List.getD_cons_zero, List.getD_cons_succ] at d50; clear hd; unfold isV at d50; simp only [List.take, putL, Act.put, List.setIfInBounds_toArray, List.set_cons_zero, List.set_cons_succ]; unfold StepOK; go_simp; exact ⟨Below.refl _ _, isV_mk _ _⟩
  apply RunL.pure
  · intro vs w hb hd; have d0 : isV _ (vs 0) w := hd 0 (by decide) (by kernel_rfl); unfold isV at d0; have d1 : isV _ (vs 1) w := hd 1 (by decide) (by kernel_rfl); unfold isV at d1; have d2 := hd 2 (by decide) (by kernel_rfl); simp only [TR, Nat.reduceAdd, Nat.reduceSub, List.getD_cons_zero, List.getD_cons_succ] at d2; have d3 : isV _ (vs 3) w := hd 3 (by decide) (by kernel_rfl); unfold isV at d3; have d4 : isV _ (vs 4) w := hd 4 (by decide) (by kernel_rfl); unfold isV at d4; have d5 : isV _ (vs 5) w := hd 5 (by decide) (by kernel_rfl); unfold isV at d5; have d6 : isV _ (vs 6) w := hd 6 (by decide) (by kernel_rfl); unfold isV at d6; have d7 : isV _ (vs 7) w := hd 7 (by decide) (by kernel_rfl); unfold isV at d7; have d8 : isV _ (vs 8) w := hd 8 (by decide) (by kernel_rfl); unfold isV at d8; have d9 : isV _ (vs 9) w := hd 9 (by decide) (by kernel_rfl); unfold isV at d9; have d10 : isV _ (vs 10) w := hd 10 (by decide) (by kernel_rfl); unfold isV at d10; have d11 := hd 11 (by decide) (by kernel_rfl); simp only [TR, Nat.reduceAdd, Nat.reduceSub, List.getD_cons_zero, List.getD_cons_succ] at d11; have d12 : isV _ (vs 12) w := hd 12 (by decide) (by kernel_rfl); unfold isV at d12; have d13 : isV _ (vs 13) w := hd 13 (by decide) (by kernel_rfl); unfold isV at d13; have d14 : isV _ (vs 14) w := hd 14 (by decide) (by kernel_rfl); unfold isV at d14; have d15 : isV _ (vs 15) w := hd 15 (by decide) (by kernel_rfl); unfold isV at d15; have d16 : isV _ (vs 16) w := hd 16 (by decide) (by kernel_rfl); unfold isV at d16; have d17 : isV _ (vs 17) w := hd 17 (by decide) (by kernel_rfl); unfold isV at d17; have d18 : isV _ (vs 18) w := hd 18 (by decide) (by kernel_rfl); unfold isV at d18; have d19 : isV _ (vs 19) w := hd 19 (by decide) (by kernel_rfl); unfold isV at d19; have d20 := hd 20 (by decide) (by kernel_rfl); simp only [TR, Nat.reduceAdd, Nat.reduceSub, List.getD_cons_zero, List.getD_cons_succ] at d20; have d21 : isV _ (vs 21) w := hd 21 (by decide) (by kernel_rfl); unfold isV at d21; have d22 := hd 22 (by decide) (by kernel_rfl); simp only [TR, Nat.reduceAdd, Nat.reduceSub, List.getD_cons_zero, List.getD_cons_succ] at d22; have d23 : isV _ (vs 23) w := hd 23 (by decide) (by kernel_rfl); unfold isV at d23; have d24 : isV _ (vs 24) w := hd 24 (by decide) (by kernel_rfl); unfold isV at d24; have d25 : isV _ (vs 25) w := hd 25 (by decide) (by kernel_rfl); unfold isV at d25; have d26 : isV _ (vs 26) w := hd 26 (by decide) (by kernel_rfl); unfold isV at d26; have d27 : isV _ (vs 27) w := hd 27 (by decide) (by kernel_rfl); unfold isV at d27; have d28 := hd 28 (by decide) (by kernel_rfl); simp only [TR, Nat.reduceAdd, Nat.reduceSub, List.getD_cons_zero, List.getD_cons_succ] at d28; have d29 : isV _ (vs 29) w := hd 29 (by decide) (by kernel_rfl); unfold isV at d29; have d30 : isV _ (vs 30) w := hd 30 (by decide) (by kernel_rfl); unfold isV at d30; have d31 := hd 31 (by decide) (by kernel_rfl); simp only [TR, Nat.reduceAdd, Nat.reduceSub, List.getD_cons_zero, List.getD_cons_succ] at d31; have d32 : isV _ (vs 32) w := hd 32 (by decide) (by kernel_rfl); unfold isV at d32; have d33 : isV _ (vs 33) w := hd 33 (by decide) (by kernel_rfl); unfold isV at d33; have d34 : isV _ (vs 34) w := hd 34 (by decide) (by kernel_rfl); unfold isV at d34; have d35 : isV _ (vs 35) w := hd 35 (by decide) (by kernel_rfl); unfold isV at d35; have d36 : isV _ (vs 36) w := hd 36 (by decide) (by kernel_rfl); unfold isV at d36; have d37 : isV _ (vs 37) w := hd 37 (by decide) (by kernel_rfl); unfold isV at d37; have d38 : isV _ (vs 38) w := hd 38 (by decide) (by kernel_rfl); unfold isV at d38; have d39 : isV _ (vs 39) w := hd 39 (by decide) (by kernel_rfl); unfold isV at d39; have d40 := hd 40 (by decide) (by kernel_rfl); simp only [TR, Nat.reduceAdd, Nat.reduceSub, List.getD_cons_zero, List.getD_cons_succ] at d40; have d41 : isV _ (vs 41) w := hd 41 (by decide) (by kernel_rfl); unfold isV at d41; have d42 : isV _ (vs 42) w := hd 42 (by decide) (by kernel_rfl); unfold isV at d42; have d43 : isV _ (vs 43) w := hd 43 (by decide) (by kernel_rfl); unfold isV at d43; have d44 : isV _ (vs 44) w := hd 44 (by decide) (by kernel_rfl); unfold isV at d44; have d45 : isV _ (vs 45) w := hd 45 (by decide) (by kernel_rfl); unfold isV at d45; have d46 := hd 46 (by decide) (by kernel_rfl); simp only [TR, Nat.reduceAdd, Nat.reduceSub, List.getD_cons_zero, List.getD_cons_succ] at d46; have d47 := hd 47 (by decide) (by kernel_rfl); simp only [TR, Nat.reduceAdd, Nat.reduceSub, List.getD_cons_zero, List.getD_cons_succ] at d47; have d48 : isV _ (vs 48) w := hd 48 (by decide) (by kernel_rfl); unfold isV at d48; have d49 : isV _ (vs 49) w := hd 49 (by decide) (by kernel_rfl); unfold isV at d49; have d50 := hd 50 (by decide) (by kernel_rfl); simp only [TR, Nat.reduceAdd, Nat.reduceSub, List.getD_cons_zero, List.getD_cons_succ] at d50; have d51 : isV _ (vs 51) w := hd 51 (by decide) (by kernel_rfl); unfold isV at d51; clear hd; simp only [List.take, putL, Act.put, List.setIfInBounds_toArray, List.set_cons_zero, List.set_cons_succ]; unfold StepOK; go_simp; exact ⟨Below.refl _ _, isV_mk _ _⟩
  intro vs w1 hb hd
  have e0 : isV _ (vs 0) w1 := hd 0 (by decide)
  have e1 : isV _ (vs 1) w1 := hd 1 (by decide)
  have e2 := hd 2 (by decide); simp only [TR, Nat.reduceAdd, Nat.reduceSub, List.getD_cons_zero, List.getD_cons_succ] at e2
  have e3 : isV _ (vs 3) w1 := hd 3 (by decide)
  have e4 : isV _ (vs 4) w1 := hd 4 (by decide)
  have e5 : isV _ (vs 5) w1 := hd 5 (by decide)
  have e6 : isV _ (vs 6) w1 := hd 6 (by decide)
  have e7 : isV _ (vs 7) w1 := hd 7 (by decide)
  have e8 : isV _ (vs 8) w1 := hd 8 (by decide)
  have e9 : isV _ (vs 9) w1 := hd 9 (by decide)
  have e10 : isV _ (vs 10) w1 := hd 10 (by decide)
  have e11 := hd 11 (by decide); simp only [TR, Nat.reduceAdd, Nat.reduceSub, List.getD_cons_zero, List.getD_cons_succ] at e11
  have e12 : isV _ (vs 12) w1 := hd 12 (by decide)
  have e13 : isV _ (vs 13) w1 := hd 13 (by decide)
  have e14 : isV _ (vs 14) w1 := hd 14 (by decide)
  have e15 : isV _ (vs 15) w1 := hd 15 (by decide)
  have e16 : isV _ (vs 16) w1 := hd 16 (by decide)
  have e17 : isV _ (vs 17) w1 := hd 17 (by decide)
  have e18 : isV _ (vs 18) w1 := hd 18 (by decide)
  have e19 : isV _ (vs 19) w1 := hd 19 (by decide)
  have e20 := hd 20 (by decide); simp only [TR, Nat.reduceAdd, Nat.reduceSub, List.getD_cons_zero, List.getD_cons_succ] at e20
  have e21 : isV _ (vs 21) w1 := hd 21 (by decide)
  have e22 := hd 22 (by decide); simp only [TR, Nat.reduceAdd, Nat.reduceSub, List.getD_cons_zero, List.getD_cons_succ] at e22
  have e23 : isV _ (vs 23) w1 := hd 23 (by decide)
  have e24 : isV _ (vs 24) w1 := hd 24 (by decide)
  have e25 : isV _ (vs 25) w1 := hd 25 (by decide)
  have e26 : isV _ (vs 26) w1 := hd 26 (by decide)
  have e27 : isV _ (vs 27) w1 := hd 27 (by decide)
  have e28 := hd 28 (by decide); simp only [TR, Nat.reduceAdd, Nat.reduceSub, List.getD_cons_zero, List.getD_cons_succ] at e28
  have e29 : isV _ (vs 29) w1 := hd 29 (by decide)
  have e30 : isV _ (vs 30) w1 := hd 30 (by decide)
  have e31 := hd 31 (by decide); simp only [TR, Nat.reduceAdd, Nat.reduceSub, List.getD_cons_zero, List.getD_cons_succ] at e31
  have e32 : isV _ (vs 32) w1 := hd 32 (by decide)
  have e33 : isV _ (vs 33) w1 := hd 33 (by decide)
  have e34 : isV _ (vs 34) w1 := hd 34 (by decide)
  have e35 : isV _ (vs 35) w1 := hd 35 (by decide)
  have e36 : isV _ (vs 36) w1 := hd 36 (by decide)
  have e37 : isV _ (vs 37) w1 := hd 37 (by decide)
  have e38 : isV _ (vs 38) w1 := hd 38 (by decide)
  have e39 : isV _ (vs 39) w1 := hd 39 (by decide)
  have e40 := hd 40 (by decide); simp only [TR, Nat.reduceAdd, Nat.reduceSub, List.getD_cons_zero, List.getD_cons_succ] at e40
  have e41 : isV _ (vs 41) w1 := hd 41 (by decide)
  have e42 : isV _ (vs 42) w1 := hd 42 (by decide)
  have e43 : isV _ (vs 43) w1 := hd 43 (by decide)
  have e44 : isV _ (vs 44) w1 := hd 44 (by decide)
  have e45 : isV _ (vs 45) w1 := hd 45 (by decide)
  have e46 := hd 46 (by decide); simp only [TR, Nat.reduceAdd, Nat.reduceSub, List.getD_cons_zero, List.getD_cons_succ] at e46
  have e47 := hd 47 (by decide); simp only [TR, Nat.reduceAdd, Nat.reduceSub, List.getD_cons_zero, List.getD_cons_succ] at e47
  have e48 : isV _ (vs 48) w1 := hd 48 (by decide)
  have e49 : isV _ (vs 49) w1 := hd 49 (by decide)
  have e50 := hd 50 (by decide); simp only [TR, Nat.reduceAdd, Nat.reduceSub, List.getD_cons_zero, List.getD_cons_succ] at e50
  have e51 : isV _ (vs 51) w1 := hd 51 (by decide)
  have e52 : isV _ (vs 52) w1 := hd 52 (by decide)
  clear hd
  unfold isV at e0 e1 e3 e4 e5 e6 e7 e8 e9 e10 e12 e13 e14 e15 e16 e17 e18 e19 e21 e23 e24 e25 e26 e27 e29 e30 e32 e33 e34 e35 e36 e37 e38 e39 e41 e42 e43 e44 e45 e48 e49 e51 e52
  simp only [putL, Act.put, List.setIfInBounds_toArray, List.set_cons_zero, List.set_cons_succ, e0, e1, e3, e4, e5, e6, e7, e8, e9, e10, e12, e13, e14, e15, e16, e17, e18, e19, e21, e23, e24, e25, e26, e27, e29, e30, e32, e33, e34, e35, e36, e37, e38, e39, e41, e42, e43, e44, e45, e48, e49, e51, e52]
  clear e0 e1 e3 e4 e5 e6 e7 e8 e9 e10 e12 e13 e14 e15 e16 e17 e18 e19 e21 e23 e24 e25 e26 e27 e29 e30 e32 e33 e34 e35 e36 e37 e38 e39 e41 e42 e43 e44 e45 e48 e49 e51 e52
  --@end
  have hbE := hbD.trans (hb.mono hbD.size)
  go_wp2_with fail
  go_ret
  exact ⟨rfl, hbE⟩
end Go.Proofs.Ytphjmbhlokkdiaa
