import Derived.Test.YtphjmbhlokkdiaaRefEvB
import Derived.Test.YtphjmbhlokkdiaaRefEvC
import Derived.Test.YtphjmbhlokkdiaaLawForms
namespace Go.Proofs.Ytphjmbhlokkdiaa
open Go.RowKit
set_option linter.unusedSimpArgs false
set_option linter.unusedVariables false

theorem wf_i64' {a : Int} (h : (Lit.int .i64 a).wf = true) : -9223372036854775808 ≤ a ∧ a ≤ 9223372036854775807 := by
  simp [Lit.wf, IntKind.min, IntKind.max, IntKind.signed, IntKind.bits] at h
  omega
/-- what Bytes gives behind l -/
def evL (l : List UInt8) (e : Ev) : List UInt8 := if rightB e then l ++ evB e else []
def evF (e : Ev) : Int := if rightB e then 0 else 102
def isC (n : Nat) (l : List UInt8) : Value → World → Prop := fun v w => ∃ g, v = .slice (some ⟨g, 0, none⟩) n n ∧ g < w.heap.size ∧ Sl w 1 (some ⟨g, 0, none⟩) n n (bytesV l)
theorem isC_elim {n : Nat} {l : List UInt8} {v : Value} {w : World} (h : isC n l v w) : ∃ g, v = .slice (some ⟨g, 0, none⟩) n n ∧ g < w.heap.size ∧ Sl w 1 (some ⟨g, 0, none⟩) n n (bytesV l) := h
theorem isC_stable (n : Nat) (l : List UInt8) : Stable (isC n l) := fun _ _ _ hb ⟨g, e, h1, h2⟩ => ⟨g, e, Nat.lt_of_lt_of_le h1 hb.size, h2.below hb⟩
def isEB (l : List UInt8) (f : Int) : Value → World → Prop := fun v w => ∃ A n c, v = .tuple #[.slice A n c, .int .i64 f] ∧ Sl w 1 A n c (bytesV l)
theorem isEB_elim {l : List UInt8} {f : Int} {v : Value} {w : World} (h : isEB l f v w) : ∃ A n c, v = .tuple #[.slice A n c, .int .i64 f] ∧ Sl w 1 A n c (bytesV l) := h
theorem isEB_stable (l : List UInt8) (f : Int) : Stable (isEB l f) := fun _ _ _ hb ⟨A, n, c, e, h⟩ => ⟨A, n, c, e, h.below hb⟩
theorem copy_such (A : Option Addr) (n c : Nat) (l : List UInt8) (w : World) (hs : Sl w 1 A n c (bytesV l)) (hn : n ≤ 1000000) :
    Calls Try.prog 26 #[.slice A n c] w fun e w' => ∃ v, e = .returned v ∧ Below w.heap.size w w' ∧ isC n l v w' :=
  (copyBytes_any A n c l w hs (by omega)).mono fun e w' ⟨h1, h2, h3⟩ => ⟨_, h1, h3, _, rfl, (World.ownsRow.lt h2 _ rfl).2, ownsRow_sl h2⟩
theorem evBytes_such (g n : Nat) (l : List UInt8) (e : Ev) (w : World) (hs : Sl w 1 (some ⟨g, 0, none⟩) n n (bytesV l)) (hg : g < w.heap.size) (hn : n ≤ 100000) (he : e.ok) :
    Calls Try.prog 16 #[.slice (some ⟨g, 0, none⟩) n n, e.v] w fun x w' => ∃ v, x = .returned v ∧ Below w.heap.size w w' ∧ isEB (evL l e) (evF e) v w' := by
  cases hr : rightB e with
  | true => exact (evBytes_any w.heap.size _ n n l e w (.inr ⟨hs, rfl⟩) (Nat.le_refl _) (fun ad h => by cases h; exact hg) hn he hr).mono fun x w' ⟨A, m, c, h1, h2⟩ =>
      ⟨_, h1, h2.below (Nat.le_refl _), A, m, c, by simp [evF, hr], by rw [evL, if_pos hr]; exact h2.app.sl⟩
  | false => exact (evBytes_none _ n n e w he hr).mono fun x w' ⟨h1, h2⟩ =>
      ⟨_, h1, h2, none, 0, 0, by simp [evF, hr], by rw [evL, if_neg (by rw [hr]; simp)]; exact Sl.nil _ _⟩
theorem refBytes_all (A : Option Addr) (n c : Nat) (l : List UInt8) (e : Ev) (w : World) (hs : Sl w 1 A n c (bytesV l)) (hn : n ≤ 100000) (he : e.ok) :
    Calls Try.prog 27 #[.slice A n c, e.v] w fun x w' => ∃ A' m c', x = .returned (.tuple #[.slice A' m c', .int .i64 (evF e)]) ∧ Sl w' 1 A' m c' (bytesV (evL l e)) ∧ Below w.heap.size w w' := by
  cases hr : rightB e with
  | true => exact (refBytes_any A n c l e w hs hn he hr).mono fun x w' ⟨A, m, c, h1, h2, h3⟩ => ⟨A, m, c, by rw [h1]; simp [evF, hr], by rw [evL, if_pos hr]; exact h2, h3⟩
  | false => exact (refBytes_none A n c e w he hr).mono fun x w' ⟨h1, h2⟩ => ⟨none, 0, 0, by rw [h1]; simp [evF, hr], by rw [evL, if_neg (by rw [hr]; simp)]; exact Sl.nil _ _, h2⟩
theorem right_z (e : Ev) (w : World) (hK : e.K < 256) {z : Bool} (hz : rightB e = z) : Calls Try.prog 14 #[e.v] w fun x w' => x = .returned (.bool z) ∧ Below w.heap.size w w' :=
  (right_any e w hK).mono fun x w' ⟨h1, h2⟩ => ⟨by rw [h1, hz], h2⟩
theorem refRight_z (e : Ev) (w : World) (hK : e.K < 256) {z : Bool} (hz : rightB e = z) : Calls Try.prog 30 #[e.v] w fun x w' => x = .returned (.bool z) ∧ Below w.heap.size w w' :=
  (refRight_any e w hK).mono fun x w' ⟨h1, h2⟩ => ⟨by rw [h1, hz], h2⟩

set_option maxRecDepth 100000 in
set_option maxHeartbeats 8000000 in
theorem walk_tells11 (e : Ev) (A : Option Addr) (n c : Nat) (l : List UInt8) (at_ : Int) (w : World) (he : e.ok) (hs : Sl w 1 A n c (bytesV l)) (hq : -9223372036854775808 ≤ at_ ∧ at_ ≤ 9223372036854775807) :
    Calls Try.prog 8 #[e.v, .slice A n c, .int .i64 at_] w fun x w' => x = .returned (.bool true) ∧ Below w.heap.size w w' := by
  have hbe := box_in w e
  have hbA := below_alloc1 w (.cells e.cells.toArray 24)
  have hse : (bstr e.S).size = e.S.length := rfl
  obtain ⟨z, hz⟩ : ∃ z, rightB e = z := ⟨_, rfl⟩
  have Hz := Lib.hid hz
  clear hz
  have e6 := hbe 6 _ rfl
  unfold Ev.v
  unfold Ev.cells at *
  go_enter Try.func8, Try.ntmps8
  by_cases h1 : 3000 < e.S.length
  · go_wp2_with (go_at_call 15; refine (awake11_any _).mono ?_; rintro x w6 ⟨rfl, hn6⟩)
    go_ret
    exact ⟨rfl, hbA.trans (hn6.mono hbA.size)⟩
  by_cases h2 : (3000 : Int) < (n : Int)
  · go_wp2_with (go_at_call 15; refine (awake11_any _).mono ?_; rintro x w6 ⟨rfl, hn6⟩)
    go_ret
    exact ⟨rfl, hbA.trans (hn6.mono hbA.size)⟩
  have hs0 := hs.below hbA
  go_wp2_with fail
  generalize w.alloc (.cells #[.int .u8 (e.K : Int), .int .i64 e.At, .int .i64 e.N, .int .i64 e.P, .int .i64 e.A, .int .i64 e.B, .string (bstr e.S)] 24) = W0 at *
  clear e6 hs
  --@region 8 3 t11_3.spec
  refine wp_region_run (by kernel_rfl) (by kernel_rfl) ?_
  apply RunL.pure
  · intro vs w hb hd; clear hd; simp only [List.take, putL, Act.put, List.setIfInBounds_toArray, List.set_cons_zero, List.set_cons_succ]; unfold StepOK; go_simp; exact ⟨Below.refl _ _, isV_mk _ _⟩
  refine RunL.such (isC n l) (isC_stable _ _) ?_ ?_
  · intro vs w hb hd; have d0 : isV _ (vs 0) w := hd 0 (by decide) (by kernel_rfl); unfold isV at d0; clear hd; simp only [List.take, putL, Act.put, List.setIfInBounds_toArray, List.set_cons_zero, List.set_cons_succ]; unfold StepOK; go_simp; exact ⟨Below.refl _ _, copy_such _ _ _ _ _ (hs0.below hb) (by omega)⟩
  refine RunL.such (isV e.v) (isV_stable _) ?_ ?_
  · intro vs w hb hd; clear hd; have hk := hbe.below hb; have k0 := hk 0 _ rfl; have k1 := hk 1 _ rfl; have k2 := hk 2 _ rfl; have k3 := hk 3 _ rfl; have k4 := hk 4 _ rfl; have k5 := hk 5 _ rfl; have k6 := hk 6 _ rfl; simp only [List.take, putL, Act.put, List.setIfInBounds_toArray, List.set_cons_zero, List.set_cons_succ]; unfold StepOK; go_simp; exact ⟨Below.refl _ _, isV_mk _ _⟩
  refine RunL.such (isEB (evL l e) (evF e)) (isEB_stable _ _) ?_ ?_
  · intro vs w hb hd; have d1 := hd 1 (by decide) (by kernel_rfl); simp only [TR, Nat.reduceAdd, Nat.reduceSub, List.getD_cons_zero, List.getD_cons_succ] at d1; have d2 := hd 2 (by decide) (by kernel_rfl); simp only [TR, Nat.reduceAdd, Nat.reduceSub, List.getD_cons_zero, List.getD_cons_succ] at d2; clear hd; obtain ⟨g, eq, hg, hq⟩ := isC_elim d1; unfold isV at d2; simp only [List.take, putL, Act.put, List.setIfInBounds_toArray, List.set_cons_zero, List.set_cons_succ]; unfold StepOK; go_simp; exact ⟨Below.refl _ _, evBytes_such _ _ _ _ _ hq hg (by omega) he⟩
  refine RunL.such (isEB (evL l e) (evF e)) (isEB_stable _ _) ?_ ?_
  · intro vs w hb hd; have d3 := hd 3 (by decide) (by kernel_rfl); simp only [TR, Nat.reduceAdd, Nat.reduceSub, List.getD_cons_zero, List.getD_cons_succ] at d3; clear hd; obtain ⟨Aq, nq, cq, eq, hq⟩ := isEB_elim d3; simp only [List.take, putL, Act.put, List.setIfInBounds_toArray, List.set_cons_zero, List.set_cons_succ]; unfold StepOK; go_simp; exact ⟨Below.refl _ _, Aq, nq, cq, rfl, hq⟩
  refine RunL.such (isB (evL l e)) (isB_stable _) ?_ ?_
  · intro vs w hb hd; have d4 := hd 4 (by decide) (by kernel_rfl); simp only [TR, Nat.reduceAdd, Nat.reduceSub, List.getD_cons_zero, List.getD_cons_succ] at d4; clear hd; obtain ⟨Aq, nq, cq, eq, hq⟩ := isEB_elim d4; simp only [List.take, putL, Act.put, List.setIfInBounds_toArray, List.set_cons_zero, List.set_cons_succ]; unfold StepOK; go_simp; exact ⟨Below.refl _ _, Aq, nq, cq, rfl, hq⟩
  refine RunL.such (isV (.int .i64 (evF e))) (isV_stable _) ?_ ?_
  · intro vs w hb hd; have d4 := hd 4 (by decide) (by kernel_rfl); simp only [TR, Nat.reduceAdd, Nat.reduceSub, List.getD_cons_zero, List.getD_cons_succ] at d4; clear hd; obtain ⟨Aq, nq, cq, eq, hq⟩ := isEB_elim d4; simp only [List.take, putL, Act.put, List.setIfInBounds_toArray, List.set_cons_zero, List.set_cons_succ]; unfold StepOK; go_simp; exact ⟨Below.refl _ _, isV_mk _ _⟩
  refine RunL.such (isB (evL l e)) (isB_stable _) ?_ ?_
  · intro vs w hb hd; have d0 : isV _ (vs 0) w := hd 0 (by decide) (by kernel_rfl); unfold isV at d0; have d1 := hd 1 (by decide) (by kernel_rfl); simp only [TR, Nat.reduceAdd, Nat.reduceSub, List.getD_cons_zero, List.getD_cons_succ] at d1; have d2 := hd 2 (by decide) (by kernel_rfl); simp only [TR, Nat.reduceAdd, Nat.reduceSub, List.getD_cons_zero, List.getD_cons_succ] at d2; have d3 := hd 3 (by decide) (by kernel_rfl); simp only [TR, Nat.reduceAdd, Nat.reduceSub, List.getD_cons_zero, List.getD_cons_succ] at d3; have d4 := hd 4 (by decide) (by kernel_rfl); simp only [TR, Nat.reduceAdd, Nat.reduceSub, List.getD_cons_zero, List.getD_cons_succ] at d4; have d5 := hd 5 (by decide) (by kernel_rfl); simp only [TR, Nat.reduceAdd, Nat.reduceSub, List.getD_cons_zero, List.getD_cons_succ] at d5; clear hd; obtain ⟨Aq, nq, cq, eq, hq⟩ := isB_elim d5; simp only [List.take, putL, Act.put, List.setIfInBounds_toArray, List.set_cons_zero, List.set_cons_succ]; unfold StepOK; go_simp; exact ⟨Below.refl _ _, Aq, nq, cq, rfl, hq⟩
  refine RunL.such (isV (.int .i64 (evF e))) (isV_stable _) ?_ ?_
  · intro vs w hb hd; have d0 : isV _ (vs 0) w := hd 0 (by decide) (by kernel_rfl); unfold isV at d0; have d1 := hd 1 (by decide) (by kernel_rfl); simp only [TR, Nat.reduceAdd, Nat.reduceSub, List.getD_cons_zero, List.getD_cons_succ] at d1; have d2 := hd 2 (by decide) (by kernel_rfl); simp only [TR, Nat.reduceAdd, Nat.reduceSub, List.getD_cons_zero, List.getD_cons_succ] at d2; have d3 := hd 3 (by decide) (by kernel_rfl); simp only [TR, Nat.reduceAdd, Nat.reduceSub, List.getD_cons_zero, List.getD_cons_succ] at d3; have d4 := hd 4 (by decide) (by kernel_rfl); simp only [TR, Nat.reduceAdd, Nat.reduceSub, List.getD_cons_zero, List.getD_cons_succ] at d4; have d5 := hd 5 (by decide) (by kernel_rfl); simp only [TR, Nat.reduceAdd, Nat.reduceSub, List.getD_cons_zero, List.getD_cons_succ] at d5; have d6 := hd 6 (by decide) (by kernel_rfl); simp only [TR, Nat.reduceAdd, Nat.reduceSub, List.getD_cons_zero, List.getD_cons_succ] at d6; have d7 := hd 7 (by decide) (by kernel_rfl); simp only [TR, Nat.reduceAdd, Nat.reduceSub, List.getD_cons_zero, List.getD_cons_succ] at d7; clear hd; unfold isV at d6; simp only [List.take, putL, Act.put, List.setIfInBounds_toArray, List.set_cons_zero, List.set_cons_succ]; unfold StepOK; go_simp; exact ⟨Below.refl _ _, isV_mk _ _⟩
  intro vs w1 hb hd
  have e0 : isV _ (vs 0) w1 := hd 0 (by decide)
  have e1 := hd 1 (by decide); simp only [TR, Nat.reduceAdd, Nat.reduceSub, List.getD_cons_zero, List.getD_cons_succ] at e1
  have e2 := hd 2 (by decide); simp only [TR, Nat.reduceAdd, Nat.reduceSub, List.getD_cons_zero, List.getD_cons_succ] at e2
  have e3 := hd 3 (by decide); simp only [TR, Nat.reduceAdd, Nat.reduceSub, List.getD_cons_zero, List.getD_cons_succ] at e3
  have e4 := hd 4 (by decide); simp only [TR, Nat.reduceAdd, Nat.reduceSub, List.getD_cons_zero, List.getD_cons_succ] at e4
  have e5 := hd 5 (by decide); simp only [TR, Nat.reduceAdd, Nat.reduceSub, List.getD_cons_zero, List.getD_cons_succ] at e5
  have e6 := hd 6 (by decide); simp only [TR, Nat.reduceAdd, Nat.reduceSub, List.getD_cons_zero, List.getD_cons_succ] at e6
  have e7 := hd 7 (by decide); simp only [TR, Nat.reduceAdd, Nat.reduceSub, List.getD_cons_zero, List.getD_cons_succ] at e7
  have e8 := hd 8 (by decide); simp only [TR, Nat.reduceAdd, Nat.reduceSub, List.getD_cons_zero, List.getD_cons_succ] at e8
  clear hd
  unfold isV at e0
  simp only [putL, Act.put, List.setIfInBounds_toArray, List.set_cons_zero, List.set_cons_succ, e0]
  clear e0
  --@end
  unfold isV at e8
  simp only [Nat.reduceAdd, e8]
  obtain ⟨A1, n1, c1, eq7, s1⟩ := isB_elim e7
  rw [eq7]
  clear e1 e2 e3 e4 e5 e6 e7 e8 eq7
  have hs1 := hs0.below hb
  have hbe1 := hbe.below hb
  have hbB := hbA.trans (hb.mono hbA.size)
  clear hb hs0 hbe hbA
  have e0 := hbe1 0 _ rfl
  have e1 := hbe1 1 _ rfl
  have e2 := hbe1 2 _ rfl
  have e3 := hbe1 3 _ rfl
  have e4 := hbe1 4 _ rfl
  have e5 := hbe1 5 _ rfl
  have e6 := hbe1 6 _ rfl
  go_wp2_with fail
  clear e0 e1 e2 e3 e4 e5 e6
  refine (refBytes_all A n c l e _ hs1 (by omega) he).mono ?_; rintro x w2 ⟨A2, n2, c2, rfl, s2, hb2⟩
  have hbe2 := hbe1.below hb2
  have hs2 := hs1.below hb2
  have s1 := s1.below hb2
  have hbC := hbB.trans (hb2.mono hbB.size)
  clear hs1 hbe1 hb2 hbB
  obtain ⟨⟨r, nq, xq⟩, hr⟩ : ∃ q, rdEv l at_ = q := ⟨_, rfl⟩
  have Hr := Lib.hid hr
  clear hr
  go_wp2_with fail
  refine (read_any A n c l at_ _ hs2 (by omega) hq).mono ?_; rintro x w3 ⟨rfl, hb3⟩
  rw [Hr.out]
  simp only
  have hbe3 := hbe2.below hb3
  have hs3 := hs2.below hb3
  have s1 := s1.below hb3
  have s2 := s2.below hb3
  have hbD := hbC.trans (hb3.mono hbC.size)
  clear hs2 hbe2 hb3 hbC
  have hg11 := box_in w3 r
  have hb4 := below_alloc1 w3 (.cells r.cells.toArray 24)
  have hbe4 := hbe3.below hb4
  have hs4 := hs3.below hb4
  have s1 := s1.below hb4
  have s2 := s2.below hb4
  have hbE := hbD.trans (hb4.mono hbD.size)
  clear hs3 hbe3 hb4 hbD
  simp only [Ev.v, Ev.cells]
  simp only [Ev.cells] at hg11 hbe4 hs4 s1 s2 hbE
  go_wp2_with fail
  generalize w3.alloc (.cells #[.int .u8 (r.K : Int), .int .i64 r.At, .int .i64 r.N, .int .i64 r.P, .int .i64 r.A, .int .i64 r.B, .string (bstr r.S)] 24) = w4 at *
  refine (refRead_any A n c l at_ _ hs4 (by omega) hq).mono ?_; rintro x w5 ⟨rfl, hb5⟩
  rw [Hr.out]
  simp only
  have hbe5 := hbe4.below hb5
  have hg11 := hg11.below hb5
  have s1 := s1.below hb5
  have s2 := s2.below hb5
  have hbF := hbE.trans (hb5.mono hbE.size)
  clear hs4 hbe4 hb5 hbE
  have hg14 := box_in w5 r
  have hb6 := below_alloc1 w5 (.cells r.cells.toArray 24)
  have hbe := hbe5.below hb6
  have hb11 := hg11.below hb6
  have s7 := s1.below hb6
  have s9 := s2.below hb6
  have hbG := hbF.trans (hb6.mono hbF.size)
  clear hbe5 hb6 hbF hg11 s1 s2
  simp only [Ev.v, Ev.cells]
  simp only [Ev.cells] at hg14 hbe s7 s9 hbG hb11
  go_wp2_with fail
  generalize w5.alloc (.cells #[.int .u8 (r.K : Int), .int .i64 r.At, .int .i64 r.N, .int .i64 r.P, .int .i64 r.A, .int .i64 r.B, .string (bstr r.S)] 24) = w6 at *
  have hb14 := hg14
  clear hg14
  --@region 8 7 t11_7.spec
  refine wp_region_run (by kernel_rfl) (by kernel_rfl) ?_
  refine RunL.such (isV e.v) (isV_stable _) ?_ ?_
  · intro vs w hb hd; clear hd; have hk := hbe.below hb; have k0 := hk 0 _ rfl; have k1 := hk 1 _ rfl; have k2 := hk 2 _ rfl; have k3 := hk 3 _ rfl; have k4 := hk 4 _ rfl; have k5 := hk 5 _ rfl; have k6 := hk 6 _ rfl; simp only [List.take, putL, Act.put, List.setIfInBounds_toArray, List.set_cons_zero, List.set_cons_succ]; unfold StepOK; go_simp; exact ⟨Below.refl _ _, isV_mk _ _⟩
  refine RunL.such (isV (.bool z)) (isV_stable _) ?_ ?_
  · intro vs w hb hd; have d0 := hd 0 (by decide) (by kernel_rfl); simp only [TR, Nat.reduceAdd, Nat.reduceSub, List.getD_cons_zero, List.getD_cons_succ] at d0; clear hd; unfold isV at d0; simp only [List.take, putL, Act.put, List.setIfInBounds_toArray, List.set_cons_zero, List.set_cons_succ]; unfold StepOK; go_simp; exact ⟨Below.refl _ _, such_of_bool (right_z _ _ he.K Hz.out)⟩
  refine RunL.such (isV e.v) (isV_stable _) ?_ ?_
  · intro vs w hb hd; clear hd; have hk := hbe.below hb; have k0 := hk 0 _ rfl; have k1 := hk 1 _ rfl; have k2 := hk 2 _ rfl; have k3 := hk 3 _ rfl; have k4 := hk 4 _ rfl; have k5 := hk 5 _ rfl; have k6 := hk 6 _ rfl; simp only [List.take, putL, Act.put, List.setIfInBounds_toArray, List.set_cons_zero, List.set_cons_succ]; unfold StepOK; go_simp; exact ⟨Below.refl _ _, isV_mk _ _⟩
  refine RunL.such (isV (.bool z)) (isV_stable _) ?_ ?_
  · intro vs w hb hd; have d1 := hd 1 (by decide) (by kernel_rfl); simp only [TR, Nat.reduceAdd, Nat.reduceSub, List.getD_cons_zero, List.getD_cons_succ] at d1; have d2 := hd 2 (by decide) (by kernel_rfl); simp only [TR, Nat.reduceAdd, Nat.reduceSub, List.getD_cons_zero, List.getD_cons_succ] at d2; clear hd; unfold isV at d2; simp only [List.take, putL, Act.put, List.setIfInBounds_toArray, List.set_cons_zero, List.set_cons_succ]; unfold StepOK; go_simp; exact ⟨Below.refl _ _, such_of_bool (refRight_z _ _ he.K Hz.out)⟩
  refine RunL.such (isV (.bool true)) (isV_stable _) ?_ ?_
  · intro vs w hb hd; have d1 := hd 1 (by decide) (by kernel_rfl); simp only [TR, Nat.reduceAdd, Nat.reduceSub, List.getD_cons_zero, List.getD_cons_succ] at d1; have d3 := hd 3 (by decide) (by kernel_rfl); simp only [TR, Nat.reduceAdd, Nat.reduceSub, List.getD_cons_zero, List.getD_cons_succ] at d3; clear hd; unfold isV at d1 d3; simp only [List.take, putL, Act.put, List.setIfInBounds_toArray, List.set_cons_zero, List.set_cons_succ]; unfold StepOK; go_simp; exact ⟨Below.refl _ _, isV_mk _ _⟩
  apply RunL.pure
  · intro vs w hb hd; have d3 := hd 3 (by decide) (by kernel_rfl); simp only [TR, Nat.reduceAdd, Nat.reduceSub, List.getD_cons_zero, List.getD_cons_succ] at d3; have d4 := hd 4 (by decide) (by kernel_rfl); simp only [TR, Nat.reduceAdd, Nat.reduceSub, List.getD_cons_zero, List.getD_cons_succ] at d4; clear hd; unfold isV at d4; simp only [List.take, putL, Act.put, List.setIfInBounds_toArray, List.set_cons_zero, List.set_cons_succ]; unfold StepOK; go_simp; exact ⟨Below.refl _ _, isV_mk _ _⟩
  apply RunL.pure
  · intro vs w hb hd; have d5 : isV _ (vs 5) w := hd 5 (by decide) (by kernel_rfl); unfold isV at d5; clear hd; simp only [List.take, putL, Act.put, List.setIfInBounds_toArray, List.set_cons_zero, List.set_cons_succ]; unfold StepOK; go_simp; exact ⟨Below.refl _ _, isV_mk _ _⟩
  apply RunL.pure
  · intro vs w hb hd; have d5 : isV _ (vs 5) w := hd 5 (by decide) (by kernel_rfl); unfold isV at d5; clear hd; simp only [List.take, putL, Act.put, List.setIfInBounds_toArray, List.set_cons_zero, List.set_cons_succ]; unfold StepOK; go_simp; exact ⟨Below.refl _ _, isV_mk _ _⟩
  refine RunL.such (isV (.bool true)) (isV_stable _) ?_ ?_
  · intro vs w hb hd; have d5 : isV _ (vs 5) w := hd 5 (by decide) (by kernel_rfl); unfold isV at d5; have d6 : isV _ (vs 6) w := hd 6 (by decide) (by kernel_rfl); unfold isV at d6; have d7 : isV _ (vs 7) w := hd 7 (by decide) (by kernel_rfl); unfold isV at d7; clear hd; simp only [List.take, putL, Act.put, List.setIfInBounds_toArray, List.set_cons_zero, List.set_cons_succ]; unfold StepOK; go_simp; exact ⟨Below.refl _ _, such_of_bool (sameBytes_lit _ _ _ _ _ _ _ _ true _ (s7.below hb) (s9.below hb) (by simp))⟩
  apply RunL.pure
  · intro vs w hb hd; have d5 : isV _ (vs 5) w := hd 5 (by decide) (by kernel_rfl); unfold isV at d5; have d8 := hd 8 (by decide) (by kernel_rfl); simp only [TR, Nat.reduceAdd, Nat.reduceSub, List.getD_cons_zero, List.getD_cons_succ] at d8; clear hd; unfold isV at d8; simp only [List.take, putL, Act.put, List.setIfInBounds_toArray, List.set_cons_zero, List.set_cons_succ]; unfold StepOK; go_simp; exact ⟨Below.refl _ _, isV_mk _ _⟩
  apply RunL.pure
  · intro vs w hb hd; have d8 := hd 8 (by decide) (by kernel_rfl); simp only [TR, Nat.reduceAdd, Nat.reduceSub, List.getD_cons_zero, List.getD_cons_succ] at d8; have d9 : isV _ (vs 9) w := hd 9 (by decide) (by kernel_rfl); unfold isV at d9; clear hd; simp only [List.take, putL, Act.put, List.setIfInBounds_toArray, List.set_cons_zero, List.set_cons_succ]; unfold StepOK; go_simp; exact ⟨Below.refl _ _, isV_mk _ _⟩
  apply RunL.pure
  · intro vs w hb hd; have d10 : isV _ (vs 10) w := hd 10 (by decide) (by kernel_rfl); unfold isV at d10; clear hd; simp only [List.take, putL, Act.put, List.setIfInBounds_toArray, List.set_cons_zero, List.set_cons_succ]; unfold StepOK; go_simp; exact ⟨Below.refl _ _, isV_mk _ _⟩
  apply RunL.pure
  · intro vs w hb hd; have d10 : isV _ (vs 10) w := hd 10 (by decide) (by kernel_rfl); unfold isV at d10; clear hd; simp only [List.take, putL, Act.put, List.setIfInBounds_toArray, List.set_cons_zero, List.set_cons_succ]; unfold StepOK; go_simp; exact ⟨Below.refl _ _, isV_mk _ _⟩
  apply RunL.pure
  · intro vs w hb hd; have d10 : isV _ (vs 10) w := hd 10 (by decide) (by kernel_rfl); unfold isV at d10; have d11 : isV _ (vs 11) w := hd 11 (by decide) (by kernel_rfl); unfold isV at d11; have d12 : isV _ (vs 12) w := hd 12 (by decide) (by kernel_rfl); unfold isV at d12; clear hd; simp only [List.take, putL, Act.put, List.setIfInBounds_toArray, List.set_cons_zero, List.set_cons_succ]; unfold StepOK; go_simp; exact ⟨Below.refl _ _, isV_mk _ _⟩
  apply RunL.pure
  · intro vs w hb hd; have d10 : isV _ (vs 10) w := hd 10 (by decide) (by kernel_rfl); unfold isV at d10; have d13 : isV _ (vs 13) w := hd 13 (by decide) (by kernel_rfl); unfold isV at d13; clear hd; simp only [List.take, putL, Act.put, List.setIfInBounds_toArray, List.set_cons_zero, List.set_cons_succ]; unfold StepOK; go_simp; exact ⟨Below.refl _ _, isV_mk _ _⟩
  apply RunL.pure
  · intro vs w hb hd; have d10 : isV _ (vs 10) w := hd 10 (by decide) (by kernel_rfl); unfold isV at d10; have d14 : isV _ (vs 14) w := hd 14 (by decide) (by kernel_rfl); unfold isV at d14; clear hd; simp only [List.take, putL, Act.put, List.setIfInBounds_toArray, List.set_cons_zero, List.set_cons_succ]; unfold StepOK; go_simp; exact ⟨Below.refl _ _, isV_mk _ _⟩
  refine RunL.such (isV r.v) (isV_stable _) ?_ ?_
  · intro vs w hb hd; have d15 : isV _ (vs 15) w := hd 15 (by decide) (by kernel_rfl); unfold isV at d15; clear hd; have hk := hb11.below hb; have k0 := hk 0 _ rfl; have k1 := hk 1 _ rfl; have k2 := hk 2 _ rfl; have k3 := hk 3 _ rfl; have k4 := hk 4 _ rfl; have k5 := hk 5 _ rfl; have k6 := hk 6 _ rfl; simp only [List.take, putL, Act.put, List.setIfInBounds_toArray, List.set_cons_zero, List.set_cons_succ]; unfold StepOK; go_simp; exact ⟨Below.refl _ _, isV_mk _ _⟩
  refine RunL.such (isV r.v) (isV_stable _) ?_ ?_
  · intro vs w hb hd; have d15 : isV _ (vs 15) w := hd 15 (by decide) (by kernel_rfl); unfold isV at d15; clear hd; have hk := hb14.below hb; have k0 := hk 0 _ rfl; have k1 := hk 1 _ rfl; have k2 := hk 2 _ rfl; have k3 := hk 3 _ rfl; have k4 := hk 4 _ rfl; have k5 := hk 5 _ rfl; have k6 := hk 6 _ rfl; simp only [List.take, putL, Act.put, List.setIfInBounds_toArray, List.set_cons_zero, List.set_cons_succ]; unfold StepOK; go_simp; exact ⟨Below.refl _ _, isV_mk _ _⟩
  refine RunL.such (isV (.bool true)) (isV_stable _) ?_ ?_
  · intro vs w hb hd; have d15 : isV _ (vs 15) w := hd 15 (by decide) (by kernel_rfl); unfold isV at d15; have d16 := hd 16 (by decide) (by kernel_rfl); simp only [TR, Nat.reduceAdd, Nat.reduceSub, List.getD_cons_zero, List.getD_cons_succ] at d16; have d17 := hd 17 (by decide) (by kernel_rfl); simp only [TR, Nat.reduceAdd, Nat.reduceSub, List.getD_cons_zero, List.getD_cons_succ] at d17; clear hd; unfold isV at d16 d17; simp only [Ev.v, Ev.cells] at d16 d17; simp only [List.take, putL, Act.put, List.setIfInBounds_toArray, List.set_cons_zero, List.set_cons_succ]; unfold StepOK; go_simp; exact ⟨Below.refl _ _, isV_mk _ _⟩
  apply RunL.pure
  · intro vs w hb hd; have d15 : isV _ (vs 15) w := hd 15 (by decide) (by kernel_rfl); unfold isV at d15; have d18 := hd 18 (by decide) (by kernel_rfl); simp only [TR, Nat.reduceAdd, Nat.reduceSub, List.getD_cons_zero, List.getD_cons_succ] at d18; clear hd; unfold isV at d18; simp only [List.take, putL, Act.put, List.setIfInBounds_toArray, List.set_cons_zero, List.set_cons_succ]; unfold StepOK; go_simp; exact ⟨Below.refl _ _, isV_mk _ _⟩
  apply RunL.pure
  · intro vs w hb hd; have d15 : isV _ (vs 15) w := hd 15 (by decide) (by kernel_rfl); unfold isV at d15; have d19 : isV _ (vs 19) w := hd 19 (by decide) (by kernel_rfl); unfold isV at d19; clear hd; simp only [List.take, putL, Act.put, List.setIfInBounds_toArray, List.set_cons_zero, List.set_cons_succ]; unfold StepOK; go_simp; exact ⟨Below.refl _ _, isV_mk _ _⟩
  apply RunL.pure
  · intro vs w hb hd; have d20 : isV _ (vs 20) w := hd 20 (by decide) (by kernel_rfl); unfold isV at d20; clear hd; simp only [List.take, putL, Act.put, List.setIfInBounds_toArray, List.set_cons_zero, List.set_cons_succ]; unfold StepOK; go_simp; exact ⟨Below.refl _ _, isV_mk _ _⟩
  apply RunL.pure
  · intro vs w hb hd; have d20 : isV _ (vs 20) w := hd 20 (by decide) (by kernel_rfl); unfold isV at d20; clear hd; simp only [List.take, putL, Act.put, List.setIfInBounds_toArray, List.set_cons_zero, List.set_cons_succ]; unfold StepOK; go_simp; exact ⟨Below.refl _ _, isV_mk _ _⟩
  apply RunL.pure
  · intro vs w hb hd; have d20 : isV _ (vs 20) w := hd 20 (by decide) (by kernel_rfl); unfold isV at d20; have d21 : isV _ (vs 21) w := hd 21 (by decide) (by kernel_rfl); unfold isV at d21; have d22 : isV _ (vs 22) w := hd 22 (by decide) (by kernel_rfl); unfold isV at d22; clear hd; simp only [List.take, putL, Act.put, List.setIfInBounds_toArray, List.set_cons_zero, List.set_cons_succ]; unfold StepOK; go_simp; exact ⟨Below.refl _ _, isV_mk _ _⟩
  apply RunL.pure
  · intro vs w hb hd; have d20 : isV _ (vs 20) w := hd 20 (by decide) (by kernel_rfl); unfold isV at d20; have d23 : isV _ (vs 23) w := hd 23 (by decide) (by kernel_rfl); unfold isV at d23; clear hd; simp only [List.take, putL, Act.put, List.setIfInBounds_toArray, List.set_cons_zero, List.set_cons_succ]; unfold StepOK; go_simp; exact ⟨Below.refl _ _, isV_mk _ _⟩
  apply RunL.pure
  · intro vs w hb hd; have d20 : isV _ (vs 20) w := hd 20 (by decide) (by kernel_rfl); unfold isV at d20; have d24 : isV _ (vs 24) w := hd 24 (by decide) (by kernel_rfl); unfold isV at d24; clear hd; simp only [List.take, putL, Act.put, List.setIfInBounds_toArray, List.set_cons_zero, List.set_cons_succ]; unfold StepOK; go_simp; exact ⟨Below.refl _ _, isV_mk _ _⟩
  apply RunL.pure
  · intro vs w hb hd; have d25 : isV _ (vs 25) w := hd 25 (by decide) (by kernel_rfl); unfold isV at d25; clear hd; simp only [List.take, putL, Act.put, List.setIfInBounds_toArray, List.set_cons_zero, List.set_cons_succ]; unfold StepOK; go_simp; exact ⟨Below.refl _ _, isV_mk _ _⟩
  apply RunL.pure
  · intro vs w hb hd; have d25 : isV _ (vs 25) w := hd 25 (by decide) (by kernel_rfl); unfold isV at d25; clear hd; simp only [List.take, putL, Act.put, List.setIfInBounds_toArray, List.set_cons_zero, List.set_cons_succ]; unfold StepOK; go_simp; exact ⟨Below.refl _ _, isV_mk _ _⟩
  apply RunL.pure
  · intro vs w hb hd; have d25 : isV _ (vs 25) w := hd 25 (by decide) (by kernel_rfl); unfold isV at d25; have d26 : isV _ (vs 26) w := hd 26 (by decide) (by kernel_rfl); unfold isV at d26; have d27 : isV _ (vs 27) w := hd 27 (by decide) (by kernel_rfl); unfold isV at d27; clear hd; simp only [List.take, putL, Act.put, List.setIfInBounds_toArray, List.set_cons_zero, List.set_cons_succ]; unfold StepOK; go_simp; exact ⟨Below.refl _ _, isV_mk _ _⟩
  apply RunL.pure
  · intro vs w hb hd; have d25 : isV _ (vs 25) w := hd 25 (by decide) (by kernel_rfl); unfold isV at d25; have d28 : isV _ (vs 28) w := hd 28 (by decide) (by kernel_rfl); unfold isV at d28; clear hd; simp only [List.take, putL, Act.put, List.setIfInBounds_toArray, List.set_cons_zero, List.set_cons_succ]; unfold StepOK; go_simp; exact ⟨Below.refl _ _, isV_mk _ _⟩
  apply RunL.pure
  · intro vs w hb hd; have d25 : isV _ (vs 25) w := hd 25 (by decide) (by kernel_rfl); unfold isV at d25; have d29 : isV _ (vs 29) w := hd 29 (by decide) (by kernel_rfl); unfold isV at d29; clear hd; simp only [List.take, putL, Act.put, List.setIfInBounds_toArray, List.set_cons_zero, List.set_cons_succ]; unfold StepOK; go_simp; exact ⟨Below.refl _ _, isV_mk _ _⟩
  refine RunL.such (isV (.bool true)) (isV_stable _) ?_ ?_
  · intro vs w hb hd; have d30 : isV _ (vs 30) w := hd 30 (by decide) (by kernel_rfl); unfold isV at d30; clear hd; simp only [List.take, putL, Act.put, List.setIfInBounds_toArray, List.set_cons_zero, List.set_cons_succ]; unfold StepOK; go_simp; exact ⟨Below.refl _ _, such_of_bool (awake11_any _)⟩
  apply RunL.pure
  · intro vs w hb hd; have d30 : isV _ (vs 30) w := hd 30 (by decide) (by kernel_rfl); unfold isV at d30; have d31 := hd 31 (by decide) (by kernel_rfl); simp only [TR, Nat.reduceAdd, Nat.reduceSub, List.getD_cons_zero, List.getD_cons_succ] at d31; clear hd; unfold isV at d31; simp only [List.take, putL, Act.put, List.setIfInBounds_toArray, List.set_cons_zero, List.set_cons_succ]; unfold StepOK; go_simp; exact ⟨Below.refl _ _, isV_mk _ _⟩
  apply RunL.pure
  · intro vs w hb hd; have d0 := hd 0 (by decide) (by kernel_rfl); simp only [TR, Nat.reduceAdd, Nat.reduceSub, List.getD_cons_zero, List.getD_cons_succ] at d0; have d1 := hd 1 (by decide) (by kernel_rfl); simp only [TR, Nat.reduceAdd, Nat.reduceSub, List.getD_cons_zero, List.getD_cons_succ] at d1; have d2 := hd 2 (by decide) (by kernel_rfl); simp only [TR, Nat.reduceAdd, Nat.reduceSub, List.getD_cons_zero, List.getD_cons_succ] at d2; have d3 := hd 3 (by decide) (by kernel_rfl); simp only [TR, Nat.reduceAdd, Nat.reduceSub, List.getD_cons_zero, List.getD_cons_succ] at d3; have d4 := hd 4 (by decide) (by kernel_rfl); simp only [TR, Nat.reduceAdd, Nat.reduceSub, List.getD_cons_zero, List.getD_cons_succ] at d4; have d5 : isV _ (vs 5) w := hd 5 (by decide) (by kernel_rfl); unfold isV at d5; have d6 : isV _ (vs 6) w := hd 6 (by decide) (by kernel_rfl); unfold isV at d6; have d7 : isV _ (vs 7) w := hd 7 (by decide) (by kernel_rfl); unfold isV at d7; have d8 := hd 8 (by decide) (by kernel_rfl); simp only [TR, Nat.reduceAdd, Nat.reduceSub, List.getD_cons_zero, List.getD_cons_succ] at d8; have d9 : isV _ (vs 9) w := hd 9 (by decide) (by kernel_rfl); unfold isV at d9; have d10 : isV _ (vs 10) w := hd 10 (by decide) (by kernel_rfl); unfold isV at d10; have d11 : isV _ (vs 11) w := hd 11 (by decide) (by kernel_rfl); unfold isV at d11; have d12 : isV _ (vs 12) w := hd 12 (by decide) (by kernel_rfl); unfold isV at d12; have d13 : isV _ (vs 13) w := hd 13 (by decide) (by kernel_rfl); unfold isV at d13; have d14 : isV _ (vs 14) w := hd 14 (by decide) (by kernel_rfl); unfold isV at d14; have d15 : isV _ (vs 15) w := hd 15 (by decide) (by kernel_rfl); unfold isV at d15; have d16 := hd 16 (by decide) (by kernel_rfl); simp only [TR, Nat.reduceAdd, Nat.reduceSub, List.getD_cons_zero, List.getD_cons_succ] at d16; have d17 := hd 17 (by decide) (by kernel_rfl); simp only [TR, Nat.reduceAdd, Nat.reduceSub, List.getD_cons_zero, List.getD_cons_succ] at d17; have d18 := hd 18 (by decide) (by kernel_rfl); simp only [TR, Nat.reduceAdd, Nat.reduceSub, List.getD_cons_zero, List.getD_cons_succ] at d18; have d19 : isV _ (vs 19) w := hd 19 (by decide) (by kernel_rfl); unfold isV at d19; have d20 : isV _ (vs 20) w := hd 20 (by decide) (by kernel_rfl); unfold isV at d20; have d21 : isV _ (vs 21) w := hd 21 (by decide) (by kernel_rfl); unfold isV at d21; have d22 : isV _ (vs 22) w := hd 22 (by decide) (by kernel_rfl); unfold isV at d22; have d23 : isV _ (vs 23) w := hd 23 (by decide) (by kernel_rfl); unfold isV at d23; have d24 : isV _ (vs 24) w := hd 24 (by decide) (by kernel_rfl); unfold isV at d24; have d25 : isV _ (vs 25) w := hd 25 (by decide) (by kernel_rfl); unfold isV at d25; have d26 : isV _ (vs 26) w := hd 26 (by decide) (by kernel_rfl); unfold isV at d26; have d27 : isV _ (vs 27) w := hd 27 (by decide) (by kernel_rfl); unfold isV at d27; have d28 : isV _ (vs 28) w := hd 28 (by decide) (by kernel_rfl); unfold isV at d28; have d29 : isV _ (vs 29) w := hd 29 (by decide) (by kernel_rfl); unfold isV at d29; have d30 : isV _ (vs 30) w := hd 30 (by decide) (by kernel_rfl); unfold isV at d30; have d31 := hd 31 (by decide) (by kernel_rfl); simp only [TR, Nat.reduceAdd, Nat.reduceSub, List.getD_cons_zero, List.getD_cons_succ] at d31; have d32 : isV _ (vs 32) w := hd 32 (by decide) (by kernel_rfl); unfold isV at d32; clear hd; simp only [List.take, putL, Act.put, List.setIfInBounds_toArray, List.set_cons_zero, List.set_cons_succ]; unfold StepOK; go_simp; exact ⟨Below.refl _ _, isV_mk _ _⟩
  intro vs w1 hb hd
  have e0 := hd 0 (by decide); simp only [TR, Nat.reduceAdd, Nat.reduceSub, List.getD_cons_zero, List.getD_cons_succ] at e0
  have e1 := hd 1 (by decide); simp only [TR, Nat.reduceAdd, Nat.reduceSub, List.getD_cons_zero, List.getD_cons_succ] at e1
  have e2 := hd 2 (by decide); simp only [TR, Nat.reduceAdd, Nat.reduceSub, List.getD_cons_zero, List.getD_cons_succ] at e2
  have e3 := hd 3 (by decide); simp only [TR, Nat.reduceAdd, Nat.reduceSub, List.getD_cons_zero, List.getD_cons_succ] at e3
  have e4 := hd 4 (by decide); simp only [TR, Nat.reduceAdd, Nat.reduceSub, List.getD_cons_zero, List.getD_cons_succ] at e4
  have e5 : isV _ (vs 5) w1 := hd 5 (by decide)
  have e6 : isV _ (vs 6) w1 := hd 6 (by decide)
  have e7 : isV _ (vs 7) w1 := hd 7 (by decide)
  have e8 := hd 8 (by decide); simp only [TR, Nat.reduceAdd, Nat.reduceSub, List.getD_cons_zero, List.getD_cons_succ] at e8
  have e9 : isV _ (vs 9) w1 := hd 9 (by decide)
  have e10 : isV _ (vs 10) w1 := hd 10 (by decide)
  have e11 : isV _ (vs 11) w1 := hd 11 (by decide)
  have e12 : isV _ (vs 12) w1 := hd 12 (by decide)
  have e13 : isV _ (vs 13) w1 := hd 13 (by decide)
  have e14 : isV _ (vs 14) w1 := hd 14 (by decide)
  have e15 : isV _ (vs 15) w1 := hd 15 (by decide)
  have e16 := hd 16 (by decide); simp only [TR, Nat.reduceAdd, Nat.reduceSub, List.getD_cons_zero, List.getD_cons_succ] at e16
  have e17 := hd 17 (by decide); simp only [TR, Nat.reduceAdd, Nat.reduceSub, List.getD_cons_zero, List.getD_cons_succ] at e17
  have e18 := hd 18 (by decide); simp only [TR, Nat.reduceAdd, Nat.reduceSub, List.getD_cons_zero, List.getD_cons_succ] at e18
  have e19 : isV _ (vs 19) w1 := hd 19 (by decide)
  have e20 : isV _ (vs 20) w1 := hd 20 (by decide)
  have e21 : isV _ (vs 21) w1 := hd 21 (by decide)
  have e22 : isV _ (vs 22) w1 := hd 22 (by decide)
  have e23 : isV _ (vs 23) w1 := hd 23 (by decide)
  have e24 : isV _ (vs 24) w1 := hd 24 (by decide)
  have e25 : isV _ (vs 25) w1 := hd 25 (by decide)
  have e26 : isV _ (vs 26) w1 := hd 26 (by decide)
  have e27 : isV _ (vs 27) w1 := hd 27 (by decide)
  have e28 : isV _ (vs 28) w1 := hd 28 (by decide)
  have e29 : isV _ (vs 29) w1 := hd 29 (by decide)
  have e30 : isV _ (vs 30) w1 := hd 30 (by decide)
  have e31 := hd 31 (by decide); simp only [TR, Nat.reduceAdd, Nat.reduceSub, List.getD_cons_zero, List.getD_cons_succ] at e31
  have e32 : isV _ (vs 32) w1 := hd 32 (by decide)
  have e33 : isV _ (vs 33) w1 := hd 33 (by decide)
  clear hd
  unfold isV at e5 e6 e7 e9 e10 e11 e12 e13 e14 e15 e19 e20 e21 e22 e23 e24 e25 e26 e27 e28 e29 e30 e32 e33
  simp only [putL, Act.put, List.setIfInBounds_toArray, List.set_cons_zero, List.set_cons_succ, e5, e6, e7, e9, e10, e11, e12, e13, e14, e15, e19, e20, e21, e22, e23, e24, e25, e26, e27, e28, e29, e30, e32, e33]
  clear e5 e6 e7 e9 e10 e11 e12 e13 e14 e15 e19 e20 e21 e22 e23 e24 e25 e26 e27 e28 e29 e30 e32 e33
  --@end
  clear e0 e1 e2 e3 e4 e8 e16 e17 e18 e31 hbe hb11 hb14 s7 s9
  have hbH := hbG.trans (hb.mono hbG.size)
  go_wp2_with fail
  go_ret
  exact ⟨rfl, hbH⟩
end Go.Proofs.Ytphjmbhlokkdiaa
