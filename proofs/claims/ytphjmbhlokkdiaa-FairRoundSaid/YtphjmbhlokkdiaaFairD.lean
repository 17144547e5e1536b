import Derived.Test.YtphjmbhlokkdiaaFairC
namespace Go.Proofs.Ytphjmbhlokkdiaa
open Go.RowKit Go.Maps Go.WideShapes Go.WideMaps
set_option linter.unusedSimpArgs false
set_option linter.unusedVariables false

/-- turns in memory of the call's own: the struct at g, the queues at A -/
structure Out (base g : Nat) (w : World) (A : Option Addr) (c : Nat) (f : Fr) : Prop where
  fr : Own base 36 1 w (some ⟨g, 0, none⟩) 4 4 (frC f.Q A f.ts.length c f.At f.H)
  qs : Own base 51 3 w A f.ts.length c (flatT f.ts)
  ne : ∀ a, A = some a → a.block ≠ g
theorem Own.addr {base size n c : Nat} {e : TypeId} {w : World} {A : Option Addr} {cs : List Value} (h : Own base e size w A n c cs) : A = none ∨ ∃ b, A = some ⟨b, 0, none⟩ := by
  rcases h.2 with ⟨h1, _⟩ | ⟨g, cap, cur, h1, _⟩
  · simp only [Value.slice.injEq] at h1; exact .inl h1.1
  · simp only [Value.slice.injEq] at h1; exact .inr ⟨g, h1.1⟩
theorem flatT_setL (ts : List Tn) : ∀ (k : Nat) (q : Tn) (x : Int), ts[k]? = some q → (flatT ts).set (k * 3 + 2) (.int .i64 x) = flatT (ts.set k ⟨q.N, q.W, x⟩) := by
  unfold flatT
  induction ts with
  | nil => intro k q x h; simp at h
  | cons f r ih =>
    intro k q x h
    rw [List.flatMap_cons]
    cases k with
    | zero =>
      simp only [List.getElem?_cons_zero, Option.some.injEq] at h
      subst h
      simp [Tn.cells]
    | succ k =>
      rw [List.getElem?_cons_succ] at h
      have hl : f.cells.length = 3 := rfl
      rw [List.set_append_right _ _ (by rw [hl]; omega), hl, show (k + 1) * 3 + 2 - 3 = k * 3 + 2 by omega, ih k q x h, List.set_cons_succ, List.flatMap_cons]

/-- what serve makes of the queue whose turn it is -/
def serveF (f : Fr) (k : Nat) (q : Tn) (cost : Int) : Fr × Bool :=
  if cost = 0 then (⟨f.Q, f.ts.set k ⟨q.N, q.W, 0⟩, f.At, f.H⟩, false)
  else if (if f.H = true then q.L else q.L + q.W * f.Q) < cost then (⟨f.Q, f.ts.set k ⟨q.N, q.W, if f.H = true then q.L else q.L + q.W * f.Q⟩, f.At, true⟩, false)
  else (⟨f.Q, f.ts.set k ⟨q.N, q.W, (if f.H = true then q.L else q.L + q.W * f.Q) - cost⟩, f.At, true⟩, true)
theorem set_same {ts : List Tn} {k : Nat} {q : Tn} (h : ts[k]? = some q) : ts.set k ⟨q.N, q.W, q.L⟩ = ts := by
  obtain ⟨h1, h2⟩ := List.getElem?_eq_some_iff.1 h
  apply List.ext_getElem?
  intro j
  rw [List.getElem?_set]
  by_cases hj : k = j
  · subst hj; rw [if_pos rfl, if_pos h1, h]
  · rw [if_neg hj]

set_option maxRecDepth 100000 in
set_option maxHeartbeats 4000000 in
theorem serve_any (base g k c : Nat) (A : Option Addr) (f : Fr) (q : Tn) (cost : Int) (w : World) (ho : Out base g w A c f) (hk : f.At = (k : Int)) (hq : f.ts[k]? = some q) (hl : f.ts.length ≤ 1000)
    (h1 : 0 ≤ q.W ∧ q.W ≤ 1000 ∧ 0 ≤ f.Q ∧ f.Q ≤ 1000 ∧ 0 ≤ q.L ∧ q.L ≤ 1000000 ∧ 0 ≤ cost ∧ cost ≤ 1000000) :
    Calls Try.prog 67 #[.pointer (some ⟨g, 0, none⟩), .int .i64 cost] w fun e w' => e = .returned (.bool (serveF f k q cost).2) ∧ Out base g w' A c (serveF f k q cost).1 ∧ Below base w w' := by
  obtain ⟨Q, ts, At, H⟩ := f
  simp only at hk hq hl h1
  subst hk
  obtain ⟨oF, oQ, hne⟩ := ho
  simp only at oF oQ
  have hkl := (List.getElem?_eq_some_iff.1 hq).1
  obtain ⟨b, rfl⟩ : ∃ b, A = some ⟨b, 0, none⟩ := by
    rcases oQ.addr with rfl | h
    · have := oQ.sl.none rfl; omega
    · exact h
  have hbg := hne _ rfl
  simp only at hbg
  have hbb := World.ownsRow.lt oQ b rfl
  have hgb := World.ownsRow.lt oF g rfl
  have hin : (0 : Int) ≤ (k : Int) ∧ (k : Int) < (ts.length : Int) := by omega
  obtain ⟨pr, hp⟩ : ∃ p, p = serveF ⟨Q, ts, (k : Int), H⟩ k q cost := ⟨_, rfl⟩
  rw [← hp]
  have HP := Lib.hid hp
  clear hp
  go_enter Try.func67, Try.ntmps67
  go_wp2_with fail
  --@region 67 1 serve1.spec
  refine wp_region_run (by kernel_rfl) (by kernel_rfl) ?_
  apply RunL.pure
  · intro vs w hb hd; clear hd; simp only [List.take, putL, Act.put, List.setIfInBounds_toArray, List.set_cons_zero, List.set_cons_succ]; unfold StepOK; go_simp; exact ⟨Below.refl _ _, isV_mk _ _⟩
  apply RunL.pure
  · intro vs w hb hd; have d0 : isV _ (vs 0) w := hd 0 (by decide) (by kernel_rfl); unfold isV at d0; clear hd; simp only [List.take, putL, Act.put, List.setIfInBounds_toArray, List.set_cons_zero, List.set_cons_succ]; unfold StepOK; go_simp; exact ⟨Below.refl _ _, isV_mk _ _⟩
  apply RunL.pure
  · intro vs w hb hd; have d1 : isV _ (vs 1) w := hd 1 (by decide) (by kernel_rfl); unfold isV at d1; clear hd; simp only [List.take, putL, Act.put, List.setIfInBounds_toArray, List.set_cons_zero, List.set_cons_succ]; unfold StepOK; go_simp; exact ⟨Below.refl _ _, isV_mk _ _⟩
  apply RunL.pure
  · intro vs w hb hd; have d2 : isV _ (vs 2) w := hd 2 (by decide) (by kernel_rfl); unfold isV at d2; clear hd; have y1 := World.ownsRow.cellAt (oF.below hb) 1 (by omega); simp only [frC, List.getElem?_cons_succ, List.getElem?_cons_zero] at y1; simp only [List.take, putL, Act.put, List.setIfInBounds_toArray, List.set_cons_zero, List.set_cons_succ]; unfold StepOK; go_simp; exact ⟨Below.refl _ _, isV_mk _ _⟩
  apply RunL.pure
  · intro vs w hb hd; clear hd; simp only [List.take, putL, Act.put, List.setIfInBounds_toArray, List.set_cons_zero, List.set_cons_succ]; unfold StepOK; go_simp; exact ⟨Below.refl _ _, isV_mk _ _⟩
  apply RunL.pure
  · intro vs w hb hd; have d4 : isV _ (vs 4) w := hd 4 (by decide) (by kernel_rfl); unfold isV at d4; clear hd; simp only [List.take, putL, Act.put, List.setIfInBounds_toArray, List.set_cons_zero, List.set_cons_succ]; unfold StepOK; go_simp; exact ⟨Below.refl _ _, isV_mk _ _⟩
  apply RunL.pure
  · intro vs w hb hd; have d5 : isV _ (vs 5) w := hd 5 (by decide) (by kernel_rfl); unfold isV at d5; clear hd; simp only [List.take, putL, Act.put, List.setIfInBounds_toArray, List.set_cons_zero, List.set_cons_succ]; unfold StepOK; go_simp; exact ⟨Below.refl _ _, isV_mk _ _⟩
  apply RunL.pure
  · intro vs w hb hd; have d6 : isV _ (vs 6) w := hd 6 (by decide) (by kernel_rfl); unfold isV at d6; clear hd; have y2 := World.ownsRow.cellAt (oF.below hb) 2 (by omega); simp only [frC, List.getElem?_cons_succ, List.getElem?_cons_zero] at y2; simp only [List.take, putL, Act.put, List.setIfInBounds_toArray, List.set_cons_zero, List.set_cons_succ]; unfold StepOK; go_simp; exact ⟨Below.refl _ _, isV_mk _ _⟩
  apply RunL.pure
  · intro vs w hb hd; have d3 : isV _ (vs 3) w := hd 3 (by decide) (by kernel_rfl); unfold isV at d3; have d7 : isV _ (vs 7) w := hd 7 (by decide) (by kernel_rfl); unfold isV at d7; clear hd; have hq1 := hin; simp only [List.take, putL, Act.put, List.setIfInBounds_toArray, List.set_cons_zero, List.set_cons_succ]; unfold StepOK; go_simp; exact ⟨Below.refl _ _, isV_mk _ _⟩
  apply RunL.pure
  · intro vs w hb hd; have d0 : isV _ (vs 0) w := hd 0 (by decide) (by kernel_rfl); unfold isV at d0; have d1 : isV _ (vs 1) w := hd 1 (by decide) (by kernel_rfl); unfold isV at d1; have d2 : isV _ (vs 2) w := hd 2 (by decide) (by kernel_rfl); unfold isV at d2; have d3 : isV _ (vs 3) w := hd 3 (by decide) (by kernel_rfl); unfold isV at d3; have d4 : isV _ (vs 4) w := hd 4 (by decide) (by kernel_rfl); unfold isV at d4; have d5 : isV _ (vs 5) w := hd 5 (by decide) (by kernel_rfl); unfold isV at d5; have d6 : isV _ (vs 6) w := hd 6 (by decide) (by kernel_rfl); unfold isV at d6; have d7 : isV _ (vs 7) w := hd 7 (by decide) (by kernel_rfl); unfold isV at d7; have d8 : isV _ (vs 8) w := hd 8 (by decide) (by kernel_rfl); unfold isV at d8; clear hd; simp only [List.take, putL, Act.put, List.setIfInBounds_toArray, List.set_cons_zero, List.set_cons_succ]; unfold StepOK; go_simp; exact ⟨Below.refl _ _, isV_mk _ _⟩
  intro vs w1 hb hd
  have e0 : isV _ (vs 0) w1 := hd 0 (by decide)
  have e1 : isV _ (vs 1) w1 := hd 1 (by decide)
  have e2 : isV _ (vs 2) w1 := hd 2 (by decide)
  have e3 : isV _ (vs 3) w1 := hd 3 (by decide)
  have e4 : isV _ (vs 4) w1 := hd 4 (by decide)
  have e5 : isV _ (vs 5) w1 := hd 5 (by decide)
  have e6 : isV _ (vs 6) w1 := hd 6 (by decide)
  have e7 : isV _ (vs 7) w1 := hd 7 (by decide)
  have e8 : isV _ (vs 8) w1 := hd 8 (by decide)
  have e9 : isV _ (vs 9) w1 := hd 9 (by decide)
  clear hd
  unfold isV at e0 e1 e2 e3 e4 e5 e6 e7 e8 e9
  simp only [putL, Act.put, List.setIfInBounds_toArray, List.set_cons_zero, List.set_cons_succ, e0, e1, e2, e3, e4, e5, e6, e7, e8, e9]
  clear e0 e1 e2 e3 e4 e5 e6 e7 e8 e9
  --@end
  have oF1 := oF.below hb
  have oQ1 := oQ.below hb
  have hbw : Below base w w1 := hb.mono (by omega)
  clear oF oQ hb
  have cL := World.ownsRow.cellAt oQ1 (k * 3 + 2) (by omega)
  have cW := World.ownsRow.cellAt oQ1 (k * 3 + 1) (by omega)
  rw [flatT_at ts k 2 q _ hq rfl] at cL
  rw [flatT_at ts k 1 q _ hq rfl] at cW
  have xL := World.ownsRow.frozenAt oQ1 (k * 3 + 2)
  have y0 := World.ownsRow.cellAt oF1 0 (by omega)
  have y3 := World.ownsRow.cellAt oF1 3 (by omega)
  have x3 := World.ownsRow.frozenAt oF1 3
  simp only [frC, List.getElem?_cons_succ, List.getElem?_cons_zero] at y0 y3
  have hset : ∀ x, Own base 51 3 (w1.setCell ⟨b, k * 3 + 2, none⟩ (.int .i64 x)) (some ⟨b, 0, none⟩) ts.length c (flatT (ts.set k ⟨q.N, q.W, x⟩)) ∧ w1.grownBy (w1.setCell ⟨b, k * 3 + 2, none⟩ (.int .i64 x)) (some b) := fun x => by
    have := World.ownsRow.stored oQ1 (k * 3 + 2) (.int .i64 x)
    rw [flatT_setL ts k q x hq] at this
    exact this
  have Hset := Lib.hid hset
  have Hq := Lib.hid hq
  clear hset hq
  by_cases hc0 : cost = 0
  · subst hc0
    obtain rfl : pr = (⟨Q, ts.set k ⟨q.N, q.W, 0⟩, (k : Int), H⟩, false) := by rw [HP.out]; simp [serveF]
    go_wp2_with fail
    go_ret
    have s1 := Hset.out 0
    exact ⟨rfl, ⟨by simp only [List.length_set]; exact Own.apart oF1 s1.2 (by omega), by simp only [List.length_set]; exact s1.1, hne⟩, hbw.grown s1.2 (by have := hbw.size; omega) (fun j hj => by cases hj; exact hbb.1)⟩
  · cases H with
    | true =>
      by_cases hlt : q.L < cost
      · obtain rfl : pr = (⟨Q, ts, (k : Int), true⟩, false) := by rw [HP.out]; simp [serveF, hc0, hlt, set_same Hq.out]
        go_wp2_with fail
        go_ret
        exact ⟨rfl, ⟨oF1, oQ1, hne⟩, hbw⟩
      · obtain rfl : pr = (⟨Q, ts.set k ⟨q.N, q.W, q.L - cost⟩, (k : Int), true⟩, true) := by rw [HP.out]; simp [serveF, hc0, hlt]
        go_wp2_with fail
        go_ret
        have s1 := Hset.out (q.L - cost)
        exact ⟨rfl, ⟨by simp only [List.length_set]; exact Own.apart oF1 s1.2 (by omega), by simp only [List.length_set]; exact s1.1, hne⟩, hbw.grown s1.2 (by have := hbw.size; omega) (fun j hj => by cases hj; exact hbb.1)⟩
    | false =>
      have hd : Below w1.heap.size w1 w1.drew := (Below.refl _ _).drew
      have oF2 := oF1.below hd
      have oQ2 := oQ1.below hd
      have hbw2 := hbw.trans (hd.mono (by have := hbw.size; omega))
      have hm1 : 0 ≤ q.W * Q := Int.mul_nonneg h1.1 h1.2.2.1
      have hm2 : q.W * Q ≤ 1000000 := by
        have := Int.mul_le_mul h1.2.1 h1.2.2.2.1 h1.2.2.1 (by omega : (0 : Int) ≤ 1000)
        omega
      obtain ⟨pd, hpd⟩ : ∃ p, p = q.W * Q := ⟨_, rfl⟩
      rw [← hpd] at hm1 hm2
      have hwm : IntKind.i64.wrap (q.W * Q) = pd := by rw [← hpd]; exact IntWalk.i64_in _ (by omega)
      have hws : IntKind.i64.wrap (q.L + pd) = q.L + pd := IntWalk.i64_in _ (by omega)
      have Hpd := Lib.hid hpd
      clear hpd Hset
      go_upto_region 6 with fail
      go_still_tail 16, (by kernel_rfl)
      change wpList _ _ _ _ _ w1.drew
      generalize w1.drew = w2 at *
      clear cL cW xL y0 y3 x3 oF1 oQ1 hbw hd
      have cL := World.ownsRow.cellAt oQ2 (k * 3 + 2) (by omega)
      have cW := World.ownsRow.cellAt oQ2 (k * 3 + 1) (by omega)
      rw [flatT_at ts k 2 q _ Hq.out rfl] at cL
      rw [flatT_at ts k 1 q _ Hq.out rfl] at cW
      have xL := World.ownsRow.frozenAt oQ2 (k * 3 + 2)
      have y0 := World.ownsRow.cellAt oF2 0 (by omega)
      simp only [frC, List.getElem?_cons_succ, List.getElem?_cons_zero] at y0
      have s1 := World.ownsRow.stored oQ2 (k * 3 + 2) (.int .i64 (q.L + pd))
      rw [flatT_setL ts k q (q.L + pd) Hq.out] at s1
      have oF3 := Own.apart oF2 s1.2 (by omega)
      have oQ3 := s1.1
      have hbw3 := hbw2.grown s1.2 (by have := hbw2.size; omega) (fun j hj => by cases hj; exact hbb.1)
      clear s1 oF2 oQ2 hbw2
      go_upto_region 7 with fail
      generalize w2.setCell ⟨b, k * 3 + 2, none⟩ (.int .i64 (q.L + pd)) = w3 at *
      clear cL cW xL y0
      have x3 := World.ownsRow.frozenAt oF3 3
      have y3 := World.ownsRow.cellAt oF3 3 (by omega)
      simp only [frC, List.getElem?_cons_succ, List.getElem?_cons_zero] at y3
      have s2 := World.ownsRow.stored oF3 3 (.bool true)
      have oF4 : Own base 36 1 _ (some ⟨g, 0, none⟩) 4 4 (frC Q (some ⟨b, 0, none⟩) ts.length c (k : Int) true) := s2.1
      have oQ4 := Own.apart oQ3 s2.2 hbg
      have hbw4 := hbw3.grown s2.2 (by have := hbw3.size; omega) (fun j hj => by cases hj; exact hgb.1)
      clear s2 oF3 oQ3 hbw3
      go_upto_region 8 with fail
      generalize w3.setCell ⟨g, 3, none⟩ (.bool true) = w4 at *
      clear x3 y3
      have hq4 : (ts.set k ⟨q.N, q.W, q.L + pd⟩)[k]? = some ⟨q.N, q.W, q.L + pd⟩ := by rw [List.getElem?_set, if_pos rfl, if_pos hkl]
      have cL := World.ownsRow.cellAt oQ4 (k * 3 + 2) (by omega)
      rw [flatT_at _ k 2 _ _ hq4 rfl] at cL
      have xL := World.ownsRow.frozenAt oQ4 (k * 3 + 2)
      by_cases hlt : q.L + pd < cost
      · obtain rfl : pr = (⟨Q, ts.set k ⟨q.N, q.W, q.L + pd⟩, (k : Int), true⟩, false) := by rw [HP.out]; simp [serveF, hc0, ← Hpd.out, hlt]
        clear hq4
        go_wp2_with fail
        go_ret
        exact ⟨rfl, ⟨by simp only [List.length_set]; exact oF4, by simp only [List.length_set]; exact oQ4, hne⟩, hbw4⟩
      · obtain rfl : pr = (⟨Q, ts.set k ⟨q.N, q.W, q.L + pd - cost⟩, (k : Int), true⟩, true) := by rw [HP.out]; simp [serveF, hc0, ← Hpd.out, hlt]
        have s3 := World.ownsRow.stored oQ4 (k * 3 + 2) (.int .i64 (q.L + pd - cost))
        rw [flatT_setL _ k _ (q.L + pd - cost) hq4, List.set_set] at s3
        clear hq4
        go_wp2_with fail
        go_ret
        exact ⟨rfl, ⟨by simp only [List.length_set]; exact Own.apart oF4 s3.2 (by omega), by simp only [List.length_set]; exact s3.1, hne⟩, hbw4.grown s3.2 (by have := hbw4.size; omega) (fun j hj => by cases hj; exact hbb.1)⟩
end Go.Proofs.Ytphjmbhlokkdiaa
