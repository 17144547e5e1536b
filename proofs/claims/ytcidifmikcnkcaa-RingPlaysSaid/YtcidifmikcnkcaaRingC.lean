import Derived.Test.YtcidifmikcnkcaaRingB
/- A queue: one goes. -/
namespace Go.Proofs.Ytcidifmikcnkcaa
open Go.RowKit
set_option linter.unusedSimpArgs false
set_option linter.unusedVariables false

def cutAt (l : List Int) (i j k : Nat) : Option Int := if k ≤ j then l[k]? else if k ≤ i then l[k - 1]? else l[k]?
set_option maxRecDepth 100000 in
set_option maxHeartbeats 8000000 in
theorem qcut_any {W : World} {base b n c f : Nat} {q : Qu} {A : Option Addr} {L : List Int} (h : QIs W base b q A n c f L) (i : Nat) (hi : i < q.l.length) :
    Calls Try.prog 48 #[.pointer (some ⟨b, 0, none⟩), .int .i64 (i : Int)] W fun e w' => e = .returned (.tuple #[]) ∧ ∃ f' L', QIs w' base b ⟨q.most, q.l.eraseIdx i⟩ A n c f' L' ∧ QStep W w' b A := by
  have hlen := h.len
  have hbl := h.blt
  have hf : f < n := by rcases h.from_ with h | h <;> omega
  obtain ⟨g, rfl, hgb, hgs⟩ := own_addr h.row (by omega)
  have hne : g ≠ b := h.ne _ rfl
  have HQ := Lib.hid h
  have HF := Lib.hid hf
  have HN := Lib.hid hlen.2.1
  have Hne := Lib.hid hne
  clear h hf hne
  go_enter Try.func48, Try.ntmps48
  go_wp2_with fail
  go_loopw [1] (fun s1 wx => ∃ (j : Nat) (l1 L1 : List Int), j ≤ i ∧ s1 = .int .i64 (j : Int) ∧ l1.length = q.l.length ∧ Hid (QIs wx base b ⟨q.most, l1⟩ (some ⟨g, 0, none⟩) n c f L1) ∧ Hid (∀ k, k < q.l.length → l1[k]? = cutAt q.l i j k) ∧ Hid (QStep W wx b (some ⟨g, 0, none⟩))) (fun iv _ => (intOf iv).toNat)
  case atStart => exact ⟨i, q.l, L, by omega, rfl, rfl, HQ, Lib.hid (fun k hk => by unfold cutAt; by_cases h : k ≤ i <;> simp [h]), Lib.hid (QStep.below (Below.refl _ _))⟩
  case round =>
    obtain ⟨j, l1, L1, hj, rfl, hl1, HQ1, HC, HS⟩ := hrel
    rename World => wx
    obtain ⟨c0, c1, c2, c3⟩ := HQ1.out.cell
    have HC1 := Lib.hid c1
    have HC2 := Lib.hid c2
    have HC3 := Lib.hid c3
    clear c0 c1 c2 c3
    by_cases hj0 : 0 < j
    · obtain ⟨r1, hr1⟩ : ∃ r1, r1 = (f + j) % n := ⟨_, rfl⟩
      obtain ⟨jp, hjp⟩ : ∃ jp, j = jp + 1 := ⟨j - 1, by omega⟩
      obtain ⟨r2, hr2⟩ : ∃ r2, r2 = (f + jp) % n := ⟨_, rfl⟩
      have hne12 : r2 ≠ r1 := by rw [hr1, hr2]; exact ring_ne HF.out (by omega) (by omega) (by omega)
      have hrn1 : (0 : Int) ≤ (r1 : Int) ∧ (r1 : Int) < (n : Int) := by have := Nat.mod_lt (f + j) (show 0 < n by omega); omega
      have hrn2 : (0 : Int) ≤ (r2 : Int) ∧ (r2 : Int) < (n : Int) := by have := Nat.mod_lt (f + jp) (show 0 < n by omega); omega
      obtain ⟨y1, hy1⟩ : ∃ y, L1[r1]? = some y := ⟨_, List.getElem?_eq_getElem (by rw [HQ1.out.Ln]; omega)⟩
      obtain ⟨y2, hl2⟩ : ∃ y, l1[jp]? = some y := ⟨_, List.getElem?_eq_getElem (by omega)⟩
      have hy2 : L1[r2]? = some y2 := by rw [hr2]; exact HQ1.out.ring jp y2 hl2
      have HJ1 := Lib.hid (show (j : Int) - 1 = (jp : Int) by omega)
      have Hjp := Lib.hid hjp
      have HW := Lib.hid (show IntKind.i64.wrap (jp : Int) = (jp : Int) by rw [IntKind.wrap_i64]; omega)
      have HNe : Hid (∀ i, (⟨b, i, none⟩ : Addr) ≠ ⟨g, r1, none⟩) := Lib.hid (fun i e => Hne.out (congrArg Addr.block e).symm)
      have HNr : Hid ((⟨g, r2, none⟩ : Addr) ≠ ⟨g, r1, none⟩) := Lib.hid (fun e => hne12 (congrArg Addr.off e))
      have Hr1 := Lib.hid hr1
      have Hr2 := Lib.hid hr2
      have Hy1 := Lib.hid hy1
      have Hy2 := Lib.hid hy2
      have Hl2 := Lib.hid hl2
      clear hr1 hr2 hy1 hy2 hne12 hl2 hjp
      go_upto_region 2 with fail
      --@region 48 2 rcut2.spec
      refine wp_region_runN [18] (fun _ w2 => JI base g n c L1 w2) (by kernel_rfl) (by kernel_rfl) (by kernel_rfl) (R := Rc ⟨g, r1, none⟩) (fun _ _ h => Rc.below h) (fun _ _ _ => Rc.trans) (JI_stable _ _ _ _ _) HQ1.out.row ?_
      apply RunN.pure (by decide)
      · intro vs w hb hd; clear hd; simp only [List.take, putL, Act.put, List.setIfInBounds_toArray, List.set_cons_zero, List.set_cons_succ]; unfold StepOK; go_simp; exact ⟨Below.refl _ _, isV_mk _ _⟩
      apply RunN.pure (by decide)
      · intro vs w hb hd; have d0 : isV _ (vs 0) w := hd 0 (by decide) (by kernel_rfl); unfold isV at d0; clear hd; simp only [List.take, putL, Act.put, List.setIfInBounds_toArray, List.set_cons_zero, List.set_cons_succ]; unfold StepOK; go_simp; exact ⟨Below.refl _ _, isV_mk _ _⟩
      apply RunN.pure (by decide)
      · intro vs w hb hd; have d1 : isV _ (vs 1) w := hd 1 (by decide) (by kernel_rfl); unfold isV at d1; clear hd; simp only [List.take, putL, Act.put, List.setIfInBounds_toArray, List.set_cons_zero, List.set_cons_succ]; unfold StepOK; go_simp; exact ⟨Below.refl _ _, isV_mk _ _⟩
      apply RunN.pure (by decide)
      · intro vs w hb hd; have d2 : isV _ (vs 2) w := hd 2 (by decide) (by kernel_rfl); unfold isV at d2; clear hd; have k1 := hb.cell _ _ (HNe.out 1) HC1.out; simp only [List.take, putL, Act.put, List.setIfInBounds_toArray, List.set_cons_zero, List.set_cons_succ]; unfold StepOK; go_simp; exact ⟨Below.refl _ _, isV_mk _ _⟩
      apply RunN.pure (by decide)
      · intro vs w hb hd; clear hd; simp only [List.take, putL, Act.put, List.setIfInBounds_toArray, List.set_cons_zero, List.set_cons_succ]; unfold StepOK; go_simp; exact ⟨Below.refl _ _, isV_mk _ _⟩
      apply RunN.pure (by decide)
      · intro vs w hb hd; clear hd; simp only [List.take, putL, Act.put, List.setIfInBounds_toArray, List.set_cons_zero, List.set_cons_succ]; unfold StepOK; go_simp; exact ⟨Below.refl _ _, isV_mk _ _⟩
      refine RunN.such (by decide) (isV (.int .i64 ((r1 : Nat) : Int))) (isV_stableR _) ?_ ?_
      · intro vs w hb hd; have d4 : isV _ (vs 4) w := hd 4 (by decide) (by kernel_rfl); unfold isV at d4; have d5 : isV _ (vs 5) w := hd 5 (by decide) (by kernel_rfl); unfold isV at d5; clear hd; have k1 := hb.cell _ _ (HNe.out 1) HC1.out; have k2 := hb.cell _ _ (HNe.out 2) HC2.out; simp only [List.take, putL, Act.put, List.setIfInBounds_toArray, List.set_cons_zero, List.set_cons_succ]; unfold StepOK; go_simp; exact ⟨Below.refl _ _, such_of_bool (by rw [Hr1.out]; exact place_any k1 k2 HF.out HN.out _ (by omega))⟩
      apply RunN.pure (by decide)
      · intro vs w hb hd; clear hd; simp only [List.take, putL, Act.put, List.setIfInBounds_toArray, List.set_cons_zero, List.set_cons_succ]; unfold StepOK; go_simp; exact ⟨Below.refl _ _, isV_mk _ _⟩
      apply RunN.pure (by decide)
      · intro vs w hb hd; have d7 : isV _ (vs 7) w := hd 7 (by decide) (by kernel_rfl); unfold isV at d7; clear hd; simp only [List.take, putL, Act.put, List.setIfInBounds_toArray, List.set_cons_zero, List.set_cons_succ]; unfold StepOK; go_simp; exact ⟨Below.refl _ _, isV_mk _ _⟩
      apply RunN.pure (by decide)
      · intro vs w hb hd; have d8 : isV _ (vs 8) w := hd 8 (by decide) (by kernel_rfl); unfold isV at d8; clear hd; simp only [List.take, putL, Act.put, List.setIfInBounds_toArray, List.set_cons_zero, List.set_cons_succ]; unfold StepOK; go_simp; exact ⟨Below.refl _ _, isV_mk _ _⟩
      apply RunN.pure (by decide)
      · intro vs w hb hd; have d9 : isV _ (vs 9) w := hd 9 (by decide) (by kernel_rfl); unfold isV at d9; clear hd; have k1 := hb.cell _ _ (HNe.out 1) HC1.out; simp only [List.take, putL, Act.put, List.setIfInBounds_toArray, List.set_cons_zero, List.set_cons_succ]; unfold StepOK; go_simp; exact ⟨Below.refl _ _, isV_mk _ _⟩
      apply RunN.pure (by decide)
      · intro vs w hb hd; clear hd; simp only [List.take, putL, Act.put, List.setIfInBounds_toArray, List.set_cons_zero, List.set_cons_succ]; unfold StepOK; go_simp; exact ⟨Below.refl _ _, isV_mk _ _⟩
      apply RunN.pure (by decide)
      · intro vs w hb hd; clear hd; simp only [List.take, putL, Act.put, List.setIfInBounds_toArray, List.set_cons_zero, List.set_cons_succ]; unfold StepOK; go_simp; exact ⟨Below.refl _ _, isV_mk _ _⟩
      apply RunN.pure (by decide)
      · intro vs w hb hd; have d12 : isV _ (vs 12) w := hd 12 (by decide) (by kernel_rfl); unfold isV at d12; clear hd; have hc1 := HJ1.out; have hc2 := HW.out; simp only [List.take, putL, Act.put, List.setIfInBounds_toArray, List.set_cons_zero, List.set_cons_succ]; unfold StepOK; go_simp; exact ⟨Below.refl _ _, isV_mk _ _⟩
      refine RunN.such (by decide) (isV (.int .i64 ((r2 : Nat) : Int))) (isV_stableR _) ?_ ?_
      · intro vs w hb hd; have d6 := hd 6 (by decide) (by kernel_rfl); simp only [TR, Nat.reduceAdd, Nat.reduceSub, List.getD_cons_zero, List.getD_cons_succ] at d6; have d11 : isV _ (vs 11) w := hd 11 (by decide) (by kernel_rfl); unfold isV at d11; have d13 : isV _ (vs 13) w := hd 13 (by decide) (by kernel_rfl); unfold isV at d13; clear hd; have k1 := hb.cell _ _ (HNe.out 1) HC1.out; have k2 := hb.cell _ _ (HNe.out 2) HC2.out; simp only [List.take, putL, Act.put, List.setIfInBounds_toArray, List.set_cons_zero, List.set_cons_succ]; unfold StepOK; go_simp; exact ⟨Below.refl _ _, such_of_bool (by rw [Hr2.out]; exact place_any k1 k2 HF.out HN.out _ (by have := Hjp.out; omega))⟩
      apply RunN.pure (by decide)
      · intro vs w hb hd; have d10 : isV _ (vs 10) w := hd 10 (by decide) (by kernel_rfl); unfold isV at d10; have d14 := hd 14 (by decide) (by kernel_rfl); simp only [TR, Nat.reduceAdd, Nat.reduceSub, List.getD_cons_zero, List.getD_cons_succ] at d14; clear hd; unfold isV at d14; have hx1 := hrn2; simp only [List.take, putL, Act.put, List.setIfInBounds_toArray, List.set_cons_zero, List.set_cons_succ]; unfold StepOK; go_simp; exact ⟨Below.refl _ _, isV_mk _ _⟩
      apply RunN.pure (by decide)
      · intro vs w hb hd; have d15 : isV _ (vs 15) w := hd 15 (by decide) (by kernel_rfl); unfold isV at d15; clear hd; have k1 := hb.cell _ _ HNr.out (own_cell HQ1.out.row Hy2.out); simp only [List.take, putL, Act.put, List.setIfInBounds_toArray, List.set_cons_zero, List.set_cons_succ]; unfold StepOK; go_simp; exact ⟨Below.refl _ _, isV_mk _ _⟩
      apply RunN.pure (by decide)
      · intro vs w hb hd; have d0 : isV _ (vs 0) w := hd 0 (by decide) (by kernel_rfl); unfold isV at d0; have d1 : isV _ (vs 1) w := hd 1 (by decide) (by kernel_rfl); unfold isV at d1; have d2 : isV _ (vs 2) w := hd 2 (by decide) (by kernel_rfl); unfold isV at d2; have d3 : isV _ (vs 3) w := hd 3 (by decide) (by kernel_rfl); unfold isV at d3; have d4 : isV _ (vs 4) w := hd 4 (by decide) (by kernel_rfl); unfold isV at d4; have d5 : isV _ (vs 5) w := hd 5 (by decide) (by kernel_rfl); unfold isV at d5; have d6 := hd 6 (by decide) (by kernel_rfl); simp only [TR, Nat.reduceAdd, Nat.reduceSub, List.getD_cons_zero, List.getD_cons_succ] at d6; have d7 : isV _ (vs 7) w := hd 7 (by decide) (by kernel_rfl); unfold isV at d7; have d8 : isV _ (vs 8) w := hd 8 (by decide) (by kernel_rfl); unfold isV at d8; have d9 : isV _ (vs 9) w := hd 9 (by decide) (by kernel_rfl); unfold isV at d9; have d10 : isV _ (vs 10) w := hd 10 (by decide) (by kernel_rfl); unfold isV at d10; have d11 : isV _ (vs 11) w := hd 11 (by decide) (by kernel_rfl); unfold isV at d11; have d12 : isV _ (vs 12) w := hd 12 (by decide) (by kernel_rfl); unfold isV at d12; have d13 : isV _ (vs 13) w := hd 13 (by decide) (by kernel_rfl); unfold isV at d13; have d14 := hd 14 (by decide) (by kernel_rfl); simp only [TR, Nat.reduceAdd, Nat.reduceSub, List.getD_cons_zero, List.getD_cons_succ] at d14; have d15 : isV _ (vs 15) w := hd 15 (by decide) (by kernel_rfl); unfold isV at d15; have d16 : isV _ (vs 16) w := hd 16 (by decide) (by kernel_rfl); unfold isV at d16; clear hd; unfold isV at d6; have hx1 := hrn1; simp only [List.take, putL, Act.put, List.setIfInBounds_toArray, List.set_cons_zero, List.set_cons_succ]; unfold StepOK; go_simp; exact ⟨Below.refl _ _, isV_mk _ _⟩
      refine RunN.store (by decide) ((fun w2 => JI base g n c (L1.set r1 y2) w2)) (JI_stable _ _ _ _ _) ?_ ?_
      · intro vs w hb hd hj; have d0 : isV _ (vs 0) w := hd 0 (by decide) (by kernel_rfl); unfold isV at d0; have d1 : isV _ (vs 1) w := hd 1 (by decide) (by kernel_rfl); unfold isV at d1; have d2 : isV _ (vs 2) w := hd 2 (by decide) (by kernel_rfl); unfold isV at d2; have d3 : isV _ (vs 3) w := hd 3 (by decide) (by kernel_rfl); unfold isV at d3; have d4 : isV _ (vs 4) w := hd 4 (by decide) (by kernel_rfl); unfold isV at d4; have d5 : isV _ (vs 5) w := hd 5 (by decide) (by kernel_rfl); unfold isV at d5; have d6 := hd 6 (by decide) (by kernel_rfl); simp only [TR, Nat.reduceAdd, Nat.reduceSub, List.getD_cons_zero, List.getD_cons_succ] at d6; have d7 : isV _ (vs 7) w := hd 7 (by decide) (by kernel_rfl); unfold isV at d7; have d8 : isV _ (vs 8) w := hd 8 (by decide) (by kernel_rfl); unfold isV at d8; have d9 : isV _ (vs 9) w := hd 9 (by decide) (by kernel_rfl); unfold isV at d9; have d10 : isV _ (vs 10) w := hd 10 (by decide) (by kernel_rfl); unfold isV at d10; have d11 : isV _ (vs 11) w := hd 11 (by decide) (by kernel_rfl); unfold isV at d11; have d12 : isV _ (vs 12) w := hd 12 (by decide) (by kernel_rfl); unfold isV at d12; have d13 : isV _ (vs 13) w := hd 13 (by decide) (by kernel_rfl); unfold isV at d13; have d14 := hd 14 (by decide) (by kernel_rfl); simp only [TR, Nat.reduceAdd, Nat.reduceSub, List.getD_cons_zero, List.getD_cons_succ] at d14; have d15 : isV _ (vs 15) w := hd 15 (by decide) (by kernel_rfl); unfold isV at d15; have d16 : isV _ (vs 16) w := hd 16 (by decide) (by kernel_rfl); unfold isV at d16; have d17 : isV _ (vs 17) w := hd 17 (by decide) (by kernel_rfl); unfold isV at d17; clear hd; have hj2 := hj; (try simp only [prevE, lastV, List.mem_cons, List.not_mem_nil, or_false, Nat.reduceEqDiff, Nat.reduceAdd, if_true, if_false, reduceIte, or_true, true_or, or_self] at hj2); clear hj; unfold JI at hj2; have y := own_cell hj2 Hy1.out; have z := World.ownsRow.frozenAt hj2 r1; have st := Rc.stored hj2 r1 y2; simp only [List.take, putL, Act.put, List.setIfInBounds_toArray, List.set_cons_zero, List.set_cons_succ]; unfold StepE; go_simp; try exact st
      intro vs w1 hb hd hj
      try simp only [prevE, lastV, List.mem_cons, List.not_mem_nil, or_false, Nat.reduceEqDiff, Nat.reduceAdd, if_true, if_false, reduceIte, or_true, true_or, or_self] at hj
      have e0 : isV _ (vs 0) w1 := hd 0 (by decide)
      have e1 : isV _ (vs 1) w1 := hd 1 (by decide)
      have e2 : isV _ (vs 2) w1 := hd 2 (by decide)
      have e3 : isV _ (vs 3) w1 := hd 3 (by decide)
      have e4 : isV _ (vs 4) w1 := hd 4 (by decide)
      have e5 : isV _ (vs 5) w1 := hd 5 (by decide)
      have e6 := hd 6 (by decide); simp only [TR, Nat.reduceAdd, Nat.reduceSub, List.getD_cons_zero, List.getD_cons_succ] at e6
      have e7 : isV _ (vs 7) w1 := hd 7 (by decide)
      have e8 : isV _ (vs 8) w1 := hd 8 (by decide)
      have e9 : isV _ (vs 9) w1 := hd 9 (by decide)
      have e10 : isV _ (vs 10) w1 := hd 10 (by decide)
      have e11 : isV _ (vs 11) w1 := hd 11 (by decide)
      have e12 : isV _ (vs 12) w1 := hd 12 (by decide)
      have e13 : isV _ (vs 13) w1 := hd 13 (by decide)
      have e14 := hd 14 (by decide); simp only [TR, Nat.reduceAdd, Nat.reduceSub, List.getD_cons_zero, List.getD_cons_succ] at e14
      have e15 : isV _ (vs 15) w1 := hd 15 (by decide)
      have e16 : isV _ (vs 16) w1 := hd 16 (by decide)
      have e17 : isV _ (vs 17) w1 := hd 17 (by decide)
      clear hd
      unfold isV at e0 e1 e2 e3 e4 e5 e7 e8 e9 e10 e11 e12 e13 e15 e16 e17
      simp only [putL, Act.put, List.setIfInBounds_toArray, List.set_cons_zero, List.set_cons_succ, e0, e1, e2, e3, e4, e5, e7, e8, e9, e10, e11, e12, e13, e15, e16, e17]
      clear e0 e1 e2 e3 e4 e5 e7 e8 e9 e10 e11 e12 e13 e15 e16 e17
      --@end
      have hj2 : Own base 3 1 w1 (some ⟨g, 0, none⟩) n c (intsL (L1.set r1 y2)) := hj
      have hq : QIs w1 base b ⟨q.most, l1.set j y2⟩ (some ⟨g, 0, none⟩) n c f (L1.set r1 y2) := by
        refine ⟨?_, hj2, HQ1.out.ne, HQ1.out.most, by simp only [List.length_set]; omega, HQ1.out.from_, ?_⟩
        · have h5 := Own.apart HQ1.out.own hb.grown (fun e => Hne.out e.symm)
          have e : qC ⟨q.most, l1.set j y2⟩ (some ⟨g, 0, none⟩) n c f = qC ⟨q.most, l1⟩ (some ⟨g, 0, none⟩) n c f := by simp [qC]
          rw [e]; exact h5
        · intro k z hk
          have hkl : k < l1.length := by have := (List.getElem?_eq_some_iff.1 hk).1; rwa [List.length_set] at this
          by_cases hkj : k = j
          · subst hkj
            rw [List.getElem?_set_self hkl] at hk
            rw [← Hr1.out, List.getElem?_set_self (by rw [HQ1.out.Ln]; omega)]
            exact hk
          · rw [List.getElem?_set_ne (fun e => hkj e.symm)] at hk
            rw [List.getElem?_set_ne (by rw [Hr1.out]; exact ring_ne HF.out (by omega) (by omega) (fun e => hkj e.symm))]
            exact HQ1.out.ring k z hk
      have hjp := Hjp.out
      have hC : ∀ k, k < q.l.length → (l1.set j y2)[k]? = cutAt q.l i jp k := by
        intro k hk
        have h1 := HC.out k hk
        have h2 := HC.out jp (by omega)
        rw [Hl2.out] at h2
        unfold cutAt at h1 h2 ⊢
        rw [if_pos (by omega)] at h2
        by_cases hkj : k = j
        · subst hkj
          rw [List.getElem?_set_self (by omega), if_neg (by omega), if_pos hj, h2, show k - 1 = jp by omega]
        · rw [List.getElem?_set_ne (fun e => hkj e.symm), h1]
          by_cases hk1 : k ≤ j
          · rw [if_pos hk1, if_pos (show k ≤ jp by omega)]
          · rw [if_neg hk1, if_neg (show ¬ k ≤ jp by omega)]
      have hS := HS.out.trans (QStep.row (a := ⟨g, 0, none⟩) hb.grown) (.inl rfl)
      clear hjp
      go_wp2_with fail
      go_roundw
      case rel => have hjp := Hjp.out; exact ⟨jp, _, _, by omega, by go_num, by rw [List.length_set]; exact hl1, Lib.hid hq, Lib.hid hC, Lib.hid hS⟩
      case measure => have hjp := Hjp.out; simp [intOf]; omega
    · obtain rfl : j = 0 := by omega
      have c1 := HC1.out
      have c2 := HC2.out
      have c3 := HC3.out
      simp only [hl1] at c3
      go_wp2_with fail
      refine (place_any c1 c2 HF.out HN.out 1 (by omega)).mono ?_; rintro e w2 ⟨rfl, hb2⟩
      have hq2 := HQ1.out.below hb2
      obtain ⟨d0, d1, d2, d3⟩ := hq2.cell
      simp only [hl1] at d3
      have z2 := World.ownsRow.frozenAt hq2.own 2
      have z3 := World.ownsRow.frozenAt hq2.own 3
      obtain ⟨f', hf'⟩ : ∃ f', f' = (f + 1) % n := ⟨_, rfl⟩
      rw [← hf']
      have st1 := World.ownsRow.stored hq2.own 2 (.int .i64 (f' : Int))
      have st2 := World.ownsRow.stored st1.1 3 (.int .i64 ((q.l.length : Int) - 1))
      have hz := st1.2.trans st2.2
      have hfin : QIs ((w2.setCell ⟨b, 2, none⟩ (.int .i64 (f' : Int))).setCell ⟨b, 3, none⟩ (.int .i64 ((q.l.length : Int) - 1))) base b ⟨q.most, q.l.eraseIdx i⟩ (some ⟨g, 0, none⟩) n c f' L1 := by
        have hel : (q.l.eraseIdx i).length = q.l.length - 1 := by rw [List.length_eraseIdx, if_pos hi]
        refine ⟨?_, Own.apart hq2.row hz Hne.out, hq2.ne, hq2.most, by simp only [hel]; omega, .inl (by rw [hf']; exact Nat.mod_lt _ (by omega)), ?_⟩
        · have h5 := st2.1
          unfold Own
          have e : qC ⟨q.most, q.l.eraseIdx i⟩ (some ⟨g, 0, none⟩) n c f' = ((qC ⟨q.most, l1⟩ (some ⟨g, 0, none⟩) n c f).set 2 (.int .i64 (f' : Int))).set 3 (.int .i64 ((q.l.length : Int) - 1)) := by
            simp only [qC, hel, List.set_cons_succ, List.set_cons_zero]
            congr 5
            omega
          rw [e]; exact h5
        · intro k z hk
          have hkl : k < (q.l.eraseIdx i).length := (List.getElem?_eq_some_iff.1 hk).1
          have e : (f' + k) % n = (f + (k + 1)) % n := by rw [hf', Nat.mod_add_mod, Nat.add_assoc, Nat.add_comm 1 k]
          rw [e]
          refine hq2.ring (k + 1) z ?_
          have h1 := HC.out (k + 1) (by omega)
          simp only
          rw [h1]
          unfold cutAt
          rw [List.getElem?_eraseIdx] at hk
          rw [if_neg (by omega)]
          by_cases hki : k < i
          · rw [if_pos hki] at hk
            rw [if_pos (by omega)]; exact hk
          · rw [if_neg hki] at hk
            rw [if_neg (by omega)]; exact hk
      have hS := HS.out.trans ((QStep.below hb2).trans (QStep.own hz) (.inl rfl)) (.inl rfl)
      have Hfin := Lib.hid hfin
      have HS2 := Lib.hid hS
      clear hfin hS st1 st2 hz hq2 hf' c1 c2 c3
      go_wp2_with fail
      go_end0
      first | exact ⟨rfl, _, _, Hfin.out, HS2.out⟩ | exact ⟨rfl, ⟨_, _, Hfin.out⟩, HS2.out⟩
end Go.Proofs.Ytcidifmikcnkcaa
