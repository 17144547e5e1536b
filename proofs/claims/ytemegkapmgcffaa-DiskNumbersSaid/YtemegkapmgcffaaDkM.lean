import Derived.Test.YtemegkapmgcffaaDkI
/- The disk: Read. -/
namespace Go.Proofs.Ytemegkapmgcffaa
open Go.RowKit
set_option linter.unusedSimpArgs false
set_option linter.unusedVariables false

section
variable {w : World} {base p : Nat} {D : Dk} {F : Nat → Prop}
theorem own_nilF (base : Nat) (w : World) : Own base 5 1 w none 0 0 (bytesV []) := ⟨rfl, .inl ⟨rfl, rfl⟩⟩
set_option maxRecDepth 100000 in
set_option maxHeartbeats 4000000 in
theorem Read_any (h : DkIs w base p D F) (nm : Nm) :
    Calls Try.prog 29 #[.pointer (some ⟨p, 0, none⟩), .string (bstr nm)] w fun x w' => ∃ A c, x = .returned (.tuple #[.slice A (readD D nm).1.length c, .int .i64 (readD D nm).2]) ∧ Own w.heap.size 5 1 w' A (readD D nm).1.length c (bytesV (readD D nm).1) ∧ Below w.heap.size w w' := by
  obtain ⟨R, c, es, h⟩ := h
  have HR := Lib.hid (show readD D nm = if D.dark = true then ([], 15) else if thereF D.fs nm = true then ((lookF D.fs nm).b, 0) else ([], 16) from rfl)
  have H := Lib.hid h
  have hl200 := h.len
  go_enter Try.func29, Try.ntmps29
  go_wp2_with fail
  refine (lit_any h).mono ?_; rintro e w1 ⟨rfl, rfl⟩
  clear h
  have hdk : litD D = 15 ∧ D.dark = true ∨ litD D = 0 ∧ D.dark = false := by unfold litD; cases D.dark <;> simp
  rcases hdk with ⟨hl, hdk⟩ | ⟨hl, hdk⟩
  · rw [hl]
    go_wp2_with fail
    go_ret2
    rw [HR.out, if_pos hdk]
    exact ⟨none, 0, rfl, own_nilF _ _, Below.refl _ _⟩
  · rw [hl]
    have HDK := Lib.hid hdk
    obtain ⟨ps, hps⟩ : ∃ ps, ps = posF D.fs nm := ⟨_, rfl⟩
    obtain ⟨th, hth⟩ : ∃ th, th = thereF D.fs nm := ⟨_, rfl⟩
    have Hps := Lib.hid (show posF (es.map FE.f) nm = ps by rw [hps, H.out.fs])
    have Hth := Lib.hid (show thereF (es.map FE.f) nm = th by rw [hth, H.out.fs])
    have Hps2 := Lib.hid hps
    have Hth2 := Lib.hid hth
    have HC0 := Lib.hid H.out.cell.1
    have HC4 := Lib.hid H.out.cell.2.2.2.2
    have HS3 := Lib.hid H.out.row.sl
    have HSo := Lib.hid (show SrtF (es.map FE.f) by rw [H.out.fs]; exact H.out.good.srt)
    clear hl hdk hps hth
    go_upto_region 4 with fail
    --@region 29 4 read4.spec
    refine wp_region_run (by kernel_rfl) (by kernel_rfl) ?_
    apply RunL.pure
    · intro vs w hb hd; clear hd; simp only [List.take, putL, Act.put, List.setIfInBounds_toArray, List.set_cons_zero, List.set_cons_succ]; unfold StepOK; go_simp; exact ⟨Below.refl _ _, isV_mk _ _⟩
    apply RunL.pure
    · intro vs w hb hd; have d0 : isV _ (vs 0) w := hd 0 (by decide) (by kernel_rfl); unfold isV at d0; clear hd; simp only [List.take, putL, Act.put, List.setIfInBounds_toArray, List.set_cons_zero, List.set_cons_succ]; unfold StepOK; go_simp; exact ⟨Below.refl _ _, isV_mk _ _⟩
    apply RunL.pure
    · intro vs w hb hd; have d1 : isV _ (vs 1) w := hd 1 (by decide) (by kernel_rfl); unfold isV at d1; clear hd; simp only [List.take, putL, Act.put, List.setIfInBounds_toArray, List.set_cons_zero, List.set_cons_succ]; unfold StepOK; go_simp; exact ⟨Below.refl _ _, isV_mk _ _⟩
    apply RunL.pure
    · intro vs w hb hd; have d2 : isV _ (vs 2) w := hd 2 (by decide) (by kernel_rfl); unfold isV at d2; clear hd; have hx1 := cellB hb HC4.out; simp only [List.take, putL, Act.put, List.setIfInBounds_toArray, List.set_cons_zero, List.set_cons_succ]; unfold StepOK; go_simp; exact ⟨Below.refl _ _, isV_mk _ _⟩
    apply RunL.pure
    · intro vs w hb hd; clear hd; simp only [List.take, putL, Act.put, List.setIfInBounds_toArray, List.set_cons_zero, List.set_cons_succ]; unfold StepOK; go_simp; exact ⟨Below.refl _ _, isV_mk _ _⟩
    apply RunL.pure
    · intro vs w hb hd; have d4 : isV _ (vs 4) w := hd 4 (by decide) (by kernel_rfl); unfold isV at d4; clear hd; simp only [List.take, putL, Act.put, List.setIfInBounds_toArray, List.set_cons_zero, List.set_cons_succ]; unfold StepOK; go_simp; exact ⟨Below.refl _ _, isV_mk _ _⟩
    apply RunL.pure
    · intro vs w hb hd; have d5 : isV _ (vs 5) w := hd 5 (by decide) (by kernel_rfl); unfold isV at d5; clear hd; simp only [List.take, putL, Act.put, List.setIfInBounds_toArray, List.set_cons_zero, List.set_cons_succ]; unfold StepOK; go_simp; exact ⟨Below.refl _ _, isV_mk _ _⟩
    apply RunL.pure
    · intro vs w hb hd; have d6 : isV _ (vs 6) w := hd 6 (by decide) (by kernel_rfl); unfold isV at d6; clear hd; have hx1 := cellB hb HC0.out; simp only [List.take, putL, Act.put, List.setIfInBounds_toArray, List.set_cons_zero, List.set_cons_succ]; unfold StepOK; go_simp; exact ⟨Below.refl _ _, isV_mk _ _⟩
    apply RunL.pure
    · intro vs w hb hd; clear hd; simp only [List.take, putL, Act.put, List.setIfInBounds_toArray, List.set_cons_zero, List.set_cons_succ]; unfold StepOK; go_simp; exact ⟨Below.refl _ _, isV_mk _ _⟩
    refine RunL.such (isV (.tuple #[.int .i64 (ps : Int), .bool th])) (isV_stable _) ?_ ?_
    · intro vs w hb hd; have d3 : isV _ (vs 3) w := hd 3 (by decide) (by kernel_rfl); unfold isV at d3; have d7 : isV _ (vs 7) w := hd 7 (by decide) (by kernel_rfl); unfold isV at d7; have d8 : isV _ (vs 8) w := hd 8 (by decide) (by kernel_rfl); unfold isV at d8; clear hd; have hs1 := HS3.out.below hb; simp only [List.take, putL, Act.put, List.setIfInBounds_toArray, List.set_cons_zero, List.set_cons_succ]; unfold StepOK; go_simp; exact ⟨Below.refl _ _, such_of_bool (by rw [← Hps.out, ← Hth.out]; exact place_any _ _ _ es nm w hs1 (by omega) HSo.out)⟩
    apply RunL.pure
    · intro vs w hb hd; have d9 := hd 9 (by decide) (by kernel_rfl); simp only [TR, Nat.reduceAdd, Nat.reduceSub, List.getD_cons_zero, List.getD_cons_succ] at d9; clear hd; unfold isV at d9; simp only [List.take, putL, Act.put, List.setIfInBounds_toArray, List.set_cons_zero, List.set_cons_succ]; unfold StepOK; go_simp; exact ⟨Below.refl _ _, isV_mk _ _⟩
    apply RunL.pure
    · intro vs w hb hd; have d10 : isV _ (vs 10) w := hd 10 (by decide) (by kernel_rfl); unfold isV at d10; clear hd; simp only [List.take, putL, Act.put, List.setIfInBounds_toArray, List.set_cons_zero, List.set_cons_succ]; unfold StepOK; go_simp; exact ⟨Below.refl _ _, isV_mk _ _⟩
    apply RunL.pure
    · intro vs w hb hd; have d10 : isV _ (vs 10) w := hd 10 (by decide) (by kernel_rfl); unfold isV at d10; clear hd; simp only [List.take, putL, Act.put, List.setIfInBounds_toArray, List.set_cons_zero, List.set_cons_succ]; unfold StepOK; go_simp; exact ⟨Below.refl _ _, isV_mk _ _⟩
    apply RunL.pure
    · intro vs w hb hd; have d0 : isV _ (vs 0) w := hd 0 (by decide) (by kernel_rfl); unfold isV at d0; have d1 : isV _ (vs 1) w := hd 1 (by decide) (by kernel_rfl); unfold isV at d1; have d2 : isV _ (vs 2) w := hd 2 (by decide) (by kernel_rfl); unfold isV at d2; have d3 : isV _ (vs 3) w := hd 3 (by decide) (by kernel_rfl); unfold isV at d3; have d4 : isV _ (vs 4) w := hd 4 (by decide) (by kernel_rfl); unfold isV at d4; have d5 : isV _ (vs 5) w := hd 5 (by decide) (by kernel_rfl); unfold isV at d5; have d6 : isV _ (vs 6) w := hd 6 (by decide) (by kernel_rfl); unfold isV at d6; have d7 : isV _ (vs 7) w := hd 7 (by decide) (by kernel_rfl); unfold isV at d7; have d8 : isV _ (vs 8) w := hd 8 (by decide) (by kernel_rfl); unfold isV at d8; have d9 := hd 9 (by decide) (by kernel_rfl); simp only [TR, Nat.reduceAdd, Nat.reduceSub, List.getD_cons_zero, List.getD_cons_succ] at d9; have d10 : isV _ (vs 10) w := hd 10 (by decide) (by kernel_rfl); unfold isV at d10; have d11 : isV _ (vs 11) w := hd 11 (by decide) (by kernel_rfl); unfold isV at d11; clear hd; simp only [List.take, putL, Act.put, List.setIfInBounds_toArray, List.set_cons_zero, List.set_cons_succ]; unfold StepOK; go_simp; exact ⟨Below.refl _ _, isV_mk _ _⟩
    apply RunL.pure
    · intro vs w hb hd; have d0 : isV _ (vs 0) w := hd 0 (by decide) (by kernel_rfl); unfold isV at d0; have d1 : isV _ (vs 1) w := hd 1 (by decide) (by kernel_rfl); unfold isV at d1; have d2 : isV _ (vs 2) w := hd 2 (by decide) (by kernel_rfl); unfold isV at d2; have d3 : isV _ (vs 3) w := hd 3 (by decide) (by kernel_rfl); unfold isV at d3; have d4 : isV _ (vs 4) w := hd 4 (by decide) (by kernel_rfl); unfold isV at d4; have d5 : isV _ (vs 5) w := hd 5 (by decide) (by kernel_rfl); unfold isV at d5; have d6 : isV _ (vs 6) w := hd 6 (by decide) (by kernel_rfl); unfold isV at d6; have d7 : isV _ (vs 7) w := hd 7 (by decide) (by kernel_rfl); unfold isV at d7; have d8 : isV _ (vs 8) w := hd 8 (by decide) (by kernel_rfl); unfold isV at d8; have d9 := hd 9 (by decide) (by kernel_rfl); simp only [TR, Nat.reduceAdd, Nat.reduceSub, List.getD_cons_zero, List.getD_cons_succ] at d9; have d10 : isV _ (vs 10) w := hd 10 (by decide) (by kernel_rfl); unfold isV at d10; have d11 : isV _ (vs 11) w := hd 11 (by decide) (by kernel_rfl); unfold isV at d11; have d12 : isV _ (vs 12) w := hd 12 (by decide) (by kernel_rfl); unfold isV at d12; have d13 : isV _ (vs 13) w := hd 13 (by decide) (by kernel_rfl); unfold isV at d13; clear hd; simp only [List.take, putL, Act.put, List.setIfInBounds_toArray, List.set_cons_zero, List.set_cons_succ]; unfold StepOK; go_simp; exact ⟨Below.refl _ _, isV_mk _ _⟩
    intro vs w1 hb hd
    have e0 : isV _ (vs 0) w1 := hd 0 (by decide)
    have e1 : isV _ (vs 1) w1 := hd 1 (by decide)
    have e2 : isV _ (vs 2) w1 := hd 2 (by decide)
    have e3 : isV _ (vs 3) w1 := hd 3 (by decide)
    have e4 : isV _ (vs 4) w1 := hd 4 (by decide)
    have e5 : isV _ (vs 5) w1 := hd 5 (by decide)
    have e6 : isV _ (vs 6) w1 := hd 6 (by decide)
    have e7 : isV _ (vs 7) w1 := hd 7 (by decide)
    have e8 : isV _ (vs 8) w1 := hd 8 (by decide)
    have e9 := hd 9 (by decide); simp only [TR, Nat.reduceAdd, Nat.reduceSub, List.getD_cons_zero, List.getD_cons_succ] at e9
    have e10 : isV _ (vs 10) w1 := hd 10 (by decide)
    have e11 : isV _ (vs 11) w1 := hd 11 (by decide)
    have e12 : isV _ (vs 12) w1 := hd 12 (by decide)
    have e13 : isV _ (vs 13) w1 := hd 13 (by decide)
    have e14 : isV _ (vs 14) w1 := hd 14 (by decide)
    clear hd
    unfold isV at e0 e1 e2 e3 e4 e5 e6 e7 e8 e10 e11 e12 e13 e14
    simp only [putL, Act.put, List.setIfInBounds_toArray, List.set_cons_zero, List.set_cons_succ, e0, e1, e2, e3, e4, e5, e6, e7, e8, e10, e11, e12, e13, e14]
    clear e0 e1 e2 e3 e4 e5 e6 e7 e8 e10 e11 e12 e13 e14
    --@end
    have hc0 := cellB hb HC0.out
    have hHb := Lib.hid hb
    have H1 := Lib.hid (H.out.below hb)
    clear hb
    cases th with
    | false =>
      go_wp2_with fail
      go_ret2
      rw [HR.out, if_neg (by rw [HDK.out]; simp), if_neg (by rw [← Hth2.out]; simp)]
      exact ⟨none, 0, rfl, own_nilF _ _, hHb.out⟩
    | true =>
      obtain ⟨f, hf, hfn⟩ := there_true Hth2.out.symm
      rw [← Hps2.out] at hf
      obtain ⟨e, he, hef⟩ : ∃ e, es[ps]? = some e ∧ e.f = f := by
        rw [← H.out.fs, List.getElem?_map, Option.map_eq_some_iff] at hf
        exact hf
      subst hef
      obtain ⟨g, rfl⟩ := rowAddr H1.out he
      obtain ⟨y0, y1, y2⟩ := slFE_three H1.out.row.sl he
      rw [add_plain] at y0 y1 y2
      simp only [] at y1 y2
      have hlt := (List.getElem?_eq_some_iff.1 he).1
      have hin : (0 : Int) ≤ (ps : Int) ∧ (ps : Int) < (es.length : Int) := by omega
      have hp2 : ps < 200 := by omega
      have hbl : e.f.b.length ≤ 70368744175616 := by
        have h1 := used_set (f' := ⟨e.f.nm, [], 0⟩) (H.out.fsAt he)
        have h2 := H.out.good.used
        have h3 := H.out.good.room
        simp only [List.length_nil] at h1
        omega
      have hlk : lookF D.fs nm = e.f := by
        unfold lookF
        rw [← Hth2.out, ← Hps2.out, hf]
      have HLK := Lib.hid hlk
      have Hbl := Lib.hid hbl
      have He := Lib.hid he
      clear hbl hlk hf he hfn
      go_wp2_with fail
      refine (clone_such hHb.out.size ⟨(H1.out.each e (List.mem_of_getElem? He.out)).1, Hbl.out⟩).mono ?_
      rintro x w2 ⟨v, rfl, hb2, hcl⟩
      obtain ⟨A', c', rfl, hown⟩ := isCl_elim hcl
      go_wp2_with fail
      go_ret2
      rw [HR.out, if_neg (by rw [HDK.out]; simp), if_pos Hth2.out.symm, HLK.out]
      exact ⟨A', c', rfl, hown, hHb.out.trans (hb2.mono hHb.out.size)⟩
end
end Go.Proofs.Ytemegkapmgcffaa
