import Derived.Test.YtemegkapmgcffaaDkI
/- The disk: look. -/
namespace Go.Proofs.Ytemegkapmgcffaa
open Go.RowKit
set_option linter.unusedSimpArgs false
set_option linter.unusedVariables false

theorem results_cellD {fn : Func} {t : Tmp} {ty : TypeId} (h : fn.results = #[.cell t ty]) (tmps : Array Value) (P : Program) (w : World) (a : Addr) (ht : tmps.getD t undef = .pointer (some a)) (x : Value) (hl : (loadVar ty a).run P w = .ok x w) :
    (results fn tmps).run P w = .ok x w := by
  simp only [Array.getD_eq_getD_getElem?] at ht
  simp [results, h, ht, asAddr, Sem.run_bind, hl]
theorem load_ownD {base r : Nat} {w : World} {cs : List Value} (h : Own base 117 1 w (some ⟨r, 0, none⟩) 3 3 cs) : (loadVar 117 ⟨r, 0, none⟩).run Try.prog w = .ok (.agg cs.toArray) w := by
  have hl : cs.length = 3 := by simpa using h.1
  exact run_loadVar_mid w r 0 117 cs _ (fun j v hj => by
    have hlt : j < 3 := by have := (List.getElem?_eq_some_iff.1 hj).1; omega
    have := World.ownsRow.cellAt h j (by omega)
    rw [Nat.zero_add, this, hj]) Try.underlying117 rfl (by rw [hl]; kernel_rfl)
theorem stored3 {base r : Nat} {t : TypeId} {w : World} {cs : List Value} (h : Own base t 1 w (some ⟨r, 0, none⟩) 3 3 cs) (v0 v1 v2 : Value) :
    Own base t 1 (((w.setCell ⟨r, 0, none⟩ v0).setCell ⟨r, 1, none⟩ v1).setCell ⟨r, 2, none⟩ v2) (some ⟨r, 0, none⟩) 3 3 [v0, v1, v2] ∧
    w.grownBy (((w.setCell ⟨r, 0, none⟩ v0).setCell ⟨r, 1, none⟩ v1).setCell ⟨r, 2, none⟩ v2) (some r) := by
  have hl : cs.length = 3 := by simpa using h.1
  obtain ⟨a, b, d, rfl⟩ : ∃ a b d, cs = [a, b, d] := by
    match cs, hl with
    | [a, b, d], _ => exact ⟨a, b, d, rfl⟩
  have s1 := World.ownsRow.stored h 0 v0
  have s2 := World.ownsRow.stored s1.1 1 v1
  have s3 := World.ownsRow.stored s2.1 2 v2
  exact ⟨s3.1, s1.2.trans (s2.2.trans s3.2)⟩
section
variable {w : World} {base p : Nat} {D : Dk} {F : Nat → Prop}
set_option maxRecDepth 100000 in
set_option maxHeartbeats 4000000 in
theorem look_any (h : DkIs w base p D F) (nm : Nm) :
    Calls Try.prog 99 #[.pointer (some ⟨p, 0, none⟩), .string (bstr nm)] w fun x w' => ∃ A c, x = .returned (.agg #[.string (bstr (lookF D.fs nm).nm), .slice A (lookF D.fs nm).b.length c, .int .i64 (lookF D.fs nm).safe]) ∧ Below w.heap.size w w' := by
  obtain ⟨R, c, es, h⟩ := h
  have HL := Lib.hid (show lookF D.fs nm = match thereF D.fs nm, D.fs[posF D.fs nm]? with | true, some f => f | _, _ => ⟨[], [], 0⟩ from rfl)
  have hl200 := h.len
  have hb0 := below_alloc1 w (.cells #[.string { data := #[] }, .slice none 0 0, .int .i64 0] 117)
  have hown := new_own w [.string { data := #[] }, .slice none 0 0, .int .i64 0] 117 3 rfl (by unfold maxLen; omega)
  have h1 := h.below hb0
  obtain ⟨W1, hW1⟩ : ∃ W1, W1 = w.alloc (.cells #[.string { data := #[] }, .slice none 0 0, .int .i64 0] 117) := ⟨_, rfl⟩
  have hT : (w.alloc (.cells [Value.string { data := #[] }, .slice none 0 0, .int .i64 0].toArray 117)) = W1 := hW1.symm
  rw [hT] at hown
  rw [← hW1] at hb0 h1
  have HW1 := Lib.hid hW1
  have Hb0 := Lib.hid hb0
  have H := Lib.hid h1
  have Hown := Lib.hid hown
  obtain ⟨r, hr⟩ : ∃ r, r = w.heap.size := ⟨_, rfl⟩
  have Hr := Lib.hid hr
  rw [← hr] at Hown
  clear h hown hb0 h1 hW1 hT
  go_enter Try.func99, Try.ntmps99
  go_wp2_with fail
  rw [← HW1.out]
  refine (made_any H.out).mono ?_; rintro e w1 ⟨rfl, rfl⟩
  rw [← Hr.out]
  obtain ⟨ps, hps⟩ : ∃ ps, ps = posF D.fs nm := ⟨_, rfl⟩
  obtain ⟨th, hth⟩ : ∃ th, th = thereF D.fs nm := ⟨_, rfl⟩
  have Hps := Lib.hid (show posF (es.map FE.f) nm = ps by rw [hps, H.out.fs])
  have Hth := Lib.hid (show thereF (es.map FE.f) nm = th by rw [hth, H.out.fs])
  have Hps2 := Lib.hid hps
  have Hth2 := Lib.hid hth
  have HC0 := Lib.hid H.out.cell.1
  have HC4 := Lib.hid H.out.cell.2.2.2.2
  have HS3 := Lib.hid H.out.row.sl
  have HSo := Lib.hid (show SrtF (es.map FE.f) by rw [H.out.fs]; exact H.out.good.srt)
  clear hps hth hr
  go_upto_region 3 with fail
  --@region 99 3 look3.spec
  refine wp_region_run (by kernel_rfl) (by kernel_rfl) ?_
  apply RunL.pure
  · intro vs w hb hd; clear hd; simp only [List.take, putL, Act.put, List.setIfInBounds_toArray, List.set_cons_zero, List.set_cons_succ]; unfold StepOK; go_simp; exact ⟨Below.refl _ _, isV_mk _ _⟩
  apply RunL.pure
  · intro vs w hb hd; have d0 : isV _ (vs 0) w := hd 0 (by decide) (by kernel_rfl); unfold isV at d0; clear hd; simp only [List.take, putL, Act.put, List.setIfInBounds_toArray, List.set_cons_zero, List.set_cons_succ]; unfold StepOK; go_simp; exact ⟨Below.refl _ _, isV_mk _ _⟩
  apply RunL.pure
  · intro vs w hb hd; have d1 : isV _ (vs 1) w := hd 1 (by decide) (by kernel_rfl); unfold isV at d1; clear hd; simp only [List.take, putL, Act.put, List.setIfInBounds_toArray, List.set_cons_zero, List.set_cons_succ]; unfold StepOK; go_simp; exact ⟨Below.refl _ _, isV_mk _ _⟩
  apply RunL.pure
  · intro vs w hb hd; have d2 : isV _ (vs 2) w := hd 2 (by decide) (by kernel_rfl); unfold isV at d2; clear hd; have hx1 := cellB hb HC4.out; simp only [List.take, putL, Act.put, List.setIfInBounds_toArray, List.set_cons_zero, List.set_cons_succ]; unfold StepOK; go_simp; exact ⟨Below.refl _ _, isV_mk _ _⟩
  apply RunL.pure
  · intro vs w hb hd; clear hd; simp only [List.take, putL, Act.put, List.setIfInBounds_toArray, List.set_cons_zero, List.set_cons_succ]; unfold StepOK; go_simp; exact ⟨Below.refl _ _, isV_mk _ _⟩
  apply RunL.pure
  · intro vs w hb hd; have d4 : isV _ (vs 4) w := hd 4 (by decide) (by kernel_rfl); unfold isV at d4; clear hd; simp only [List.take, putL, Act.put, List.setIfInBounds_toArray, List.set_cons_zero, List.set_cons_succ]; unfold StepOK; go_simp; exact ⟨Below.refl _ _, isV_mk _ _⟩
  apply RunL.pure
  · intro vs w hb hd; have d5 : isV _ (vs 5) w := hd 5 (by decide) (by kernel_rfl); unfold isV at d5; clear hd; simp only [List.take, putL, Act.put, List.setIfInBounds_toArray, List.set_cons_zero, List.set_cons_succ]; unfold StepOK; go_simp; exact ⟨Below.refl _ _, isV_mk _ _⟩
  apply RunL.pure
  · intro vs w hb hd; have d6 : isV _ (vs 6) w := hd 6 (by decide) (by kernel_rfl); unfold isV at d6; clear hd; have hx1 := cellB hb HC0.out; simp only [List.take, putL, Act.put, List.setIfInBounds_toArray, List.set_cons_zero, List.set_cons_succ]; unfold StepOK; go_simp; exact ⟨Below.refl _ _, isV_mk _ _⟩
  apply RunL.pure
  · intro vs w hb hd; clear hd; simp only [List.take, putL, Act.put, List.setIfInBounds_toArray, List.set_cons_zero, List.set_cons_succ]; unfold StepOK; go_simp; exact ⟨Below.refl _ _, isV_mk _ _⟩
  refine RunL.such (isV (.tuple #[.int .i64 (ps : Int), .bool th])) (isV_stable _) ?_ ?_
  · intro vs w hb hd; have d3 : isV _ (vs 3) w := hd 3 (by decide) (by kernel_rfl); unfold isV at d3; have d7 : isV _ (vs 7) w := hd 7 (by decide) (by kernel_rfl); unfold isV at d7; have d8 : isV _ (vs 8) w := hd 8 (by decide) (by kernel_rfl); unfold isV at d8; clear hd; have hs1 := HS3.out.below hb; simp only [List.take, putL, Act.put, List.setIfInBounds_toArray, List.set_cons_zero, List.set_cons_succ]; unfold StepOK; go_simp; exact ⟨Below.refl _ _, such_of_bool (by rw [← Hps.out, ← Hth.out]; exact place_any _ _ _ es nm w hs1 (by omega) HSo.out)⟩
  apply RunL.pure
  · intro vs w hb hd; have d9 := hd 9 (by decide) (by kernel_rfl); simp only [TR, Nat.reduceAdd, Nat.reduceSub, List.getD_cons_zero, List.getD_cons_succ] at d9; clear hd; unfold isV at d9; simp only [List.take, putL, Act.put, List.setIfInBounds_toArray, List.set_cons_zero, List.set_cons_succ]; unfold StepOK; go_simp; exact ⟨Below.refl _ _, isV_mk _ _⟩
  apply RunL.pure
  · intro vs w hb hd; have d10 : isV _ (vs 10) w := hd 10 (by decide) (by kernel_rfl); unfold isV at d10; clear hd; simp only [List.take, putL, Act.put, List.setIfInBounds_toArray, List.set_cons_zero, List.set_cons_succ]; unfold StepOK; go_simp; exact ⟨Below.refl _ _, isV_mk _ _⟩
  apply RunL.pure
  · intro vs w hb hd; have d10 : isV _ (vs 10) w := hd 10 (by decide) (by kernel_rfl); unfold isV at d10; clear hd; simp only [List.take, putL, Act.put, List.setIfInBounds_toArray, List.set_cons_zero, List.set_cons_succ]; unfold StepOK; go_simp; exact ⟨Below.refl _ _, isV_mk _ _⟩
  apply RunL.pure
  · intro vs w hb hd; have d0 : isV _ (vs 0) w := hd 0 (by decide) (by kernel_rfl); unfold isV at d0; have d1 : isV _ (vs 1) w := hd 1 (by decide) (by kernel_rfl); unfold isV at d1; have d2 : isV _ (vs 2) w := hd 2 (by decide) (by kernel_rfl); unfold isV at d2; have d3 : isV _ (vs 3) w := hd 3 (by decide) (by kernel_rfl); unfold isV at d3; have d4 : isV _ (vs 4) w := hd 4 (by decide) (by kernel_rfl); unfold isV at d4; have d5 : isV _ (vs 5) w := hd 5 (by decide) (by kernel_rfl); unfold isV at d5; have d6 : isV _ (vs 6) w := hd 6 (by decide) (by kernel_rfl); unfold isV at d6; have d7 : isV _ (vs 7) w := hd 7 (by decide) (by kernel_rfl); unfold isV at d7; have d8 : isV _ (vs 8) w := hd 8 (by decide) (by kernel_rfl); unfold isV at d8; have d9 := hd 9 (by decide) (by kernel_rfl); simp only [TR, Nat.reduceAdd, Nat.reduceSub, List.getD_cons_zero, List.getD_cons_succ] at d9; have d10 : isV _ (vs 10) w := hd 10 (by decide) (by kernel_rfl); unfold isV at d10; have d11 : isV _ (vs 11) w := hd 11 (by decide) (by kernel_rfl); unfold isV at d11; clear hd; simp only [List.take, putL, Act.put, List.setIfInBounds_toArray, List.set_cons_zero, List.set_cons_succ]; unfold StepOK; go_simp; exact ⟨Below.refl _ _, isV_mk _ _⟩
  apply RunL.pure
  · intro vs w hb hd; have d0 : isV _ (vs 0) w := hd 0 (by decide) (by kernel_rfl); unfold isV at d0; have d1 : isV _ (vs 1) w := hd 1 (by decide) (by kernel_rfl); unfold isV at d1; have d2 : isV _ (vs 2) w := hd 2 (by decide) (by kernel_rfl); unfold isV at d2; have d3 : isV _ (vs 3) w := hd 3 (by decide) (by kernel_rfl); unfold isV at d3; have d4 : isV _ (vs 4) w := hd 4 (by decide) (by kernel_rfl); unfold isV at d4; have d5 : isV _ (vs 5) w := hd 5 (by decide) (by kernel_rfl); unfold isV at d5; have d6 : isV _ (vs 6) w := hd 6 (by decide) (by kernel_rfl); unfold isV at d6; have d7 : isV _ (vs 7) w := hd 7 (by decide) (by kernel_rfl); unfold isV at d7; have d8 : isV _ (vs 8) w := hd 8 (by decide) (by kernel_rfl); unfold isV at d8; have d9 := hd 9 (by decide) (by kernel_rfl); simp only [TR, Nat.reduceAdd, Nat.reduceSub, List.getD_cons_zero, List.getD_cons_succ] at d9; have d10 : isV _ (vs 10) w := hd 10 (by decide) (by kernel_rfl); unfold isV at d10; have d11 : isV _ (vs 11) w := hd 11 (by decide) (by kernel_rfl); unfold isV at d11; have d12 : isV _ (vs 12) w := hd 12 (by decide) (by kernel_rfl); unfold isV at d12; have d13 : isV _ (vs 13) w := hd 13 (by decide) (by kernel_rfl); unfold isV at d13; clear hd; simp only [List.take, putL, Act.put, List.setIfInBounds_toArray, List.set_cons_zero, List.set_cons_succ]; unfold StepOK; go_simp; exact ⟨Below.refl _ _, isV_mk _ _⟩
  intro vs w1 hb hd
  have e0 : isV _ (vs 0) w1 := hd 0 (by decide)
  have e1 : isV _ (vs 1) w1 := hd 1 (by decide)
  have e2 : isV _ (vs 2) w1 := hd 2 (by decide)
  have e3 : isV _ (vs 3) w1 := hd 3 (by decide)
  have e4 : isV _ (vs 4) w1 := hd 4 (by decide)
  have e5 : isV _ (vs 5) w1 := hd 5 (by decide)
  have e6 : isV _ (vs 6) w1 := hd 6 (by decide)
  have e7 : isV _ (vs 7) w1 := hd 7 (by decide)
  have e8 : isV _ (vs 8) w1 := hd 8 (by decide)
  have e9 := hd 9 (by decide); simp only [TR, Nat.reduceAdd, Nat.reduceSub, List.getD_cons_zero, List.getD_cons_succ] at e9
  have e10 : isV _ (vs 10) w1 := hd 10 (by decide)
  have e11 : isV _ (vs 11) w1 := hd 11 (by decide)
  have e12 : isV _ (vs 12) w1 := hd 12 (by decide)
  have e13 : isV _ (vs 13) w1 := hd 13 (by decide)
  have e14 : isV _ (vs 14) w1 := hd 14 (by decide)
  clear hd
  unfold isV at e0 e1 e2 e3 e4 e5 e6 e7 e8 e10 e11 e12 e13 e14
  simp only [putL, Act.put, List.setIfInBounds_toArray, List.set_cons_zero, List.set_cons_succ, e0, e1, e2, e3, e4, e5, e6, e7, e8, e10, e11, e12, e13, e14]
  clear e0 e1 e2 e3 e4 e5 e6 e7 e8 e10 e11 e12 e13 e14
  --@end
  have hc0 := cellB hb HC0.out
  have hHb := Lib.hid hb
  have H1 := Lib.hid (H.out.below hb)
  have ho := Hown.out.below hb
  have k0 := World.ownsRow.cellAt ho 0 (by omega)
  have k1 := World.ownsRow.cellAt ho 1 (by omega)
  have k2 := World.ownsRow.cellAt ho 2 (by omega)
  simp only [List.getElem?_cons_zero, List.getElem?_cons_succ] at k0 k1 k2
  have f0 := World.ownsRow.frozenAt ho 0
  have f1 := World.ownsRow.frozenAt ho 1
  have f2 := World.ownsRow.frozenAt ho 2
  have Ho := Lib.hid ho
  clear hb ho
  cases th with
  | false =>
    have st := stored3 Ho.out (.string { data := #[] }) (.slice none 0 0) (.int .i64 0)
    have Hst := Lib.hid st
    clear st
    go_wp2_with fail
    refine bodyPost_ret (results_cellD rfl _ _ _ ⟨r, 0, none⟩ rfl _ (load_ownD Hst.out.1)) rfl ?_
    have hlk : lookF D.fs nm = ⟨[], [], 0⟩ := by rw [HL.out, ← Hth2.out]
    rw [hlk]
    exact ⟨none, 0, rfl, (Hb0.out.trans (hHb.out.mono Hb0.out.size)).grown Hst.out.2 (Nat.le_trans Hb0.out.size hHb.out.size) (fun k hk => by cases hk; rw [Hr.out]; exact Nat.le_refl _)⟩
  | true =>
    obtain ⟨f, hf, hfn⟩ := there_true Hth2.out.symm
    rw [← Hps2.out] at hf
    obtain ⟨e, he, hef⟩ : ∃ e, es[ps]? = some e ∧ e.f = f := by
      rw [← H.out.fs, List.getElem?_map, Option.map_eq_some_iff] at hf
      exact hf
    subst hef
    obtain ⟨g, rfl⟩ := rowAddr H1.out he
    obtain ⟨y0, y1, y2⟩ := slFE_three H1.out.row.sl he
    rw [add_plain] at y0 y1 y2
    simp only [] at y1 y2
    have hlt := (List.getElem?_eq_some_iff.1 he).1
    have hin : (0 : Int) ≤ (ps : Int) ∧ (ps : Int) < (es.length : Int) := by omega
    have hp2 : ps < 200 := by omega
    have st := stored3 Ho.out (.string (bstr e.f.nm)) (.slice e.A e.f.b.length e.c) (.int .i64 e.f.safe)
    have Hst := Lib.hid st
    have HLK := Lib.hid (show lookF D.fs nm = e.f by rw [HL.out, ← Hth2.out, ← Hps2.out, hf])
    clear st hf he hfn
    go_wp2_with fail
    refine bodyPost_ret (results_cellD rfl _ _ _ ⟨r, 0, none⟩ rfl _ (load_ownD Hst.out.1)) rfl ?_
    rw [HLK.out]
    exact ⟨e.A, e.c, rfl, (Hb0.out.trans (hHb.out.mono Hb0.out.size)).grown Hst.out.2 (Nat.le_trans Hb0.out.size hHb.out.size) (fun k hk => by cases hk; rw [Hr.out]; exact Nat.le_refl _)⟩
set_option maxRecDepth 100000 in
set_option maxHeartbeats 1000000 in
theorem Size_any (h : DkIs w base p D F) (nm : Nm) :
    Calls Try.prog 45 #[.pointer (some ⟨p, 0, none⟩), .string (bstr nm)] w fun x w' => x = .returned (.int .i64 ((lookF D.fs nm).b.length : Int)) ∧ Below w.heap.size w w' := by
  have hfd : ∀ (a b d : Value) (W : World), (Instr.field 117 (.agg #[a, b, d]) 1).run Try.prog W = .ok b W := fun a b d W => by first | rfl | kernel_rfl | simp [Instr.field]
  go_enter Try.func45, Try.ntmps45
  go_wp2_with fail
  refine (look_any h nm).mono ?_; rintro x w1 ⟨A, c, rfl, hb⟩
  have Hb := Lib.hid hb
  clear h hb
  generalize hf : lookF D.fs nm = f
  have Hf := Lib.hid hf
  clear hf
  go_wp2_with fail
  go_ret
  exact ⟨by rw [Hf.out]; rfl, Hb.out⟩
set_option maxRecDepth 100000 in
set_option maxHeartbeats 1000000 in
theorem Synced_any (h : DkIs w base p D F) (nm : Nm) :
    Calls Try.prog 48 #[.pointer (some ⟨p, 0, none⟩), .string (bstr nm)] w fun x w' => x = .returned (.int .i64 ((lookF D.fs nm).safe : Int)) ∧ Below w.heap.size w w' := by
  have hfd : ∀ (a b d : Value) (W : World), (Instr.field 117 (.agg #[a, b, d]) 2).run Try.prog W = .ok d W := fun a b d W => by first | rfl | kernel_rfl | simp [Instr.field]
  go_enter Try.func48, Try.ntmps48
  go_wp2_with fail
  refine (look_any h nm).mono ?_; rintro x w1 ⟨A, c, rfl, hb⟩
  have Hb := Lib.hid hb
  clear h hb
  generalize hf : lookF D.fs nm = f
  have Hf := Lib.hid hf
  clear hf
  go_wp2_with fail
  go_ret
  exact ⟨by rw [Hf.out]; rfl, Hb.out⟩
end
end Go.Proofs.Ytemegkapmgcffaa
