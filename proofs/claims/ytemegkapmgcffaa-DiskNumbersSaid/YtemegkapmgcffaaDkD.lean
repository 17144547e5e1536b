import Derived.Test.YtemegkapmgcffaaDkC
import Derived.Test.YtemegkapmgcffaaRegionS
/- The disk: of. -/
namespace Go.Proofs.Ytemegkapmgcffaa
open Go.RowKit
set_option linter.unusedSimpArgs false
set_option linter.unusedVariables false

def JB1 (B : Nat) (x : Int) (v : Value) (w : World) : Prop := ∃ g, v = .pointer (some ⟨g, 0, none⟩) ∧ B ≤ g ∧ Own B 3 1 w (some ⟨g, 0, none⟩) 1 1 [.int .i64 x]
theorem JB1_stable (B : Nat) (x : Int) : Stable (JB1 B x) := fun _ _ _ hb ⟨g, e, h1, h2⟩ => ⟨g, e, h1, h2.below hb⟩
theorem of1_any {w : World} {a0 a1 : Addr} {N : FuncId} {cap : Array Value} {i : Int} {Post : World → Prop} (c0 : w.cell? a0 = some (.func (.func N) #[] cap)) (c1 : w.cell? a1 = some (.int .i64 i)) (hent : ∀ (a : Array Value) (w : World), (callFunc N a).run Try.prog w = .ok (.enter N a) w)
    (hN : Calls Try.prog N (#[.int .i64 i] ++ cap) w fun e w' => e = .returned (.tuple #[]) ∧ Post w') :
    Calls Try.prog 128 #[.pointer (some a0), .pointer (some a1)] w fun e w' => e = .returned (.tuple #[]) ∧ Post w' := by
  have HN := Lib.hid hN
  clear hN
  go_enter Try.func128, Try.ntmps128
  go_wp2_with fail
  refine HN.out.mono ?_; rintro e w3 ⟨rfl, hp⟩
  go_wp2_with fail
  go_end0
  exact ⟨rfl, hp⟩
theorem cellB {w w' : World} {a : Addr} {v : Value} (hb : Below w.heap.size w w') (h : w.cell? a = some v) : w'.cell? a = some v := (World.cell?_of_block (hb.block _ (World.block_lt_of_cell? _ _ h))).trans h
theorem cellG {w w' : World} {a : Addr} {v : Value} {g : Nat} (hg : w.grownBy w' (some g)) (h : w.cell? a = some v) (hne : a.block ≠ g) : w'.cell? a = some v := (World.cell?_of_block (hg.block _ (World.block_lt_of_cell? _ _ h) (fun e => hne (Option.some.inj e)))).trans h
theorem ent_of1 (a : Array Value) (w : World) : (callFunc 128 a).run Try.prog w = .ok (.enter 128 a) w := by kernel_rfl
section
variable {W : World} {base p : Nat} {D : Dk} {F : Nat → Prop} {R : Option Addr} {c : Nat} {es : List FE}
set_option maxRecDepth 100000 in
set_option maxHeartbeats 8000000 in
theorem of_any (h : DI W base p D F R c es) (nm : Nm) (M N : FuncId) (capM capN : Array Value) (may : Fl → Int) (Post : World → Prop)
    (entM : ∀ (a : Array Value) (w : World), (callFunc M a).run Try.prog w = .ok (.enter M a) w) (entN : ∀ (a : Array Value) (w : World), (callFunc N a).run Try.prog w = .ok (.enter N a) w)
    (hmay : ∀ e w1, es[posF D.fs nm]? = some e → Below W.heap.size W w1 → Calls Try.prog M (#[.agg #[.string (bstr e.f.nm), .slice e.A e.f.b.length e.c, .int .i64 e.f.safe]] ++ capM) w1 fun x w' => x = .returned (.int .i64 (may e.f)) ∧ Below w1.heap.size w1 w')
    (hdo : ∀ e w1, es[posF D.fs nm]? = some e → e.f.nm = nm → thereF D.fs nm = true → D.dark = false → may e.f = 0 → D.fuse ≠ 0 → DI w1 base p (burnt D) F R c es → Cg F F W w1 → Calls Try.prog N (#[.int .i64 (posF D.fs nm : Int)] ++ capN) w1 fun x w' => x = .returned (.tuple #[]) ∧ Post w') :
    Calls Try.prog 88 #[.pointer (some ⟨p, 0, none⟩), .string (bstr nm), .func (.func M) #[] capM, .func (.func N) #[] capN] W fun x w' =>
      (D.dark = true ∧ x = .returned (.int .i64 15) ∧ Below W.heap.size W w') ∨
      (D.dark = false ∧ thereF D.fs nm = false ∧ x = .returned (.int .i64 16) ∧ Below W.heap.size W w') ∨
      (D.dark = false ∧ thereF D.fs nm = true ∧ ∃ e, es[posF D.fs nm]? = some e ∧ e.f.nm = nm ∧
        ((may e.f ≠ 0 ∧ x = .returned (.int .i64 (may e.f)) ∧ Below W.heap.size W w') ∨ (may e.f = 0 ∧ D.fuse = 0 ∧ x = .returned (.int .i64 15) ∧ DI w' base p (darkD D) F R c es ∧ Cg F F W w') ∨ (may e.f = 0 ∧ D.fuse ≠ 0 ∧ x = .returned (.int .i64 0) ∧ Post w'))) := by
  have hb0 := below_alloc1 W (.cells #[.func (.func N) #[] capN] 56)
  have hbox := sl_cells W [.func (.func N) #[] capN] 56
  have h0 := h.below hb0
  obtain ⟨b0, hb0e⟩ : ∃ b0, b0 = W.heap.size := ⟨_, rfl⟩
  have hc0 : (W.alloc (.cells #[.func (.func N) #[] capN] 56)).cell? ⟨W.heap.size, 0, none⟩ = some (.func (.func N) #[] capN) := by
    obtain ⟨a, h1, h2⟩ := hbox.cells 0 _ rfl
    cases h1
    rwa [add_plain] at h2
  have Hmay := Lib.hid hmay
  have Hdo := Lib.hid hdo
  have hWs := h.plt
  clear hbox hmay hdo
  go_enter Try.func88, Try.ntmps88
  go_wp2_with fail
  refine (lit_any h0).mono ?_; rintro e w1 ⟨rfl, rfl⟩
  obtain ⟨wz, hwz⟩ : ∃ wz, wz = W.alloc (.cells #[.func (.func N) #[] capN] 56) := ⟨_, rfl⟩
  rw [← hwz] at h0 hb0 hc0
  rw [← hb0e] at hc0
  have hdk : litD D = 15 ∧ D.dark = true ∨ litD D = 0 ∧ D.dark = false := by unfold litD; cases D.dark <;> simp
  rcases hdk with ⟨hl, hdk⟩ | ⟨hl, hdk⟩
  · rw [hl]
    have Hb := Lib.hid hb0
    rw [hwz] at Hb
    clear hl h h0 hc0 hb0
    go_wp2_with fail
    go_ret
    exact .inl ⟨hdk, rfl, Hb.out⟩
  · rw [hl]
    have HDK := Lib.hid hdk
    obtain ⟨ps, hps⟩ : ∃ ps, ps = posF D.fs nm := ⟨_, rfl⟩
    obtain ⟨th, hth⟩ : ∃ th, th = thereF D.fs nm := ⟨_, rfl⟩
    have Hps := Lib.hid (show posF (es.map FE.f) nm = ps by rw [hps, h.fs])
    have Hth := Lib.hid (show thereF (es.map FE.f) nm = th by rw [hth, h.fs])
    have Hps2 := Lib.hid hps
    have Hth2 := Lib.hid hth
    have hpl : ps ≤ es.length := by rw [← Hps.out]; have := posF_le (es.map FE.f) nm; simpa using this
    have H := Lib.hid h0
    have hpb : p ≠ b0 := by omega
    have hbw : W.heap.size ≤ wz.heap.size := hb0.size
    rw [← hwz, ← hb0e]
    clear hl h h0 hps hth hdk hwz
    subst hb0e
    go_upto_region 4 with fail
    --@region 88 4 of4.spec
    refine wp_region_runS [13, 14] (fun k => if k = 14 then 13 else k) (fun _ _ => True) (by kernel_rfl) (by kernel_rfl) (by kernel_rfl) (R := RB wz.heap.size) (fun _ _ h => RB.below h) (fun _ _ _ => RB.trans) (fun _ _ _ _ _ => trivial) trivial ?_
    apply RunS.pure (by decide)
    · intro vs w hb hd; clear hd; simp only [List.take, putL, Act.put, List.setIfInBounds_toArray, List.set_cons_zero, List.set_cons_succ]; unfold StepOK; go_simp; exact ⟨Below.refl _ _, isV_mk _ _⟩
    apply RunS.pure (by decide)
    · intro vs w hb hd; have d0 : isV _ (vs 0) w := hd 0 (by decide) (by kernel_rfl); unfold isV at d0; clear hd; simp only [List.take, putL, Act.put, List.setIfInBounds_toArray, List.set_cons_zero, List.set_cons_succ]; unfold StepOK; go_simp; exact ⟨Below.refl _ _, isV_mk _ _⟩
    apply RunS.pure (by decide)
    · intro vs w hb hd; have d1 : isV _ (vs 1) w := hd 1 (by decide) (by kernel_rfl); unfold isV at d1; clear hd; simp only [List.take, putL, Act.put, List.setIfInBounds_toArray, List.set_cons_zero, List.set_cons_succ]; unfold StepOK; go_simp; exact ⟨Below.refl _ _, isV_mk _ _⟩
    apply RunS.pure (by decide)
    · intro vs w hb hd; have d2 : isV _ (vs 2) w := hd 2 (by decide) (by kernel_rfl); unfold isV at d2; clear hd; have hx1 := (H.out.below (hb (Nat.le_refl _))).cell.2.2.2.2; simp only [List.take, putL, Act.put, List.setIfInBounds_toArray, List.set_cons_zero, List.set_cons_succ]; unfold StepOK; go_simp; exact ⟨Below.refl _ _, isV_mk _ _⟩
    apply RunS.pure (by decide)
    · intro vs w hb hd; clear hd; simp only [List.take, putL, Act.put, List.setIfInBounds_toArray, List.set_cons_zero, List.set_cons_succ]; unfold StepOK; go_simp; exact ⟨Below.refl _ _, isV_mk _ _⟩
    apply RunS.pure (by decide)
    · intro vs w hb hd; have d4 : isV _ (vs 4) w := hd 4 (by decide) (by kernel_rfl); unfold isV at d4; clear hd; simp only [List.take, putL, Act.put, List.setIfInBounds_toArray, List.set_cons_zero, List.set_cons_succ]; unfold StepOK; go_simp; exact ⟨Below.refl _ _, isV_mk _ _⟩
    apply RunS.pure (by decide)
    · intro vs w hb hd; have d5 : isV _ (vs 5) w := hd 5 (by decide) (by kernel_rfl); unfold isV at d5; clear hd; simp only [List.take, putL, Act.put, List.setIfInBounds_toArray, List.set_cons_zero, List.set_cons_succ]; unfold StepOK; go_simp; exact ⟨Below.refl _ _, isV_mk _ _⟩
    apply RunS.pure (by decide)
    · intro vs w hb hd; have d6 : isV _ (vs 6) w := hd 6 (by decide) (by kernel_rfl); unfold isV at d6; clear hd; have hx1 := (H.out.below (hb (Nat.le_refl _))).cell.1; simp only [List.take, putL, Act.put, List.setIfInBounds_toArray, List.set_cons_zero, List.set_cons_succ]; unfold StepOK; go_simp; exact ⟨Below.refl _ _, isV_mk _ _⟩
    apply RunS.pure (by decide)
    · intro vs w hb hd; clear hd; simp only [List.take, putL, Act.put, List.setIfInBounds_toArray, List.set_cons_zero, List.set_cons_succ]; unfold StepOK; go_simp; exact ⟨Below.refl _ _, isV_mk _ _⟩
    refine RunS.such (by decide) (isV (.tuple #[.int .i64 (ps : Int), .bool th])) (fun _ _ _ _ h => h) ?_ ?_
    · intro vs w hb hd; have d3 : isV _ (vs 3) w := hd 3 (by decide) (by kernel_rfl); unfold isV at d3; have d7 : isV _ (vs 7) w := hd 7 (by decide) (by kernel_rfl); unfold isV at d7; have d8 : isV _ (vs 8) w := hd 8 (by decide) (by kernel_rfl); unfold isV at d8; clear hd; have hx1 := H.out.below (hb (Nat.le_refl _)); simp only [List.take, putL, Act.put, List.setIfInBounds_toArray, List.set_cons_zero, List.set_cons_succ]; unfold StepOK; go_simp; exact ⟨Below.refl _ _, such_of_bool (by rw [← Hps.out, ← Hth.out]; exact place_any _ _ _ es nm w hx1.row.sl (by have := hx1.len; omega) (by rw [hx1.fs]; exact hx1.good.srt))⟩
    apply RunS.pure (by decide)
    · intro vs w hb hd; have d9 := hd 9 (by decide) (by kernel_rfl); simp only [TR, Nat.reduceAdd, Nat.reduceSub, List.getD_cons_zero, List.getD_cons_succ] at d9; clear hd; unfold isV at d9; simp only [List.take, putL, Act.put, List.setIfInBounds_toArray, List.set_cons_zero, List.set_cons_succ]; unfold StepOK; go_simp; exact ⟨Below.refl _ _, isV_mk _ _⟩
    apply RunS.pure (by decide)
    · intro vs w hb hd; have d10 : isV _ (vs 10) w := hd 10 (by decide) (by kernel_rfl); unfold isV at d10; clear hd; simp only [List.take, putL, Act.put, List.setIfInBounds_toArray, List.set_cons_zero, List.set_cons_succ]; unfold StepOK; go_simp; exact ⟨Below.refl _ _, isV_mk _ _⟩
    apply RunS.pure (by decide)
    · intro vs w hb hd; have d10 : isV _ (vs 10) w := hd 10 (by decide) (by kernel_rfl); unfold isV at d10; clear hd; simp only [List.take, putL, Act.put, List.setIfInBounds_toArray, List.set_cons_zero, List.set_cons_succ]; unfold StepOK; go_simp; exact ⟨Below.refl _ _, isV_mk _ _⟩
    refine RunS.eff (by decide) (JB1 wz.heap.size 0) (JB1_stable _ _) (by rfl) (by rfl) ?_ ?_
    · intro vs w hb hd hj; clear hd; have hj2 := hj; (try simp only [prevE, lastV, lastS, List.mem_cons, List.not_mem_nil, or_false, Nat.reduceEqDiff, Nat.reduceAdd, if_true, if_false, reduceIte, or_true, true_or, or_self] at hj2); clear hj; have hB := (hb (Nat.le_refl _)).size; clear hj2; simp only [List.take, putL, Act.put, List.setIfInBounds_toArray, List.set_cons_zero, List.set_cons_succ]; unfold StepE; go_simp; exact ⟨RB.below (below_alloc1 _ _), _, rfl, hB, Own.lower (new_own _ [.int .i64 0] 3 1 rfl (by unfold maxLen; omega)) hB⟩
    refine RunS.storeAt (by decide) 13 (JB1 wz.heap.size ps) (JB1_stable _ _) (by rfl) (by decide) (by kernel_rfl) ?_ ?_
    · intro vs w hb hd hj; have d0 : isV _ (vs 0) w := hd 0 (by decide) (by kernel_rfl); unfold isV at d0; have d1 : isV _ (vs 1) w := hd 1 (by decide) (by kernel_rfl); unfold isV at d1; have d2 : isV _ (vs 2) w := hd 2 (by decide) (by kernel_rfl); unfold isV at d2; have d3 : isV _ (vs 3) w := hd 3 (by decide) (by kernel_rfl); unfold isV at d3; have d4 : isV _ (vs 4) w := hd 4 (by decide) (by kernel_rfl); unfold isV at d4; have d5 : isV _ (vs 5) w := hd 5 (by decide) (by kernel_rfl); unfold isV at d5; have d6 : isV _ (vs 6) w := hd 6 (by decide) (by kernel_rfl); unfold isV at d6; have d7 : isV _ (vs 7) w := hd 7 (by decide) (by kernel_rfl); unfold isV at d7; have d8 : isV _ (vs 8) w := hd 8 (by decide) (by kernel_rfl); unfold isV at d8; have d9 := hd 9 (by decide) (by kernel_rfl); simp only [TR, Nat.reduceAdd, Nat.reduceSub, List.getD_cons_zero, List.getD_cons_succ] at d9; have d10 : isV _ (vs 10) w := hd 10 (by decide) (by kernel_rfl); unfold isV at d10; have d11 : isV _ (vs 11) w := hd 11 (by decide) (by kernel_rfl); unfold isV at d11; clear hd; have hj2 := hj; (try simp only [prevE, lastV, lastS, List.mem_cons, List.not_mem_nil, or_false, Nat.reduceEqDiff, Nat.reduceAdd, if_true, if_false, reduceIte, or_true, true_or, or_self] at hj2); clear hj; obtain ⟨g, eg, hBg, ho⟩ := hj2; have y0 := World.ownsRow.cellAt ho 0 (by omega); have x0 := World.ownsRow.frozenAt ho 0; simp only [List.getElem?_cons_zero] at y0; have st := World.ownsRow.stored ho 0 (.int .i64 (ps : Int)); have hR := RB.grown st.2 hBg; have HRR := Lib.hid hR; have HOO := Lib.hid (show Own wz.heap.size 3 1 (w.setCell ⟨g, 0, none⟩ (.int .i64 (ps : Int))) (some ⟨g, 0, none⟩) 1 1 [.int .i64 (ps : Int)] from st.1); clear ho hR st; simp only [List.take, putL, Act.put, List.setIfInBounds_toArray, List.set_cons_zero, List.set_cons_succ]; unfold StepE; go_simp; first | exact ⟨HRR.out, g, eg, hBg, HOO.out⟩ | exact ⟨HRR.out, g, rfl, hBg, HOO.out⟩
    apply RunS.pure (by decide)
    · intro vs w hb hd; have d0 : isV _ (vs 0) w := hd 0 (by decide) (by kernel_rfl); unfold isV at d0; have d1 : isV _ (vs 1) w := hd 1 (by decide) (by kernel_rfl); unfold isV at d1; have d2 : isV _ (vs 2) w := hd 2 (by decide) (by kernel_rfl); unfold isV at d2; have d3 : isV _ (vs 3) w := hd 3 (by decide) (by kernel_rfl); unfold isV at d3; have d4 : isV _ (vs 4) w := hd 4 (by decide) (by kernel_rfl); unfold isV at d4; have d5 : isV _ (vs 5) w := hd 5 (by decide) (by kernel_rfl); unfold isV at d5; have d6 : isV _ (vs 6) w := hd 6 (by decide) (by kernel_rfl); unfold isV at d6; have d7 : isV _ (vs 7) w := hd 7 (by decide) (by kernel_rfl); unfold isV at d7; have d8 : isV _ (vs 8) w := hd 8 (by decide) (by kernel_rfl); unfold isV at d8; have d9 := hd 9 (by decide) (by kernel_rfl); simp only [TR, Nat.reduceAdd, Nat.reduceSub, List.getD_cons_zero, List.getD_cons_succ] at d9; have d10 : isV _ (vs 10) w := hd 10 (by decide) (by kernel_rfl); unfold isV at d10; have d11 : isV _ (vs 11) w := hd 11 (by decide) (by kernel_rfl); unfold isV at d11; have d12 : isV _ (vs 12) w := hd 12 (by decide) (by kernel_rfl); unfold isV at d12; clear hd; simp only [List.take, putL, Act.put, List.setIfInBounds_toArray, List.set_cons_zero, List.set_cons_succ]; unfold StepOK; go_simp; exact ⟨Below.refl _ _, isV_mk _ _⟩
    intro vs w1 hb hd hj
    try simp only [prevE, lastV, lastS, List.mem_cons, List.not_mem_nil, or_false, Nat.reduceEqDiff, Nat.reduceAdd, if_true, if_false, reduceIte, or_true, true_or, or_self] at hj
    have e0 : isV _ (vs 0) w1 := hd 0 (by decide)
    have e1 : isV _ (vs 1) w1 := hd 1 (by decide)
    have e2 : isV _ (vs 2) w1 := hd 2 (by decide)
    have e3 : isV _ (vs 3) w1 := hd 3 (by decide)
    have e4 : isV _ (vs 4) w1 := hd 4 (by decide)
    have e5 : isV _ (vs 5) w1 := hd 5 (by decide)
    have e6 : isV _ (vs 6) w1 := hd 6 (by decide)
    have e7 : isV _ (vs 7) w1 := hd 7 (by decide)
    have e8 : isV _ (vs 8) w1 := hd 8 (by decide)
    have e9 := hd 9 (by decide); simp only [TR, Nat.reduceAdd, Nat.reduceSub, List.getD_cons_zero, List.getD_cons_succ] at e9
    have e10 : isV _ (vs 10) w1 := hd 10 (by decide)
    have e11 : isV _ (vs 11) w1 := hd 11 (by decide)
    have e12 : isV _ (vs 12) w1 := hd 12 (by decide)
    have e15 : isV _ (vs 15) w1 := hd 15 (by decide)
    clear hd
    unfold isV at e0 e1 e2 e3 e4 e5 e6 e7 e8 e10 e11 e12 e15
    simp only [putL, Act.put, List.setIfInBounds_toArray, List.set_cons_zero, List.set_cons_succ, e0, e1, e2, e3, e4, e5, e6, e7, e8, e10, e11, e12, e15]
    clear e0 e1 e2 e3 e4 e5 e6 e7 e8 e10 e11 e12 e15
    --@end
    obtain ⟨g, eg, hBg, oI⟩ := hj
    simp only [Nat.reduceAdd, eg]
    have hbz := hb (Nat.le_refl _)
    have hW1 := hb0.trans (hbz.mono hbw)
    have h1 := H.out.below hbz
    have hcI := World.ownsRow.cellAt oI 0 (by omega)
    simp only [List.getElem?_cons_zero] at hcI
    have hc1 := cellB hbz hc0
    have HI := Lib.hid hcI
    have HC := Lib.hid hc1
    have HD := Lib.hid h1
    have hgp : p ≠ g := by have := h1.plt; have := H.out.plt; omega
    have hps200 : es.length ≤ 200 := h1.len
    clear hb hbz hb0 H hcI hc1 h1 hc0 oI hBg hbw
    obtain ⟨w0, hw0⟩ : ∃ w0 : World, w0 = w1 := ⟨_, rfl⟩
    rw [← hw0] at hW1 HI HC HD ⊢
    clear hw0
    cases th with
    | false =>
      go_wp2_with fail
      go_ret
      exact .inr (.inl ⟨HDK.out, Hth2.out.symm, rfl, hW1⟩)
    | true =>
      obtain ⟨f, hf1, hf2⟩ := there_true Hth.out
      rw [Hps.out, List.getElem?_map] at hf1
      obtain ⟨e, he, hef⟩ := Option.map_eq_some_iff.1 hf1
      have HE := Lib.hid he
      have hlt : ps < es.length := (List.getElem?_eq_some_iff.1 he).1
      have hin : (0 : Int) ≤ (ps : Int) ∧ (ps : Int) < (es.length : Int) := by omega
      obtain ⟨ad, hR⟩ := slFE_addr HD.out.row.sl he
      subst hR
      have HNM := Lib.hid (show e.f.nm = nm by rw [hef]; exact hf2)
      have HE2 := Lib.hid (show es[posF D.fs nm]? = some e by rw [← Hps2.out]; exact he)
      obtain ⟨m, hm⟩ : ∃ m, m = may e.f := ⟨_, rfl⟩
      have HMay := Lib.hid (fun w1 (hb : Below W.heap.size W w1) => by have := Hmay.out e w1 HE2.out hb; rw [← hm] at this; exact this)
      have Hm := Lib.hid hm
      have H := HD
      have hmf : ∀ (fn : Fn) (first cap : Array Value) (w : World), (Instr.makeFunc fn first cap).run Try.prog w = .ok (.func fn first cap) w := fun _ _ _ _ => rfl
      clear he hef hf1 hf2 hm
      go_upto_region 7 with fail
      obtain ⟨wz2, hwz2⟩ : ∃ wz2 : World, wz2 = w0 := ⟨_, rfl⟩
      rw [← hwz2] at hW1 HI HC HD H ⊢
      clear hwz2
      have hbz := hW1
      --@region 88 7 of7.spec
      refine wp_region_run (by kernel_rfl) (by kernel_rfl) ?_
      apply RunL.pure
      · intro vs w hb hd; clear hd; simp only [List.take, putL, Act.put, List.setIfInBounds_toArray, List.set_cons_zero, List.set_cons_succ]; unfold StepOK; go_simp; exact ⟨Below.refl _ _, isV_mk _ _⟩
      apply RunL.pure
      · intro vs w hb hd; clear hd; simp only [List.take, putL, Act.put, List.setIfInBounds_toArray, List.set_cons_zero, List.set_cons_succ]; unfold StepOK; go_simp; exact ⟨Below.refl _ _, isV_mk _ _⟩
      apply RunL.pure
      · intro vs w hb hd; have d1 : isV _ (vs 1) w := hd 1 (by decide) (by kernel_rfl); unfold isV at d1; clear hd; simp only [List.take, putL, Act.put, List.setIfInBounds_toArray, List.set_cons_zero, List.set_cons_succ]; unfold StepOK; go_simp; exact ⟨Below.refl _ _, isV_mk _ _⟩
      apply RunL.pure
      · intro vs w hb hd; have d2 : isV _ (vs 2) w := hd 2 (by decide) (by kernel_rfl); unfold isV at d2; clear hd; simp only [List.take, putL, Act.put, List.setIfInBounds_toArray, List.set_cons_zero, List.set_cons_succ]; unfold StepOK; go_simp; exact ⟨Below.refl _ _, isV_mk _ _⟩
      apply RunL.pure
      · intro vs w hb hd; have d3 : isV _ (vs 3) w := hd 3 (by decide) (by kernel_rfl); unfold isV at d3; clear hd; have hx1 := (H.out.below hb).cell.1; simp only [List.take, putL, Act.put, List.setIfInBounds_toArray, List.set_cons_zero, List.set_cons_succ]; unfold StepOK; go_simp; exact ⟨Below.refl _ _, isV_mk _ _⟩
      apply RunL.pure
      · intro vs w hb hd; clear hd; have hx1 := cellB hb HI.out; simp only [List.take, putL, Act.put, List.setIfInBounds_toArray, List.set_cons_zero, List.set_cons_succ]; unfold StepOK; go_simp; exact ⟨Below.refl _ _, isV_mk _ _⟩
      apply RunL.pure
      · intro vs w hb hd; have d4 : isV _ (vs 4) w := hd 4 (by decide) (by kernel_rfl); unfold isV at d4; have d5 : isV _ (vs 5) w := hd 5 (by decide) (by kernel_rfl); unfold isV at d5; clear hd; have hx1 := hin; simp only [List.take, putL, Act.put, List.setIfInBounds_toArray, List.set_cons_zero, List.set_cons_succ]; unfold StepOK; go_simp; exact ⟨Below.refl _ _, isV_mk _ _⟩
      apply RunL.pure
      · intro vs w hb hd; have d6 : isV _ (vs 6) w := hd 6 (by decide) (by kernel_rfl); unfold isV at d6; clear hd; have hx3 := slFE_three (H.out.below hb).row.sl HE.out; obtain ⟨hy0, hy1, hy2⟩ := hx3; simp only [List.take, putL, Act.put, List.setIfInBounds_toArray, List.set_cons_zero, List.set_cons_succ]; unfold StepOK; go_simp; exact ⟨Below.refl _ _, isV_mk _ _⟩
      refine RunL.such (isV (.int .i64 m)) (isV_stable _) ?_ ?_
      · intro vs w hb hd; have d0 : isV _ (vs 0) w := hd 0 (by decide) (by kernel_rfl); unfold isV at d0; have d7 : isV _ (vs 7) w := hd 7 (by decide) (by kernel_rfl); unfold isV at d7; clear hd; simp only [List.take, putL, Act.put, List.setIfInBounds_toArray, List.set_cons_zero, List.set_cons_succ]; unfold StepOK; go_simp; exact ⟨Below.refl _ _, such_of_bool (HMay.out w (hbz.trans (hb.mono hbz.size)))⟩
      apply RunL.pure
      · intro vs w hb hd; have d0 : isV _ (vs 0) w := hd 0 (by decide) (by kernel_rfl); unfold isV at d0; have d1 : isV _ (vs 1) w := hd 1 (by decide) (by kernel_rfl); unfold isV at d1; have d2 : isV _ (vs 2) w := hd 2 (by decide) (by kernel_rfl); unfold isV at d2; have d3 : isV _ (vs 3) w := hd 3 (by decide) (by kernel_rfl); unfold isV at d3; have d4 : isV _ (vs 4) w := hd 4 (by decide) (by kernel_rfl); unfold isV at d4; have d5 : isV _ (vs 5) w := hd 5 (by decide) (by kernel_rfl); unfold isV at d5; have d6 : isV _ (vs 6) w := hd 6 (by decide) (by kernel_rfl); unfold isV at d6; have d7 : isV _ (vs 7) w := hd 7 (by decide) (by kernel_rfl); unfold isV at d7; have d8 := hd 8 (by decide) (by kernel_rfl); simp only [TR, Nat.reduceAdd, Nat.reduceSub, List.getD_cons_zero, List.getD_cons_succ] at d8; clear hd; unfold isV at d8; simp only [List.take, putL, Act.put, List.setIfInBounds_toArray, List.set_cons_zero, List.set_cons_succ]; unfold StepOK; go_simp; exact ⟨Below.refl _ _, isV_mk _ _⟩
      intro vs w1 hb hd
      have e0 : isV _ (vs 0) w1 := hd 0 (by decide)
      have e1 : isV _ (vs 1) w1 := hd 1 (by decide)
      have e2 : isV _ (vs 2) w1 := hd 2 (by decide)
      have e3 : isV _ (vs 3) w1 := hd 3 (by decide)
      have e4 : isV _ (vs 4) w1 := hd 4 (by decide)
      have e5 : isV _ (vs 5) w1 := hd 5 (by decide)
      have e6 : isV _ (vs 6) w1 := hd 6 (by decide)
      have e7 : isV _ (vs 7) w1 := hd 7 (by decide)
      have e8 := hd 8 (by decide); simp only [TR, Nat.reduceAdd, Nat.reduceSub, List.getD_cons_zero, List.getD_cons_succ] at e8
      have e9 : isV _ (vs 9) w1 := hd 9 (by decide)
      clear hd
      unfold isV at e0 e1 e2 e3 e4 e5 e6 e7 e9
      simp only [putL, Act.put, List.setIfInBounds_toArray, List.set_cons_zero, List.set_cons_succ, e0, e1, e2, e3, e4, e5, e6, e7, e9]
      clear e0 e1 e2 e3 e4 e5 e6 e7 e9
      --@end
      have hW3 := hW1.trans (hb.mono hW1.size)
      have h3 := HD.out.below hb
      have hcI := cellB hb HI.out
      have hcC := cellB hb HC.out
      clear HD H HI HC hW1 hbz hb
      by_cases hm0 : m = 0
      · have Hm0 := Lib.hid (show may e.f = 0 by rw [← Hm.out]; exact hm0)
        subst hm0
        have H3 := Lib.hid h3
        have HcI := Lib.hid hcI
        have HcC := Lib.hid hcC
        have HW3 := Lib.hid hW3
        have hfp := h3.fp
        clear h3 hcI hcC
        go_wp2_with fail
        refine (deed_any H3.out 128 _ Post ent_of1 (fun w5 h5 hg5 hfu => of1_any (cellG hg5 HcC.out (by simpa using fun e => hpb e.symm)) (cellG hg5 HcI.out (by simpa using fun e => hgp e.symm)) entN (by rw [Hps2.out]; exact Hdo.out e w5 HE2.out HNM.out Hth2.out.symm HDK.out Hm0.out hfu h5 ((Cg.below HW3.out).trans (Cg.grown hg5 hfp))))).mono ?_
        rintro x w6 hx
        by_cases hf0 : D.fuse = 0
        · rw [if_pos hf0] at hx
          obtain ⟨rfl, h6, hg6⟩ := hx
          have H6 := Lib.hid h6
          have HG6 := Lib.hid ((Cg.below HW3.out).trans (Cg.grown hg6 hfp))
          have Hf0 := Lib.hid hf0
          clear h6 hg6 hf0
          go_wp2_with fail
          go_ret
          exact .inr (.inr ⟨HDK.out, Hth2.out.symm, e, HE2.out, HNM.out, .inr (.inl ⟨Hm0.out, Hf0.out, rfl, H6.out, HG6.out⟩)⟩)
        · rw [if_neg hf0] at hx
          obtain ⟨rfl, h6⟩ := hx
          have H6 := Lib.hid h6
          have Hf0 := Lib.hid hf0
          clear h6 hf0
          go_wp2_with fail
          go_ret
          exact .inr (.inr ⟨HDK.out, Hth2.out.symm, e, HE2.out, HNM.out, .inr (.inr ⟨Hm0.out, Hf0.out, rfl, H6.out⟩)⟩)
      · go_wp2_with fail
        go_ret
        exact .inr (.inr ⟨HDK.out, Hth2.out.symm, e, HE2.out, HNM.out, .inl ⟨by rw [← Hm.out]; exact hm0, by rw [← Hm.out]; rfl, hW3⟩⟩)
end
end Go.Proofs.Ytemegkapmgcffaa
