import Derived.Test.YtemegkapmgcffaaDelF
/- The disk: Remove. -/
namespace Go.Proofs.Ytemegkapmgcffaa
open Go.RowKit
set_option linter.unusedSimpArgs false
set_option linter.unusedVariables false

theorem srt_erase {fs : List Fl} (hs : SrtF fs) (k : Nat) : SrtF (fs.eraseIdx k) := by
  intro i j x y hij hx hy
  rw [List.getElem?_eraseIdx] at hx hy
  split at hx <;> split at hy
  · exact hs _ _ x y hij hx hy
  · exact hs _ _ x y (by omega) hx hy
  · exact hs _ _ x y (by omega) hx hy
  · exact hs _ _ x y (by omega) hx hy
theorem used_erase : ∀ {fs : List Fl} (k : Nat), usedF (fs.eraseIdx k) ≤ usedF fs := by
  intro fs
  induction fs with
  | nil => intro k; simp [usedF]
  | cons x r ih =>
    intro k
    cases k with
    | zero => simp [usedF]
    | succ k =>
      have := ih k
      simp [usedF] at this ⊢
      omega
theorem Good.erase {D : Dk} (h : Good D) (k : Nat) : Good { D with fs := D.fs.eraseIdx k } := by
  refine ⟨srt_erase h.srt k, h.room, h.fuse, ?_, fun x hx => h.safe x (List.mem_of_mem_eraseIdx hx), ?_, fun x hx => h.nms x (List.mem_of_mem_eraseIdx hx)⟩
  · have := h.few
    have := List.length_eraseIdx_le D.fs k
    simp only
    omega
  · have := h.used
    have := used_erase (fs := D.fs) k
    simp only
    omega
theorem flat_erase (es : List FE) (k : Nat) : (flatFE es).take (k * 3) ++ (flatFE es).drop ((k + 1) * 3) = flatFE (es.eraseIdx k) := by
  unfold flatFE
  rw [flatMap_take feC 3 (fun _ => rfl), flatMap_drop feC 3 (fun _ => rfl), List.eraseIdx_eq_take_drop_succ, List.flatMap_append]
theorem grown_below {w w1 w2 : World} {row : Option Nat} (h : w.grownBy w1 row) (k : Below w1.heap.size w1 w2) : w.grownBy w2 row := grownBy_trans h (below_grownBy k _)
/-- the row is less by one, the disk not told yet -/
def JRow (base p : Nat) (D : Dk) (F : Nat → Prop) (g c : Nat) (es : List FE) (k : Nat) (w : World) : Prop := ∃ w0, DI w0 base p D F (some ⟨g, 0, none⟩) c es ∧ w0.grownBy w (some g) ∧ Own base 117 3 w (some ⟨g, 0, none⟩) (es.length - 1) c ((flatFE es).take (k * 3) ++ (flatFE es).drop ((k + 1) * 3))
theorem JRow_below {base p : Nat} {D : Dk} {F : Nat → Prop} {g c : Nat} {es : List FE} {k : Nat} {w w' : World} (h : JRow base p D F g c es k w) (hb : Below w.heap.size w w') : JRow base p D F g c es k w' := by
  obtain ⟨w0, h1, h2, h3⟩ := h
  exact ⟨w0, h1, grown_below h2 hb, h3.below hb⟩
theorem JRow_store {base p : Nat} {D : Dk} {F : Nat → Prop} {g c : Nat} {es : List FE} {k : Nat} {w : World} (h : JRow base p D F g c es k w) (hk : k < es.length) :
    w.cell? ⟨p, 0, none⟩ = some (.slice (some ⟨g, 0, none⟩) es.length c) ∧ w.frozen? ⟨p, 0, none⟩ = false ∧ Cg F F w (w.setCell ⟨p, 0, none⟩ (.slice (some ⟨g, 0, none⟩) (es.length - 1) c)) ∧ DI (w.setCell ⟨p, 0, none⟩ (.slice (some ⟨g, 0, none⟩) (es.length - 1) c)) base p { D with fs := D.fs.eraseIdx k } F (some ⟨g, 0, none⟩) c (es.eraseIdx k) := by
  obtain ⟨w0, h0, hg, hr⟩ := h
  have hfg := h0.fr _ rfl
  have ho := own_same h0.own (w' := w) (fun a ha => by cases ha; exact hg.block _ h0.plt.2 (fun e => hfg.2 (Option.some.inj e).symm))
  have hl : (es.eraseIdx k).length = es.length - 1 := List.length_eraseIdx_of_lt hk
  have k0 := World.ownsRow.cellAt ho 0 (by omega)
  simp only [dkC, List.getElem?_cons_zero] at k0
  have st := World.ownsRow.stored ho 0 (.slice (some ⟨g, 0, none⟩) (es.length - 1) c)
  have hbk : ∀ q, F q → q ≠ g → q ≠ p → (w.setCell ⟨p, 0, none⟩ (.slice (some ⟨g, 0, none⟩) (es.length - 1) c)).heap[q]? = w0.heap[q]? := fun q hf hqg hqp =>
    (st.2.block q (Nat.lt_of_lt_of_le (h0.bound q hf).2 hg.size) (fun e => hqp (Option.some.inj e))).trans (hg.block q (h0.bound q hf).2 (fun e => hqg (Option.some.inj e)))
  refine ⟨k0, World.ownsRow.frozenAt ho 0, Cg.grown st.2 h0.fp, ?_, ?_, ?_, ?_, h0.good.erase k, h0.fp, h0.fr, fun q hf => ⟨(h0.bound q hf).1, Nat.lt_of_lt_of_le (h0.bound q hf).2 (Nat.le_trans hg.size st.2.size)⟩⟩
  · rw [hl]
    have h5 := st.1
    unfold Own
    exact h5
  · rw [hl, ← flat_erase]
    exact own_same hr (fun a ha => by cases ha; exact st.2.block _ (World.ownsRow.lt hr g rfl).2 (fun e => hfg.2 (Option.some.inj e)))
  · intro x hx
    have hx2 := h0.each x (List.mem_of_mem_eraseIdx hx)
    exact ⟨sl_same hx2.1 (fun a ha => hbk _ (hx2.2 a ha).1 ((hx2.2 a ha).2.2 _ rfl) (hx2.2 a ha).2.1), hx2.2⟩
  · rw [← h0.fs]
    simp [List.eraseIdx_eq_take_drop_succ, List.map_take, List.map_drop]
section
variable {w : World} {base p : Nat} {D : Dk} {F : Nat → Prop} {R : Option Addr} {c : Nat} {es : List FE}
set_option maxRecDepth 100000 in
set_option maxHeartbeats 8000000 in
theorem remove1_any (h : DI w base p D F R c es) {bx : Nat} (hbx : w.cell? ⟨bx, 0, none⟩ = some (.pointer (some ⟨p, 0, none⟩))) (hbF : ¬ F bx) {k : Nat} {e : FE} (he : es[k]? = some e) :
    Calls Try.prog 96 #[.int .i64 (k : Int), .pointer (some ⟨bx, 0, none⟩)] w fun x w' => x = .returned (.tuple #[]) ∧ DI w' base p { D with fs := D.fs.eraseIdx k } F R c (es.eraseIdx k) ∧ Cg F F w w' := by
  obtain ⟨g, rfl⟩ := rowAddr h he
  have hk := (List.getElem?_eq_some_iff.1 he).1
  have hl200 := h.len
  have hwk : IntKind.i64.wrap ((k : Int) + 1) = (k : Int) + 1 := by rw [IntKind.wrap_i64]; omega
  have H := Lib.hid h
  have HBx := Lib.hid hbx
  clear h hbx he
  go_enter Try.func96, Try.ntmps96
  --@region 96 0 rem0.spec
  refine wp_region_runN [4, 8, 11] (fun _ w => DI w base p D F (some ⟨g, 0, none⟩) c es) (by kernel_rfl) (by kernel_rfl) (by kernel_rfl) (R := Cg F F) (fun _ _ h => Cg.below h) (fun _ _ _ => Cg.trans) (fun _ _ _ hb hj => DI.below hj hb) H.out ?_
  apply RunN.pure (by decide)
  · intro vs w hb hd; clear hd; have hx1 := box_kept hb HBx.out hbF; simp only [List.take, putL, Act.put, List.setIfInBounds_toArray, List.set_cons_zero, List.set_cons_succ]; unfold StepOK; go_simp; exact ⟨Below.refl _ _, isV_mk _ _⟩
  apply RunN.pure (by decide)
  · intro vs w hb hd; clear hd; have hx1 := box_kept hb HBx.out hbF; simp only [List.take, putL, Act.put, List.setIfInBounds_toArray, List.set_cons_zero, List.set_cons_succ]; unfold StepOK; go_simp; exact ⟨Below.refl _ _, isV_mk _ _⟩
  apply RunN.pure (by decide)
  · intro vs w hb hd; have d1 : isV _ (vs 1) w := hd 1 (by decide) (by kernel_rfl); unfold isV at d1; clear hd; simp only [List.take, putL, Act.put, List.setIfInBounds_toArray, List.set_cons_zero, List.set_cons_succ]; unfold StepOK; go_simp; exact ⟨Below.refl _ _, isV_mk _ _⟩
  apply RunN.pure (by decide)
  · intro vs w hb hd; have d2 : isV _ (vs 2) w := hd 2 (by decide) (by kernel_rfl); unfold isV at d2; clear hd; simp only [List.take, putL, Act.put, List.setIfInBounds_toArray, List.set_cons_zero, List.set_cons_succ]; unfold StepOK; go_simp; exact ⟨Below.refl _ _, isV_mk _ _⟩
  refine RunN.eff (by decide) ((fun v w => v = .slice (some ⟨g, 0, none⟩) es.length c ∧ DI w base p D F (some ⟨g, 0, none⟩) c es)) (fun _ _ _ hb hj => ⟨hj.1, DI.below hj.2 hb⟩) (by rfl) ?_ ?_
  · intro vs w hb hd hj; have d3 : isV _ (vs 3) w := hd 3 (by decide) (by kernel_rfl); unfold isV at d3; clear hd; have hj2 := hj; (try simp only [prevE, lastV, List.mem_cons, List.not_mem_nil, or_false, Nat.reduceEqDiff, Nat.reduceAdd, if_true, if_false, reduceIte, or_true, true_or, or_self] at hj2); clear hj; have hx1 := hj2.cell.1; simp only [List.take, putL, Act.put, List.setIfInBounds_toArray, List.set_cons_zero, List.set_cons_succ]; unfold StepE; go_simp; first | exact Cg.below (Below.refl _ _) | exact ⟨Cg.below (Below.refl _ _), hj2⟩
  apply RunN.pure (by decide)
  · intro vs w hb hd; clear hd; simp only [List.take, putL, Act.put, List.setIfInBounds_toArray, List.set_cons_zero, List.set_cons_succ]; unfold StepOK; go_simp; exact ⟨Below.refl _ _, isV_mk _ _⟩
  apply RunN.pure (by decide)
  · intro vs w hb hd; clear hd; simp only [List.take, putL, Act.put, List.setIfInBounds_toArray, List.set_cons_zero, List.set_cons_succ]; unfold StepOK; go_simp; exact ⟨Below.refl _ _, isV_mk _ _⟩
  apply RunN.pure (by decide)
  · intro vs w hb hd; have d6 : isV _ (vs 6) w := hd 6 (by decide) (by kernel_rfl); unfold isV at d6; clear hd; have hx1 := hwk; simp only [List.take, putL, Act.put, List.setIfInBounds_toArray, List.set_cons_zero, List.set_cons_succ]; unfold StepOK; go_simp; exact ⟨Below.refl _ _, isV_mk _ _⟩
  refine RunN.eff (by decide) ((fun v w => v = .slice (some ⟨g, 0, none⟩) (es.length - 1) c ∧ JRow base p D F g c es k w)) (fun _ _ _ hb hj => ⟨hj.1, JRow_below hj.2 hb⟩) (by rfl) ?_ ?_
  · intro vs w hb hd hj; have d5 : isV _ (vs 5) w := hd 5 (by decide) (by kernel_rfl); unfold isV at d5; have d7 : isV _ (vs 7) w := hd 7 (by decide) (by kernel_rfl); unfold isV at d7; clear hd; have hj2 := hj; (try simp only [prevE, lastV, List.mem_cons, List.not_mem_nil, or_false, Nat.reduceEqDiff, Nat.reduceAdd, if_true, if_false, reduceIte, or_true, true_or, or_self] at hj2); clear hj; obtain ⟨e4, h4⟩ := hj2; simp only [List.take, putL, Act.put, List.setIfInBounds_toArray, List.set_cons_zero, List.set_cons_succ]; unfold StepE; go_simp; exact ⟨Cg.below (Below.refl _ _), (delF_any base g es.length c k (flatFE es) w h4.row (by omega) hk (flatFE_one es)).mono (fun e w' ⟨he, ho, hg⟩ => ⟨_, he, Cg.grown hg (h4.fr _ rfl).1, rfl, w, h4, hg, ho⟩)⟩
  apply RunN.pure (by decide)
  · intro vs w hb hd; have d0 : isV _ (vs 0) w := hd 0 (by decide) (by kernel_rfl); unfold isV at d0; have d1 : isV _ (vs 1) w := hd 1 (by decide) (by kernel_rfl); unfold isV at d1; have d2 : isV _ (vs 2) w := hd 2 (by decide) (by kernel_rfl); unfold isV at d2; have d3 : isV _ (vs 3) w := hd 3 (by decide) (by kernel_rfl); unfold isV at d3; have d5 : isV _ (vs 5) w := hd 5 (by decide) (by kernel_rfl); unfold isV at d5; have d6 : isV _ (vs 6) w := hd 6 (by decide) (by kernel_rfl); unfold isV at d6; have d7 : isV _ (vs 7) w := hd 7 (by decide) (by kernel_rfl); unfold isV at d7; clear hd; simp only [List.take, putL, Act.put, List.setIfInBounds_toArray, List.set_cons_zero, List.set_cons_succ]; unfold StepOK; go_simp; exact ⟨Below.refl _ _, isV_mk _ _⟩
  apply RunN.pure (by decide)
  · intro vs w hb hd; have d0 : isV _ (vs 0) w := hd 0 (by decide) (by kernel_rfl); unfold isV at d0; have d1 : isV _ (vs 1) w := hd 1 (by decide) (by kernel_rfl); unfold isV at d1; have d2 : isV _ (vs 2) w := hd 2 (by decide) (by kernel_rfl); unfold isV at d2; have d3 : isV _ (vs 3) w := hd 3 (by decide) (by kernel_rfl); unfold isV at d3; have d5 : isV _ (vs 5) w := hd 5 (by decide) (by kernel_rfl); unfold isV at d5; have d6 : isV _ (vs 6) w := hd 6 (by decide) (by kernel_rfl); unfold isV at d6; have d7 : isV _ (vs 7) w := hd 7 (by decide) (by kernel_rfl); unfold isV at d7; have d9 : isV _ (vs 9) w := hd 9 (by decide) (by kernel_rfl); unfold isV at d9; clear hd; simp only [List.take, putL, Act.put, List.setIfInBounds_toArray, List.set_cons_zero, List.set_cons_succ]; unfold StepOK; go_simp; exact ⟨Below.refl _ _, isV_mk _ _⟩
  refine RunN.store (by decide) ((fun w => DI w base p { D with fs := D.fs.eraseIdx k } F (some ⟨g, 0, none⟩) c (es.eraseIdx k))) (fun _ _ _ hb hj => DI.below hj hb) ?_ ?_
  · intro vs w hb hd hj; have d0 : isV _ (vs 0) w := hd 0 (by decide) (by kernel_rfl); unfold isV at d0; have d1 : isV _ (vs 1) w := hd 1 (by decide) (by kernel_rfl); unfold isV at d1; have d2 : isV _ (vs 2) w := hd 2 (by decide) (by kernel_rfl); unfold isV at d2; have d3 : isV _ (vs 3) w := hd 3 (by decide) (by kernel_rfl); unfold isV at d3; have d5 : isV _ (vs 5) w := hd 5 (by decide) (by kernel_rfl); unfold isV at d5; have d6 : isV _ (vs 6) w := hd 6 (by decide) (by kernel_rfl); unfold isV at d6; have d7 : isV _ (vs 7) w := hd 7 (by decide) (by kernel_rfl); unfold isV at d7; have d10 : isV _ (vs 10) w := hd 10 (by decide) (by kernel_rfl); unfold isV at d10; clear hd; have hj2 := hj; (try simp only [prevE, lastV, List.mem_cons, List.not_mem_nil, or_false, Nat.reduceEqDiff, Nat.reduceAdd, if_true, if_false, reduceIte, or_true, true_or, or_self] at hj2); clear hj; obtain ⟨e8, h8⟩ := hj2; obtain ⟨q0, q1, q2, q3⟩ := JRow_store h8 hk; simp only [List.take, putL, Act.put, List.setIfInBounds_toArray, List.set_cons_zero, List.set_cons_succ]; unfold StepE; go_simp; (try exact ⟨q2, q3⟩)
  intro vs w1 hb hd hj
  try simp only [prevE, lastV, List.mem_cons, List.not_mem_nil, or_false, Nat.reduceEqDiff, Nat.reduceAdd, if_true, if_false, reduceIte, or_true, true_or, or_self] at hj
  have e0 : isV _ (vs 0) w1 := hd 0 (by decide)
  have e1 : isV _ (vs 1) w1 := hd 1 (by decide)
  have e2 : isV _ (vs 2) w1 := hd 2 (by decide)
  have e3 : isV _ (vs 3) w1 := hd 3 (by decide)
  have e5 : isV _ (vs 5) w1 := hd 5 (by decide)
  have e6 : isV _ (vs 6) w1 := hd 6 (by decide)
  have e7 : isV _ (vs 7) w1 := hd 7 (by decide)
  have e9 : isV _ (vs 9) w1 := hd 9 (by decide)
  have e10 : isV _ (vs 10) w1 := hd 10 (by decide)
  clear hd
  unfold isV at e0 e1 e2 e3 e5 e6 e7 e9 e10
  simp only [putL, Act.put, List.setIfInBounds_toArray, List.set_cons_zero, List.set_cons_succ, e0, e1, e2, e3, e5, e6, e7, e9, e10]
  clear e0 e1 e2 e3 e5 e6 e7 e9 e10
  --@end
  have Hj := Lib.hid hj
  have Hb := Lib.hid hb
  clear hj hb
  go_wp2_with fail
  go_end0
  exact ⟨rfl, Hj.out, Hb.out⟩
theorem ent_remove1 (a : Array Value) (w : World) : (callFunc 96 a).run Try.prog w = .ok (.enter 96 a) w := by kernel_rfl
set_option maxRecDepth 100000 in
set_option maxHeartbeats 4000000 in
theorem Remove_any (h : DkIs w base p D F) (nm : Nm) :
    Calls Try.prog 42 #[.pointer (some ⟨p, 0, none⟩), .string (bstr nm)] w fun x w' => x = .returned (.int .i64 (removeD D nm).1) ∧ ∃ F', DkIs w' base p (removeD D nm).2 F' ∧ Cg F F' w w' := by
  obtain ⟨R, c, es, h⟩ := h
  have hmf : ∀ (fn : Fn) (first cap : Array Value) (w : World), (Instr.makeFunc fn first cap).run Try.prog w = .ok (.func fn first cap) w := fun _ _ _ _ => rfl
  have hb := below_alloc1 w (.cells #[.pointer (some ⟨p, 0, none⟩)] 34)
  have hbx := box_new w (.pointer (some ⟨p, 0, none⟩)) 34
  have h1 := h.below hb
  have hnb : ¬ F w.heap.size := fun hf => by have := (h.bound _ hf).2; omega
  obtain ⟨W1, hW1⟩ : ∃ W1, W1 = w.alloc (.cells #[.pointer (some ⟨p, 0, none⟩)] 34) := ⟨_, rfl⟩
  rw [← hW1] at hb hbx h1
  have Hb := Lib.hid hb
  have Hbx := Lib.hid hbx
  have H1 := Lib.hid h1
  have HW1 := Lib.hid hW1
  have Hsy := Lib.hid (show ∀ e w1, es[posF D.fs nm]? = some e → DI w1 base p (burnt D) F R c es → Cg F F W1 w1 → Calls Try.prog 96 (#[.int .i64 (posF D.fs nm : Int)] ++ #[.pointer (some ⟨w.heap.size, 0, none⟩)]) w1 fun x w' => x = .returned (.tuple #[]) ∧ ∃ f F', D.fs[posF D.fs nm]? = some f ∧ DkIs w' base p { burnt D with fs := D.fs.eraseIdx (posF D.fs nm) } F' ∧ Cg F F' W1 w' from fun e w1 he h5 hc5 => by
    rw [app2]
    exact (remove1_any h5 (box_kept hc5 Hbx.out hnb) hnb he).mono (fun x w' ⟨k1, k2, k3⟩ => ⟨k1, e.f, F, H1.out.fsAt he, ⟨_, _, _, k2⟩, hc5.trans k3⟩))
  have Hal := Lib.hid (show ∀ (e : FE) (w1 : World), Calls Try.prog 89 (#[.agg #[.string (bstr e.f.nm), .slice e.A e.f.b.length e.c, .int .i64 e.f.safe]] ++ #[]) w1 fun x w' => x = .returned (.int .i64 0) ∧ Below w1.heap.size w1 w' from fun e w1 => by
    rw [Array.append_empty]
    exact always_any _ _ _ w1)
  clear h1 hb h hW1
  go_enter Try.func42, Try.ntmps42
  go_wp2_with fail
  rw [← HW1.out]
  refine (of_any H1.out nm 89 96 #[] #[.pointer (some ⟨w.heap.size, 0, none⟩)] (fun _ => 0) (fun w' => ∃ f F', D.fs[posF D.fs nm]? = some f ∧ DkIs w' base p { burnt D with fs := D.fs.eraseIdx (posF D.fs nm) } F' ∧ Cg F F' W1 w') ent_always ent_remove1 (fun e w1 _ _ => Hal.out e w1) (fun e w1 he _ _ _ _ _ h5 hc5 => Hsy.out e w1 he h5 hc5)).mono ?_
  rintro x w6 hx
  obtain ⟨rfl, F', k1, k2⟩ := of_law H1.out (may := fun _ => 0) (act := fun i f => D.fs.eraseIdx i) hx
  have K1 := Lib.hid k1
  have K2 := Lib.hid ((Cg.below Hb.out).trans k2)
  clear hx k1 k2
  go_wp2_with fail
  go_ret
  exact ⟨rfl, F', K1.out, K2.out⟩
end
end Go.Proofs.Ytemegkapmgcffaa
