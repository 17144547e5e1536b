import Derived.Test.YtemegkapmgcffaaDkI
import Derived.Test.YtemegkapmgcffaaPureMove
/- The disk: Rename. -/
namespace Go.Proofs.Ytemegkapmgcffaa
open Go.RowKit
set_option linter.unusedSimpArgs false
set_option linter.unusedVariables false

theorem sl_nilF (w : World) : Sl w 1 none ([] : List UInt8).length 0 (bytesV []) := ⟨fun j u hj => by simp [bytesV] at hj, rfl, Nat.le_refl _, fun _ => ⟨rfl, rfl⟩⟩
def Gr (R : Option Addr) : Nat → Prop := fun q => ∃ r, R = some r ∧ q = r.block
theorem DI.newrow {W w5 : World} {base p : Nat} {D : Dk} {F : Nat → Prop} {R A' : Option Addr} {c c' : Nat} {es es' : List FE} (h : DI W base p D F R c es) (hc : Cg (Gr R) (Gr R) W w5)
    (hrow : Own base 117 3 w5 A' es'.length c' (flatFE es')) (hlie : ∀ a, A' = some a → (∃ r, R = some r ∧ r.block = a.block) ∨ W.heap.size ≤ a.block)
    (hmem : ∀ x, x ∈ es' → (∃ y, y ∈ es ∧ x.A = y.A ∧ x.c = y.c ∧ x.f.b = y.f.b) ∨ (x.A = none ∧ x.c = 0 ∧ x.f.b = [])) (hgd : Good { D with fs := es'.map FE.f }) :
    w5.cell? ⟨p, 0, none⟩ = some (.slice R es.length c) ∧ w5.frozen? ⟨p, 0, none⟩ = false ∧
      ∃ F', DI (w5.setCell ⟨p, 0, none⟩ (.slice A' es'.length c')) base p { D with fs := es'.map FE.f } F' A' c' es' ∧ Cg F F' W (w5.setCell ⟨p, 0, none⟩ (.slice A' es'.length c')) := by
  have hpl := h.plt
  have hGp : ¬ Gr R p := fun ⟨r, h1, h2⟩ => (h.fr r h1).2 h2.symm
  have ho := own_same h.own (w' := w5) (fun a ha => by cases ha; exact hc.block _ hpl.2 hGp)
  have k0 := World.ownsRow.cellAt ho 0 (by omega)
  simp only [dkC, List.getElem?_cons_zero] at k0
  have st := World.ownsRow.stored ho 0 (.slice A' es'.length c')
  have hAp : ∀ a, A' = some a → a.block ≠ p := fun a ha => by
    rcases hlie a ha with ⟨r, h1, h2⟩ | h1
    · rw [← h2]; exact (h.fr r h1).2
    · omega
  have hF5 : Cg F F W w5 := ⟨hc.os, hc.tape, hc.output, hc.size, fun q hq hf => hc.block q hq (fun ⟨r, h1, h2⟩ => hf (by rw [h2]; exact (h.fr r h1).1)), fun q hq => .inl hq⟩
  refine ⟨k0, World.ownsRow.frozenAt ho 0, fun q => F q ∨ ∃ a, A' = some a ∧ q = a.block, ⟨?_, ?_, fun x hx => ?_, rfl, hgd, .inl h.fp, fun a ha => ⟨.inr ⟨a, ha, rfl⟩, hAp a ha⟩, fun q hq => ?_⟩, ?_⟩
  · have := st.1
    unfold Own
    exact this
  · exact own_same hrow (fun a ha => st.2.block _ (own_lt hrow a ha).2 (fun e2 => hAp a ha (Option.some.inj e2)))
  · rcases hmem x hx with ⟨y, hy, e1, e2, e3⟩ | ⟨e1, e2, e3⟩
    · have hey := h.each y hy
      rw [e1, e2, e3]
      refine ⟨sl_same hey.1 (fun a ha => ?_), fun a ha => ⟨.inl (hey.2 a ha).1, (hey.2 a ha).2.1, fun r hr => ?_⟩⟩
      · have hlt := (h.bound _ (hey.2 a ha).1).2
        exact (st.2.block _ (Nat.lt_of_lt_of_le hlt hc.size) (fun e4 => (hey.2 a ha).2.1 (Option.some.inj e4))).trans (hc.block _ hlt (fun ⟨r, h1, h2⟩ => (hey.2 a ha).2.2 r h1 h2))
      · rcases hlie r hr with ⟨r2, h1, h2⟩ | h1
        · rw [← h2]; exact (hey.2 a ha).2.2 r2 h1
        · have := (h.bound _ (hey.2 a ha).1).2; omega
    · rw [e1, e2, e3]
      exact ⟨sl_nilF _, fun a ha => by cases ha⟩
  · rcases hq with hq | ⟨a, ha, rfl⟩
    · have := h.bound q hq
      have := hc.size
      have := st.2.size
      omega
    · have := own_lt hrow a ha
      have := st.2.size
      omega
  · refine (hF5.trans (Cg.grown st.2 h.fp)).mono fun q hq => ?_
    rcases hq with hq | ⟨a, ha, rfl⟩
    · exact .inl hq
    · rcases hlie a ha with ⟨r, h1, h2⟩ | h1
      · exact .inl (by rw [← h2]; exact (h.fr r h1).1)
      · exact .inr h1
theorem flat_set3 {es : List FE} {k : Nat} {e1 : FE} (h : es[k]? = some e1) (e2 : FE) :
    (((flatFE es).set (k * 3) (.string (bstr e2.f.nm))).set (k * 3 + 1) (.slice e2.A e2.f.b.length e2.c)).set (k * 3 + 2) (.int .i64 e2.f.safe) = flatFE (es.set k e2) := by
  have hk := (List.getElem?_eq_some_iff.1 h).1
  have a1 := flat_set (e' := ⟨⟨e2.f.nm, e1.f.b, e1.f.safe⟩, e1.A, e1.c⟩) h 0 (.string (bstr e2.f.nm)) (by omega) rfl
  have h1 : (es.set k ⟨⟨e2.f.nm, e1.f.b, e1.f.safe⟩, e1.A, e1.c⟩)[k]? = some ⟨⟨e2.f.nm, e1.f.b, e1.f.safe⟩, e1.A, e1.c⟩ := List.getElem?_set_self hk
  have a2 := flat_set (e' := ⟨⟨e2.f.nm, e2.f.b, e1.f.safe⟩, e2.A, e2.c⟩) h1 1 (.slice e2.A e2.f.b.length e2.c) (by omega) rfl
  rw [List.set_set] at a2
  have h2 : (es.set k ⟨⟨e2.f.nm, e2.f.b, e1.f.safe⟩, e2.A, e2.c⟩)[k]? = some ⟨⟨e2.f.nm, e2.f.b, e1.f.safe⟩, e2.A, e2.c⟩ := List.getElem?_set_self hk
  have a3 := flat_set (e' := e2) h2 2 (.int .i64 e2.f.safe) (by omega) rfl
  rw [List.set_set] at a3
  rw [a3, a2, a1]
  rfl
theorem flat_ins (es : List FE) (k : Nat) (e2 : FE) : (flatFE es).take (k * 3) ++ ([.string (bstr e2.f.nm), .slice e2.A e2.f.b.length e2.c, .int .i64 e2.f.safe] ++ (flatFE es).drop (k * 3)) = flatFE (es.take k ++ e2 :: es.drop k) := by
  unfold flatFE
  rw [flatMap_take feC 3 (fun _ => rfl), flatMap_drop feC 3 (fun _ => rfl), List.flatMap_append, List.flatMap_cons]
  rfl
section
variable {W : World} {base p : Nat} {D : Dk} {F : Nat → Prop} {R : Option Addr} {c : Nat} {es : List FE}
set_option maxRecDepth 100000 in
set_option maxHeartbeats 8000000 in
theorem ren2_any (h : DI W base p D F R c es) {bx tb : Nat} (hbx : W.cell? ⟨bx, 0, none⟩ = some (.pointer (some ⟨p, 0, none⟩))) (hbF : ¬ F bx) {tn : Nm} (htb : W.cell? ⟨tb, 0, none⟩ = some (.string (bstr tn))) (htF : ¬ F tb) {k : Nat} {e : FE} (he : es[k]? = some e) (htn : tn.length ≤ 60) :
    Calls Try.prog 92 #[.int .i64 (k : Int), .pointer (some ⟨bx, 0, none⟩), .pointer (some ⟨tb, 0, none⟩)] W fun x w' => x = .returned (.tuple #[]) ∧ ∃ F', DkIs w' base p { D with fs := moveF D.fs k e.f tn } F' ∧ Cg F F' W w' := by
  obtain ⟨g, rfl⟩ := rowAddr h he
  have hk := (List.getElem?_eq_some_iff.1 he).1
  have hl200 := h.len
  have hfg := h.fr _ rfl
  have hin : (0 : Int) ≤ (k : Int) ∧ (k : Int) < (es.length : Int) := by omega
  have hk3 : k < 200 := by omega
  have hwk : IntKind.i64.wrap ((k : Int) + 1) = (k : Int) + 1 := by rw [IntKind.wrap_i64]; omega
  obtain ⟨c0, c1, c2, c3, c4⟩ := h.cell
  obtain ⟨y0, y1, y2⟩ := slFE_three h.row.sl he
  rw [add_plain] at y0 y1 y2
  simp only [] at y1 y2
  have H := Lib.hid h
  have hb1 := below_alloc1 W (.cells #[.string (bstr e.f.nm), .slice e.A e.f.b.length e.c, .int .i64 e.f.safe] 117)
  have hb2 := below_alloc1 W (.cells #[.string (bstr tn), .slice e.A e.f.b.length e.c, .int .i64 e.f.safe] 117)
  have hx1 := cellB hb1 htb
  have hx2 := cellB hb2 hbx
  have hx3 := cellB hb2 c0
  have hX := cellB hb2 htb
  have hX4 := cellB hb2 c4
  have h2 := h.below hb2
  have hit : (W.alloc (.cells #[.string (bstr tn), .slice e.A e.f.b.length e.c, .int .i64 e.f.safe] 117)).heap[W.heap.size]? = some (.cells #[.string (bstr tn), .slice e.A e.f.b.length e.c, .int .i64 e.f.safe] 117 (0, 0)) := heap_alloc_new W _
  obtain ⟨W2, hW2⟩ : ∃ W2, W2 = W.alloc (.cells #[.string (bstr tn), .slice e.A e.f.b.length e.c, .int .i64 e.f.safe] 117) := ⟨_, rfl⟩
  have hW2s : W2.heap.size = W.heap.size + 1 := by rw [hW2]; simp
  rw [← hW2] at hX hX4 h2 hb2 hit
  have HX := Lib.hid hX
  have HX4 := Lib.hid hX4
  have H2 := Lib.hid h2
  have Hb2 := Lib.hid hb2
  have HW2 := Lib.hid hW2
  have HB0 := Lib.hid hx2
  have HP0 := Lib.hid hx3
  have Hit := Lib.hid hit
  have HS := Lib.hid hW2s
  have hgW : g < W.heap.size := (h.bound g hfg.1).2
  have hpW := h.plt.2
  clear h c1 c2 c3 c4 hb1 hb2 hX hX4 h2 hW2 hit hW2s
  go_enter Try.func92, Try.ntmps92
  go_wp2_with fail
  rw [← HW2.out]
  rw [← HW2.out] at HB0 HP0
  refine (delF_any base g es.length c k (flatFE es) W2 H2.out.row (by omega) hk (flatFE_one es)).mono ?_
  rintro x w3 ⟨rfl, hrow, hgr⟩
  rw [flat_erase] at hrow
  clear y0 y1 y2 hx1 hx2 hx3 c0 hwk
  have hbxg : bx ≠ g := fun e2 => hbF (by rw [e2]; exact hfg.1)
  have htbg : tb ≠ g := fun e2 => htF (by rw [e2]; exact hfg.1)
  have HB1 := Lib.hid (cellG hgr HB0.out hbxg)
  have HC4 := Lib.hid (cellG hgr HX4.out (fun e2 => hfg.2 e2.symm))
  have HT1 := Lib.hid (cellG hgr HX.out htbg)
  have HS3 := Lib.hid hrow.sl
  have hfe : (es.eraseIdx k).map FE.f = D.fs.eraseIdx k := by
    rw [← H.out.fs]
    simp [List.eraseIdx_eq_take_drop_succ, List.map_take, List.map_drop]
  have HSo := Lib.hid (show SrtF ((es.eraseIdx k).map FE.f) by rw [hfe]; exact srt_erase H.out.good.srt k)
  obtain ⟨ps, hps⟩ : ∃ ps, ps = posF (D.fs.eraseIdx k) tn := ⟨_, rfl⟩
  obtain ⟨th, hth⟩ : ∃ th, th = thereF (D.fs.eraseIdx k) tn := ⟨_, rfl⟩
  have Hps := Lib.hid (show posF ((es.eraseIdx k).map FE.f) tn = ps by rw [hfe, hps])
  have Hth := Lib.hid (show thereF ((es.eraseIdx k).map FE.f) tn = th by rw [hfe, hth])
  have Hps2 := Lib.hid hps
  have Hth2 := Lib.hid hth
  have Hrow := Lib.hid hrow
  have Hgr := Lib.hid hgr
  have Hfe := Lib.hid hfe
  clear hrow hgr hps hth hfe
  go_upto_region 3 with fail
  --@region 92 3 ren3.spec
  refine wp_region_run (by kernel_rfl) (by kernel_rfl) ?_
  apply RunL.pure
  · intro vs w hb hd; clear hd; have hx1 := cellB hb HB1.out; simp only [List.take, putL, Act.put, List.setIfInBounds_toArray, List.set_cons_zero, List.set_cons_succ]; unfold StepOK; go_simp; exact ⟨Below.refl _ _, isV_mk _ _⟩
  apply RunL.pure
  · intro vs w hb hd; have d0 : isV _ (vs 0) w := hd 0 (by decide) (by kernel_rfl); unfold isV at d0; clear hd; simp only [List.take, putL, Act.put, List.setIfInBounds_toArray, List.set_cons_zero, List.set_cons_succ]; unfold StepOK; go_simp; exact ⟨Below.refl _ _, isV_mk _ _⟩
  apply RunL.pure
  · intro vs w hb hd; have d1 : isV _ (vs 1) w := hd 1 (by decide) (by kernel_rfl); unfold isV at d1; clear hd; simp only [List.take, putL, Act.put, List.setIfInBounds_toArray, List.set_cons_zero, List.set_cons_succ]; unfold StepOK; go_simp; exact ⟨Below.refl _ _, isV_mk _ _⟩
  apply RunL.pure
  · intro vs w hb hd; have d2 : isV _ (vs 2) w := hd 2 (by decide) (by kernel_rfl); unfold isV at d2; clear hd; have hx1 := cellB hb HC4.out; simp only [List.take, putL, Act.put, List.setIfInBounds_toArray, List.set_cons_zero, List.set_cons_succ]; unfold StepOK; go_simp; exact ⟨Below.refl _ _, isV_mk _ _⟩
  apply RunL.pure
  · intro vs w hb hd; clear hd; simp only [List.take, putL, Act.put, List.setIfInBounds_toArray, List.set_cons_zero, List.set_cons_succ]; unfold StepOK; go_simp; exact ⟨Below.refl _ _, isV_mk _ _⟩
  apply RunL.pure
  · intro vs w hb hd; clear hd; have hx1 := cellB hb HT1.out; simp only [List.take, putL, Act.put, List.setIfInBounds_toArray, List.set_cons_zero, List.set_cons_succ]; unfold StepOK; go_simp; exact ⟨Below.refl _ _, isV_mk _ _⟩
  refine RunL.such (isV (.tuple #[.int .i64 (ps : Int), .bool th])) (isV_stable _) ?_ ?_
  · intro vs w hb hd; have d3 : isV _ (vs 3) w := hd 3 (by decide) (by kernel_rfl); unfold isV at d3; have d4 : isV _ (vs 4) w := hd 4 (by decide) (by kernel_rfl); unfold isV at d4; have d5 : isV _ (vs 5) w := hd 5 (by decide) (by kernel_rfl); unfold isV at d5; clear hd; have hs1 := HS3.out.below hb; simp only [List.take, putL, Act.put, List.setIfInBounds_toArray, List.set_cons_zero, List.set_cons_succ]; unfold StepOK; go_simp; exact ⟨Below.refl _ _, such_of_bool (by rw [← Hps.out, ← Hth.out]; exact place_any _ _ _ _ tn w hs1 (by omega) HSo.out)⟩
  apply RunL.pure
  · intro vs w hb hd; have d6 := hd 6 (by decide) (by kernel_rfl); simp only [TR, Nat.reduceAdd, Nat.reduceSub, List.getD_cons_zero, List.getD_cons_succ] at d6; clear hd; unfold isV at d6; simp only [List.take, putL, Act.put, List.setIfInBounds_toArray, List.set_cons_zero, List.set_cons_succ]; unfold StepOK; go_simp; exact ⟨Below.refl _ _, isV_mk _ _⟩
  apply RunL.pure
  · intro vs w hb hd; have d7 : isV _ (vs 7) w := hd 7 (by decide) (by kernel_rfl); unfold isV at d7; clear hd; simp only [List.take, putL, Act.put, List.setIfInBounds_toArray, List.set_cons_zero, List.set_cons_succ]; unfold StepOK; go_simp; exact ⟨Below.refl _ _, isV_mk _ _⟩
  apply RunL.pure
  · intro vs w hb hd; have d7 : isV _ (vs 7) w := hd 7 (by decide) (by kernel_rfl); unfold isV at d7; clear hd; simp only [List.take, putL, Act.put, List.setIfInBounds_toArray, List.set_cons_zero, List.set_cons_succ]; unfold StepOK; go_simp; exact ⟨Below.refl _ _, isV_mk _ _⟩
  apply RunL.pure
  · intro vs w hb hd; have d0 : isV _ (vs 0) w := hd 0 (by decide) (by kernel_rfl); unfold isV at d0; have d1 : isV _ (vs 1) w := hd 1 (by decide) (by kernel_rfl); unfold isV at d1; have d2 : isV _ (vs 2) w := hd 2 (by decide) (by kernel_rfl); unfold isV at d2; have d3 : isV _ (vs 3) w := hd 3 (by decide) (by kernel_rfl); unfold isV at d3; have d4 : isV _ (vs 4) w := hd 4 (by decide) (by kernel_rfl); unfold isV at d4; have d5 : isV _ (vs 5) w := hd 5 (by decide) (by kernel_rfl); unfold isV at d5; have d6 := hd 6 (by decide) (by kernel_rfl); simp only [TR, Nat.reduceAdd, Nat.reduceSub, List.getD_cons_zero, List.getD_cons_succ] at d6; have d7 : isV _ (vs 7) w := hd 7 (by decide) (by kernel_rfl); unfold isV at d7; have d8 : isV _ (vs 8) w := hd 8 (by decide) (by kernel_rfl); unfold isV at d8; clear hd; simp only [List.take, putL, Act.put, List.setIfInBounds_toArray, List.set_cons_zero, List.set_cons_succ]; unfold StepOK; go_simp; exact ⟨Below.refl _ _, isV_mk _ _⟩
  apply RunL.pure
  · intro vs w hb hd; have d0 : isV _ (vs 0) w := hd 0 (by decide) (by kernel_rfl); unfold isV at d0; have d1 : isV _ (vs 1) w := hd 1 (by decide) (by kernel_rfl); unfold isV at d1; have d2 : isV _ (vs 2) w := hd 2 (by decide) (by kernel_rfl); unfold isV at d2; have d3 : isV _ (vs 3) w := hd 3 (by decide) (by kernel_rfl); unfold isV at d3; have d4 : isV _ (vs 4) w := hd 4 (by decide) (by kernel_rfl); unfold isV at d4; have d5 : isV _ (vs 5) w := hd 5 (by decide) (by kernel_rfl); unfold isV at d5; have d6 := hd 6 (by decide) (by kernel_rfl); simp only [TR, Nat.reduceAdd, Nat.reduceSub, List.getD_cons_zero, List.getD_cons_succ] at d6; have d7 : isV _ (vs 7) w := hd 7 (by decide) (by kernel_rfl); unfold isV at d7; have d8 : isV _ (vs 8) w := hd 8 (by decide) (by kernel_rfl); unfold isV at d8; have d9 : isV _ (vs 9) w := hd 9 (by decide) (by kernel_rfl); unfold isV at d9; have d10 : isV _ (vs 10) w := hd 10 (by decide) (by kernel_rfl); unfold isV at d10; clear hd; simp only [List.take, putL, Act.put, List.setIfInBounds_toArray, List.set_cons_zero, List.set_cons_succ]; unfold StepOK; go_simp; exact ⟨Below.refl _ _, isV_mk _ _⟩
  intro vs w1 hb hd
  have e0 : isV _ (vs 0) w1 := hd 0 (by decide)
  have e1 : isV _ (vs 1) w1 := hd 1 (by decide)
  have e2 : isV _ (vs 2) w1 := hd 2 (by decide)
  have e3 : isV _ (vs 3) w1 := hd 3 (by decide)
  have e4 : isV _ (vs 4) w1 := hd 4 (by decide)
  have e5 : isV _ (vs 5) w1 := hd 5 (by decide)
  have e6 := hd 6 (by decide); simp only [TR, Nat.reduceAdd, Nat.reduceSub, List.getD_cons_zero, List.getD_cons_succ] at e6
  have e7 : isV _ (vs 7) w1 := hd 7 (by decide)
  have e8 : isV _ (vs 8) w1 := hd 8 (by decide)
  have e9 : isV _ (vs 9) w1 := hd 9 (by decide)
  have e10 : isV _ (vs 10) w1 := hd 10 (by decide)
  have e11 : isV _ (vs 11) w1 := hd 11 (by decide)
  clear hd
  unfold isV at e0 e1 e2 e3 e4 e5 e7 e8 e9 e10 e11
  simp only [putL, Act.put, List.setIfInBounds_toArray, List.set_cons_zero, List.set_cons_succ, e0, e1, e2, e3, e4, e5, e7, e8, e9, e10, e11]
  clear e0 e1 e2 e3 e4 e5 e7 e8 e9 e10 e11
  --@end
  have hHb := Lib.hid hb
  have hbx4 := cellB hb HB1.out
  have hit4 : w1.heap[W.heap.size]? = some (.cells #[.string (bstr tn), .slice e.A e.f.b.length e.c, .int .i64 e.f.safe] 117 (0, 0)) := by
    have hs3 := Hgr.out.size
    have hsW := HS.out
    rw [hb.block _ (by omega), Hgr.out.block _ (by omega) (fun e2 => by have := Option.some.inj e2; omega)]
    exact Hit.out
  have z0 : w1.cell? ⟨W.heap.size, 0, none⟩ = some (.string (bstr tn)) := by simp [World.cell?, hit4]
  have z1 : w1.cell? ⟨W.heap.size, 1, none⟩ = some (.slice e.A e.f.b.length e.c) := by simp [World.cell?, hit4]
  have z2 : w1.cell? ⟨W.heap.size, 2, none⟩ = some (.int .i64 e.f.safe) := by simp [World.cell?, hit4]
  have Hit4 := Lib.hid hit4
  have Hrow4 := Lib.hid (Hrow.out.below hb)
  clear hb hit4 hbx htb
  cases th with
  | true =>
    obtain ⟨f, hf, hfn⟩ := there_true Hth2.out.symm
    have hpl : ps < es.length - 1 := by
      have h1 := (List.getElem?_eq_some_iff.1 hf).1
      rw [← Hps2.out, ← Hfe.out, List.length_map, List.length_eraseIdx_of_lt hk] at h1
      exact h1
    have hin2 : (0 : Int) ≤ (ps : Int) ∧ (ps : Int) < ((es.length - 1 : Nat) : Int) := by omega
    have hps2 : ps < 200 := by omega
    obtain ⟨n1, hn1⟩ : ∃ n1, n1 = es.length - 1 := ⟨_, rfl⟩
    rw [← hn1] at hin2 hpl
    rw [← hn1]
    have hrow4 := Hrow4.out
    rw [← hn1] at hrow4
    obtain ⟨e1, he1⟩ : ∃ e1, (es.eraseIdx k)[ps]? = some e1 := ⟨_, List.getElem?_eq_getElem (by rw [List.length_eraseIdx_of_lt hk]; omega)⟩
    obtain ⟨y0, y1, y2⟩ := slFE_three hrow4.sl he1
    rw [add_plain] at y0 y1 y2
    simp only [] at y1 y2
    have st1 := World.ownsRow.stored hrow4 (ps * 3) (.string (bstr tn))
    have st2 := World.ownsRow.stored st1.1 (ps * 3 + 1) (.slice e.A e.f.b.length e.c)
    have st3 := World.ownsRow.stored st2.1 (ps * 3 + 2) (.int .i64 e.f.safe)
    have u0 := World.ownsRow.frozenAt hrow4 (ps * 3)
    have u1 := World.ownsRow.frozenAt st1.1 (ps * 3 + 1)
    have u2 := World.ownsRow.frozenAt st2.1 (ps * 3 + 2)
    have u3 := World.ownsRow.frozenAt hrow4 (ps * 3 + 1)
    have u4 := World.ownsRow.frozenAt hrow4 (ps * 3 + 2)
    have HST := Lib.hid (And.intro st3.1 (st1.2.trans (st2.2.trans st3.2)))
    clear st1 st2 st3 hrow4
    go_upto_region 7 with fail
    obtain ⟨Wz, hWz⟩ : ∃ Wz, Wz = ((w1.setCell ⟨g, ps * 3, none⟩ (.string (bstr tn))).setCell ⟨g, ps * 3 + 1, none⟩ (.slice e.A e.f.b.length e.c)).setCell ⟨g, ps * 3 + 2, none⟩ (.int .i64 e.f.safe) := ⟨_, rfl⟩
    have hst := HST.out
    rw [← hWz] at hst
    rw [← hWz]
    have hn2 : ((es.eraseIdx k).set ps ⟨⟨tn, e.f.b, e.f.safe⟩, e.A, e.c⟩).length = n1 := by rw [List.length_set, List.length_eraseIdx_of_lt hk, hn1]
    have hmv : ((es.eraseIdx k).set ps ⟨⟨tn, e.f.b, e.f.safe⟩, e.A, e.c⟩).map FE.f = moveF D.fs k e.f tn := by rw [List.map_set, Hfe.out]; unfold moveF; rw [if_pos Hth2.out.symm, ← Hps2.out]
    have hf3 := flat_set3 he1 ⟨⟨tn, e.f.b, e.f.safe⟩, e.A, e.c⟩
    simp only at hf3
    obtain ⟨q0, q1, F', q2, q3⟩ := H.out.newrow (w5 := Wz) (A' := some ⟨g, 0, none⟩) (c' := c) (es' := (es.eraseIdx k).set ps ⟨⟨tn, e.f.b, e.f.safe⟩, e.A, e.c⟩)
      ((((Cg.below Hb2.out).trans (Cg.grown Hgr.out ⟨_, rfl, rfl⟩)).trans (Cg.below hHb.out)).trans (Cg.grown hst.2 ⟨_, rfl, rfl⟩))
      (by rw [hn2, ← hf3]; exact hst.1) (fun a ha => by cases ha; exact .inl ⟨_, rfl, rfl⟩)
      (fun x hx => by
        rcases List.mem_or_eq_of_mem_set hx with h1 | rfl
        · exact .inl ⟨x, List.mem_of_mem_eraseIdx h1, rfl, rfl, rfl⟩
        · exact .inl ⟨e, List.mem_of_getElem? he, rfl, rfl, rfl⟩)
      (by rw [hmv]; exact H.out.good.move (H.out.fsAt he) htn)
    rw [hn2, hn1] at q2 q3
    rw [hmv] at q2
    have hbx5 := cellG hst.2 hbx4 hbxg
    have Q2 := Lib.hid q2
    have Q3 := Lib.hid q3
    clear q2 q3 hst hf3 hmv hn2 hWz y0 y1 y2 u0 u1 u2 u3 u4 z0 z1 z2 hbx4 he1 hf
    go_wp2_with fail
    go_end0
    exact ⟨rfl, F', ⟨_, _, _, Q2.out⟩, Q3.out⟩
  | false =>
    have hpl : ps ≤ es.length - 1 := by
      have h1 := posF_le ((es.eraseIdx k).map FE.f) tn
      rw [Hps.out, List.length_map, List.length_eraseIdx_of_lt hk] at h1
      exact h1
    go_wp2_with fail
    have hba := below_alloc1 w1 (.cells #[.string (bstr tn), .slice e.A e.f.b.length e.c, .int .i64 e.f.safe] 117)
    have hxa : (w1.alloc (.cells #[.string (bstr tn), .slice e.A e.f.b.length e.c, .int .i64 e.f.safe] 117)).heap[w1.heap.size]? = some (.cells #[.string (bstr tn), .slice e.A e.f.b.length e.c, .int .i64 e.f.safe] 117 (0, 0)) := heap_alloc_new w1 _
    obtain ⟨Wa, hWa⟩ : ∃ Wa, Wa = w1.alloc (.cells #[.string (bstr tn), .slice e.A e.f.b.length e.c, .int .i64 e.f.safe] 117) := ⟨_, rfl⟩
    rw [← hWa] at hba hxa
    rw [← hWa]
    obtain ⟨vb, hvb⟩ : ∃ vb, vb = w1.heap.size := ⟨_, rfl⟩
    have hgw1 : g < w1.heap.size := (World.ownsRow.lt Hrow4.out g rfl).2
    have hbase := (World.ownsRow.lt Hrow4.out g rfl).1
    have hsz1 := (show W.heap.size ≤ w1.heap.size from Nat.le_trans Hb2.out.size (Nat.le_trans Hgr.out.size hHb.out.size))
    have hsza := hba.size
    rw [← hvb] at hxa
    rw [← hvb]
    refine (insF_any base (some ⟨g, 0, none⟩) (es.length - 1) c ps vb (flatFE (es.eraseIdx k)) [.string (bstr tn), .slice e.A e.f.b.length e.c, .int .i64 e.f.safe] Wa (Hrow4.out.below hba) (by omega) hpl (fun a ha => by cases ha; simp only; omega) hxa rfl (fun u hu => by simp at hu; rcases hu with rfl | rfl | rfl <;> rfl) (flatFE_one _) (by omega)).mono ?_
    rintro x w5 ⟨A', c', rfl, hrow5, hg5, hl5⟩
    have hrg : rowOf base (some ⟨g, 0, none⟩) = some g := by simp [rowOf, hbase]
    rw [hrg] at hg5
    have hfi := flat_ins (es.eraseIdx k) ps ⟨⟨tn, e.f.b, e.f.safe⟩, e.A, e.c⟩
    simp only at hfi
    rw [hfi] at hrow5
    have hn2 : ((es.eraseIdx k).take ps ++ ⟨⟨tn, e.f.b, e.f.safe⟩, e.A, e.c⟩ :: (es.eraseIdx k).drop ps).length = es.length - 1 + 1 := by
      simp only [List.length_append, List.length_take, List.length_cons, List.length_drop, List.length_eraseIdx_of_lt hk]
      omega
    have hmv : ((es.eraseIdx k).take ps ++ ⟨⟨tn, e.f.b, e.f.safe⟩, e.A, e.c⟩ :: (es.eraseIdx k).drop ps).map FE.f = moveF D.fs k e.f tn := by
      rw [List.map_append, List.map_cons, List.map_take, List.map_drop, Hfe.out]
      unfold moveF
      rw [if_neg (by rw [← Hth2.out]; simp), ← Hps2.out]
      rfl
    obtain ⟨q0, q1, F', q2, q3⟩ := H.out.newrow (w5 := w5) (A' := A') (c' := c') (es' := (es.eraseIdx k).take ps ++ ⟨⟨tn, e.f.b, e.f.safe⟩, e.A, e.c⟩ :: (es.eraseIdx k).drop ps)
      (((((Cg.below Hb2.out).trans (Cg.grown Hgr.out ⟨_, rfl, rfl⟩)).trans (Cg.below hHb.out)).trans (Cg.below hba)).trans (Cg.grown hg5 ⟨_, rfl, rfl⟩))
      (by rw [hn2]; exact hrow5) (fun a ha => by
        rcases hl5 a ha with h1 | h1
        · exact .inl h1
        · exact .inr (by omega))
      (fun x hx => by
        simp only [List.mem_append, List.mem_cons] at hx
        rcases hx with hx | rfl | hx
        · exact .inl ⟨x, List.mem_of_mem_eraseIdx (List.mem_of_mem_take hx), rfl, rfl, rfl⟩
        · exact .inl ⟨e, List.mem_of_getElem? he, rfl, rfl, rfl⟩
        · exact .inl ⟨x, List.mem_of_mem_eraseIdx (List.mem_of_mem_drop hx), rfl, rfl, rfl⟩)
      (by rw [hmv]; exact H.out.good.move (H.out.fsAt he) htn)
    rw [hn2] at q2 q3
    rw [hmv] at q2
    have hbx5 := cellG hg5 (cellB hba hbx4) hbxg
    have Q2 := Lib.hid q2
    have Q3 := Lib.hid q3
    clear q2 q3 hfi hmv hn2 hWa z0 z1 z2 hbx4 hrow5 hg5 hl5 hxa hba hsza
    go_wp2_with fail
    go_end0
    exact ⟨rfl, F', ⟨_, _, _, Q2.out⟩, Q3.out⟩
end
end Go.Proofs.Ytemegkapmgcffaa
