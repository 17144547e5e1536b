import Derived.Test.YtcidifmikcnkcaaRingA
import Derived.Test.YtcidifmikcnkcaaRegionN
/- A queue: one more; one goes. -/
namespace Go.Proofs.Ytcidifmikcnkcaa
open Go.RowKit
set_option linter.unusedSimpArgs false
set_option linter.unusedVariables false

/-- but for the cell a, what was there stays -/
structure Rc (a : Addr) (w w' : World) : Prop where
  grown : w.grownBy w' (some a.block)
  cell : ∀ x v, x ≠ a → w.cell? x = some v → w'.cell? x = some v
theorem Rc.below {a : Addr} {w w' : World} (h : Below w.heap.size w w') : Rc a w w' :=
  ⟨below_grownBy h _, fun x v _ hx => (World.cell?_of_block (h.block _ (World.block_lt_of_cell? _ _ hx))).trans hx⟩
theorem Rc.trans {a : Addr} {w w1 w2 : World} (h : Rc a w w1) (k : Rc a w1 w2) : Rc a w w2 :=
  ⟨h.grown.trans k.grown, fun x v hx hc => k.cell x v hx (h.cell x v hx hc)⟩
def JI (base g n c : Nat) (L : List Int) (w : World) : Prop := Own base 3 1 w (some ⟨g, 0, none⟩) n c (intsL L)
theorem JI_stable (base g n c : Nat) (L : List Int) : Stable fun _ w => JI base g n c L w := fun _ _ _ hb h => Own.below h hb
theorem own_cell {base g n c : Nat} {L : List Int} {w : World} (h : Own base 3 1 w (some ⟨g, 0, none⟩) n c (intsL L)) {r : Nat} {y : Int} (hr : L[r]? = some y) : w.cell? ⟨g, r, none⟩ = some (.int .i64 y) := by
  obtain ⟨a, h1, h2⟩ := slI_cell h.sl hr
  cases h1
  rwa [add_plain] at h2
theorem Rc.stored {base g n c : Nat} {L : List Int} {w : World} (h : Own base 3 1 w (some ⟨g, 0, none⟩) n c (intsL L)) (r : Nat) (x : Int) :
    Rc ⟨g, r, none⟩ w (w.setCell ⟨g, r, none⟩ (.int .i64 x)) ∧ JI base g n c (L.set r x) (w.setCell ⟨g, r, none⟩ (.int .i64 x)) := by
  have st := World.ownsRow.stored h r (.int .i64 x)
  refine ⟨⟨st.2, fun y v hy hc => by rw [World.cell?_setCell_other _ _ _ _ (fun e => hy e.symm)]; exact hc⟩, ?_⟩
  have e : intsL (L.set r x) = (intsL L).set r (.int .i64 x) := by simp [intsL, List.map_set]
  unfold JI Own
  rw [e]
  exact st.1
structure QStep (w w' : World) (b : Nat) (A : Option Addr) : Prop where
  os : w'.os = w.os
  tape : w'.tape = w.tape
  output : w'.output = w.output
  size : w.heap.size ≤ w'.heap.size
  block : ∀ k, k < w.heap.size → k ≠ b → (∀ a, A = some a → k ≠ a.block) → w'.heap[k]? = w.heap[k]?
theorem QStep.below {w w' : World} {b : Nat} {A : Option Addr} (h : Below w.heap.size w w') : QStep w w' b A := ⟨h.os, h.tape, h.output, h.size, fun k hk _ _ => h.block k hk⟩
theorem QStep.trans {w w1 w2 : World} {b : Nat} {A A1 : Option Addr} (h : QStep w w1 b A) (k : QStep w1 w2 b A1) (hA : A1 = A ∨ ∀ a, A1 = some a → w.heap.size ≤ a.block) : QStep w w2 b A :=
  ⟨k.os.trans h.os, k.tape.trans h.tape, k.output.trans h.output, Nat.le_trans h.size k.size, fun j hj hb ha => (k.block j (Nat.lt_of_lt_of_le hj h.size) hb (fun a e => by
    rcases hA with rfl | hA
    · exact ha a e
    · have := hA a e; omega)).trans (h.block j hj hb ha)⟩
theorem QStep.own {w w' : World} {b : Nat} {A : Option Addr} (h : w.grownBy w' (some b)) : QStep w w' b A := ⟨h.os, h.tape, h.output, h.size, fun k hk hb _ => h.block k hk (fun e => hb (Option.some.inj e))⟩
theorem QStep.row {w w' : World} {b : Nat} {a : Addr} (h : w.grownBy w' (some a.block)) : QStep w w' b (some a) := ⟨h.os, h.tape, h.output, h.size, fun k hk _ ha => h.block k hk (fun e => ha a rfl (Option.some.inj e))⟩
theorem modc {f i n : Nat} (hf : f < n) (hi : i < n) : (f + i) % n = if f + i < n then f + i else f + i - n := by
  split
  · exact Nat.mod_eq_of_lt (by assumption)
  · rw [Nat.mod_eq_sub_mod (by omega), Nat.mod_eq_of_lt (by omega)]
theorem ring_ne {f i j n : Nat} (hf : f < n) (hi : i < n) (hj : j < n) (h : i ≠ j) : (f + i) % n ≠ (f + j) % n := by
  rw [modc hf hi, modc hf hj]
  split <;> split <;> omega
theorem own_addr {base n c : Nat} {e : TypeId} {w : World} {A : Option Addr} {cs : List Value} (h : Own base e 1 w A n c cs) (hn : 0 < n) : ∃ g, A = some ⟨g, 0, none⟩ ∧ base ≤ g ∧ g < w.heap.size := by
  rcases h.2 with ⟨h0, h00⟩ | ⟨g, cap, cur, h0, h1, h2, _⟩
  · omega
  · simp at h0
    exact ⟨g, h0.1, h1, (Array.getElem?_eq_some_iff.1 h2).1⟩
theorem ownsRow_sliceI {w : World} {base size n : Nat} {e : TypeId} {v : Value} {cs : List Value} (h : w.ownsRow base e size v n cs) : ∃ A c, v = .slice A n c ∧ Own base e size w A n c cs := by
  rcases h.2 with ⟨h1, h2⟩ | ⟨g, cap, cur, h1, h2⟩
  · subst h1; subst h2; exact ⟨none, 0, rfl, h⟩
  · subst h1; exact ⟨_, _, rfl, h⟩
theorem QIs.blt {w : World} {base b n c f : Nat} {q : Qu} {A : Option Addr} {L : List Int} (h : QIs w base b q A n c f L) : base ≤ b ∧ b < w.heap.size := by
  obtain ⟨g, h1, h2, h3⟩ := own_addr h.own (by omega)
  cases h1
  exact ⟨h2, h3⟩

set_option maxRecDepth 100000 in
set_option maxHeartbeats 8000000 in
theorem qput_any {W : World} {base b n c f : Nat} {q : Qu} {A : Option Addr} {L : List Int} (h : QIs W base b q A n c f L) (x : Int) (hm : q.l.length < 65536) :
    Calls Try.prog 43 #[.pointer (some ⟨b, 0, none⟩), .int .i64 x] W fun e w' => e = .returned (.tuple #[]) ∧ ∃ A' n' c' f' L', QIs w' base b ⟨q.most, q.l ++ [x]⟩ A' n' c' f' L' ∧ QStep W w' b A ∧ (A' = A ∨ ∀ a, A' = some a → W.heap.size ≤ a.block) := by
  obtain ⟨i0, hi, hz0, hz1, hz2⟩ := info_parts infoInt
  obtain ⟨c0, c1, c2, c3⟩ := h.cell
  have hlen := h.len
  have hbl := h.blt
  have HQ := Lib.hid h
  clear h
  by_cases hfull : q.l.length = n
  · obtain rfl : n = q.l.length := hfull.symm
    clear hfull
    go_enter Try.func43, Try.ntmps43
    go_upto_region 0 with fail
    go_quiet (fail)
    have hb0 := below_drewN (Below.refl W.heap.size W) nq
    generalize W.drewN nq = W1 at *
    have hq1 := HQ.out.below hb0
    clear c0 c1 c2 c3
    go_wp2_with fail
    refine (qall_any hq1).mono ?_; rintro e w2 ⟨A1, c1, rfl, o1, _, hb1⟩
    have hq2 := hq1.below hb1
    have hb2 := hb0.trans (hb1.mono hb0.size)
    obtain ⟨v', w3, hrun, o3, hg3, hob⟩ := run_append_own_zeros (P := Try.prog) w2 W1.heap.size 22 3 22 3 i0 (.int .i64 0) 8 .i64 Try.underlying22 Try.underlying3 hi hz0 hz1 hz2 rfl rfl _ _ _ o1 (q.l.length + 4) (by omega) (by unfold maxLen; omega) (by omega) hb1.size
    obtain ⟨A4, cc4, rfl, o4⟩ := ownsRow_sliceI o3
    have ecast : ((q.l.length + 4 : Nat) : Int) = (q.l.length : Int) + 4 := by omega
    rw [ecast] at hrun
    obtain ⟨g4, hA4, hg4b, hg4s⟩ := own_addr o4 (by omega)
    have hb3 := hb2.grown hg3 hb2.size (fun k hk => by have := World.ownsRow.lt o1 k hk; have := hb0.size; omega)
    have p3 := Own.keep HQ.out.own hb3 hbl.2
    have k0 := World.ownsRow.cellAt p3 0 (by omega)
    have k1 := World.ownsRow.cellAt p3 1 (by omega)
    have k2 := World.ownsRow.cellAt p3 2 (by omega)
    have k3 := World.ownsRow.cellAt p3 3 (by omega)
    simp only [qC, List.getElem?_cons_succ, List.getElem?_cons_zero] at k0 k1 k2 k3
    have y1 := World.ownsRow.frozenAt p3 1
    have y2 := World.ownsRow.frozenAt p3 2
    have st1 := World.ownsRow.stored p3 1 (.slice A4 (q.l.length + (q.l.length + 4)) cc4)
    have st2 := World.ownsRow.stored st1.1 2 (.int .i64 0)
    have hz := st1.2.trans st2.2
    have hst3 : QStep W ((w3.setCell ⟨b, 1, none⟩ (.slice A4 (q.l.length + (q.l.length + 4)) cc4)).setCell ⟨b, 2, none⟩ (.int .i64 0)) b A := (QStep.below hb3).trans (QStep.own hz) (.inl rfl)
    have hq3 : QIs ((w3.setCell ⟨b, 1, none⟩ (.slice A4 (q.l.length + (q.l.length + 4)) cc4)).setCell ⟨b, 2, none⟩ (.int .i64 0)) base b q A4 (q.l.length + (q.l.length + 4)) cc4 0 (q.l ++ List.replicate (q.l.length + 4) 0) := by
      refine ⟨?_, ?_, ?_, HQ.out.most, by omega, by omega, ?_⟩
      · have h5 := st2.1
        unfold Own
        have e : (qC q A4 (q.l.length + (q.l.length + 4)) cc4 0) = ((qC q A q.l.length c f).set 1 (.slice A4 (q.l.length + (q.l.length + 4)) cc4)).set 2 (.int .i64 0) := by simp [qC]
        rw [e]; exact h5
      · subst hA4
        have h5 := Own.lower (base' := base) o4 (by have := hb0.size; omega)
        have e : intsL (q.l ++ List.replicate (q.l.length + 4) 0) = intsL q.l ++ List.replicate (q.l.length + 4) (.int .i64 0) := by simp [intsL]
        rw [e]
        exact Own.apart h5 hz (by have := hb0.size; omega)
      · intro a ha
        rw [hA4] at ha
        cases ha
        have := hb0.size
        simp only; omega
      · intro i z hi
        have := (List.getElem?_eq_some_iff.1 hi).1
        rw [Nat.zero_add, Nat.mod_eq_of_lt (by omega), List.getElem?_append_left (by omega)]
        exact hi
    have hA3 : A4 = A ∨ ∀ a, A4 = some a → W.heap.size ≤ a.block := .inr (fun a ha => by rw [hA4] at ha; cases ha; have := hb0.size; simp only; omega)
    have hlt3 : q.l.length < q.l.length + (q.l.length + 4) := by omega
    have Hrun := Lib.hid hrun
    have Hst3 := Lib.hid hst3
    have Hq3 := Lib.hid hq3
    have HA3 := Lib.hid hA3
    clear o1 o3 o4 hg3 hob hg4b hg4s hA4 p3 st1 st2 hz hq1 hq2 hb1 hb2 hb3 k0 k3 ecast hrun hst3 hq3 hA3
    go_upto_region 3 with (at_builtin; refine Lib.wpList_append_run _ rfl _ _ _ _ rfl _ _ rfl rfl _ _ Hrun.out ?_)
    clear Hrun k1 k2 y1 y2
    have hst3 := Hst3.out
    have hq3 := Hq3.out
    have hA3 := HA3.out
    clear Hst3 Hq3 HA3
    generalize (w3.setCell ⟨b, 1, none⟩ (.slice A4 (q.l.length + (q.l.length + 4)) cc4)).setCell ⟨b, 2, none⟩ (.int .i64 0) = w5 at *
    obtain ⟨n3, hn3⟩ : ∃ n3, n3 = q.l.length + (q.l.length + 4) := ⟨_, rfl⟩
    obtain ⟨L3, hL3⟩ : ∃ L3, L3 = q.l ++ List.replicate (q.l.length + 4) 0 := ⟨_, rfl⟩
    obtain ⟨f3, hf3⟩ : ∃ f3 : Nat, f3 = 0 := ⟨_, rfl⟩
    rw [← hn3] at hq3 hlt3 ⊢
    rw [← hL3, ← hf3] at hq3
    clear hn3 hL3 hf3
    obtain ⟨g, rfl, hgb, hgs⟩ := own_addr hq3.row (by omega)
    have hne : g ≠ b := hq3.ne _ rfl
    obtain ⟨r, hr⟩ : ∃ r, r = (f3 + q.l.length) % n3 := ⟨_, rfl⟩
    have hf3 : f3 < n3 := by rcases hq3.from_ with h | h <;> omega
    have hrn : (0 : Int) ≤ (r : Int) ∧ (r : Int) < (n3 : Int) := by have := Nat.mod_lt (f3 + q.l.length) (show 0 < n3 by omega); omega
    obtain ⟨y, hrl⟩ : ∃ y, L3[r]? = some y := ⟨_, List.getElem?_eq_getElem (by rw [hq3.Ln]; omega)⟩
    obtain ⟨c0, c1, c2, c3⟩ := hq3.cell
    have HC1 := Lib.hid c1
    have HC2 := Lib.hid c2
    have HC3 := Lib.hid c3
    have HR3 := Lib.hid hq3.row
    have HF := Lib.hid hf3
    have HN := Lib.hid hq3.len.2.1
    have Hr := Lib.hid hr
    have Hne := Lib.hid hne
    have HQ3 := Lib.hid hq3
    have HNe : Hid (∀ i, (⟨b, i, none⟩ : Addr) ≠ ⟨g, r, none⟩) := Lib.hid (fun i e => hne (congrArg Addr.block e).symm)
    clear c0 c1 c2 c3 hr hf3 hne hq3
    --@region 43 3 rput3a.spec
    refine wp_region_runN [12] (fun _ w2 => JI base g n3 cc4 L3 w2) (by kernel_rfl) (by kernel_rfl) (by kernel_rfl) (R := Rc ⟨g, r, none⟩) (fun _ _ h => Rc.below h) (fun _ _ _ => Rc.trans) (JI_stable _ _ _ _ _) HR3.out ?_
    apply RunN.pure (by decide)
    · intro vs w hb hd; clear hd; simp only [List.take, putL, Act.put, List.setIfInBounds_toArray, List.set_cons_zero, List.set_cons_succ]; unfold StepOK; go_simp; exact ⟨Below.refl _ _, isV_mk _ _⟩
    apply RunN.pure (by decide)
    · intro vs w hb hd; have d0 : isV _ (vs 0) w := hd 0 (by decide) (by kernel_rfl); unfold isV at d0; clear hd; simp only [List.take, putL, Act.put, List.setIfInBounds_toArray, List.set_cons_zero, List.set_cons_succ]; unfold StepOK; go_simp; exact ⟨Below.refl _ _, isV_mk _ _⟩
    apply RunN.pure (by decide)
    · intro vs w hb hd; have d1 : isV _ (vs 1) w := hd 1 (by decide) (by kernel_rfl); unfold isV at d1; clear hd; simp only [List.take, putL, Act.put, List.setIfInBounds_toArray, List.set_cons_zero, List.set_cons_succ]; unfold StepOK; go_simp; exact ⟨Below.refl _ _, isV_mk _ _⟩
    apply RunN.pure (by decide)
    · intro vs w hb hd; have d2 : isV _ (vs 2) w := hd 2 (by decide) (by kernel_rfl); unfold isV at d2; clear hd; have k1 := hb.cell _ _ (HNe.out 1) HC1.out; simp only [List.take, putL, Act.put, List.setIfInBounds_toArray, List.set_cons_zero, List.set_cons_succ]; unfold StepOK; go_simp; exact ⟨Below.refl _ _, isV_mk _ _⟩
    apply RunN.pure (by decide)
    · intro vs w hb hd; clear hd; simp only [List.take, putL, Act.put, List.setIfInBounds_toArray, List.set_cons_zero, List.set_cons_succ]; unfold StepOK; go_simp; exact ⟨Below.refl _ _, isV_mk _ _⟩
    apply RunN.pure (by decide)
    · intro vs w hb hd; clear hd; simp only [List.take, putL, Act.put, List.setIfInBounds_toArray, List.set_cons_zero, List.set_cons_succ]; unfold StepOK; go_simp; exact ⟨Below.refl _ _, isV_mk _ _⟩
    apply RunN.pure (by decide)
    · intro vs w hb hd; have d5 : isV _ (vs 5) w := hd 5 (by decide) (by kernel_rfl); unfold isV at d5; clear hd; simp only [List.take, putL, Act.put, List.setIfInBounds_toArray, List.set_cons_zero, List.set_cons_succ]; unfold StepOK; go_simp; exact ⟨Below.refl _ _, isV_mk _ _⟩
    apply RunN.pure (by decide)
    · intro vs w hb hd; have d6 : isV _ (vs 6) w := hd 6 (by decide) (by kernel_rfl); unfold isV at d6; clear hd; simp only [List.take, putL, Act.put, List.setIfInBounds_toArray, List.set_cons_zero, List.set_cons_succ]; unfold StepOK; go_simp; exact ⟨Below.refl _ _, isV_mk _ _⟩
    apply RunN.pure (by decide)
    · intro vs w hb hd; have d7 : isV _ (vs 7) w := hd 7 (by decide) (by kernel_rfl); unfold isV at d7; clear hd; have k3 := hb.cell _ _ (HNe.out 3) HC3.out; simp only [List.take, putL, Act.put, List.setIfInBounds_toArray, List.set_cons_zero, List.set_cons_succ]; unfold StepOK; go_simp; exact ⟨Below.refl _ _, isV_mk _ _⟩
    refine RunN.such (by decide) (isV (.int .i64 ((r : Nat) : Int))) (isV_stableR _) ?_ ?_
    · intro vs w hb hd; have d4 : isV _ (vs 4) w := hd 4 (by decide) (by kernel_rfl); unfold isV at d4; have d8 : isV _ (vs 8) w := hd 8 (by decide) (by kernel_rfl); unfold isV at d8; clear hd; have k1 := hb.cell _ _ (HNe.out 1) HC1.out; have k2 := hb.cell _ _ (HNe.out 2) HC2.out; simp only [List.take, putL, Act.put, List.setIfInBounds_toArray, List.set_cons_zero, List.set_cons_succ]; unfold StepOK; go_simp; exact ⟨Below.refl _ _, such_of_bool (by rw [Hr.out]; exact place_any k1 k2 HF.out HN.out _ (by omega))⟩
    apply RunN.pure (by decide)
    · intro vs w hb hd; clear hd; simp only [List.take, putL, Act.put, List.setIfInBounds_toArray, List.set_cons_zero, List.set_cons_succ]; unfold StepOK; go_simp; exact ⟨Below.refl _ _, isV_mk _ _⟩
    apply RunN.pure (by decide)
    · intro vs w hb hd; have d0 : isV _ (vs 0) w := hd 0 (by decide) (by kernel_rfl); unfold isV at d0; have d1 : isV _ (vs 1) w := hd 1 (by decide) (by kernel_rfl); unfold isV at d1; have d2 : isV _ (vs 2) w := hd 2 (by decide) (by kernel_rfl); unfold isV at d2; have d3 : isV _ (vs 3) w := hd 3 (by decide) (by kernel_rfl); unfold isV at d3; have d4 : isV _ (vs 4) w := hd 4 (by decide) (by kernel_rfl); unfold isV at d4; have d5 : isV _ (vs 5) w := hd 5 (by decide) (by kernel_rfl); unfold isV at d5; have d6 : isV _ (vs 6) w := hd 6 (by decide) (by kernel_rfl); unfold isV at d6; have d7 : isV _ (vs 7) w := hd 7 (by decide) (by kernel_rfl); unfold isV at d7; have d8 : isV _ (vs 8) w := hd 8 (by decide) (by kernel_rfl); unfold isV at d8; have d9 := hd 9 (by decide) (by kernel_rfl); simp only [TR, Nat.reduceAdd, Nat.reduceSub, List.getD_cons_zero, List.getD_cons_succ] at d9; have d10 : isV _ (vs 10) w := hd 10 (by decide) (by kernel_rfl); unfold isV at d10; clear hd; unfold isV at d9; have hx1 := hrn; simp only [List.take, putL, Act.put, List.setIfInBounds_toArray, List.set_cons_zero, List.set_cons_succ]; unfold StepOK; go_simp; exact ⟨Below.refl _ _, isV_mk _ _⟩
    refine RunN.store (by decide) ((fun w2 => JI base g n3 cc4 (L3.set r x) w2)) (JI_stable _ _ _ _ _) ?_ ?_
    · intro vs w hb hd hj; have d0 : isV _ (vs 0) w := hd 0 (by decide) (by kernel_rfl); unfold isV at d0; have d1 : isV _ (vs 1) w := hd 1 (by decide) (by kernel_rfl); unfold isV at d1; have d2 : isV _ (vs 2) w := hd 2 (by decide) (by kernel_rfl); unfold isV at d2; have d3 : isV _ (vs 3) w := hd 3 (by decide) (by kernel_rfl); unfold isV at d3; have d4 : isV _ (vs 4) w := hd 4 (by decide) (by kernel_rfl); unfold isV at d4; have d5 : isV _ (vs 5) w := hd 5 (by decide) (by kernel_rfl); unfold isV at d5; have d6 : isV _ (vs 6) w := hd 6 (by decide) (by kernel_rfl); unfold isV at d6; have d7 : isV _ (vs 7) w := hd 7 (by decide) (by kernel_rfl); unfold isV at d7; have d8 : isV _ (vs 8) w := hd 8 (by decide) (by kernel_rfl); unfold isV at d8; have d9 := hd 9 (by decide) (by kernel_rfl); simp only [TR, Nat.reduceAdd, Nat.reduceSub, List.getD_cons_zero, List.getD_cons_succ] at d9; have d10 : isV _ (vs 10) w := hd 10 (by decide) (by kernel_rfl); unfold isV at d10; have d11 : isV _ (vs 11) w := hd 11 (by decide) (by kernel_rfl); unfold isV at d11; clear hd; have hj2 := hj; (try simp only [prevE, lastV, List.mem_cons, List.not_mem_nil, or_false, Nat.reduceEqDiff, Nat.reduceAdd, if_true, if_false, reduceIte, or_true, true_or, or_self] at hj2); clear hj; unfold JI at hj2; have y := own_cell hj2 hrl; have z := World.ownsRow.frozenAt hj2 r; have st := Rc.stored hj2 r x; simp only [List.take, putL, Act.put, List.setIfInBounds_toArray, List.set_cons_zero, List.set_cons_succ]; unfold StepE; go_simp; try exact st
    intro vs w1 hb hd hj
    try simp only [prevE, lastV, List.mem_cons, List.not_mem_nil, or_false, Nat.reduceEqDiff, Nat.reduceAdd, if_true, if_false, reduceIte, or_true, true_or, or_self] at hj
    have e0 : isV _ (vs 0) w1 := hd 0 (by decide)
    have e1 : isV _ (vs 1) w1 := hd 1 (by decide)
    have e2 : isV _ (vs 2) w1 := hd 2 (by decide)
    have e3 : isV _ (vs 3) w1 := hd 3 (by decide)
    have e4 : isV _ (vs 4) w1 := hd 4 (by decide)
    have e5 : isV _ (vs 5) w1 := hd 5 (by decide)
    have e6 : isV _ (vs 6) w1 := hd 6 (by decide)
    have e7 : isV _ (vs 7) w1 := hd 7 (by decide)
    have e8 : isV _ (vs 8) w1 := hd 8 (by decide)
    have e9 := hd 9 (by decide); simp only [TR, Nat.reduceAdd, Nat.reduceSub, List.getD_cons_zero, List.getD_cons_succ] at e9
    have e10 : isV _ (vs 10) w1 := hd 10 (by decide)
    have e11 : isV _ (vs 11) w1 := hd 11 (by decide)
    clear hd
    unfold isV at e0 e1 e2 e3 e4 e5 e6 e7 e8 e10 e11
    simp only [putL, Act.put, List.setIfInBounds_toArray, List.set_cons_zero, List.set_cons_succ, e0, e1, e2, e3, e4, e5, e6, e7, e8, e10, e11]
    clear e0 e1 e2 e3 e4 e5 e6 e7 e8 e10 e11
    --@end
    have hj2 : Own base 3 1 w1 (some ⟨g, 0, none⟩) n3 cc4 (intsL (L3.set r x)) := hj
    have o4 := Own.apart HQ3.out.own hb.grown (fun e => Hne.out e.symm)
    have k3 := hb.cell _ _ (HNe.out 3) HC3.out
    have z3 := World.ownsRow.frozenAt o4 3
    have st := World.ownsRow.stored o4 3 (.int .i64 ((q.l.length : Int) + 1))
    have hfin : QIs (w1.setCell ⟨b, 3, none⟩ (.int .i64 ((q.l.length : Int) + 1))) base b ⟨q.most, q.l ++ [x]⟩ (some ⟨g, 0, none⟩) n3 cc4 f3 (L3.set r x) := by
      refine ⟨?_, Own.apart hj2 st.2 Hne.out, HQ3.out.ne, HQ3.out.most, ?_, HQ3.out.from_, ?_⟩
      · have h5 := st.1
        unfold Own
        have e : (qC ⟨q.most, q.l ++ [x]⟩ (some ⟨g, 0, none⟩) n3 cc4 f3) = (qC q (some ⟨g, 0, none⟩) n3 cc4 f3).set 3 (.int .i64 ((q.l.length : Int) + 1)) := by simp [qC]
        rw [e]; exact h5
      · have := HQ3.out.len
        simp only [List.length_append, List.length_cons, List.length_nil]
        omega
      · intro i z hi
        rw [List.getElem?_append] at hi
        have hl3 := HQ3.out.Ln
        split at hi
        · rename_i hlt
          rw [List.getElem?_set_ne (by rw [Hr.out]; exact ring_ne HF.out (by omega) (by omega) (by omega))]
          exact HQ3.out.ring i z hi
        · have hi0 : i = q.l.length := by
            have := (List.getElem?_eq_some_iff.1 hi).1
            simp at this
            omega
          subst hi0
          simp at hi
          subst hi
          rw [← Hr.out, List.getElem?_set_self (by omega)]
    have hq5 : QStep w5 (w1.setCell ⟨b, 3, none⟩ (.int .i64 ((q.l.length : Int) + 1))) b (some ⟨g, 0, none⟩) := (QStep.row (a := ⟨g, 0, none⟩) hb.grown).trans (QStep.own st.2) (.inl rfl)
    clear o4 st hj hj2 HQ3 HR3 hrl HC1 HC2 HC3 hb
    go_wp2_with fail
    go_end0
    first | exact ⟨rfl, _, _, _, _, _, hfin, hst3.trans hq5 (by first | exact hA3 | exact .inl rfl), (by first | exact hA3 | exact .inl rfl)⟩ | exact ⟨rfl, _, ⟨_, _, _, _, hfin⟩, hst3.trans hq5 (by first | exact hA3 | exact .inl rfl), (by first | exact hA3 | exact .inl rfl)⟩
  · have hd : decide ((q.l.length : Int) = (n : Int)) = false := by simp; omega
    have hfi : ¬ (q.l.length : Int) = (n : Int) := by omega
    go_enter Try.func43, Try.ntmps43
    go_upto_region 0 with fail
    go_quiet (fail)
    have hb0 := below_drewN (Below.refl W.heap.size W) nq
    generalize W.drewN nq = w5 at *
    have hq3 := HQ.out.below hb0
    have hst3 : QStep W w5 b A := QStep.below hb0
    have hA3 : A = A ∨ ∀ a, A = some a → W.heap.size ≤ a.block := .inl rfl
    have hlt3 : q.l.length < n := by omega
    clear hb0 c0 c1 c2 c3 hd
    go_upto_region 3 with fail
    obtain ⟨g, rfl, hgb, hgs⟩ := own_addr hq3.row (by omega)
    have hne : g ≠ b := hq3.ne _ rfl
    obtain ⟨r, hr⟩ : ∃ r, r = (f + q.l.length) % n := ⟨_, rfl⟩
    have hf3 : f < n := by rcases hq3.from_ with h | h <;> omega
    have hrn : (0 : Int) ≤ (r : Int) ∧ (r : Int) < (n : Int) := by have := Nat.mod_lt (f + q.l.length) (show 0 < n by omega); omega
    obtain ⟨y, hrl⟩ : ∃ y, L[r]? = some y := ⟨_, List.getElem?_eq_getElem (by rw [hq3.Ln]; omega)⟩
    obtain ⟨c0, c1, c2, c3⟩ := hq3.cell
    have HC1 := Lib.hid c1
    have HC2 := Lib.hid c2
    have HC3 := Lib.hid c3
    have HR3 := Lib.hid hq3.row
    have HF := Lib.hid hf3
    have HN := Lib.hid hq3.len.2.1
    have Hr := Lib.hid hr
    have Hne := Lib.hid hne
    have HQ3 := Lib.hid hq3
    have HNe : Hid (∀ i, (⟨b, i, none⟩ : Addr) ≠ ⟨g, r, none⟩) := Lib.hid (fun i e => hne (congrArg Addr.block e).symm)
    clear c0 c1 c2 c3 hr hf3 hne hq3
    --@region 43 3 rput3b.spec
    refine wp_region_runN [12] (fun _ w2 => JI base g n c L w2) (by kernel_rfl) (by kernel_rfl) (by kernel_rfl) (R := Rc ⟨g, r, none⟩) (fun _ _ h => Rc.below h) (fun _ _ _ => Rc.trans) (JI_stable _ _ _ _ _) HR3.out ?_
    apply RunN.pure (by decide)
    · intro vs w hb hd; clear hd; simp only [List.take, putL, Act.put, List.setIfInBounds_toArray, List.set_cons_zero, List.set_cons_succ]; unfold StepOK; go_simp; exact ⟨Below.refl _ _, isV_mk _ _⟩
    apply RunN.pure (by decide)
    · intro vs w hb hd; have d0 : isV _ (vs 0) w := hd 0 (by decide) (by kernel_rfl); unfold isV at d0; clear hd; simp only [List.take, putL, Act.put, List.setIfInBounds_toArray, List.set_cons_zero, List.set_cons_succ]; unfold StepOK; go_simp; exact ⟨Below.refl _ _, isV_mk _ _⟩
    apply RunN.pure (by decide)
    · intro vs w hb hd; have d1 : isV _ (vs 1) w := hd 1 (by decide) (by kernel_rfl); unfold isV at d1; clear hd; simp only [List.take, putL, Act.put, List.setIfInBounds_toArray, List.set_cons_zero, List.set_cons_succ]; unfold StepOK; go_simp; exact ⟨Below.refl _ _, isV_mk _ _⟩
    apply RunN.pure (by decide)
    · intro vs w hb hd; have d2 : isV _ (vs 2) w := hd 2 (by decide) (by kernel_rfl); unfold isV at d2; clear hd; have k1 := hb.cell _ _ (HNe.out 1) HC1.out; simp only [List.take, putL, Act.put, List.setIfInBounds_toArray, List.set_cons_zero, List.set_cons_succ]; unfold StepOK; go_simp; exact ⟨Below.refl _ _, isV_mk _ _⟩
    apply RunN.pure (by decide)
    · intro vs w hb hd; clear hd; simp only [List.take, putL, Act.put, List.setIfInBounds_toArray, List.set_cons_zero, List.set_cons_succ]; unfold StepOK; go_simp; exact ⟨Below.refl _ _, isV_mk _ _⟩
    apply RunN.pure (by decide)
    · intro vs w hb hd; clear hd; simp only [List.take, putL, Act.put, List.setIfInBounds_toArray, List.set_cons_zero, List.set_cons_succ]; unfold StepOK; go_simp; exact ⟨Below.refl _ _, isV_mk _ _⟩
    apply RunN.pure (by decide)
    · intro vs w hb hd; have d5 : isV _ (vs 5) w := hd 5 (by decide) (by kernel_rfl); unfold isV at d5; clear hd; simp only [List.take, putL, Act.put, List.setIfInBounds_toArray, List.set_cons_zero, List.set_cons_succ]; unfold StepOK; go_simp; exact ⟨Below.refl _ _, isV_mk _ _⟩
    apply RunN.pure (by decide)
    · intro vs w hb hd; have d6 : isV _ (vs 6) w := hd 6 (by decide) (by kernel_rfl); unfold isV at d6; clear hd; simp only [List.take, putL, Act.put, List.setIfInBounds_toArray, List.set_cons_zero, List.set_cons_succ]; unfold StepOK; go_simp; exact ⟨Below.refl _ _, isV_mk _ _⟩
    apply RunN.pure (by decide)
    · intro vs w hb hd; have d7 : isV _ (vs 7) w := hd 7 (by decide) (by kernel_rfl); unfold isV at d7; clear hd; have k3 := hb.cell _ _ (HNe.out 3) HC3.out; simp only [List.take, putL, Act.put, List.setIfInBounds_toArray, List.set_cons_zero, List.set_cons_succ]; unfold StepOK; go_simp; exact ⟨Below.refl _ _, isV_mk _ _⟩
    refine RunN.such (by decide) (isV (.int .i64 ((r : Nat) : Int))) (isV_stableR _) ?_ ?_
    · intro vs w hb hd; have d4 : isV _ (vs 4) w := hd 4 (by decide) (by kernel_rfl); unfold isV at d4; have d8 : isV _ (vs 8) w := hd 8 (by decide) (by kernel_rfl); unfold isV at d8; clear hd; have k1 := hb.cell _ _ (HNe.out 1) HC1.out; have k2 := hb.cell _ _ (HNe.out 2) HC2.out; simp only [List.take, putL, Act.put, List.setIfInBounds_toArray, List.set_cons_zero, List.set_cons_succ]; unfold StepOK; go_simp; exact ⟨Below.refl _ _, such_of_bool (by rw [Hr.out]; exact place_any k1 k2 HF.out HN.out _ (by omega))⟩
    apply RunN.pure (by decide)
    · intro vs w hb hd; clear hd; simp only [List.take, putL, Act.put, List.setIfInBounds_toArray, List.set_cons_zero, List.set_cons_succ]; unfold StepOK; go_simp; exact ⟨Below.refl _ _, isV_mk _ _⟩
    apply RunN.pure (by decide)
    · intro vs w hb hd; have d0 : isV _ (vs 0) w := hd 0 (by decide) (by kernel_rfl); unfold isV at d0; have d1 : isV _ (vs 1) w := hd 1 (by decide) (by kernel_rfl); unfold isV at d1; have d2 : isV _ (vs 2) w := hd 2 (by decide) (by kernel_rfl); unfold isV at d2; have d3 : isV _ (vs 3) w := hd 3 (by decide) (by kernel_rfl); unfold isV at d3; have d4 : isV _ (vs 4) w := hd 4 (by decide) (by kernel_rfl); unfold isV at d4; have d5 : isV _ (vs 5) w := hd 5 (by decide) (by kernel_rfl); unfold isV at d5; have d6 : isV _ (vs 6) w := hd 6 (by decide) (by kernel_rfl); unfold isV at d6; have d7 : isV _ (vs 7) w := hd 7 (by decide) (by kernel_rfl); unfold isV at d7; have d8 : isV _ (vs 8) w := hd 8 (by decide) (by kernel_rfl); unfold isV at d8; have d9 := hd 9 (by decide) (by kernel_rfl); simp only [TR, Nat.reduceAdd, Nat.reduceSub, List.getD_cons_zero, List.getD_cons_succ] at d9; have d10 : isV _ (vs 10) w := hd 10 (by decide) (by kernel_rfl); unfold isV at d10; clear hd; unfold isV at d9; have hx1 := hrn; simp only [List.take, putL, Act.put, List.setIfInBounds_toArray, List.set_cons_zero, List.set_cons_succ]; unfold StepOK; go_simp; exact ⟨Below.refl _ _, isV_mk _ _⟩
    refine RunN.store (by decide) ((fun w2 => JI base g n c (L.set r x) w2)) (JI_stable _ _ _ _ _) ?_ ?_
    · intro vs w hb hd hj; have d0 : isV _ (vs 0) w := hd 0 (by decide) (by kernel_rfl); unfold isV at d0; have d1 : isV _ (vs 1) w := hd 1 (by decide) (by kernel_rfl); unfold isV at d1; have d2 : isV _ (vs 2) w := hd 2 (by decide) (by kernel_rfl); unfold isV at d2; have d3 : isV _ (vs 3) w := hd 3 (by decide) (by kernel_rfl); unfold isV at d3; have d4 : isV _ (vs 4) w := hd 4 (by decide) (by kernel_rfl); unfold isV at d4; have d5 : isV _ (vs 5) w := hd 5 (by decide) (by kernel_rfl); unfold isV at d5; have d6 : isV _ (vs 6) w := hd 6 (by decide) (by kernel_rfl); unfold isV at d6; have d7 : isV _ (vs 7) w := hd 7 (by decide) (by kernel_rfl); unfold isV at d7; have d8 : isV _ (vs 8) w := hd 8 (by decide) (by kernel_rfl); unfold isV at d8; have d9 := hd 9 (by decide) (by kernel_rfl); simp only [TR, Nat.reduceAdd, Nat.reduceSub, List.getD_cons_zero, List.getD_cons_succ] at d9; have d10 : isV _ (vs 10) w := hd 10 (by decide) (by kernel_rfl); unfold isV at d10; have d11 : isV _ (vs 11) w := hd 11 (by decide) (by kernel_rfl); unfold isV at d11; clear hd; have hj2 := hj; (try simp only [prevE, lastV, List.mem_cons, List.not_mem_nil, or_false, Nat.reduceEqDiff, Nat.reduceAdd, if_true, if_false, reduceIte, or_true, true_or, or_self] at hj2); clear hj; unfold JI at hj2; have y := own_cell hj2 hrl; have z := World.ownsRow.frozenAt hj2 r; have st := Rc.stored hj2 r x; simp only [List.take, putL, Act.put, List.setIfInBounds_toArray, List.set_cons_zero, List.set_cons_succ]; unfold StepE; go_simp; try exact st
    intro vs w1 hb hd hj
    try simp only [prevE, lastV, List.mem_cons, List.not_mem_nil, or_false, Nat.reduceEqDiff, Nat.reduceAdd, if_true, if_false, reduceIte, or_true, true_or, or_self] at hj
    have e0 : isV _ (vs 0) w1 := hd 0 (by decide)
    have e1 : isV _ (vs 1) w1 := hd 1 (by decide)
    have e2 : isV _ (vs 2) w1 := hd 2 (by decide)
    have e3 : isV _ (vs 3) w1 := hd 3 (by decide)
    have e4 : isV _ (vs 4) w1 := hd 4 (by decide)
    have e5 : isV _ (vs 5) w1 := hd 5 (by decide)
    have e6 : isV _ (vs 6) w1 := hd 6 (by decide)
    have e7 : isV _ (vs 7) w1 := hd 7 (by decide)
    have e8 : isV _ (vs 8) w1 := hd 8 (by decide)
    have e9 := hd 9 (by decide); simp only [TR, Nat.reduceAdd, Nat.reduceSub, List.getD_cons_zero, List.getD_cons_succ] at e9
    have e10 : isV _ (vs 10) w1 := hd 10 (by decide)
    have e11 : isV _ (vs 11) w1 := hd 11 (by decide)
    clear hd
    unfold isV at e0 e1 e2 e3 e4 e5 e6 e7 e8 e10 e11
    simp only [putL, Act.put, List.setIfInBounds_toArray, List.set_cons_zero, List.set_cons_succ, e0, e1, e2, e3, e4, e5, e6, e7, e8, e10, e11]
    clear e0 e1 e2 e3 e4 e5 e6 e7 e8 e10 e11
    --@end
    have hj2 : Own base 3 1 w1 (some ⟨g, 0, none⟩) n c (intsL (L.set r x)) := hj
    have o4 := Own.apart HQ3.out.own hb.grown (fun e => Hne.out e.symm)
    have k3 := hb.cell _ _ (HNe.out 3) HC3.out
    have z3 := World.ownsRow.frozenAt o4 3
    have st := World.ownsRow.stored o4 3 (.int .i64 ((q.l.length : Int) + 1))
    have hfin : QIs (w1.setCell ⟨b, 3, none⟩ (.int .i64 ((q.l.length : Int) + 1))) base b ⟨q.most, q.l ++ [x]⟩ (some ⟨g, 0, none⟩) n c f (L.set r x) := by
      refine ⟨?_, Own.apart hj2 st.2 Hne.out, HQ3.out.ne, HQ3.out.most, ?_, HQ3.out.from_, ?_⟩
      · have h5 := st.1
        unfold Own
        have e : (qC ⟨q.most, q.l ++ [x]⟩ (some ⟨g, 0, none⟩) n c f) = (qC q (some ⟨g, 0, none⟩) n c f).set 3 (.int .i64 ((q.l.length : Int) + 1)) := by simp [qC]
        rw [e]; exact h5
      · have := HQ3.out.len
        simp only [List.length_append, List.length_cons, List.length_nil]
        omega
      · intro i z hi
        rw [List.getElem?_append] at hi
        have hl3 := HQ3.out.Ln
        split at hi
        · rename_i hlt
          rw [List.getElem?_set_ne (by rw [Hr.out]; exact ring_ne HF.out (by omega) (by omega) (by omega))]
          exact HQ3.out.ring i z hi
        · have hi0 : i = q.l.length := by
            have := (List.getElem?_eq_some_iff.1 hi).1
            simp at this
            omega
          subst hi0
          simp at hi
          subst hi
          rw [← Hr.out, List.getElem?_set_self (by omega)]
    have hq5 : QStep w5 (w1.setCell ⟨b, 3, none⟩ (.int .i64 ((q.l.length : Int) + 1))) b (some ⟨g, 0, none⟩) := (QStep.row (a := ⟨g, 0, none⟩) hb.grown).trans (QStep.own st.2) (.inl rfl)
    clear o4 st hj hj2 HQ3 HR3 hrl HC1 HC2 HC3 hb
    go_wp2_with fail
    go_end0
    first | exact ⟨rfl, _, _, _, _, _, hfin, hst3.trans hq5 (by first | exact hA3 | exact .inl rfl), (by first | exact hA3 | exact .inl rfl)⟩ | exact ⟨rfl, _, ⟨_, _, _, _, hfin⟩, hst3.trans hq5 (by first | exact hA3 | exact .inl rfl), (by first | exact hA3 | exact .inl rfl)⟩
end Go.Proofs.Ytcidifmikcnkcaa
