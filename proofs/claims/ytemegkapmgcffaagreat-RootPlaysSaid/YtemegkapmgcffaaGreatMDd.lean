import Derived.Test.YtemegkapmgcffaaGreatMDc
import Derived.Test.YtemegkapmgcffaaGreatMDb
import Derived.Test.YtemegkapmgcffaaGreatMWb
/- The disk: Append, whole. -/
namespace Go.Proofs.YtemegkapmgcffaaGreat
open Go.RowKit
set_option linter.unusedSimpArgs false
set_option linter.unusedVariables false

def JBb (B : Nat) (x : Bool) (v : Value) (w : World) : Prop := ∃ g, v = .pointer (some ⟨g, 0, none⟩) ∧ B ≤ g ∧ Own B 4 1 w (some ⟨g, 0, none⟩) 1 1 [.bool x]
/-- boxes of numbers, new ones, may turn -/
structure Rib (B : Nat) (w w' : World) : Prop where
  os : w'.os = w.os
  tape : w'.tape = w.tape
  output : w'.output = w.output
  size : w.heap.size ≤ w'.heap.size
  block : ∀ k, k < w.heap.size → w'.heap[k]? = w.heap[k]? ∨ (B ≤ k ∧ (∃ cs, w.heap[k]? = some (.cells cs 3 (0, 0))) ∧ ∃ cs, w'.heap[k]? = some (.cells cs 3 (0, 0)))
theorem Rib.below {B : Nat} {w w' : World} (h : Below w.heap.size w w') : Rib B w w' := ⟨h.os, h.tape, h.output, h.size, fun k hk => .inl (h.block k hk)⟩
theorem Rib.trans {B : Nat} {w w1 w2 : World} (h : Rib B w w1) (k : Rib B w1 w2) : Rib B w w2 := ⟨k.os.trans h.os, k.tape.trans h.tape, k.output.trans h.output, Nat.le_trans h.size k.size, fun j hj => by
  rcases h.block j hj with h1 | ⟨h1, h2, h3⟩ <;> rcases k.block j (Nat.lt_of_lt_of_le hj h.size) with k1 | ⟨k1, k2, k3⟩
  · exact .inl (k1.trans h1)
  · rw [h1] at k2; exact .inr ⟨k1, k2, k3⟩
  · rw [← k1] at h3; exact .inr ⟨h1, h2, h3⟩
  · exact .inr ⟨h1, h2, k3⟩⟩
theorem Rib.bel {w w' : World} (h : Rib w.heap.size w w') : Below w.heap.size w w' := ⟨h.os, h.tape, h.output, h.size, fun k hk => by
  rcases h.block k hk with h1 | ⟨h1, _⟩
  · exact h1
  · omega⟩
theorem Rib.cell {w w' : World} {a : Addr} {v : Value} (h : Rib w.heap.size w w') (hc : w.cell? a = some v) : w'.cell? a = some v := cellB h.bel hc
theorem JBb_rib (B : Nat) (x : Bool) : StableR (Rib B) (JBb B x) := fun _ w w' hr ⟨g, e, h1, h2⟩ => ⟨g, e, h1, own_same h2 (fun a ha => by
  cases ha
  rcases hr.block g (World.ownsRow.lt h2 g rfl).2 with h3 | ⟨_, ⟨cs, h4⟩, _⟩
  · exact h3
  · exfalso
    rcases h2.2 with ⟨h5, _⟩ | ⟨g', cap, cur, h5, h6, h7, _⟩
    · simp at h5
    · simp only [Value.slice.injEq, Option.some.injEq, Addr.mk.injEq, and_true, true_and] at h5
      rw [← h5.1, h4] at h7
      simp at h7)⟩
theorem Rib.store {B g : Nat} {w : World} {v : Value} {cs cs' : List Value} (ho : Own B 3 1 w (some ⟨g, 0, none⟩) 1 1 cs) (st : (w.setCell ⟨g, 0, none⟩ v).ownsRow B 3 1 (.slice (some ⟨g, 0, none⟩) 1 1) 1 cs' ∧ w.grownBy (w.setCell ⟨g, 0, none⟩ v) (some g)) : Rib B w (w.setCell ⟨g, 0, none⟩ v) := by
  have key : ∀ {w : World} {cs : List Value}, Own B 3 1 w (some ⟨g, 0, none⟩) 1 1 cs → ∃ xs, w.heap[g]? = some (.cells xs 3 (0, 0)) := fun {w cs} h => by
    rcases h.2 with ⟨h5, _⟩ | ⟨g', cap, cur, h5, h6, h7, _⟩
    · simp at h5
    · simp only [Value.slice.injEq, Option.some.injEq, Addr.mk.injEq, and_true, true_and] at h5
      rw [← h5.1] at h7
      exact ⟨_, h7⟩
  refine ⟨st.2.os, st.2.tape, st.2.output, st.2.size, fun k hk => ?_⟩
  by_cases hkg : k = g
  · subst hkg
    exact .inr ⟨(World.ownsRow.lt ho k rfl).1, key ho, key st.1⟩
  · exact .inl (st.2.block k hk (fun e => hkg (Option.some.inj e)))
theorem ent_app1 (a : Array Value) (w : World) : (callFunc 37 a).run Tryz.prog w = .ok (.enter 37 a) w := by kernel_rfl
theorem appF_there {fs : List Fl} {nm : Nm} {bs : List UInt8} {f : Fl} (h : thereF fs nm = true) (hf : fs[posF fs nm]? = some f) : appF fs nm bs = fs.set (posF fs nm) ⟨f.nm, f.b ++ bs, f.safe⟩ := by unfold appF; rw [h, hf]
theorem appF_not {fs : List Fl} {nm : Nm} {bs : List UInt8} (h : thereF fs nm = false) : appF fs nm bs = insF fs (posF fs nm) ⟨nm, bs, 0⟩ := by unfold appF; rw [h]
theorem append_dark {D : Dk} {nm : Nm} {bs : List UInt8} (h : D.dark = true) : appendD D nm bs = (15, D) := by unfold appendD; rw [if_pos h]
theorem append_name {D : Dk} {nm : Nm} {bs : List UInt8} (h : D.dark = false) (h1 : namedF nm = false) : appendD D nm bs = (16, D) := by unfold appendD; rw [if_neg (by rw [h]; simp), if_pos h1]
theorem append_full {D : Dk} {nm : Nm} {bs : List UInt8} (h : D.dark = false) (h1 : namedF nm = true) (h2 : D.room < (usedF D.fs : Int) + bs.length ∨ (thereF D.fs nm = false ∧ D.fs.length = 200)) : appendD D nm bs = (5, D) := by unfold appendD; rw [if_neg (by rw [h]; simp), if_neg (by rw [h1]; simp), if_pos h2]
theorem append_deed {D : Dk} {nm : Nm} {bs : List UInt8} (h : D.dark = false) (h1 : namedF nm = true) (h2 : ¬ (D.room < (usedF D.fs : Int) + bs.length ∨ (thereF D.fs nm = false ∧ D.fs.length = 200))) : appendD D nm bs = deedD D (appF D.fs nm bs) := by unfold appendD; rw [if_neg (by rw [h]; simp), if_neg (by rw [h1]; simp), if_neg h2]
section
variable {W : World} {base p : Nat} {D : Dk} {F : Nat → Prop} {R : Option Addr} {c : Nat} {es : List FE}
set_option maxRecDepth 100000 in
set_option maxHeartbeats 8000000 in
theorem Append_any (h : DkIs W base p D F) (nm : Nm) (hnm : nm.length ≤ maxLen) {B : Option Addr} {n2 c2 : Nat} {bs : List UInt8} (sB : Sl W 1 B n2 c2 (bytesV bs)) (hBF : ∀ a, B = some a → bs ≠ [] → ¬ F a.block) (hn2 : n2 ≤ 100000000) :
    Calls Tryz.prog 8 #[.pointer (some ⟨p, 0, none⟩), .string (bstr nm), .slice B n2 c2] W fun x w' => x = .returned (.int .i64 (appendD D nm bs).1) ∧ ∃ F', DkIs w' base p (appendD D nm bs).2 F' ∧ Cg F F' W w' := by
  obtain ⟨R, c, es, h⟩ := h
  have hb1 := below_alloc1 W (.cells #[.pointer (some ⟨p, 0, none⟩)] 24)
  have hx1 := box_new W (.pointer (some ⟨p, 0, none⟩)) 24
  obtain ⟨W1, hW1⟩ : ∃ W1, W1 = W.alloc (.cells #[.pointer (some ⟨p, 0, none⟩)] 24) := ⟨_, rfl⟩
  have hs1 : W1.heap.size = W.heap.size + 1 := by rw [hW1]; simp
  rw [← hW1] at hb1 hx1
  have hb2 := below_alloc1 W1 (.cells #[.string (bstr nm)] 9)
  have hx2 := box_new W1 (.string (bstr nm)) 9
  obtain ⟨W2, hW2⟩ : ∃ W2, W2 = W1.alloc (.cells #[.string (bstr nm)] 9) := ⟨_, rfl⟩
  have hs2 : W2.heap.size = W.heap.size + 2 := by rw [hW2]; simp [hs1]
  rw [← hW2] at hb2 hx2
  have hb3 := below_alloc1 W2 (.cells #[.slice B n2 c2] 34)
  have hx3 := box_new W2 (.slice B n2 c2) 34
  obtain ⟨W3, hW3⟩ : ∃ W3, W3 = W2.alloc (.cells #[.slice B n2 c2] 34) := ⟨_, rfl⟩
  have hs3 : W3.heap.size = W.heap.size + 3 := by rw [hW3]; simp [hs2]
  rw [← hW3] at hb3 hx3
  have hb13 : Below W1.heap.size W1 W3 := hb2.trans (hb3.mono hb2.size)
  have hb03 : Below W.heap.size W W3 := hb1.trans (hb13.mono hb1.size)
  have hF := fun q (hq : F q) => (h.bound q hq).2
  have HFl := Lib.hid hF
  rw [hs1] at hx2
  rw [hs2] at hx3
  have HD := Lib.hid (cellB hb13 hx1)
  have HN := Lib.hid (cellB hb3 hx2)
  have HB := Lib.hid (show W3.cell? ⟨W.heap.size + 1 + 1, 0, none⟩ = some (.slice B n2 c2) from hx3)
  have H := Lib.hid (h.below hb03)
  have Hb03 := Lib.hid hb03
  have HsB := Lib.hid (sB.below hb03)
  have hbl := sB.blen
  have HW := Lib.hid (show W3 = ((W.alloc (.cells #[.pointer (some ⟨p, 0, none⟩)] 24)).alloc (.cells #[.string (bstr nm)] 9)).alloc (.cells #[.slice B n2 c2] 34) by rw [hW3, hW2, hW1])
  have HS := Lib.hid hs3
  have Hbl := Lib.hid hbl
  clear hx1 hx2 hx3 hb1 hb2 hb3 hb13 hb03 hs1 hs2 hs3 hF hW1 hW2 hW3 sB hbl h
  go_enter Tryz.func8, Tryz.ntmps8
  go_upto_region 1 with fail
  rw [← HW.out]
  clear HW
  obtain ⟨ps, hps⟩ : ∃ ps, ps = posF D.fs nm := ⟨_, rfl⟩
  obtain ⟨th, hth⟩ : ∃ th, th = thereF D.fs nm := ⟨_, rfl⟩
  have Hps := Lib.hid (show posF (es.map FE.f) nm = ps by rw [hps, H.out.fs])
  have Hth := Lib.hid (show thereF (es.map FE.f) nm = th by rw [hth, H.out.fs])
  have Hps2 := Lib.hid hps
  have Hth2 := Lib.hid hth
  clear hps hth
  have hdb := HD.out
  have hdn := HN.out
  go_wp2_with fail
  refine (lit_any H.out).mono ?_; rintro e w1 ⟨rfl, rfl⟩
  have hdk : litD D = 15 ∧ D.dark = true ∨ litD D = 0 ∧ D.dark = false := by unfold litD; cases D.dark <;> simp
  have same : ∀ w, Below W.heap.size W3 w → ∃ F', DkIs w base p D F' ∧ Cg F F' W w := fun w hb => ⟨F, ⟨R, c, es, (H.out.kept hb.size (fun q hq => hb.block q (HFl.out q hq)))⟩, Cg.below (Hb03.out.trans hb)⟩
  have Same := Lib.hid same
  clear same
  rcases hdk with ⟨hl, hdk⟩ | ⟨hl, hdk⟩
  · rw [hl]
    have HA := Lib.hid (append_dark (nm := nm) (bs := bs) hdk)
    clear hdk hl
    go_wp2_with fail
    go_ret
    rw [HA.out]
    exact ⟨rfl, Same.out _ (Below.refl _ _)⟩
  · rw [hl]
    have HDK := Lib.hid hdk
    clear hdk hl
    go_wp2_with fail
    refine (named_any nm hnm _).mono ?_; rintro e w1 ⟨rfl, rfl⟩
    cases hnn : namedF nm with
    | false =>
      have HA := Lib.hid (append_name (bs := bs) HDK.out hnn)
      clear hnn
      go_wp2_with fail
      go_ret
      rw [HA.out]
      exact ⟨rfl, Same.out _ (Below.refl _ _)⟩
    | true =>
      have HNN := Lib.hid hnn
      clear hnn hdb hdn
      go_upto_region 6 with fail
      --@region 33 6 app6.spec
      refine wp_region_tailS 16 [13, 15] (fun k => if k = 15 then 13 else k) (fun _ _ => True) (by kernel_rfl) (by kernel_rfl) (by kernel_rfl) (by kernel_rfl) (by kernel_rfl) (R := Rib W3.heap.size) (fun _ _ h => Rib.below h) (fun _ _ _ => Rib.trans) (fun _ _ _ _ _ => trivial) trivial ?_
      simp only [List.take_succ_cons, List.take_zero]
      apply RunS.pure (by decide)
      · intro vs w hb hd; clear hd; have hx1 := hb.cell HD.out; simp only [List.take, putL, Act.put, List.setIfInBounds_toArray, List.set_cons_zero, List.set_cons_succ]; unfold StepOK; go_simp; exact ⟨Below.refl _ _, isV_mk _ _⟩
      apply RunS.pure (by decide)
      · intro vs w hb hd; have d0 : isV _ (vs 0) w := hd 0 (by decide) (by kernel_rfl); unfold isV at d0; clear hd; simp only [List.take, putL, Act.put, List.setIfInBounds_toArray, List.set_cons_zero, List.set_cons_succ]; unfold StepOK; go_simp; exact ⟨Below.refl _ _, isV_mk _ _⟩
      apply RunS.pure (by decide)
      · intro vs w hb hd; have d1 : isV _ (vs 1) w := hd 1 (by decide) (by kernel_rfl); unfold isV at d1; clear hd; simp only [List.take, putL, Act.put, List.setIfInBounds_toArray, List.set_cons_zero, List.set_cons_succ]; unfold StepOK; go_simp; exact ⟨Below.refl _ _, isV_mk _ _⟩
      apply RunS.pure (by decide)
      · intro vs w hb hd; have d2 : isV _ (vs 2) w := hd 2 (by decide) (by kernel_rfl); unfold isV at d2; clear hd; have hx1 := (H.out.below hb.bel).cell.2.2.2.2; simp only [List.take, putL, Act.put, List.setIfInBounds_toArray, List.set_cons_zero, List.set_cons_succ]; unfold StepOK; go_simp; exact ⟨Below.refl _ _, isV_mk _ _⟩
      apply RunS.pure (by decide)
      · intro vs w hb hd; clear hd; have hx1 := hb.cell HD.out; simp only [List.take, putL, Act.put, List.setIfInBounds_toArray, List.set_cons_zero, List.set_cons_succ]; unfold StepOK; go_simp; exact ⟨Below.refl _ _, isV_mk _ _⟩
      apply RunS.pure (by decide)
      · intro vs w hb hd; have d4 : isV _ (vs 4) w := hd 4 (by decide) (by kernel_rfl); unfold isV at d4; clear hd; simp only [List.take, putL, Act.put, List.setIfInBounds_toArray, List.set_cons_zero, List.set_cons_succ]; unfold StepOK; go_simp; exact ⟨Below.refl _ _, isV_mk _ _⟩
      apply RunS.pure (by decide)
      · intro vs w hb hd; have d5 : isV _ (vs 5) w := hd 5 (by decide) (by kernel_rfl); unfold isV at d5; clear hd; simp only [List.take, putL, Act.put, List.setIfInBounds_toArray, List.set_cons_zero, List.set_cons_succ]; unfold StepOK; go_simp; exact ⟨Below.refl _ _, isV_mk _ _⟩
      apply RunS.pure (by decide)
      · intro vs w hb hd; have d6 : isV _ (vs 6) w := hd 6 (by decide) (by kernel_rfl); unfold isV at d6; clear hd; have hx1 := (H.out.below hb.bel).cell.1; simp only [List.take, putL, Act.put, List.setIfInBounds_toArray, List.set_cons_zero, List.set_cons_succ]; unfold StepOK; go_simp; exact ⟨Below.refl _ _, isV_mk _ _⟩
      apply RunS.pure (by decide)
      · intro vs w hb hd; clear hd; have hx1 := hb.cell HN.out; simp only [List.take, putL, Act.put, List.setIfInBounds_toArray, List.set_cons_zero, List.set_cons_succ]; unfold StepOK; go_simp; exact ⟨Below.refl _ _, isV_mk _ _⟩
      refine RunS.such (by decide) (isV (.tuple #[.int .i64 (ps : Int), .bool th])) (fun _ _ _ _ h => h) ?_ ?_
      · intro vs w hb hd; have d3 : isV _ (vs 3) w := hd 3 (by decide) (by kernel_rfl); unfold isV at d3; have d7 : isV _ (vs 7) w := hd 7 (by decide) (by kernel_rfl); unfold isV at d7; have d8 : isV _ (vs 8) w := hd 8 (by decide) (by kernel_rfl); unfold isV at d8; clear hd; have hx1 := H.out.below hb.bel; simp only [List.take, putL, Act.put, List.setIfInBounds_toArray, List.set_cons_zero, List.set_cons_succ]; unfold StepOK; go_simp; exact ⟨Below.refl _ _, such_of_bool (by rw [← Hps.out, ← Hth.out]; exact place_any _ _ _ es nm w hx1.row.sl (by have := hx1.len; omega) (by rw [hx1.fs]; exact hx1.good.srt))⟩
      apply RunS.pure (by decide)
      · intro vs w hb hd; have d9 := hd 9 (by decide) (by kernel_rfl); simp only [TR, Nat.reduceAdd, Nat.reduceSub, List.getD_cons_zero, List.getD_cons_succ] at d9; clear hd; unfold isV at d9; simp only [List.take, putL, Act.put, List.setIfInBounds_toArray, List.set_cons_zero, List.set_cons_succ]; unfold StepOK; go_simp; exact ⟨Below.refl _ _, isV_mk _ _⟩
      apply RunS.pure (by decide)
      · intro vs w hb hd; have d10 : isV _ (vs 10) w := hd 10 (by decide) (by kernel_rfl); unfold isV at d10; clear hd; simp only [List.take, putL, Act.put, List.setIfInBounds_toArray, List.set_cons_zero, List.set_cons_succ]; unfold StepOK; go_simp; exact ⟨Below.refl _ _, isV_mk _ _⟩
      apply RunS.pure (by decide)
      · intro vs w hb hd; have d10 : isV _ (vs 10) w := hd 10 (by decide) (by kernel_rfl); unfold isV at d10; clear hd; simp only [List.take, putL, Act.put, List.setIfInBounds_toArray, List.set_cons_zero, List.set_cons_succ]; unfold StepOK; go_simp; exact ⟨Below.refl _ _, isV_mk _ _⟩
      refine RunS.eff (by decide) (JB1 W3.heap.size 0) (JB1_stable _ _) (by rfl) (by rfl) ?_ ?_
      · intro vs w hb hd hj; clear hd; have hj2 := hj; (try simp only [prevE, lastV, lastS, List.mem_cons, List.not_mem_nil, or_false, Nat.reduceEqDiff, Nat.reduceAdd, if_true, if_false, reduceIte, or_true, true_or, or_self] at hj2); clear hj; have hB := hb.bel.size; clear hj2; simp only [List.take, putL, Act.put, List.setIfInBounds_toArray, List.set_cons_zero, List.set_cons_succ]; unfold StepE; go_simp; exact ⟨Rib.below (below_alloc1 _ _), _, rfl, hB, Own.lower (new_own _ [.int .i64 0] 3 1 rfl (by unfold maxLen; omega)) hB⟩
      refine RunS.such (by decide) (JBb W3.heap.size false) (JBb_rib _ _) ?_ ?_
      · intro vs w hb hd; clear hd; have hB := hb.bel.size; simp only [List.take, putL, Act.put, List.setIfInBounds_toArray, List.set_cons_zero, List.set_cons_succ]; unfold StepOK; go_simp; exact ⟨below_alloc1 _ _, _, rfl, hB, Own.lower (new_own _ [.bool false] 4 1 rfl (by unfold maxLen; omega)) hB⟩
      refine RunS.storeAt (by decide) 13 (JB1 W3.heap.size ps) (JB1_stable _ _) (by rfl) (by decide) (by kernel_rfl) ?_ ?_
      · intro vs w hb hd hj; have d0 : isV _ (vs 0) w := hd 0 (by decide) (by kernel_rfl); unfold isV at d0; have d1 : isV _ (vs 1) w := hd 1 (by decide) (by kernel_rfl); unfold isV at d1; have d2 : isV _ (vs 2) w := hd 2 (by decide) (by kernel_rfl); unfold isV at d2; have d3 : isV _ (vs 3) w := hd 3 (by decide) (by kernel_rfl); unfold isV at d3; have d4 : isV _ (vs 4) w := hd 4 (by decide) (by kernel_rfl); unfold isV at d4; have d5 : isV _ (vs 5) w := hd 5 (by decide) (by kernel_rfl); unfold isV at d5; have d6 : isV _ (vs 6) w := hd 6 (by decide) (by kernel_rfl); unfold isV at d6; have d7 : isV _ (vs 7) w := hd 7 (by decide) (by kernel_rfl); unfold isV at d7; have d8 : isV _ (vs 8) w := hd 8 (by decide) (by kernel_rfl); unfold isV at d8; have d9 := hd 9 (by decide) (by kernel_rfl); simp only [TR, Nat.reduceAdd, Nat.reduceSub, List.getD_cons_zero, List.getD_cons_succ] at d9; have d10 : isV _ (vs 10) w := hd 10 (by decide) (by kernel_rfl); unfold isV at d10; have d11 : isV _ (vs 11) w := hd 11 (by decide) (by kernel_rfl); unfold isV at d11; have d14 := hd 14 (by decide) (by kernel_rfl); simp only [TR, Nat.reduceAdd, Nat.reduceSub, List.getD_cons_zero, List.getD_cons_succ] at d14; clear hd; have hj2 := hj; (try simp only [prevE, lastV, lastS, List.mem_cons, List.not_mem_nil, or_false, Nat.reduceEqDiff, Nat.reduceAdd, if_true, if_false, reduceIte, or_true, true_or, or_self] at hj2); clear hj; obtain ⟨g, eg, hBg, ho⟩ := hj2; have y0 := World.ownsRow.cellAt ho 0 (by omega); have x0 := World.ownsRow.frozenAt ho 0; simp only [List.getElem?_cons_zero] at y0; have st := World.ownsRow.stored ho 0 (.int .i64 (ps : Int)); have HRR := Lib.hid (Rib.store ho st); have HOO := Lib.hid (show Own W3.heap.size 3 1 (w.setCell ⟨g, 0, none⟩ (.int .i64 (ps : Int))) (some ⟨g, 0, none⟩) 1 1 [.int .i64 (ps : Int)] from st.1); clear ho st; simp only [List.take, putL, Act.put, List.setIfInBounds_toArray, List.set_cons_zero, List.set_cons_succ]; unfold StepE; go_simp; first | exact ⟨HRR.out, g, eg, hBg, HOO.out⟩ | exact ⟨HRR.out, g, rfl, hBg, HOO.out⟩
      intro vs w1 hb hd hj
      try simp only [prevE, lastV, lastS, List.mem_cons, List.not_mem_nil, or_false, Nat.reduceEqDiff, Nat.reduceAdd, if_true, if_false, reduceIte, or_true, true_or, or_self] at hj
      have e0 : isV _ (vs 0) w1 := hd 0 (by decide)
      have e1 : isV _ (vs 1) w1 := hd 1 (by decide)
      have e2 : isV _ (vs 2) w1 := hd 2 (by decide)
      have e3 : isV _ (vs 3) w1 := hd 3 (by decide)
      have e4 : isV _ (vs 4) w1 := hd 4 (by decide)
      have e5 : isV _ (vs 5) w1 := hd 5 (by decide)
      have e6 : isV _ (vs 6) w1 := hd 6 (by decide)
      have e7 : isV _ (vs 7) w1 := hd 7 (by decide)
      have e8 : isV _ (vs 8) w1 := hd 8 (by decide)
      have e9 := hd 9 (by decide); simp only [TR, Nat.reduceAdd, Nat.reduceSub, List.getD_cons_zero, List.getD_cons_succ] at e9
      have e10 : isV _ (vs 10) w1 := hd 10 (by decide)
      have e11 : isV _ (vs 11) w1 := hd 11 (by decide)
      have e12 : isV _ (vs 12) w1 := hd 12 (by decide)
      have e14 := hd 14 (by decide); simp only [TR, Nat.reduceAdd, Nat.reduceSub, List.getD_cons_zero, List.getD_cons_succ] at e14
      clear hd
      unfold isV at e0 e1 e2 e3 e4 e5 e6 e7 e8 e10 e11 e12
      unfold QT; simp only [List.drop_succ_cons, List.drop_zero]
      simp only [putL, Act.put, List.setIfInBounds_toArray, List.set_cons_zero, List.set_cons_succ, e0, e1, e2, e3, e4, e5, e6, e7, e8, e10, e11, e12]
      clear e0 e1 e2 e3 e4 e5 e6 e7 e8 e10 e11 e12
      --@end
      obtain ⟨g3, eg3, hB3, o3⟩ := hj
      obtain ⟨g4, eg4, hB4, o4⟩ := e14
      simp only [Nat.reduceAdd, eg3, eg4]
      have hne : g3 ≠ g4 := fun e2 => by
        subst e2
        have h1 := World.ownsRow.cellAt o3 0 (by omega)
        have h2 := World.ownsRow.cellAt o4 0 (by omega)
        simp only [List.getElem?_cons_zero] at h1 h2
        rw [h1] at h2
        simp at h2
      have y0 := World.ownsRow.cellAt o4 0 (by omega)
      have x0 := World.ownsRow.frozenAt o4 0
      simp only [List.getElem?_cons_zero] at y0
      have st := World.ownsRow.stored o4 0 (.bool th)
      have hcI := World.ownsRow.cellAt (Own.apart o3 st.2 hne) 0 (by omega)
      have hcO := World.ownsRow.cellAt st.1 0 (by omega)
      simp only [List.getElem?_cons_zero, List.set_cons_zero] at hcI hcO
      have hb2 := hb.bel.grown st.2 hb.bel.size (fun q hq => by cases hq; exact hB4)
      obtain ⟨w2, hw2⟩ : ∃ w2, w2 = w1.setCell ⟨g4, 0, none⟩ (.bool th) := ⟨_, rfl⟩
      rw [← hw2] at hcI hcO hb2
      have HD2 := Lib.hid (cellB hb2 HD.out)
      have HN2 := Lib.hid (cellB hb2 HN.out)
      have HB2 := Lib.hid (cellB hb2 HB.out)
      have H2 := Lib.hid (H.out.below hb2)
      have Hb2 := Lib.hid hb2
      have HsB2 := Lib.hid (HsB.out.below hb2)
      have Hw2 := Lib.hid hw2
      have HI2 := Lib.hid hcI
      have HOK2 := Lib.hid hcO
      have hFb : ∀ q, W.heap.size ≤ q → ¬ F q := fun q h1 h2 => by have := HFl.out q h2; omega
      have hdF := hFb W.heap.size (Nat.le_refl _)
      have hnF := hFb (W.heap.size + 1) (by omega)
      have hbF := hFb (W.heap.size + 1 + 1) (by omega)
      have hiF := hFb g3 (by have := HS.out; omega)
      have hoF := hFb g4 (by have := HS.out; omega)
      have Hdif := Lib.hid (And.intro hdF (And.intro hnF (And.intro hbF (And.intro hiF hoF))))
      clear hoF hdF hnF hbF hiF hFb
      clear st o3 o4 hb hb2 hw2 hcI hcO HD HN HB H HsB eg3 eg4
      go_upto_region 7 with fail
      rw [← Hw2.out]
      clear Hw2 y0 x0
      have HD := HD2
      have HB := HB2
      have H := H2
      have HOK := HOK2
      obtain ⟨us, hus⟩ : ∃ us, us = usedF D.fs := ⟨_, rfl⟩
      have HU := Lib.hid hus
      have hrm := H.out.good.room
      have hul := H.out.good.used
      rw [← hus] at hul
      obtain ⟨rm, hrm2⟩ : ∃ rm, rm = D.room := ⟨_, rfl⟩
      have HRM := Lib.hid hrm2
      rw [← hrm2] at hrm hul
      have hwu : IntKind.i64.wrap ((us : Int) + (n2 : Int)) = (us : Int) + (n2 : Int) := by rw [IntKind.wrap_i64]; omega
      have hl200 := H.out.len
      have hesl : Hid (es.length = D.fs.length) := Lib.hid (by rw [← H.out.fs, List.length_map])
      clear hus hrm2 HD2 HB2 H2 HOK2
      have HRMc := Lib.hid (show ∀ w, Below w2.heap.size w2 w → w.cell? ⟨p, 1, none⟩ = some (.int .i64 rm) from fun w hb => by rw [HRM.out]; exact (H.out.below hb).cell.2.1)
      obtain ⟨q1, hq1⟩ : ∃ q1, decide (rm < (us : Int) + (n2 : Int)) = q1 := ⟨_, rfl⟩
      have HQ1 := Lib.hid hq1
      clear hq1
      obtain ⟨q2, hq2⟩ : ∃ q2, ((es.length : Int) == 200) = q2 := ⟨_, rfl⟩
      have HQ2 := Lib.hid hq2
      clear hq2
      --@region 33 7 app7.spec
      refine wp_region_run (by kernel_rfl) (by kernel_rfl) ?_
      apply RunL.pure
      · intro vs w hb hd; clear hd; have hx1 := cellB hb HD.out; simp only [List.take, putL, Act.put, List.setIfInBounds_toArray, List.set_cons_zero, List.set_cons_succ]; unfold StepOK; go_simp; exact ⟨Below.refl _ _, isV_mk _ _⟩
      refine RunL.such (isV (.int .i64 (us : Int))) (isV_stable _) ?_ ?_
      · intro vs w hb hd; have d0 : isV _ (vs 0) w := hd 0 (by decide) (by kernel_rfl); unfold isV at d0; clear hd; have hx1 := H.out.below hb; simp only [List.take, putL, Act.put, List.setIfInBounds_toArray, List.set_cons_zero, List.set_cons_succ]; unfold StepOK; go_simp; exact ⟨Below.refl _ _, such_of_bool (by rw [HU.out]; exact Used_any ⟨_, _, _, hx1⟩)⟩
      apply RunL.pure
      · intro vs w hb hd; clear hd; have hx1 := cellB hb HB.out; simp only [List.take, putL, Act.put, List.setIfInBounds_toArray, List.set_cons_zero, List.set_cons_succ]; unfold StepOK; go_simp; exact ⟨Below.refl _ _, isV_mk _ _⟩
      apply RunL.pure
      · intro vs w hb hd; have d2 : isV _ (vs 2) w := hd 2 (by decide) (by kernel_rfl); unfold isV at d2; clear hd; simp only [List.take, putL, Act.put, List.setIfInBounds_toArray, List.set_cons_zero, List.set_cons_succ]; unfold StepOK; go_simp; exact ⟨Below.refl _ _, isV_mk _ _⟩
      apply RunL.pure
      · intro vs w hb hd; have d1 := hd 1 (by decide) (by kernel_rfl); simp only [TR, Nat.reduceAdd, Nat.reduceSub, List.getD_cons_zero, List.getD_cons_succ] at d1; have d3 : isV _ (vs 3) w := hd 3 (by decide) (by kernel_rfl); unfold isV at d3; clear hd; unfold isV at d1; have hx1 := hwu; simp only [List.take, putL, Act.put, List.setIfInBounds_toArray, List.set_cons_zero, List.set_cons_succ]; unfold StepOK; go_simp; exact ⟨Below.refl _ _, isV_mk _ _⟩
      apply RunL.pure
      · intro vs w hb hd; clear hd; have hx1 := cellB hb HD.out; simp only [List.take, putL, Act.put, List.setIfInBounds_toArray, List.set_cons_zero, List.set_cons_succ]; unfold StepOK; go_simp; exact ⟨Below.refl _ _, isV_mk _ _⟩
      apply RunL.pure
      · intro vs w hb hd; have d5 : isV _ (vs 5) w := hd 5 (by decide) (by kernel_rfl); unfold isV at d5; clear hd; simp only [List.take, putL, Act.put, List.setIfInBounds_toArray, List.set_cons_zero, List.set_cons_succ]; unfold StepOK; go_simp; exact ⟨Below.refl _ _, isV_mk _ _⟩
      apply RunL.pure
      · intro vs w hb hd; have d6 : isV _ (vs 6) w := hd 6 (by decide) (by kernel_rfl); unfold isV at d6; clear hd; simp only [List.take, putL, Act.put, List.setIfInBounds_toArray, List.set_cons_zero, List.set_cons_succ]; unfold StepOK; go_simp; exact ⟨Below.refl _ _, isV_mk _ _⟩
      apply RunL.pure
      · intro vs w hb hd; have d7 : isV _ (vs 7) w := hd 7 (by decide) (by kernel_rfl); unfold isV at d7; clear hd; have hx1 := HRMc.out w hb; simp only [List.take, putL, Act.put, List.setIfInBounds_toArray, List.set_cons_zero, List.set_cons_succ]; unfold StepOK; go_simp; exact ⟨Below.refl _ _, isV_mk _ _⟩
      refine RunL.such (isV (.bool q1)) (isV_stable _) ?_ ?_
      · intro vs w hb hd; have d4 : isV _ (vs 4) w := hd 4 (by decide) (by kernel_rfl); unfold isV at d4; have d8 : isV _ (vs 8) w := hd 8 (by decide) (by kernel_rfl); unfold isV at d8; clear hd; simp only [List.take, putL, Act.put, List.setIfInBounds_toArray, List.set_cons_zero, List.set_cons_succ]; unfold StepOK; go_simp; exact ⟨Below.refl _ _, by rw [← HQ1.out]; exact isV_mk _ _⟩
      apply RunL.pure
      · intro vs w hb hd; have d1 := hd 1 (by decide) (by kernel_rfl); simp only [TR, Nat.reduceAdd, Nat.reduceSub, List.getD_cons_zero, List.getD_cons_succ] at d1; have d9 := hd 9 (by decide) (by kernel_rfl); simp only [TR, Nat.reduceAdd, Nat.reduceSub, List.getD_cons_zero, List.getD_cons_succ] at d9; clear hd; unfold isV at d9; simp only [List.take, putL, Act.put, List.setIfInBounds_toArray, List.set_cons_zero, List.set_cons_succ]; unfold StepOK; go_simp; exact ⟨Below.refl _ _, isV_mk _ _⟩
      refine RunL.such (fun v _ => q1 = false → v = .bool th) (fun _ _ _ _ h => h) ?_ ?_
      · intro vs w hb hd; have d10 : isV _ (vs 10) w := hd 10 (by decide) (by kernel_rfl); unfold isV at d10; clear hd; have hx1 := cellB hb HOK.out; cases q1 <;> (simp only [List.take, putL, Act.put, List.setIfInBounds_toArray, List.set_cons_zero, List.set_cons_succ]; unfold StepOK; go_simp) <;> first | exact ⟨Below.refl _ _, fun _ => rfl⟩ | exact ⟨Below.refl _ _, fun _ _ => rfl⟩ | exact ⟨Below.refl _ _, rfl⟩ | exact Below.refl _ _ | exact (fun h => by cases h) | exact (fun _ h => by cases h)
      refine RunL.such (fun v _ => q1 = false → v = .bool (!th)) (fun _ _ _ _ h => h) ?_ ?_
      · intro vs w hb hd; have d10 : isV _ (vs 10) w := hd 10 (by decide) (by kernel_rfl); unfold isV at d10; have d11 := hd 11 (by decide) (by kernel_rfl); simp only [TR, Nat.reduceAdd, Nat.reduceSub, List.getD_cons_zero, List.getD_cons_succ] at d11; clear hd; cases q1 <;> (try have d11 := d11 rfl) <;> (simp only [List.take, putL, Act.put, List.setIfInBounds_toArray, List.set_cons_zero, List.set_cons_succ]; unfold StepOK; go_simp) <;> first | exact ⟨Below.refl _ _, fun _ => rfl⟩ | exact ⟨Below.refl _ _, fun _ _ => rfl⟩ | exact ⟨Below.refl _ _, rfl⟩ | exact Below.refl _ _ | exact (fun h => by cases h) | exact (fun _ h => by cases h)
      refine RunL.such (fun v _ => if q1 = false then v = .bool (!th) else v = undef) (fun _ _ _ _ h => h) ?_ ?_
      · intro vs w hb hd; have d10 : isV _ (vs 10) w := hd 10 (by decide) (by kernel_rfl); unfold isV at d10; have d12 := hd 12 (by decide) (by kernel_rfl); simp only [TR, Nat.reduceAdd, Nat.reduceSub, List.getD_cons_zero, List.getD_cons_succ] at d12; clear hd; cases q1 <;> (try have d12 := d12 rfl) <;> (simp only [List.take, putL, Act.put, List.setIfInBounds_toArray, List.set_cons_zero, List.set_cons_succ]; unfold StepOK; go_simp) <;> first | exact ⟨Below.refl _ _, fun _ => rfl⟩ | exact ⟨Below.refl _ _, fun _ _ => rfl⟩ | exact ⟨Below.refl _ _, rfl⟩ | exact Below.refl _ _ | exact (fun h => by cases h) | exact (fun _ h => by cases h)
      refine RunL.such (fun v _ => q1 = false → th = false → v = .pointer (some ⟨p, 0, none⟩)) (fun _ _ _ _ h => h) ?_ ?_
      · intro vs w hb hd; have d13 := hd 13 (by decide) (by kernel_rfl); simp only [TR, Nat.reduceAdd, Nat.reduceSub, List.getD_cons_zero, List.getD_cons_succ] at d13; clear hd; have hx1 := cellB hb HD.out; cases q1 <;> cases th <;> (simp at d13) <;> (simp only [List.take, putL, Act.put, List.setIfInBounds_toArray, List.set_cons_zero, List.set_cons_succ]; unfold StepOK; go_simp) <;> first | exact ⟨Below.refl _ _, fun _ => rfl⟩ | exact ⟨Below.refl _ _, fun _ _ => rfl⟩ | exact ⟨Below.refl _ _, rfl⟩ | exact Below.refl _ _ | exact (fun h => by cases h) | exact (fun _ h => by cases h)
      refine RunL.such (fun v _ => q1 = false → th = false → v = .pointer (some ⟨p, 0, none⟩)) (fun _ _ _ _ h => h) ?_ ?_
      · intro vs w hb hd; have d13 := hd 13 (by decide) (by kernel_rfl); simp only [TR, Nat.reduceAdd, Nat.reduceSub, List.getD_cons_zero, List.getD_cons_succ] at d13; have d14 := hd 14 (by decide) (by kernel_rfl); simp only [TR, Nat.reduceAdd, Nat.reduceSub, List.getD_cons_zero, List.getD_cons_succ] at d14; clear hd; cases q1 <;> cases th <;> (simp at d13) <;> (try have d14 := d14 rfl rfl) <;> (simp only [List.take, putL, Act.put, List.setIfInBounds_toArray, List.set_cons_zero, List.set_cons_succ]; unfold StepOK; go_simp) <;> first | exact ⟨Below.refl _ _, fun _ => rfl⟩ | exact ⟨Below.refl _ _, fun _ _ => rfl⟩ | exact ⟨Below.refl _ _, rfl⟩ | exact Below.refl _ _ | exact (fun h => by cases h) | exact (fun _ h => by cases h)
      refine RunL.such (fun v _ => q1 = false → th = false → v = .pointer (some ⟨p, 0, none⟩)) (fun _ _ _ _ h => h) ?_ ?_
      · intro vs w hb hd; have d13 := hd 13 (by decide) (by kernel_rfl); simp only [TR, Nat.reduceAdd, Nat.reduceSub, List.getD_cons_zero, List.getD_cons_succ] at d13; have d15 := hd 15 (by decide) (by kernel_rfl); simp only [TR, Nat.reduceAdd, Nat.reduceSub, List.getD_cons_zero, List.getD_cons_succ] at d15; clear hd; cases q1 <;> cases th <;> (simp at d13) <;> (try have d15 := d15 rfl rfl) <;> (simp only [List.take, putL, Act.put, List.setIfInBounds_toArray, List.set_cons_zero, List.set_cons_succ]; unfold StepOK; go_simp) <;> first | exact ⟨Below.refl _ _, fun _ => rfl⟩ | exact ⟨Below.refl _ _, fun _ _ => rfl⟩ | exact ⟨Below.refl _ _, rfl⟩ | exact Below.refl _ _ | exact (fun h => by cases h) | exact (fun _ h => by cases h)
      refine RunL.such (fun v _ => q1 = false → th = false → v = .slice R es.length c) (fun _ _ _ _ h => h) ?_ ?_
      · intro vs w hb hd; have d13 := hd 13 (by decide) (by kernel_rfl); simp only [TR, Nat.reduceAdd, Nat.reduceSub, List.getD_cons_zero, List.getD_cons_succ] at d13; have d16 := hd 16 (by decide) (by kernel_rfl); simp only [TR, Nat.reduceAdd, Nat.reduceSub, List.getD_cons_zero, List.getD_cons_succ] at d16; clear hd; have hx1 := (H.out.below hb).cell.1; cases q1 <;> cases th <;> (simp at d13) <;> (try have d16 := d16 rfl rfl) <;> (simp only [List.take, putL, Act.put, List.setIfInBounds_toArray, List.set_cons_zero, List.set_cons_succ]; unfold StepOK; go_simp) <;> first | exact ⟨Below.refl _ _, fun _ => rfl⟩ | exact ⟨Below.refl _ _, fun _ _ => rfl⟩ | exact ⟨Below.refl _ _, rfl⟩ | exact Below.refl _ _ | exact (fun h => by cases h) | exact (fun _ h => by cases h)
      refine RunL.such (fun v _ => q1 = false → th = false → v = .int .i64 (es.length : Int)) (fun _ _ _ _ h => h) ?_ ?_
      · intro vs w hb hd; have d13 := hd 13 (by decide) (by kernel_rfl); simp only [TR, Nat.reduceAdd, Nat.reduceSub, List.getD_cons_zero, List.getD_cons_succ] at d13; have d17 := hd 17 (by decide) (by kernel_rfl); simp only [TR, Nat.reduceAdd, Nat.reduceSub, List.getD_cons_zero, List.getD_cons_succ] at d17; clear hd; cases q1 <;> cases th <;> (simp at d13) <;> (try have d17 := d17 rfl rfl) <;> (simp only [List.take, putL, Act.put, List.setIfInBounds_toArray, List.set_cons_zero, List.set_cons_succ]; unfold StepOK; go_simp) <;> first | exact ⟨Below.refl _ _, fun _ => rfl⟩ | exact ⟨Below.refl _ _, fun _ _ => rfl⟩ | exact ⟨Below.refl _ _, rfl⟩ | exact Below.refl _ _ | exact (fun h => by cases h) | exact (fun _ h => by cases h)
      refine RunL.such (fun v _ => q1 = false → th = false → v = .bool q2) (fun _ _ _ _ h => h) ?_ ?_
      · intro vs w hb hd; have d13 := hd 13 (by decide) (by kernel_rfl); simp only [TR, Nat.reduceAdd, Nat.reduceSub, List.getD_cons_zero, List.getD_cons_succ] at d13; have d18 := hd 18 (by decide) (by kernel_rfl); simp only [TR, Nat.reduceAdd, Nat.reduceSub, List.getD_cons_zero, List.getD_cons_succ] at d18; clear hd; cases q1 <;> cases th <;> (simp at d13) <;> (try have d18 := d18 rfl rfl) <;> (simp only [List.take, putL, Act.put, List.setIfInBounds_toArray, List.set_cons_zero, List.set_cons_succ]; unfold StepOK; go_simp) <;> first | exact ⟨Below.refl _ _, HQ2.out⟩ | exact ⟨Below.refl _ _, fun _ _ => by rw [HQ2.out]⟩ | exact (fun h => by cases h) | exact (fun _ h => by cases h)
      refine RunL.such (fun v _ => q1 = false → v = .bool (!th && q2)) (fun _ _ _ _ h => h) ?_ ?_
      · intro vs w hb hd; have d10 : isV _ (vs 10) w := hd 10 (by decide) (by kernel_rfl); unfold isV at d10; have d13 := hd 13 (by decide) (by kernel_rfl); simp only [TR, Nat.reduceAdd, Nat.reduceSub, List.getD_cons_zero, List.getD_cons_succ] at d13; have d19 := hd 19 (by decide) (by kernel_rfl); simp only [TR, Nat.reduceAdd, Nat.reduceSub, List.getD_cons_zero, List.getD_cons_succ] at d19; clear hd; cases q1 <;> cases th <;> (simp at d13) <;> (try have d19 := d19 rfl rfl) <;> (simp only [List.take, putL, Act.put, List.setIfInBounds_toArray, List.set_cons_zero, List.set_cons_succ]; unfold StepOK; go_simp) <;> first | exact ⟨Below.refl _ _, fun _ => rfl⟩ | exact ⟨Below.refl _ _, fun _ _ => rfl⟩ | exact ⟨Below.refl _ _, rfl⟩ | exact Below.refl _ _ | exact (fun h => by cases h) | exact (fun _ h => by cases h)
      refine RunL.such (isV (.bool (q1 || (!th && q2)))) (isV_stable _) ?_ ?_
      · intro vs w hb hd; have d10 : isV _ (vs 10) w := hd 10 (by decide) (by kernel_rfl); unfold isV at d10; have d20 := hd 20 (by decide) (by kernel_rfl); simp only [TR, Nat.reduceAdd, Nat.reduceSub, List.getD_cons_zero, List.getD_cons_succ] at d20; clear hd; cases q1 <;> (try have d20 := d20 rfl) <;> (simp only [List.take, putL, Act.put, List.setIfInBounds_toArray, List.set_cons_zero, List.set_cons_succ]; unfold StepOK; go_simp) <;> first | exact ⟨Below.refl _ _, fun _ => rfl⟩ | exact ⟨Below.refl _ _, fun _ _ => rfl⟩ | exact ⟨Below.refl _ _, rfl⟩ | exact Below.refl _ _ | exact (fun h => by cases h) | exact (fun _ h => by cases h)
      intro vs w1 hb hd
      have e0 : isV _ (vs 0) w1 := hd 0 (by decide)
      have e1 := hd 1 (by decide); simp only [TR, Nat.reduceAdd, Nat.reduceSub, List.getD_cons_zero, List.getD_cons_succ] at e1
      have e2 : isV _ (vs 2) w1 := hd 2 (by decide)
      have e3 : isV _ (vs 3) w1 := hd 3 (by decide)
      have e4 : isV _ (vs 4) w1 := hd 4 (by decide)
      have e5 : isV _ (vs 5) w1 := hd 5 (by decide)
      have e6 : isV _ (vs 6) w1 := hd 6 (by decide)
      have e7 : isV _ (vs 7) w1 := hd 7 (by decide)
      have e8 : isV _ (vs 8) w1 := hd 8 (by decide)
      have e9 := hd 9 (by decide); simp only [TR, Nat.reduceAdd, Nat.reduceSub, List.getD_cons_zero, List.getD_cons_succ] at e9
      have e10 : isV _ (vs 10) w1 := hd 10 (by decide)
      have e11 := hd 11 (by decide); simp only [TR, Nat.reduceAdd, Nat.reduceSub, List.getD_cons_zero, List.getD_cons_succ] at e11
      have e12 := hd 12 (by decide); simp only [TR, Nat.reduceAdd, Nat.reduceSub, List.getD_cons_zero, List.getD_cons_succ] at e12
      have e13 := hd 13 (by decide); simp only [TR, Nat.reduceAdd, Nat.reduceSub, List.getD_cons_zero, List.getD_cons_succ] at e13
      have e14 := hd 14 (by decide); simp only [TR, Nat.reduceAdd, Nat.reduceSub, List.getD_cons_zero, List.getD_cons_succ] at e14
      have e15 := hd 15 (by decide); simp only [TR, Nat.reduceAdd, Nat.reduceSub, List.getD_cons_zero, List.getD_cons_succ] at e15
      have e16 := hd 16 (by decide); simp only [TR, Nat.reduceAdd, Nat.reduceSub, List.getD_cons_zero, List.getD_cons_succ] at e16
      have e17 := hd 17 (by decide); simp only [TR, Nat.reduceAdd, Nat.reduceSub, List.getD_cons_zero, List.getD_cons_succ] at e17
      have e18 := hd 18 (by decide); simp only [TR, Nat.reduceAdd, Nat.reduceSub, List.getD_cons_zero, List.getD_cons_succ] at e18
      have e19 := hd 19 (by decide); simp only [TR, Nat.reduceAdd, Nat.reduceSub, List.getD_cons_zero, List.getD_cons_succ] at e19
      have e20 := hd 20 (by decide); simp only [TR, Nat.reduceAdd, Nat.reduceSub, List.getD_cons_zero, List.getD_cons_succ] at e20
      have e21 := hd 21 (by decide); simp only [TR, Nat.reduceAdd, Nat.reduceSub, List.getD_cons_zero, List.getD_cons_succ] at e21
      clear hd
      unfold isV at e0 e2 e3 e4 e5 e6 e7 e8 e10
      simp only [putL, Act.put, List.setIfInBounds_toArray, List.set_cons_zero, List.set_cons_succ, e0, e2, e3, e4, e5, e6, e7, e8, e10]
      clear e0 e2 e3 e4 e5 e6 e7 e8 e10
      --@end
      unfold isV at e1 e9 e21
      simp only [Nat.reduceAdd, e1, e9, e21]
      have Hb3 := Lib.hid (Hb2.out.trans (hb.mono Hb2.out.size))
      have HD3 := Lib.hid (cellB hb HD.out)
      have HN3 := Lib.hid (cellB hb HN2.out)
      have HB3 := Lib.hid (cellB hb HB.out)
      have HI3 := Lib.hid (cellB hb HI2.out)
      have HOK3 := Lib.hid (cellB hb HOK.out)
      have H3 := Lib.hid (H.out.below hb)
      have HsB3 := Lib.hid (HsB2.out.below hb)
      clear e1 e9 e21 hb HD HB H HN2 HI2 HOK HsB2 Hb2 e11 e12 e13 e14 e15 e16 e17 e18 e19 e20 HRMc
      have hfull : (q1 || (!th && q2)) = true ↔ D.room < (usedF D.fs : Int) + bs.length ∨ (thereF D.fs nm = false ∧ D.fs.length = 200) := by
        rw [← HQ1.out, ← HQ2.out, ← HRM.out, ← HU.out, Hbl.out, ← Hth2.out, ← hesl.out]
        simp only [Bool.or_eq_true, decide_eq_true_eq, Bool.and_eq_true, Bool.not_eq_true', beq_iff_eq]
        constructor
        · rintro (h | ⟨h1, h2⟩)
          · exact .inl h
          · exact .inr ⟨h1, by omega⟩
        · rintro (h | ⟨h1, h2⟩)
          · exact .inl h
          · exact .inr ⟨h1, by omega⟩
      cases hr : (q1 || (!th && q2)) with
      | true =>
        have HA := Lib.hid (append_full (nm := nm) (bs := bs) HDK.out HNN.out (hfull.1 hr))
        clear hfull
        go_wp2_with fail
        go_ret
        rw [HA.out]
        exact ⟨rfl, Same.out _ (Hb3.out.mono (by have := HS.out; omega))⟩
      | false =>
        have hnf : ¬ (D.room < (usedF D.fs : Int) + bs.length ∨ (thereF D.fs nm = false ∧ D.fs.length = 200)) := fun h => by rw [hfull.2 h] at hr; cases hr
        have HA := Lib.hid (append_deed (nm := nm) (bs := bs) HDK.out HNN.out hnf)
        have Hnf := Lib.hid hnf
        have hdb := HD3.out
        clear hfull hnf
        go_wp2_with fail
        have hpF := H3.out.fp
        have np : ∀ q, ¬ F q → q ≠ p := fun q h1 e2 => h1 (by rw [e2]; exact hpF)
        obtain ⟨d1, d2, d3, d4, d5⟩ := Hdif.out
        have hk1 := H3.out
        refine (deed_any hk1 37 #[.pointer (some ⟨g4, 0, none⟩), .pointer (some ⟨W.heap.size, 0, none⟩), .pointer (some ⟨g3, 0, none⟩), .pointer (some ⟨W.heap.size + 1, 0, none⟩), .pointer (some ⟨W.heap.size + 1 + 1, 0, none⟩)] (fun w' => ∃ F', DkIs w' base p { burnt D with fs := appF D.fs nm bs } F' ∧ Cg F F' w1 w') ent_app1 (fun w4 h4 hg4 hf0 => ?_)).mono ?_
        · have x1 := cellG hg4 HOK3.out (np _ d5)
          have x2 := cellG hg4 HD3.out (np _ d1)
          have x3 := cellG hg4 HI3.out (np _ d4)
          have x4 := cellG hg4 HN3.out (np _ d2)
          have x5 := cellG hg4 HB3.out (np _ d3)
          have x6 : Sl w4 1 B n2 c2 (bytesV bs) := by
            by_cases h0 : n2 = 0
            · subst h0
              have hn : bs = [] := List.eq_nil_of_length_eq_zero HsB3.out.blen
              subst hn
              exact ⟨fun j u hj => by simp [bytesV] at hj, rfl, HsB3.out.le, HsB3.out.none⟩
            · refine sl_same HsB3.out (fun a ha => ?_)
              subst ha
              obtain ⟨x, hx⟩ := get_some bs 0 (by have := Hbl.out; omega)
              obtain ⟨ad, h1, h2⟩ := HsB3.out.byteAt hx
              cases h1
              have := World.block_lt_of_cell? _ _ h2
              rw [add_block] at this
              exact hg4.block _ this (fun e2 => np _ (hBF a rfl (by rintro rfl; simp at hx)) (Option.some.inj e2))
          have hnf := Hnf.out
          have hrm4 : ((usedF (burnt D).fs : Int) + bs.length ≤ (burnt D).room) := by
            show ((usedF D.fs : Int) + bs.length ≤ D.room)
            omega
          cases hth4 : th with
          | true =>
            rw [hth4] at x1
            have ht := Hth2.out
            rw [hth4] at ht
            obtain ⟨f, hf, hfn⟩ := there_true ht.symm
            rw [← Hps2.out] at hf
            obtain ⟨e, he, hef⟩ : ∃ e, es[ps]? = some e ∧ e.f = f := by
              rw [← H3.out.fs, List.getElem?_map, Option.map_eq_some_iff] at hf
              exact hf
            subst hef
            refine (app1b_any h4 (nb := W.heap.size + 1) (nm := nm) he x1 x2 x3 x5 d1 d4 d3 x6 hBF hrm4).mono fun x w' ⟨k1, F', k2, k3⟩ => ⟨k1, F', ?_, (Cg.grown hg4 hpF).trans k3⟩
            rw [appF_there ht.symm (by rw [← Hps2.out]; exact hf), ← Hps2.out]
            exact k2
          | false =>
            rw [hth4] at x1
            have ht := Hth2.out
            rw [hth4] at ht
            have hlt : D.fs.length < 200 := by
              have := H3.out.good.few
              rcases Nat.lt_or_ge D.fs.length 200 with h | h
              · exact h
              · exact absurd (.inr ⟨ht.symm, by omega⟩) hnf
            refine (app1n_any h4 (nm := nm) ht.symm Hps2.out.symm x1 x2 x3 x4 x5 d1 d4 d2 d3 x6 hBF hrm4 hlt (named_len HNN.out)).mono fun x w' ⟨k1, F', k2, k3⟩ => ⟨k1, F', ?_, (Cg.grown hg4 hpF).trans k3⟩
            rw [appF_not ht.symm, ← Hps2.out]
            exact k2
        · rintro x w5 hx
          have hcW : Cg F F W w1 := Cg.below (Hb03.out.trans (Hb3.out.mono (by have := HS.out; omega)))
          by_cases hf0 : D.fuse = 0
          · rw [if_pos hf0] at hx
            obtain ⟨rfl, h6, hg6⟩ := hx
            have hA2 : appendD D nm bs = (15, darkD D) := by rw [HA.out]; unfold deedD; rw [if_pos hf0]
            have HA2 := Lib.hid hA2
            have H6 := Lib.hid h6
            have HG6 := Lib.hid (hcW.trans (Cg.grown hg6 hpF))
            clear h6 hg6 hf0 hA2 hcW np hpF hk1 hdb
            go_wp2_with fail
            go_ret
            rw [HA2.out]
            exact ⟨rfl, F, ⟨_, _, _, H6.out⟩, HG6.out⟩
          · rw [if_neg hf0] at hx
            obtain ⟨rfl, F', h6, h7⟩ := hx
            have hA2 : appendD D nm bs = (0, { burnt D with fs := appF D.fs nm bs }) := by rw [HA.out]; unfold deedD; rw [if_neg hf0]; rfl
            have HA2 := Lib.hid hA2
            have H6 := Lib.hid h6
            have HG6 := Lib.hid (hcW.trans h7)
            clear h6 h7 hf0 hA2 hcW np hpF hk1 hdb
            go_wp2_with fail
            go_ret
            rw [HA2.out]
            exact ⟨rfl, F', H6.out, HG6.out⟩
end
end Go.Proofs.YtemegkapmgcffaaGreat

/- The disk: Crash. -/
namespace Go.Proofs.YtemegkapmgcffaaGreat
open Go.RowKit
set_option linter.unusedSimpArgs false
set_option linter.unusedVariables false

def isLf (B : Nat) (f : Fl) (v : Value) (w : World) : Prop := ∃ A c, v = .agg #[.string (bstr f.nm), .slice A f.b.length c, .int .i64 f.safe] ∧ Own B 5 1 w A f.b.length c (bytesV f.b)
theorem isLf_elim {B : Nat} {f : Fl} {v : Value} {w : World} (h : isLf B f v w) : ∃ A c, v = .agg #[.string (bstr f.nm), .slice A f.b.length c, .int .i64 f.safe] ∧ Own B 5 1 w A f.b.length c (bytesV f.b) := h
theorem isLf_stable (B : Nat) (f : Fl) : Stable (isLf B f) := fun _ _ _ hb ⟨A, c, h1, h2⟩ => ⟨A, c, h1, h2.below hb⟩
theorem left_nm (f : Fl) (k t : Int) : (leftF f k t).nm = f.nm := rfl
theorem left_le (f : Fl) (k t : Int) (h : f.safe ≤ f.b.length) : (leftF f k t).b.length ≤ f.b.length ∧ (leftF f k t).safe = (leftF f k t).b.length := by
  unfold leftF
  simp only [List.length_append, List.length_take, List.length_replicate]
  omega
theorem left_such {B c : Nat} {f : Fl} {A : Option Addr} {keep tear : Nat} {w : World} (hB : B ≤ w.heap.size) (hs : Sl w 1 A f.b.length c (bytesV f.b)) (hl : f.b.length ≤ 16777216) (hsf : f.safe ≤ f.b.length) (hk : (keep : Int) ≤ 9223372036854775807) (ht : (tear : Int) ≤ 9223372036854775807) :
    Calls Tryz.prog 51 #[.agg #[.string (bstr f.nm), .slice A f.b.length c, .int .i64 f.safe], .int .i64 keep, .int .i64 tear] w fun x w' => ∃ v, x = .returned v ∧ Below w.heap.size w w' ∧ isLf B (leftF f keep tear) v w' :=
  (left_any f A c keep tear w hs hl hsf hk ht).mono fun x w' ⟨A', c', h1, h2, h3⟩ => ⟨_, h1, h3, A', c', rfl, Own.lower h2 hB⟩
def mixF (fs : List Fl) (ks ts : List Int) (i : Nat) : List Fl := fs.mapIdx fun j f => if j < i then leftF f (toldI ks j) (toldI ts j) else f
def mixD (D : Dk) (ks ts : List Int) (i : Nat) : Dk := { D with fs := mixF D.fs ks ts i }
theorem mix_zero (D : Dk) (ks ts : List Int) : mixD D ks ts 0 = D := by
  unfold mixD mixF
  have : D.fs.mapIdx (fun j f => if j < 0 then leftF f (toldI ks j) (toldI ts j) else f) = D.fs := by
    apply List.ext_getElem
    · simp
    · intro i h1 h2; simp
  rw [this]
theorem mix_get {fs : List Fl} {ks ts : List Int} {i : Nat} : (mixF fs ks ts i)[i]? = fs[i]? := by
  unfold mixF
  rw [List.getElem?_mapIdx]
  cases fs[i]? <;> simp
theorem mix_succ {fs : List Fl} {ks ts : List Int} {i : Nat} {f : Fl} (h : fs[i]? = some f) : mixF fs ks ts (i + 1) = (mixF fs ks ts i).set i (leftF f (toldI ks i) (toldI ts i)) := by
  have hi := (List.getElem?_eq_some_iff.1 h).1
  have hf := (List.getElem?_eq_some_iff.1 h).2
  unfold mixF
  apply List.ext_getElem
  · simp
  · intro j h1 h2
    simp only [List.length_mapIdx] at h1
    rw [List.getElem_set]
    simp only [List.getElem_mapIdx]
    by_cases he : i = j
    · subst he
      rw [if_pos (by omega), if_pos rfl, hf]
    · rw [if_neg he]
      by_cases hj : j < i
      · rw [if_pos (by omega), if_pos hj]
      · rw [if_neg (by omega), if_neg hj]
theorem mix_all (D : Dk) (ks ts : List Int) : mixF D.fs ks ts D.fs.length = crashF D.fs ks ts := by
  unfold mixF crashF
  apply List.ext_getElem
  · simp
  · intro j h1 h2
    simp only [List.length_mapIdx] at h1
    simp [h1]
theorem told_nat (l : List Int) (i : Nat) (hb : ∀ x, x ∈ l → x ≤ 9223372036854775807) : ∃ k : Nat, toldI l i = (k : Int) ∧ (k : Int) ≤ 9223372036854775807 := by
  have h0 : 0 ≤ toldI l i := by
    unfold toldI
    split
    · split <;> omega
    · omega
  have h1 : toldI l i ≤ 9223372036854775807 := by
    unfold toldI
    split
    · rename_i x hx
      have := hb x (List.mem_of_getElem? hx)
      split <;> omega
    · omega
  exact ⟨(toldI l i).toNat, by omega, by omega⟩
section
variable {W : World} {base p : Nat} {D : Dk} {F : Nat → Prop} {R : Option Addr} {c : Nat} {es : List FE}
/-- a file of the row gets other bytes -/
theorem DI.newfile {w w' : World} {k g : Nat} {e : FE} {f' : Fl} {A' : Option Addr} {c' B : Nat} (h : DI w base p D F (some ⟨g, 0, none⟩) c es) (he : es[k]? = some e) (ho : Own B 5 1 w A' f'.b.length c' (bytesV f'.b)) (hFB : ∀ q, F q → q < B) (hB : base ≤ B)
    (hg : w.grownBy w' (some g)) (hrow : Own base 79 3 w' (some ⟨g, 0, none⟩) es.length c (flatFE (es.set k ⟨f', A', c'⟩))) (hgd : Good { D with fs := D.fs.set k f' }) :
    ∃ F', DI w' base p { D with fs := D.fs.set k f' } F' (some ⟨g, 0, none⟩) c (es.set k ⟨f', A', c'⟩) ∧ ∀ q, F' q → F q ∨ B ≤ q := by
  have hpB := hFB p h.fp
  have hgB := hFB g (h.fr _ rfl).1
  have hw := h.widen (F' := fun q => F q ∨ ∃ a, A' = some a ∧ q = a.block) (fun q hq => .inl hq) (fun q hq => by
    rcases hq with hq | ⟨a, ha, rfl⟩
    · exact h.bound q hq
    · have := own_lt ho a ha; omega)
  have hfin := hw.rowed (e' := ⟨f', A', c'⟩) rfl he hg hrow hgd ⟨(own_same ho (fun a ha => hg.block _ (own_lt ho a ha).2 (fun e2 => by have := (own_lt ho a ha).1; have := Option.some.inj e2; omega))).sl, fun a ha => ⟨.inr ⟨a, ha, rfl⟩, by have := (own_lt ho a ha).1; omega, by have := (own_lt ho a ha).1; omega⟩⟩
  refine ⟨_, hfin.1, fun q hq => ?_⟩
  rcases hq with hq | ⟨a, ha, rfl⟩
  · exact .inl hq
  · exact .inr (own_lt ho a ha).1
set_option maxRecDepth 100000 in
set_option maxHeartbeats 8000000 in
theorem Crash_any (h : DkIs W base p D F) {K1 K2 : Option Addr} {n1 c1 n2 c2 : Nat} {ks ts : List Int} (s1 : Sl W 1 K1 n1 c1 (ks.map fun x => .int .i64 x)) (s2 : Sl W 1 K2 n2 c2 (ts.map fun x => .int .i64 x)) (h1F : ∀ a, K1 = some a → ks ≠ [] → ¬ F a.block) (h2F : ∀ a, K2 = some a → ts ≠ [] → ¬ F a.block)
    (hn1 : n1 ≤ 9223372036854775807) (hn2 : n2 ≤ 9223372036854775807) (hk1 : ∀ x, x ∈ ks → x ≤ 9223372036854775807) (hk2 : ∀ x, x ∈ ts → x ≤ 9223372036854775807) :
    Calls Tryz.prog 14 #[.pointer (some ⟨p, 0, none⟩), .slice K1 n1 c1, .slice K2 n2 c2] W fun x w' => x = .returned (.tuple #[]) ∧ ∃ F', DkIs w' base p (crashD D ks ts) F' ∧ Cg F F' W w' := by
  obtain ⟨R, c, es, h⟩ := h
  have H := Lib.hid h
  have hl200 := h.len
  have hc0 := h.cell.1
  have hes := Lib.hid (show es.length = D.fs.length by rw [← h.fs, List.length_map])
  have S01 := Lib.hid s1
  have S02 := Lib.hid s2
  have HK1 := Lib.hid hk1
  have HK2 := Lib.hid hk2
  have H1F := Lib.hid h1F
  have H2F := Lib.hid h2F
  clear s1 s2 h hk1 hk2 h1F h2F
  go_enter Tryz.func14, Tryz.ntmps14
  go_wp2_with fail
  refine (made_any H.out).mono ?_; rintro e w1 ⟨rfl, rfl⟩
  go_wp2_with fail
  go_loopw [16] (fun s16 wx => ∃ (i : Nat) (Fi : Nat → Prop) (ei : List FE), i ≤ es.length ∧ s16 = .int .i64 (i : Int) ∧ Hid (DI wx base p (mixD D ks ts i) Fi R c ei) ∧ Hid (Cg F Fi W wx) ∧ Hid (ei.length = es.length)) (fun iv _ => es.length - (intOf iv).toNat)
  case atStart => exact ⟨0, F, es, by omega, rfl, Lib.hid (by rw [mix_zero]; exact H.out), Lib.hid (Cg.below (Below.refl _ _)), Lib.hid rfl⟩
  case round =>
    obtain ⟨i, Fi, ei, hi, rfl, HI, HC, HL⟩ := hrel
    by_cases hin : (i : Int) < (es.length : Int)
    · obtain ⟨e, he⟩ := get_some ei i (by have := HL.out; omega)
      obtain ⟨g, rfl⟩ := rowAddr HI.out he
      obtain ⟨y0, y1, y2⟩ := slFE_three HI.out.row.sl he
      rw [add_plain] at y0 y1 y2
      simp only [] at y1 y2
      have hii : (0 : Int) ≤ (i : Int) ∧ (i : Int) < (es.length : Int) := by omega
      have hi200 : i < 200 := by omega
      have HE := Lib.hid he
      have hb3 := below_alloc1 wr (.cells #[.string (bstr e.f.nm), .slice e.A e.f.b.length e.c, .int .i64 e.f.safe] 79)
      obtain ⟨z0, z1, z2⟩ := box_cells3 wr (.string (bstr e.f.nm)) (.slice e.A e.f.b.length e.c) (.int .i64 e.f.safe) 79
      obtain ⟨w3, hw3⟩ : ∃ w3, w3 = wr.alloc (.cells #[.string (bstr e.f.nm), .slice e.A e.f.b.length e.c, .int .i64 e.f.safe] 79) := ⟨_, rfl⟩
      rw [← hw3] at hb3 z0 z1 z2
      have Z0 := Lib.hid z0
      have Z1 := Lib.hid z1
      have Z2 := Lib.hid z2
      have Hw3 := Lib.hid hw3
      have Hb3 := Lib.hid hb3
      have H1 := Lib.hid (show DI w3 base p (mixD D ks ts i) Fi (some ⟨g, 0, none⟩) c ei from HI.out.below hb3)
      have hC3 : Cg F Fi W w3 := HC.out.trans (Cg.below hb3)
      have HC3 := Lib.hid hC3
      have kept : ∀ {A : Option Addr} {n c : Nat} {l : List Int}, Sl W 1 A n c (l.map fun x => .int .i64 x) → (∀ a, A = some a → l ≠ [] → ¬ F a.block) → Sl w3 1 A n c (l.map fun x => .int .i64 x) := fun {A n c l} s hF => by
        by_cases h0 : n = 0
        · subst h0
          have hl := s.len
          have : l = [] := List.eq_nil_of_length_eq_zero (by simpa using hl)
          subst this
          exact ⟨fun j u hj => by simp at hj, rfl, s.le, s.none⟩
        · have hl := s.len
          simp only [List.length_map, Nat.mul_one] at hl
          refine sl_same s (fun a ha => ?_)
          subst ha
          obtain ⟨ad, h1, h2⟩ := s.cells 0 (.int .i64 (l[0]'(by omega))) (by simp [List.getElem?_map, List.getElem?_eq_getElem (show 0 < l.length by omega)])
          cases h1
          have := World.block_lt_of_cell? _ _ h2
          rw [add_block] at this
          exact hC3.block _ this (hF a rfl (by rintro rfl; simp at hl; omega))
      have S1 := Lib.hid (kept S01.out H1F.out)
      have S2 := Lib.hid (kept S02.out H2F.out)
      have Se := Lib.hid ((H1.out.each e (List.mem_of_getElem? he)).1)
      have hfi : (mixD D ks ts i).fs[i]? = some e.f := H1.out.fsAt he
      have hfD : D.fs[i]? = some e.f := by
        have h9 : (mixF D.fs ks ts i)[i]? = some e.f := hfi
        rwa [mix_get] at h9
      have hsf := H1.out.good.safe e.f (List.mem_of_getElem? hfi)
      have hl1 : e.f.b.length ≤ 16777216 := by
        have h5 := used_set (f' := ⟨e.f.nm, [], 0⟩) hfi
        have h6 := H1.out.good.used
        have h7 := H1.out.good.room
        simp only [List.length_nil] at h5
        omega
      obtain ⟨keep, hkk, hkb⟩ := told_nat ks i HK1.out
      obtain ⟨tear, htt, htb⟩ := told_nat ts i HK2.out
      have HK := Lib.hid hkk
      have HT := Lib.hid htt
      have HfD := Lib.hid hfD
      have Hfi := Lib.hid hfi
      have hsz := Lib.hid (show w3.heap.size = wr.heap.size + 1 by rw [hw3]; simp)
      clear hw3 hb3 hC3 kept hfi hfD hkk htt z0 z1 z2
      clear he
      go_upto_region 4 with fail
      rw [← Hw3.out]
      clear Hw3 y0 y1 y2 hc0
      --@region 37 4 cra4.spec
      refine wp_region_tail 13 (by kernel_rfl) (by kernel_rfl) (by kernel_rfl) ?_
      apply RunT.pure
      · intro vs w hb hd; clear hd; simp only [List.take, putL, Act.put, List.setIfInBounds_toArray, List.set_cons_zero, List.set_cons_succ]; unfold StepOK; go_simp; exact ⟨Below.refl _ _, isV_mk _ _⟩
      apply RunT.pure
      · intro vs w hb hd; have d0 : isV _ (vs 0) w := hd 0 (by decide) (by kernel_rfl); unfold isV at d0; clear hd; simp only [List.take, putL, Act.put, List.setIfInBounds_toArray, List.set_cons_zero, List.set_cons_succ]; unfold StepOK; go_simp; exact ⟨Below.refl _ _, isV_mk _ _⟩
      apply RunT.pure
      · intro vs w hb hd; have d1 : isV _ (vs 1) w := hd 1 (by decide) (by kernel_rfl); unfold isV at d1; clear hd; simp only [List.take, putL, Act.put, List.setIfInBounds_toArray, List.set_cons_zero, List.set_cons_succ]; unfold StepOK; go_simp; exact ⟨Below.refl _ _, isV_mk _ _⟩
      apply RunT.pure
      · intro vs w hb hd; have d2 : isV _ (vs 2) w := hd 2 (by decide) (by kernel_rfl); unfold isV at d2; clear hd; have hx1 := (H1.out.below hb).cell.1; rw [HL.out] at hx1; simp only [List.take, putL, Act.put, List.setIfInBounds_toArray, List.set_cons_zero, List.set_cons_succ]; unfold StepOK; go_simp; exact ⟨Below.refl _ _, isV_mk _ _⟩
      apply RunT.pure
      · intro vs w hb hd; clear hd; simp only [List.take, putL, Act.put, List.setIfInBounds_toArray, List.set_cons_zero, List.set_cons_succ]; unfold StepOK; go_simp; exact ⟨Below.refl _ _, isV_mk _ _⟩
      apply RunT.pure
      · intro vs w hb hd; clear hd; have hx1 := cellB hb Z0.out; have hx2 := cellB hb Z1.out; have hx3 := cellB hb Z2.out; simp only [List.take, putL, Act.put, List.setIfInBounds_toArray, List.set_cons_zero, List.set_cons_succ]; unfold StepOK; go_simp; exact ⟨Below.refl _ _, isV_mk _ _⟩
      apply RunT.pure
      · intro vs w hb hd; clear hd; simp only [List.take, putL, Act.put, List.setIfInBounds_toArray, List.set_cons_zero, List.set_cons_succ]; unfold StepOK; go_simp; exact ⟨Below.refl _ _, isV_mk _ _⟩
      apply RunT.pure
      · intro vs w hb hd; clear hd; simp only [List.take, putL, Act.put, List.setIfInBounds_toArray, List.set_cons_zero, List.set_cons_succ]; unfold StepOK; go_simp; exact ⟨Below.refl _ _, isV_mk _ _⟩
      refine RunT.such (isV (.int .i64 (keep : Int))) (isV_stable _) ?_ ?_
      · intro vs w hb hd; have d6 : isV _ (vs 6) w := hd 6 (by decide) (by kernel_rfl); unfold isV at d6; have d7 : isV _ (vs 7) w := hd 7 (by decide) (by kernel_rfl); unfold isV at d7; clear hd; have hs1 := S1.out.below hb; simp only [List.take, putL, Act.put, List.setIfInBounds_toArray, List.set_cons_zero, List.set_cons_succ]; unfold StepOK; go_simp; exact ⟨Below.refl _ _, such_of_bool ((told_any _ _ _ ks i _ hs1 hn1).mono (fun e w' ⟨h1, h2⟩ => ⟨by rw [h1, HK.out], h2 ▸ Below.refl _ _⟩))⟩
      apply RunT.pure
      · intro vs w hb hd; clear hd; simp only [List.take, putL, Act.put, List.setIfInBounds_toArray, List.set_cons_zero, List.set_cons_succ]; unfold StepOK; go_simp; exact ⟨Below.refl _ _, isV_mk _ _⟩
      apply RunT.pure
      · intro vs w hb hd; clear hd; simp only [List.take, putL, Act.put, List.setIfInBounds_toArray, List.set_cons_zero, List.set_cons_succ]; unfold StepOK; go_simp; exact ⟨Below.refl _ _, isV_mk _ _⟩
      refine RunT.such (isV (.int .i64 (tear : Int))) (isV_stable _) ?_ ?_
      · intro vs w hb hd; have d8 := hd 8 (by decide) (by kernel_rfl); simp only [TR, Nat.reduceAdd, Nat.reduceSub, List.getD_cons_zero, List.getD_cons_succ] at d8; have d9 : isV _ (vs 9) w := hd 9 (by decide) (by kernel_rfl); unfold isV at d9; have d10 : isV _ (vs 10) w := hd 10 (by decide) (by kernel_rfl); unfold isV at d10; clear hd; have hs1 := S2.out.below hb; simp only [List.take, putL, Act.put, List.setIfInBounds_toArray, List.set_cons_zero, List.set_cons_succ]; unfold StepOK; go_simp; exact ⟨Below.refl _ _, such_of_bool ((told_any _ _ _ ts i _ hs1 hn2).mono (fun e w' ⟨h1, h2⟩ => ⟨by rw [h1, HT.out], h2 ▸ Below.refl _ _⟩))⟩
      refine RunT.such (isLf w3.heap.size (leftF e.f keep tear)) (isLf_stable _ _) ?_ ?_
      · intro vs w hb hd; have d5 : isV _ (vs 5) w := hd 5 (by decide) (by kernel_rfl); unfold isV at d5; have d8 := hd 8 (by decide) (by kernel_rfl); simp only [TR, Nat.reduceAdd, Nat.reduceSub, List.getD_cons_zero, List.getD_cons_succ] at d8; have d11 := hd 11 (by decide) (by kernel_rfl); simp only [TR, Nat.reduceAdd, Nat.reduceSub, List.getD_cons_zero, List.getD_cons_succ] at d11; clear hd; unfold isV at d8 d11; have hs1 := Se.out.below hb; simp only [List.take, putL, Act.put, List.setIfInBounds_toArray, List.set_cons_zero, List.set_cons_succ]; unfold StepOK; go_simp; exact ⟨Below.refl _ _, left_such hb.size hs1 hl1 hsf hkb htb⟩
      intro vs w1 hb hd
      have e0 : isV _ (vs 0) w1 := hd 0 (by decide)
      have e1 : isV _ (vs 1) w1 := hd 1 (by decide)
      have e2 : isV _ (vs 2) w1 := hd 2 (by decide)
      have e3 : isV _ (vs 3) w1 := hd 3 (by decide)
      have e4 : isV _ (vs 4) w1 := hd 4 (by decide)
      have e5 : isV _ (vs 5) w1 := hd 5 (by decide)
      have e6 : isV _ (vs 6) w1 := hd 6 (by decide)
      have e7 : isV _ (vs 7) w1 := hd 7 (by decide)
      have e8 := hd 8 (by decide); simp only [TR, Nat.reduceAdd, Nat.reduceSub, List.getD_cons_zero, List.getD_cons_succ] at e8
      have e9 : isV _ (vs 9) w1 := hd 9 (by decide)
      have e10 : isV _ (vs 10) w1 := hd 10 (by decide)
      have e11 := hd 11 (by decide); simp only [TR, Nat.reduceAdd, Nat.reduceSub, List.getD_cons_zero, List.getD_cons_succ] at e11
      have e12 := hd 12 (by decide); simp only [TR, Nat.reduceAdd, Nat.reduceSub, List.getD_cons_zero, List.getD_cons_succ] at e12
      clear hd
      unfold isV at e0 e1 e2 e3 e4 e5 e6 e7 e9 e10
      simp only [List.drop_succ_cons, List.drop_zero, List.take_succ_cons, List.take_zero]
      simp only [putL, Act.put, List.setIfInBounds_toArray, List.set_cons_zero, List.set_cons_succ, e0, e1, e2, e3, e4, e5, e6, e7, e9, e10]
      clear e0 e1 e2 e3 e4 e5 e6 e7 e9 e10
      --@end
      obtain ⟨A', c', e12', o12⟩ := isLf_elim e12
      have H4 := Lib.hid (H1.out.below hb)
      obtain ⟨y0, y1, y2⟩ := slFE_three H4.out.row.sl HE.out
      rw [add_plain] at y0 y1 y2
      simp only [] at y1 y2
      simp only [Nat.reduceAdd, e12']
      have st1 := World.ownsRow.stored H4.out.row (i * 3) (.string (bstr (leftF e.f keep tear).nm))
      have st2 := World.ownsRow.stored st1.1 (i * 3 + 1) (.slice A' (leftF e.f keep tear).b.length c')
      have st3 := World.ownsRow.stored st2.1 (i * 3 + 2) (.int .i64 (leftF e.f keep tear).safe)
      have u0 := World.ownsRow.frozenAt H4.out.row (i * 3)
      have u1 := World.ownsRow.frozenAt st1.1 (i * 3 + 1)
      have u2 := World.ownsRow.frozenAt st2.1 (i * 3 + 2)
      have u3 := World.ownsRow.frozenAt H4.out.row (i * 3 + 1)
      have u4 := World.ownsRow.frozenAt H4.out.row (i * 3 + 2)
      have Hst := Lib.hid (And.intro st3.1 (st1.2.trans (st2.2.trans st3.2)))
      have Ho12 := Lib.hid o12
      have HB4 := Lib.hid hb
      clear st1 st2 st3 o12 hb e12 e12'
      have Hsf := Lib.hid hsf
      have Hl := Lib.hid (left_le e.f keep tear hsf)
      clear hsf hl1
      have hrow : ∀ w5, Own base 79 3 w5 (some ⟨g, 0, none⟩) ei.length c ((((flatFE ei).set (i * 3) (.string (bstr (leftF e.f keep tear).nm))).set (i * 3 + 1) (.slice A' (leftF e.f keep tear).b.length c')).set (i * 3 + 2) (.int .i64 (leftF e.f keep tear).safe)) → w1.grownBy w5 (some g) →
          ∃ F', DI w5 base p (mixD D ks ts (i + 1)) F' (some ⟨g, 0, none⟩) c (ei.set i ⟨leftF e.f keep tear, A', c'⟩) ∧ Cg F F' W w5 := by
        intro w5 ho hg
        have hf3 := flat_set3 HE.out ⟨leftF e.f keep tear, A', c'⟩
        simp only at hf3
        rw [hf3] at ho
        obtain ⟨F', k1, k2⟩ := H4.out.newfile HE.out Ho12.out (fun q hq => (H1.out.bound q hq).2) (by have := H1.out.plt; omega) hg ho (H4.out.good.setF Hfi.out (left_nm _ _ _) Hl.out.1 (by rw [Hl.out.2]; exact Nat.le_refl _))
        have hms : ({ mixD D ks ts i with fs := (mixD D ks ts i).fs.set i (leftF e.f keep tear) } : Dk) = mixD D ks ts (i + 1) := by
          unfold mixD
          rw [mix_succ HfD.out, HK.out, HT.out]
        rw [hms] at k1
        refine ⟨F', k1, ?_⟩
        have hc := HC3.out.trans ((Cg.below HB4.out).trans (Cg.grown hg (H4.out.fr _ rfl).1))
        refine ⟨hc.os, hc.tape, hc.output, hc.size, hc.block, fun q hq => ?_⟩
        rcases k2 q hq with h5 | h5
        · exact HC3.out.new q h5
        · exact .inr (Nat.le_trans HC3.out.size h5)
      have Hrow := Lib.hid hrow
      clear hrow
      go_wp2_with fail
      all_goals (obtain ⟨F', k1, k2⟩ := Hrow.out _ Hst.out.1 Hst.out.2)
      refine ⟨⟨i + 1, F', _, by omega, by go_num, Lib.hid k1, Lib.hid k2, Lib.hid (by rw [List.length_set]; exact HL.out)⟩, by simp [intOf]; omega⟩
    · obtain rfl : i = es.length := by omega
      have H5 := HI.out
      have hmx : mixD D ks ts es.length = { D with fs := crashF D.fs ks ts } := by unfold mixD; rw [hes.out, mix_all]
      rw [hmx] at H5
      obtain ⟨c0, c1, c2, c3, c4⟩ := H5.cell
      have y2 := World.ownsRow.frozenAt H5.own 2
      have y3 := World.ownsRow.frozenAt H5.own 3
      have st1 := World.ownsRow.stored H5.own 2 (.int .i64 (-1))
      have st2 := World.ownsRow.stored st1.1 3 (.bool false)
      have z3 := World.ownsRow.frozenAt st1.1 3
      have hgd : Good (crashD D ks ts) := ⟨H5.good.srt, H5.good.room, by unfold crashD; simp, H5.good.few, H5.good.safe, H5.good.used, H5.good.nms⟩
      have hfin := Lib.hid (And.intro (H5.turn (D' := crashD D ks ts) hgd rfl st2.1 (st1.2.trans st2.2)) (HC.out.trans (Cg.grown (st1.2.trans st2.2) H5.fp)))
      clear st1 st2 H5 hmx hgd c0 c4
      go_wp2_with fail
      go_end0
      exact ⟨rfl, Fi, ⟨_, _, _, hfin.out.1⟩, hfin.out.2⟩
end
end Go.Proofs.YtemegkapmgcffaaGreat

/- The disk: its calls, for a disk that is the caller's own. -/
namespace Go.Proofs.YtemegkapmgcffaaGreat
open Go.RowKit
set_option linter.unusedSimpArgs false
set_option linter.unusedVariables false

theorem DkIs.bound {w : World} {base p : Nat} {D : Dk} {F : Nat → Prop} (h : DkIs w base p D F) : ∀ q, F q → base ≤ q ∧ q < w.heap.size := by
  obtain ⟨R, c, es, h⟩ := h
  exact h.bound
theorem DkIs.good {w : World} {base p : Nat} {D : Dk} {F : Nat → Prop} (h : DkIs w base p D F) : Good D := by
  obtain ⟨R, c, es, h⟩ := h
  exact h.good
theorem DkIs.plt {w : World} {base p : Nat} {D : Dk} {F : Nat → Prop} (h : DkIs w base p D F) : base ≤ p ∧ p < w.heap.size := by
  obtain ⟨R, c, es, h⟩ := h
  exact h.plt
def Dsk (W w : World) (p : Nat) (D : Dk) : Prop := ∃ F, DkIs w W.heap.size p D F ∧ Below W.heap.size W w
theorem Dsk.bel {W w : World} {p : Nat} {D : Dk} (h : Dsk W w p D) : Below W.heap.size W w := by obtain ⟨F, h1, h2⟩ := h; exact h2
theorem Dsk.good {W w : World} {p : Nat} {D : Dk} (h : Dsk W w p D) : Good D := by obtain ⟨F, h1, h2⟩ := h; exact h1.good
theorem Dsk.below {W w w' : World} {p : Nat} {D : Dk} (h : Dsk W w p D) (hb : Below w.heap.size w w') : Dsk W w' p D := by
  obtain ⟨F, h1, h2⟩ := h
  exact ⟨F, h1.below hb, h2.trans (hb.mono h2.size)⟩
theorem dsk_step {W w w' : World} {p : Nat} {D D' : Dk} {F F' : Nat → Prop} (h : DkIs w W.heap.size p D F) (hb : Below W.heap.size W w) (h' : DkIs w' W.heap.size p D' F') (hc : Cg F F' w w') : Dsk W w' p D' :=
  ⟨F', h', hb.trans (hc.bel (fun q hq => (h.bound q hq).1) hb.size)⟩
section
variable {W w0 w : World} {p : Nat} {D D' : Dk} {s t : ByteArray} {nm tn : Nm} {r : Int}
theorem remove_dsk (h : Dsk W w p D) (hs : s = bstr nm) (hr : removeD D nm = (r, D')) : Calls Tryz.prog 10 #[.pointer (some ⟨p, 0, none⟩), .string s] w fun x w' => x = .returned (.int .i64 r) ∧ Dsk W w' p D' := by
  obtain ⟨F, h1, h2⟩ := h
  subst hs
  refine (Remove_any h1 nm).mono fun x w' ⟨k1, F', k2, k3⟩ => ?_
  rw [hr] at k1 k2
  exact ⟨k1, dsk_step h1 h2 k2 k3⟩
theorem size_dsk {n : Nat} (h : Dsk W w p D) (hs : s = bstr nm) (hr : (lookF D.fs nm).b.length = n) : Calls Tryz.prog 64 #[.pointer (some ⟨p, 0, none⟩), .string s] w fun x w' => x = .returned (.int .i64 (n : Int)) ∧ Below w.heap.size w w' ∧ Dsk W w' p D := by
  have h0 := h
  obtain ⟨F, h1, h2⟩ := h
  subst hr hs
  exact (Size_any h1 nm).mono fun x w' ⟨k1, k2⟩ => ⟨k1, k2, h0.below k2⟩
theorem list_dsk {n : Nat} {ns : List Value} (h : Dsk W w p D) (hn : D.fs.length = n) (hr : nmV D.fs = ns) : Calls Tryz.prog 61 #[.pointer (some ⟨p, 0, none⟩)] w fun x w' => ∃ A c, x = .returned (.slice A n c) ∧ Own w.heap.size 9 1 w' A n c ns ∧ Below w.heap.size w w' ∧ Dsk W w' p D := by
  have h0 := h
  obtain ⟨F, h1, h2⟩ := h
  subst hn hr
  exact (List_any h1).mono fun x w' ⟨A, c, k1, k2, k3⟩ => ⟨A, c, k1, k2, k3, h0.below k3⟩
theorem new_dsk {room : Int} (hb : Below W.heap.size W w) (h : 0 ≤ room ∧ room ≤ 16777216) : Calls Tryz.prog 4 #[.int .i64 room] w fun x w' => ∃ p, x = .returned (.tuple #[.pointer (some ⟨p, 0, none⟩), .int .i64 0]) ∧ Dsk W w' p (newD room) :=
  (New_ok room w h hb.size).mono fun x w' ⟨p, F, k1, k2, k3, k4⟩ => ⟨p, k1, F, k2, hb.trans (k4.mono hb.size)⟩
/-- a slice that is none of the disk's: it was there before, or is newer -/
def Apt (W w0 : World) (A : Option Addr) : Prop := ∀ a, A = some a → a.block < W.heap.size ∨ w0.heap.size ≤ a.block
theorem Apt.none (W w0 : World) : Apt W w0 none := fun a h => by cases h
theorem Apt.new (W w0 : World) (o : Nat) : Apt W w0 (some ⟨w0.heap.size, o, Option.none⟩) := fun a h => by cases h; exact .inr (Nat.le_refl _)
def holdsB (D : Dk) (nm : Nm) (want : List UInt8) (safe : Int) : Bool := decide ((readD D nm).2 = 0) && (decide ((readD D nm).1 = want) && (decide ((lookF D.fs nm).b.length = want.length) && decide (((lookF D.fs nm).safe : Int) = safe)))
end
end Go.Proofs.YtemegkapmgcffaaGreat
