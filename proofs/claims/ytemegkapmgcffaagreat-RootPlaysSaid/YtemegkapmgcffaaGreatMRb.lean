import Derived.Test.YtemegkapmgcffaaGreatMRa
/- Roots: Read. -/
namespace Go.Proofs.YtemegkapmgcffaaGreat
open Go.RowKit
set_option linter.unusedSimpArgs false
set_option linter.unusedVariables false

theorem mem_used {fs : List Fl} {f : Fl} (h : f ∈ fs) : f.b.length ≤ usedF fs := by
  unfold usedF
  induction fs with
  | nil => cases h
  | cons g r ih =>
    simp only [List.map_cons, List.sum_cons]
    rcases List.mem_cons.1 h with h1 | h1
    · subst h1; omega
    · have := ih h1; omega
theorem read_len {D : Dk} (h : Good D) (nm : Nm) : (readD D nm).1.length ≤ 16777216 := by
  have hu := h.used
  have hr := h.room
  have key : (lookF D.fs nm).b.length ≤ 16777216 := by
    unfold lookF
    split
    · rename_i f _ hf
      have := mem_used (List.mem_of_getElem? hf)
      omega
    · simp
  unfold readD
  split
  · simp
  · split
    · exact key
    · simp
def rt0 : Rt := ⟨0, 0, []⟩
def candR (D : Dk) (nm : Nm) (acc : Rt) : Rt := if (readD D nm).2 = 0 then (if (parseF (readD D nm).1).2 = 0 ∧ acc.s < (parseF (readD D nm).1).1.s then (parseF (readD D nm).1).1 else acc) else acc
def accR (D : Dk) : Nat → Rt
  | 0 => rt0
  | i + 1 => candR D (rnm i) (accR D i)
def rootD (D : Dk) : Rt := accR D 2
def readRD (D : Dk) : Rt × Bool × Int := if D.dark = true then (rt0, false, 15) else (rootD D, decide (0 < (rootD D).s), 0)
theorem probe (D : Dk) : appendD D [] [] = (if D.dark = true then 15 else 16, D) := by
  unfold appendD
  split
  · rfl
  · rw [if_pos (by rfl)]
theorem dk_awayR {w w' : World} {base p : Nat} {D : Dk} {F G G' : Nat → Prop} (h : DkIs w base p D F) (hc : Cg G G' w w') (hd : ∀ q, F q → ¬ G q) : DkIs w' base p D F := by
  obtain ⟨R, c, es, h⟩ := h
  exact ⟨R, c, es, h.kept hc.size (fun q hq => hc.block q (h.bound q hq).2 (hd q hq))⟩
theorem cg_new {F F' : Nat → Prop} {w w1 w2 : World} {r : Nat} (h : Cg F F' w w1) (hg : w1.grownBy w2 (some r)) (hr : w.heap.size ≤ r) : Cg F F' w w2 :=
  ⟨hg.os.trans h.os, hg.tape.trans h.tape, hg.output.trans h.output, Nat.le_trans h.size hg.size, fun k hk hl => (hg.block k (Nat.lt_of_lt_of_le hk h.size) (fun e => by cases e; omega)).trans (h.block k hk hl), h.new⟩
theorem dk_new {w w' : World} {base p r : Nat} {D : Dk} {F : Nat → Prop} (h : DkIs w base p D F) (hg : w.grownBy w' (some r)) (hr : ¬ F r) : DkIs w' base p D F :=
  dk_awayR h (Cg.grown (F := fun k => k = r) hg rfl) (fun q hq e => hr (e ▸ hq))
def RReadP (w : World) (base p : Nat) (D : Dk) (F : Nat → Prop) (r : Rt × Bool × Int) (x : Ending) (w' : World) : Prop :=
  ∃ A c B F', x = .returned (.tuple #[rtV r.1.s r.1.b A r.1.x.length c, .bool r.2.1, .int .i64 r.2.2]) ∧ Own B 5 1 w' A r.1.x.length c (bytesV r.1.x) ∧ w.heap.size ≤ B ∧ (∀ q, F' q → q < B) ∧ DkIs w' base p D F' ∧ Cg F F' w w'
section
variable {w : World} {base p : Nat} {D : Dk} {F : Nat → Prop}
set_option maxRecDepth 100000 in
set_option maxHeartbeats 8000000 in
theorem rRead_any (h : DkIs w base p D F) : Calls Tryz.prog 18 #[.pointer (some ⟨p, 0, none⟩)] w (RReadP w base p D F (readRD D)) := by
  have HP := Lib.hid (show readRD D = if D.dark = true then (rt0, false, 15) else (rootD D, decide (0 < (rootD D).s), 0) from rfl)
  have hown := new_own w [.int .i64 0, .int .i64 0, .slice none 0 0] 36 3 rfl (by unfold maxLen; omega)
  have hb1 := below_alloc1 w (.cells #[.int .i64 0, .int .i64 0, .slice none 0 0] 36)
  obtain ⟨W1, hW1⟩ : ∃ W1, W1 = w.alloc (.cells #[.int .i64 0, .int .i64 0, .slice none 0 0] 36) := ⟨_, rfl⟩
  have hT : (w.alloc (.cells [Value.int .i64 0, .int .i64 0, .slice none 0 0].toArray 36)) = W1 := hW1.symm
  rw [hT] at hown
  rw [← hW1] at hb1
  have hz1 : W1.heap.size = w.heap.size + 1 := by rw [hW1]; simp
  have HW1 := Lib.hid hW1
  have h1 := h.below hb1
  have hap := Append_any h1 [] (by unfold maxLen; decide) (sl_nilF _) (fun a ha => by cases ha) (by decide)
  rw [probe D] at hap
  have HAP := Lib.hid hap
  have HO := Lib.hid hown
  have HB1 := Lib.hid hb1
  have HFb := Lib.hid h.bound
  have hg := h.good
  have HL := Lib.hid (fun nm => read_len hg nm)
  clear hap hown hb1 h1 hW1 hT h hg
  go_enter Tryz.func18, Tryz.ntmps18
  go_upto_region 1 with fail
  rw [← HW1.out]
  go_wp2_with fail
  refine HAP.out.mono ?_; rintro e w2 ⟨rfl, F2, h2, c2⟩
  have hnF : ¬ F w.heap.size := fun hf => by have := (HFb.out _ hf).2; omega
  have hnF2 : ¬ F2 w.heap.size := fun hf => by
    rcases c2.new _ hf with h1 | h1
    · exact hnF h1
    · omega
  have hk2 : w2.heap[w.heap.size]? = W1.heap[w.heap.size]? := c2.block _ (by omega) hnF
  have ho2 : Own w.heap.size 36 1 w2 (some ⟨w.heap.size, 0, none⟩) 3 3 [.int .i64 0, .int .i64 0, .slice none 0 0] := own_same HO.out (fun a ha => by cases ha; exact hk2)
  have HC2 := Lib.hid ((Cg.below (F := F) HB1.out).trans c2)
  have HF2 := Lib.hid hnF2
  have H2 := Lib.hid h2
  have HO2 := Lib.hid ho2
  have hz2 : w.heap.size < w2.heap.size := by have := c2.size; omega
  clear hnF hnF2 hk2 c2 h2 HAP HO hz1 ho2
  cases hd : D.dark with
  | true =>
    have HP1 := Lib.hid (show readRD D = (rt0, false, 15) by rw [HP.out, if_pos hd])
    have k0 := World.ownsRow.cellAt HO2.out 0 (by omega)
    have k1 := World.ownsRow.cellAt HO2.out 1 (by omega)
    have k2 := World.ownsRow.cellAt HO2.out 2 (by omega)
    simp only [List.getElem?_cons_zero, List.getElem?_cons_succ] at k0 k1 k2
    have f0 := World.ownsRow.frozenAt HO2.out 0
    have f1 := World.ownsRow.frozenAt HO2.out 1
    have f2 := World.ownsRow.frozenAt HO2.out 2
    have Hst := Lib.hid (stored3R HO2.out (.int .i64 0) (.int .i64 0) (.slice none 0 0))
    go_wp2_with fail
    refine bodyPost_ret (results_cell2 rfl _ _ _ ⟨w.heap.size, 0, none⟩ rfl _ (load_ownR Hst.out.1)) rfl ?_
    rw [HP1.out]
    exact ⟨none, 0, _, F2, rfl, World.ownsRow_nil _ _ _ _, Nat.le_trans (Nat.le_of_lt hz2) Hst.out.2.size, fun q hq => Nat.lt_of_lt_of_le (H2.out.bound q hq).2 Hst.out.2.size, dk_new H2.out Hst.out.2 HF2.out, cg_new HC2.out Hst.out.2 (Nat.le_refl _)⟩
  | false =>
    have HP1 := Lib.hid (show readRD D = (rootD D, decide (0 < (rootD D).s), 0) by rw [HP.out, if_neg (by rw [hd]; simp)])
    go_upto_block 0 with fail
    have hT3 : Own w2.heap.size 36 1 (w2.alloc (.cells #[.int .i64 0, .int .i64 0, .slice none 0 0] 36)) (some ⟨w2.heap.size, 0, none⟩) 3 3 [.int .i64 0, .int .i64 0, .slice none 0 0] := new_own w2 [.int .i64 0, .int .i64 0, .slice none 0 0] 36 3 rfl (by unfold maxLen; omega)
    have hb3 := below_alloc1 w2 (.cells #[.int .i64 0, .int .i64 0, .slice none 0 0] 36)
    obtain ⟨W3, hW3⟩ : ∃ W3, W3 = w2.alloc (.cells #[.int .i64 0, .int .i64 0, .slice none 0 0] 36) := ⟨_, rfl⟩
    rw [← hW3] at hT3 hb3 ⊢
    have HT3 := Lib.hid hT3
    have HB3 := Lib.hid hb3
    clear hT3 hb3 hW3
    go_wp2_with fail
    obtain ⟨g, hg⟩ : ∃ g, g = w2.heap.size := ⟨_, rfl⟩
    rw [← hg]
    have Hg := Lib.hid hg
    rw [← hg] at HT3 HB3
    clear hg
    go_loopw [22] (fun s22 wx => ∃ (i : Nat) (cur : Rt) (A : Option Addr) (c : Nat), i ≤ 2 ∧ s22 = .int .i64 (i : Int) ∧ Hid (cur = accR D i) ∧ Hid (Own g 36 1 wx (some ⟨g, 0, none⟩) 3 3 [.int .i64 cur.s, .int .i64 cur.b, .slice A cur.x.length c]) ∧ Hid (Own (g + 1) 5 1 wx A cur.x.length c (bytesV cur.x)) ∧ Hid (Below g w2 wx) ∧ Hid (g < wx.heap.size)) (fun iv _ => 2 - (intOf iv).toNat)
    case atStart =>
      refine ⟨0, rt0, none, 0, by omega, rfl, Lib.hid rfl, HT3, Lib.hid (World.ownsRow_nil _ _ _ _), HB3, Lib.hid ?_⟩
      exact (own_ltR HT3.out _ rfl).2
    case round =>
      obtain ⟨i, cur, A, c, hi, rfl, HA, HOx, HX, HBx, HZx⟩ := hrel
      rename World => wx
      have hox := HOx.out
      have k0 := World.ownsRow.cellAt hox 0 (by omega)
      have k1 := World.ownsRow.cellAt hox 1 (by omega)
      have k2 := World.ownsRow.cellAt hox 2 (by omega)
      simp only [List.getElem?_cons_zero, List.getElem?_cons_succ] at k0 k1 k2
      have f0 := World.ownsRow.frozenAt hox 0
      have f1 := World.ownsRow.frozenAt hox 1
      have f2 := World.ownsRow.frozenAt hox 2
      clear hox
      have Hx : Hid (DkIs wx base p D F2) := Lib.hid (H2.out.below (by rw [← Hg.out]; exact HBx.out))
      by_cases hi2 : i < 2
      · have hin : (i : Int) < 2 := by omega
        clear k0 k1 k2 f0 f1 f2
        go_wp2_with fail
        refine (name_any i (by omega) wx).mono ?_; rintro e w3 ⟨rfl, rfl⟩
        go_wp2_with fail
        obtain ⟨bs, er, hrd⟩ : ∃ bs er, readD D (rnm i) = (bs, er) := ⟨_, _, rfl⟩
        have hrc := Read_any Hx.out (rnm i)
        have hbl := HL.out (rnm i)
        rw [hrd] at hrc hbl
        simp only at hbl
        have HRD := Lib.hid hrd
        clear hrd
        refine hrc.mono ?_; rintro e w3 ⟨A1, c1, rfl, o1, b3⟩
        clear hrc
        by_cases her : er = 0
        · subst her
          have hpc := Parse_any A1 bs.length c1 bs w3 o1.sl (by omega)
          obtain ⟨q, pe, hpf⟩ : ∃ q pe, parseF bs = (q, pe) := ⟨_, _, rfl⟩
          rw [hpf] at hpc
          have HPF := Lib.hid hpf
          have HB3 := Lib.hid b3
          clear hpf o1 b3 hbl
          go_wp2_with fail
          refine hpc.mono ?_; rintro e w4 ⟨A4, c4, rfl, p4, b4⟩
          simp only at p4
          simp only [rtV]
          clear hpc
          have q0 := box_cellsR w4 [.int .i64 q.s, .int .i64 q.b, .slice A4 q.x.length c4] 36 0 _ rfl
          have q1 := box_cellsR w4 [.int .i64 q.s, .int .i64 q.b, .slice A4 q.x.length c4] 36 1 _ rfl
          have q2 := box_cellsR w4 [.int .i64 q.s, .int .i64 q.b, .slice A4 q.x.length c4] 36 2 _ rfl
          have b45 := below_alloc1 w4 (.cells #[.int .i64 q.s, .int .i64 q.b, .slice A4 q.x.length c4] 36)
          go_upto_region 11 with fail
          obtain ⟨W5, hW5⟩ : ∃ W5, W5 = w4.alloc (.cells #[.int .i64 q.s, .int .i64 q.b, .slice A4 q.x.length c4] 36) := ⟨_, rfl⟩
          have hT5 : (w4.alloc (.cells [Value.int .i64 q.s, .int .i64 q.b, .slice A4 q.x.length c4].toArray 36)) = W5 := hW5.symm
          rw [hT5] at q0 q1 q2
          rw [← hW5] at b45 ⊢
          clear hT5 hW5
          have z3 := HB3.out.size
          have z4 := b4.size
          have bx5 : Below wx.heap.size wx W5 := HB3.out.trans ((b4.trans (b45.mono z4)).mono z3)
          have HP5 := Lib.hid (p4.below b45)
          have HX5 := Lib.hid (HX.out.below bx5)
          have ho5 := HOx.out.below bx5
          have HB5 := Lib.hid (HBx.out.trans (bx5.mono (Nat.le_of_lt HZx.out)))
          have HZ5 := Lib.hid (Nat.lt_of_lt_of_le HZx.out bx5.size)
          have k0 := World.ownsRow.cellAt ho5 0 (by omega)
          have k1 := World.ownsRow.cellAt ho5 1 (by omega)
          have k2 := World.ownsRow.cellAt ho5 2 (by omega)
          simp only [List.getElem?_cons_zero, List.getElem?_cons_succ] at k0 k1 k2
          have f0 := World.ownsRow.frozenAt ho5 0
          have f1 := World.ownsRow.frozenAt ho5 1
          have f2 := World.ownsRow.frozenAt ho5 2
          have HO5 := Lib.hid ho5
          have Hst := Lib.hid (stored3R ho5 (.int .i64 q.s) (.int .i64 q.b) (.slice A4 q.x.length c4))
          have HG3 := Lib.hid (show g + 1 ≤ w3.heap.size from Nat.le_trans HZx.out z3)
          clear ho5 bx5 p4 b4 b45 z3 z4 HP1 HL
          by_cases hpe : pe = 0
          · subst hpe
            by_cases hlt : cur.s < q.s
            · have HN : Hid (q = accR D (i + 1)) := Lib.hid (by
                show q = candR D (rnm i) (accR D i)
                unfold candR
                rw [HRD.out]
                simp only [HPF.out, ← HA.out, hlt, if_true, and_self])
              go_wp2_with fail
              go_roundw
              case rel =>
                refine ⟨i + 1, q, A4, c4, by omega, by go_num, HN, Lib.hid Hst.out.1, Lib.hid ?_, Lib.hid ?_, Lib.hid ?_⟩
                · refine Own.lower (own_keptR HP5.out Hst.out.2 (fun a ha e => ?_)) HG3.out
                  have h1 := (own_ltR HP5.out a ha).1
                  have h2 := HG3.out
                  omega
                · exact HB5.out.grown Hst.out.2 (Nat.le_of_lt HZ5.out) (fun k hk => by cases hk; exact Nat.le_refl _)
                · exact Nat.lt_of_lt_of_le HZ5.out Hst.out.2.size
              case measure => simp [intOf]; omega
            · have HN : Hid (cur = accR D (i + 1)) := Lib.hid (by
                show cur = candR D (rnm i) (accR D i)
                unfold candR
                rw [HRD.out]
                simp only [HPF.out, ← HA.out, hlt, if_true, and_false, if_false])
              go_wp2_with fail
              go_roundw
              case rel => exact ⟨i + 1, cur, A, c, by omega, by go_num, HN, HO5, HX5, HB5, HZ5⟩
              case measure => simp [intOf]; omega
          · have hpe2 : (pe == 0) = false := by simpa using hpe
            have HN : Hid (cur = accR D (i + 1)) := Lib.hid (by
              show cur = candR D (rnm i) (accR D i)
              unfold candR
              rw [HRD.out]
              simp only [HPF.out, ← HA.out, hpe, if_true, false_and, if_false])
            go_wp2_with fail
            go_roundw
            case rel => exact ⟨i + 1, cur, A, c, by omega, by go_num, HN, HO5, HX5, HB5, HZ5⟩
            case measure => simp [intOf]; omega
        · have her2 : (er == 0) = false := by simpa using her
          have HN : Hid (cur = accR D (i + 1)) := Lib.hid (by
            show cur = candR D (rnm i) (accR D i)
            unfold candR
            rw [HRD.out]
            simp only [← HA.out, her, if_false])
          have HX5 := Lib.hid (HX.out.below b3)
          have HO5 := Lib.hid (HOx.out.below b3)
          have HB5 := Lib.hid (HBx.out.trans (b3.mono (Nat.le_of_lt HZx.out)))
          have HZ5 := Lib.hid (Nat.lt_of_lt_of_le HZx.out b3.size)
          clear o1 b3 hbl HP1 HL
          go_wp2_with fail
          go_roundw
          case rel => exact ⟨i + 1, cur, A, c, by omega, by go_num, HN, HO5, HX5, HB5, HZ5⟩
          case measure => simp [intOf]; omega
      · obtain rfl : i = 2 := by omega
        obtain ⟨r, hr⟩ : ∃ r, r = w.heap.size := ⟨_, rfl⟩
        have Hr := Lib.hid hr
        have HR : Hid (Own r 36 1 wx (some ⟨r, 0, none⟩) 3 3 [.int .i64 0, .int .i64 0, .slice none 0 0]) := Lib.hid (by rw [hr]; exact HO2.out.below (by rw [← Hg.out]; exact HBx.out))
        have HGr : Hid (g ≠ r) := Lib.hid (by rw [hr, Hg.out]; omega)
        clear k0 k1 k2 f0 f1 f2 hr
        go_upto_region 14 with fail
        rw [← Hr.out]
        --@region 26 14 rr14.spec
        refine wp_region_runN [4] (fun _ wj => Own r 36 1 wj (some ⟨r, 0, none⟩) 3 3 [.int .i64 0, .int .i64 0, .slice none 0 0]) (by kernel_rfl) (by kernel_rfl) (by kernel_rfl) (R := fun a b => a.grownBy b (some r)) (fun _ _ h => below_grownBy h _) (fun _ _ _ => grownBy_trans) (fun _ _ _ hb h => Own.below h hb) HR.out ?_
        apply RunN.pure (by decide)
        · intro vs w hb hd; clear hd; have ho := Own.apart HOx.out hb HGr.out; have k0 := World.ownsRow.cellAt ho 0 (by omega); have k1 := World.ownsRow.cellAt ho 1 (by omega); have k2 := World.ownsRow.cellAt ho 2 (by omega); simp only [List.getElem?_cons_zero, List.getElem?_cons_succ] at k0 k1 k2; clear ho; simp only [List.take, putL, Act.put, List.setIfInBounds_toArray, List.set_cons_zero, List.set_cons_succ]; unfold StepOK; go_simp; exact ⟨Below.refl _ _, isV_mk _ _⟩
        apply RunN.pure (by decide)
        · intro vs w hb hd; clear hd; simp only [List.take, putL, Act.put, List.setIfInBounds_toArray, List.set_cons_zero, List.set_cons_succ]; unfold StepOK; go_simp; exact ⟨Below.refl _ _, isV_mk _ _⟩
        apply RunN.pure (by decide)
        · intro vs w hb hd; have d1 : isV _ (vs 1) w := hd 1 (by decide) (by kernel_rfl); unfold isV at d1; clear hd; have ho := Own.apart HOx.out hb HGr.out; have k0 := World.ownsRow.cellAt ho 0 (by omega); simp only [List.getElem?_cons_zero, List.getElem?_cons_succ] at k0; clear ho; simp only [List.take, putL, Act.put, List.setIfInBounds_toArray, List.set_cons_zero, List.set_cons_succ]; unfold StepOK; go_simp; exact ⟨Below.refl _ _, isV_mk _ _⟩
        apply RunN.pure (by decide)
        · intro vs w hb hd; have d2 : isV _ (vs 2) w := hd 2 (by decide) (by kernel_rfl); unfold isV at d2; clear hd; simp only [List.take, putL, Act.put, List.setIfInBounds_toArray, List.set_cons_zero, List.set_cons_succ]; unfold StepOK; go_simp; exact ⟨Below.refl _ _, isV_mk _ _⟩
        refine RunN.store (by decide) ((fun wj => Own r 36 1 wj (some ⟨r, 0, none⟩) 3 3 [.int .i64 cur.s, .int .i64 cur.b, .slice A cur.x.length c])) ((fun _ _ _ hb h => Own.below h hb)) ?_ ?_
        · intro vs w hb hd hj; have d0 : isV _ (vs 0) w := hd 0 (by decide) (by kernel_rfl); unfold isV at d0; clear hd; have hj2 := hj; (try simp only [prevE, lastV, List.mem_cons, List.not_mem_nil, or_false, Nat.reduceEqDiff, Nat.reduceAdd, if_true, if_false, reduceIte, or_true, true_or, or_self] at hj2); clear hj; have k0 := World.ownsRow.cellAt hj2 0 (by omega); have k1 := World.ownsRow.cellAt hj2 1 (by omega); have k2 := World.ownsRow.cellAt hj2 2 (by omega); simp only [List.getElem?_cons_zero, List.getElem?_cons_succ] at k0 k1 k2; have f0 := World.ownsRow.frozenAt hj2 0; have f1 := World.ownsRow.frozenAt hj2 1; have f2 := World.ownsRow.frozenAt hj2 2; have st := stored3R hj2 (.int .i64 cur.s) (.int .i64 cur.b) (.slice A cur.x.length c); clear hj2; simp only [List.take, putL, Act.put, List.setIfInBounds_toArray, List.set_cons_zero, List.set_cons_succ]; unfold StepE; go_simp; try exact ⟨st.2, st.1⟩
        apply RunN.pure (by decide)
        · intro vs w hb hd; have d0 : isV _ (vs 0) w := hd 0 (by decide) (by kernel_rfl); unfold isV at d0; have d1 : isV _ (vs 1) w := hd 1 (by decide) (by kernel_rfl); unfold isV at d1; have d2 : isV _ (vs 2) w := hd 2 (by decide) (by kernel_rfl); unfold isV at d2; have d3 : isV _ (vs 3) w := hd 3 (by decide) (by kernel_rfl); unfold isV at d3; clear hd; simp only [List.take, putL, Act.put, List.setIfInBounds_toArray, List.set_cons_zero, List.set_cons_succ]; unfold StepOK; go_simp; exact ⟨Below.refl _ _, isV_mk _ _⟩
        apply RunN.pure (by decide)
        · intro vs w hb hd; have d0 : isV _ (vs 0) w := hd 0 (by decide) (by kernel_rfl); unfold isV at d0; have d1 : isV _ (vs 1) w := hd 1 (by decide) (by kernel_rfl); unfold isV at d1; have d2 : isV _ (vs 2) w := hd 2 (by decide) (by kernel_rfl); unfold isV at d2; have d3 : isV _ (vs 3) w := hd 3 (by decide) (by kernel_rfl); unfold isV at d3; have d5 : isV _ (vs 5) w := hd 5 (by decide) (by kernel_rfl); unfold isV at d5; clear hd; simp only [List.take, putL, Act.put, List.setIfInBounds_toArray, List.set_cons_zero, List.set_cons_succ]; unfold StepOK; go_simp; exact ⟨Below.refl _ _, isV_mk _ _⟩
        intro vs w1 hb hd hj
        try simp only [prevE, lastV, List.mem_cons, List.not_mem_nil, or_false, Nat.reduceEqDiff, Nat.reduceAdd, if_true, if_false, reduceIte, or_true, true_or, or_self] at hj
        have e0 : isV _ (vs 0) w1 := hd 0 (by decide)
        have e1 : isV _ (vs 1) w1 := hd 1 (by decide)
        have e2 : isV _ (vs 2) w1 := hd 2 (by decide)
        have e3 : isV _ (vs 3) w1 := hd 3 (by decide)
        have e5 : isV _ (vs 5) w1 := hd 5 (by decide)
        have e6 : isV _ (vs 6) w1 := hd 6 (by decide)
        clear hd
        unfold isV at e0 e1 e2 e3 e5 e6
        simp only [putL, Act.put, List.setIfInBounds_toArray, List.set_cons_zero, List.set_cons_succ, e0, e1, e2, e3, e5, e6]
        clear e0 e1 e2 e3 e5 e6
        --@end
        go_wp2_with fail
        refine bodyPost_ret (results_cell2 rfl _ _ _ ⟨r, 0, none⟩ rfl _ (load_ownR hj)) rfl ?_
        rw [HP1.out]
        have hcur : rootD D = cur := HA.out.symm
        rw [hcur]
        have hgw : w2.heap.size ≤ wx.heap.size := HBx.out.size
        have hgz : wx.heap.size ≤ w1.heap.size := hb.size
        refine ⟨A, c, g + 1, F2, rfl, own_keptR HX.out hb (fun a ha e => ?_), ?_, fun q hq => ?_, dk_new Hx.out hb (by rw [Hr.out]; exact HF2.out), ?_⟩
        · have h1 := (own_ltR HX.out a ha).1
          have h2 := Hg.out
          have h3 := Hr.out
          omega
        · have h2 := Hg.out
          omega
        · have h1 := (H2.out.bound q hq).2
          have h2 := Hg.out
          omega
        · refine cg_new (HC2.out.trans (Cg.below (by rw [← Hg.out]; exact HBx.out))) hb (by rw [Hr.out]; exact Nat.le_refl _)
end
end Go.Proofs.YtemegkapmgcffaaGreat

/- Roots: Write. -/
namespace Go.Proofs.YtemegkapmgcffaaGreat
open Go.RowKit
set_option linter.unusedSimpArgs false
set_option linter.unusedVariables false

theorem parse_rng (l : List UInt8) : 0 ≤ (parseF l).1.s ∧ (parseF l).1.s ≤ 1099511627776 := by
  unfold parseF
  split
  · rename_i h
    have := h.2.1.2
    simp only
    omega
  · simp
theorem acc_rng (D : Dk) : ∀ i, 0 ≤ (accR D i).s ∧ (accR D i).s ≤ 1099511627776 := by
  intro i
  induction i with
  | zero => simp [accR, rt0]
  | succ i ih =>
    show 0 ≤ (candR D (rnm i) (accR D i)).s ∧ (candR D (rnm i) (accR D i)).s ≤ 1099511627776
    unfold candR
    split
    · split
      · exact parse_rng _
      · exact ih
    · exact ih
/-- a slice beside the disk -/
def Rws (F : Nat → Prop) (w : World) (A : Option Addr) (n c : Nat) (vs : List Value) : Prop := Sl w 1 A n c vs ∧ (vs ≠ [] → ∀ a, A = some a → a.block < w.heap.size ∧ ¬ F a.block)
theorem Rws.step {F F' : Nat → Prop} {w w' : World} {A : Option Addr} {n c : Nat} {vs : List Value} (h : Rws F w A n c vs) (hc : Cg F F' w w') : Rws F' w' A n c vs := by
  by_cases h0 : vs = []
  · subst h0
    exact ⟨⟨fun j u hj => by simp at hj, h.1.len, h.1.le, h.1.none⟩, fun h => absurd rfl h⟩
  · refine ⟨sl_same h.1 (fun a ha => hc.block _ (h.2 h0 a ha).1 (h.2 h0 a ha).2), fun _ a ha => ⟨Nat.lt_of_lt_of_le (h.2 h0 a ha).1 hc.size, fun hf => ?_⟩⟩
    have h5 := h.2 h0 a ha
    rcases hc.new _ hf with h6 | h6
    · exact h5.2 h6
    · omega
theorem Rws.below {F : Nat → Prop} {w w' : World} {A : Option Addr} {n c : Nat} {vs : List Value} (h : Rws F w A n c vs) (hb : Below w.heap.size w w') : Rws F w' A n c vs := h.step (Cg.below hb)
theorem rws_own {F : Nat → Prop} {B : Nat} {t : TypeId} {w : World} {A : Option Addr} {n c : Nat} {vs : List Value} (h : Own B t 1 w A n c vs) (hF : ∀ q, F q → q < B) : Rws F w A n c vs :=
  ⟨ownsRow_sl h, fun _ a ha => ⟨(own_ltR h a ha).2, fun hf => by have := (own_ltR h a ha).1; have := hF _ hf; omega⟩⟩
def zrt : List Value := [.int .i64 0, .int .i64 0, .slice none 0 0]
/-- what holds along Write: r and r + 1 are its own two roots -/
structure WS (w0 : World) (base p : Nat) (F0 : Nat → Prop) (r : Nat) (A : Option Addr) (n c : Nat) (x : List UInt8) (B : Option Addr) (m d : Nat) (bs : List UInt8) (s b : Int) (D : Dk) (F : Nat → Prop) (w : World) : Prop where
  dk : DkIs w base p D F
  cg : Cg F0 F w0 w
  n3 : ¬ F r
  n4 : ¬ F (r + 1)
  o3 : Own r 36 1 w (some ⟨r, 0, none⟩) 3 3 [.int .i64 s, .int .i64 b, .slice A n c]
  o4 : Own r 36 1 w (some ⟨r + 1, 0, none⟩) 3 3 zrt
  xr : Rws F w A n c (bytesV x)
  yr : Rws F w B m d (bytesV bs)
  xlt : bytesV x ≠ [] → ∀ a, A = some a → a.block < r
theorem own_cg {F F' : Nat → Prop} {w w' : World} {base q n c : Nat} {e : TypeId} {size : Nat} {cs : List Value} (h : Own base e size w (some ⟨q, 0, none⟩) n c cs) (hc : Cg F F' w w') (hq : ¬ F q) : Own base e size w' (some ⟨q, 0, none⟩) n c cs :=
  own_sameR h (fun a ha => by cases ha; exact hc.block _ (own_ltR h _ rfl).2 hq)
theorem not_new {F F' : Nat → Prop} {w w' : World} {q : Nat} (hc : Cg F F' w w') (hq : ¬ F q) (hl : q < w.heap.size) : ¬ F' q := fun hf => by
  rcases hc.new _ hf with h1 | h1
  · exact hq h1
  · omega
section
variable {w0 : World} {base p : Nat} {F0 : Nat → Prop} {r : Nat} {A : Option Addr} {n c : Nat} {x : List UInt8} {B : Option Addr} {m d : Nat} {bs : List UInt8} {s b : Int} {D D' : Dk} {F F' : Nat → Prop} {w w' : World}
theorem WS.step (h : WS w0 base p F0 r A n c x B m d bs s b D F w) (hd : DkIs w' base p D' F') (hc : Cg F F' w w') : WS w0 base p F0 r A n c x B m d bs s b D' F' w' :=
  ⟨hd, h.cg.trans hc, not_new hc h.n3 (own_ltR h.o3 _ rfl).2, not_new hc h.n4 (own_ltR h.o4 _ rfl).2, own_cg h.o3 hc h.n3, own_cg h.o4 hc h.n4, h.xr.step hc, h.yr.step hc, h.xlt⟩
theorem WS.below (h : WS w0 base p F0 r A n c x B m d bs s b D F w) (hb : Below w.heap.size w w') : WS w0 base p F0 r A n c x B m d bs s b D F w' := h.step (h.dk.below hb) (Cg.below hb)
theorem WS.withY {B2 : Option Addr} {m2 d2 : Nat} {bs2 : List UInt8} (h : WS w0 base p F0 r A n c x B m d bs s b D F w) (hy : Rws F w B2 m2 d2 (bytesV bs2)) : WS w0 base p F0 r A n c x B2 m2 d2 bs2 s b D F w :=
  ⟨h.dk, h.cg, h.n3, h.n4, h.o3, h.o4, h.xr, hy, h.xlt⟩
theorem WS.serial (h : WS w0 base p F0 r A n c x none 0 0 [] s b D F w) (hr : w0.heap.size ≤ r) (s' : Int) : WS w0 base p F0 r A n c x none 0 0 [] s' b D F (w.setCell ⟨r, 0, none⟩ (.int .i64 s')) := by
  have st := World.ownsRow.stored h.o3 0 (.int .i64 s')
  refine ⟨dk_new h.dk st.2 h.n3, cg_new h.cg st.2 hr, h.n3, h.n4, st.1, own_keptR h.o4 st.2 (fun a ha => by cases ha; simp), ?_, ⟨Sl.nil _ _, fun h => absurd rfl h⟩, h.xlt⟩
  by_cases h0 : bytesV x = []
  · have hx := h.xr.1
    rw [h0] at hx ⊢
    exact ⟨⟨fun j u hj => by simp at hj, hx.len, hx.le, hx.none⟩, fun h => absurd rfl h⟩
  · refine ⟨h.xr.1.grown st.2 (fun a ha e => ?_), fun hne a ha => ⟨Nat.lt_of_lt_of_le (h.xr.2 hne a ha).1 st.2.size, (h.xr.2 hne a ha).2⟩⟩
    have h1 := h.xlt h0 a ha
    have h2 : a.block = r := Option.some.inj e
    omega
end
theorem rnw_max : rnw.length ≤ maxLen := by unfold maxLen; decide
theorem rnm_max (i : Nat) : (rnm i).length ≤ maxLen := by
  have : (rnm i).length = 5 := by unfold rnm; split <;> rfl
  rw [this]
  unfold maxLen; decide
theorem bytesR_ok {s b : Int} {x : List UInt8} (h : (bytesR s b x).2 = 0) : 1 ≤ s ∧ s ≤ 1099511627776 ∧ 0 ≤ b ∧ b ≤ 576460752303423488 ∧ x.length ≤ 524288 := by
  unfold bytesR at h
  split at h
  · rename_i h1
    exact (rightR_iff _ _ _).1 h1
  · simp at h
theorem bytesR_len (s b : Int) (x : List UInt8) : (bytesR s b x).1.length ≤ 100000000 := by
  unfold bytesR
  split
  · rename_i h1
    have h2 := (rightR_iff _ _ _).1 h1
    have g1 := uv_len_ten s.toNat (by omega)
    have g2 := uv_len_ten b.toNat (by omega)
    have g3 := uv_len_ten x.length (by omega)
    have hb : (rootB s.toNat b.toNat x).length ≤ 524318 := by
      unfold rootB
      simp only [List.length_append]
      omega
    have g4 := uv_len_ten (rootB s.toNat b.toNat x).length (by omega)
    simp only [frm_len]
    omega
  · simp
def WriteP (w : World) (base p : Nat) (F : Nat → Prop) (R : Dk × Rt × Int) (x : Ending) (w' : World) : Prop :=
  ∃ A c F', x = .returned (.tuple #[rtV R.2.1.s R.2.1.b A R.2.1.x.length c, .int .i64 R.2.2]) ∧ Rws F' w' A R.2.1.x.length c (bytesV R.2.1.x) ∧ DkIs w' base p R.1 F' ∧ Cg F F' w w' ∧ ∀ a, A = some a → w.heap.size ≤ a.block
theorem WriteP.none {w0 : World} {base p : Nat} {F0 : Nat → Prop} {r : Nat} {A : Option Addr} {n c : Nat} {x : List UInt8} {B : Option Addr} {m d : Nat} {bs : List UInt8} {s b : Int} {D : Dk} {F : Nat → Prop} {w w' : World} {e : Int}
    (h : WS w0 base p F0 r A n c x B m d bs s b D F w) (hg : w.grownBy w' (some (r + 1))) (hr : w0.heap.size ≤ r) :
    WriteP w0 base p F0 (D, rt0, e) (.returned (.tuple #[.agg zrt.toArray, .int .i64 e])) w' :=
  ⟨Option.none, 0, F, rfl, ⟨Sl.nil _ _, fun h => absurd rfl h⟩, dk_new h.dk hg h.n4, cg_new h.cg hg (by omega), fun a ha => by cases ha⟩
def putD (D : Dk) (s b : Int) (x bs : List UInt8) : Dk × Rt × Int :=
  if (appendD D rnw bs).1 ≠ 0 then ((appendD D rnw bs).2, rt0, (appendD D rnw bs).1)
  else if (syncD (appendD D rnw bs).2 rnw).1 ≠ 0 then ((syncD (appendD D rnw bs).2 rnw).2, rt0, (syncD (appendD D rnw bs).2 rnw).1)
  else if (renameD (syncD (appendD D rnw bs).2 rnw).2 rnw (rnm s.toNat)).1 ≠ 0 then ((renameD (syncD (appendD D rnw bs).2 rnw).2 rnw (rnm s.toNat)).2, rt0, (renameD (syncD (appendD D rnw bs).2 rnw).2 rnw (rnm s.toNat)).1)
  else ((renameD (syncD (appendD D rnw bs).2 rnw).2 rnw (rnm s.toNat)).2, ⟨s, b, x⟩, 0)
def writeF (D : Dk) (b : Int) (x : List UInt8) : Dk × Rt × Int :=
  if D.dark = true then (D, rt0, 15)
  else if (bytesR ((rootD D).s + 1) b x).2 ≠ 0 then (D, rt0, (bytesR ((rootD D).s + 1) b x).2)
  else if (readD D rnw).2 = 0 then
    if (removeD D rnw).1 ≠ 0 then ((removeD D rnw).2, rt0, (removeD D rnw).1) else putD (removeD D rnw).2 ((rootD D).s + 1) b x (bytesR ((rootD D).s + 1) b x).1
  else putD D ((rootD D).s + 1) b x (bytesR ((rootD D).s + 1) b x).1
set_option maxRecDepth 100000 in
set_option maxHeartbeats 16000000 in
theorem rWrite_any {w : World} {base p : Nat} {D : Dk} {F : Nat → Prop} (h : DkIs w base p D F) (s0 b : Int) (A : Option Addr) (n c : Nat) (x : List UInt8) (hx : Rws F w A n c (bytesV x)) (hn0 : n ≤ 100000000) :
    Calls Tryz.prog 6 #[.pointer (some ⟨p, 0, none⟩), .agg #[.int .i64 s0, .int .i64 b, .slice A n c]] w (WriteP w base p F (writeF D b x)) := by
  have hrg := acc_rng D 2
  have hr3 := new_own w [.int .i64 s0, .int .i64 b, .slice A n c] 36 3 rfl (by unfold maxLen; omega)
  have hb3 := below_alloc1 w (.cells #[.int .i64 s0, .int .i64 b, .slice A n c] 36)
  obtain ⟨W1, hW1⟩ : ∃ W1, W1 = w.alloc (.cells #[.int .i64 s0, .int .i64 b, .slice A n c] 36) := ⟨_, rfl⟩
  have hT1 : (w.alloc (.cells [Value.int .i64 s0, .int .i64 b, .slice A n c].toArray 36)) = W1 := hW1.symm
  rw [hT1] at hr3
  rw [← hW1] at hb3
  have hz1 : W1.heap.size = w.heap.size + 1 := by rw [hW1]; simp
  have hr4 := new_own W1 zrt 36 3 rfl (by unfold maxLen; omega)
  have hb4 := below_alloc1 W1 (.cells #[.int .i64 0, .int .i64 0, .slice none 0 0] 36)
  obtain ⟨W2, hW2⟩ : ∃ W2, W2 = W1.alloc (.cells #[.int .i64 0, .int .i64 0, .slice none 0 0] 36) := ⟨_, rfl⟩
  have hT2 : (W1.alloc (.cells zrt.toArray 36)) = W2 := hW2.symm
  rw [hT2, hz1] at hr4
  rw [← hW2] at hb4
  have eW : (w.alloc (.cells #[.int .i64 s0, .int .i64 b, .slice A n c] 36)).alloc (.cells #[.int .i64 0, .int .i64 0, .slice none 0 0] 36) = W2 := by rw [hW2, hW1]
  have hb2 : Below w.heap.size w W2 := hb3.trans (hb4.mono (by omega))
  have hbd := h.bound
  have hS : WS w base p F w.heap.size A n c x none 0 0 [] s0 b D F W2 :=
    ⟨h.below hb2, Cg.below hb2, fun hf => by have := (hbd _ hf).2; omega, fun hf => by have := (hbd _ hf).2; omega, hr3.below hb4, Own.lower hr4 (by omega), hx.below hb2, ⟨Sl.nil _ _, fun h => absurd rfl h⟩, fun hne a ha => (hx.2 hne a ha).1⟩
  obtain ⟨r, hr⟩ : ∃ r, r = w.heap.size := ⟨_, rfl⟩
  have Hr := Lib.hid hr
  rw [← hr] at hS
  have HS := Lib.hid hS
  have HRG := Lib.hid hrg
  have hrc := rRead_any hS.dk
  have HRC := Lib.hid hrc
  have hn := hx.1.blen
  have Hw : w.heap.size = r := hr.symm
  clear hrc hS hr3 hb3 hW1 hT1 hr4 hb4 hW2 hT2 hb2 hbd h hx hrg hr
  go_enter Tryz.func6, Tryz.ntmps6
  go_upto_region 1 with fail
  clear eW
  obtain ⟨q, hq⟩ : ∃ q, q = rootD D := ⟨_, rfl⟩
  have HQ := Lib.hid hq
  cases hdk : D.dark with
  | true =>
    have hrd : readRD D = (rt0, false, 15) := by unfold readRD; rw [if_pos hdk]
    have HE := Lib.hid (show writeF D b x = (D, rt0, 15) by unfold writeF; rw [if_pos hdk])
    have hrc := HRC.out
    rw [hrd] at hrc
    clear hq hrd hdk HRC
    go_wp2_with fail
    refine hrc.mono ?_; rintro e w3 ⟨A3, c3, B3, F3, rfl, o3, hB, hF, hd, hc⟩
    simp only [rtV, rt0]
    have HS3 := Lib.hid ((HS.out.step hd hc).below (below_alloc1 w3 (.cells #[.int .i64 0, .int .i64 0, .slice A3 0 c3] 36)))
    clear hrc o3 hB hF hd hc
    go_upto_region 2 with fail
    obtain ⟨W4, hW4⟩ : ∃ W4, W4 = w3.alloc (.cells #[.int .i64 0, .int .i64 0, .slice A3 0 c3] 36) := ⟨_, rfl⟩
    rw [← hW4] at HS3 ⊢
    clear hW4
    have k0 := World.ownsRow.cellAt HS3.out.o4 0 (by omega)
    have k1 := World.ownsRow.cellAt HS3.out.o4 1 (by omega)
    have k2 := World.ownsRow.cellAt HS3.out.o4 2 (by omega)
    simp only [zrt, List.getElem?_cons_zero, List.getElem?_cons_succ] at k0 k1 k2
    have f0 := World.ownsRow.frozenAt HS3.out.o4 0
    have f1 := World.ownsRow.frozenAt HS3.out.o4 1
    have f2 := World.ownsRow.frozenAt HS3.out.o4 2
    have Hst := Lib.hid (stored3R HS3.out.o4 (.int .i64 0) (.int .i64 0) (.slice none 0 0))
    go_wp2_with fail
    refine bodyPost_ret (results_cell1R rfl _ _ _ ⟨r + 1, 0, none⟩ rfl _ (load_ownR Hst.out.1)) rfl ?_
    rw [HE.out]
    exact WriteP.none HS3.out Hst.out.2 (by rw [Hw]; exact Nat.le_refl _)
  | false =>
    have hrd : readRD D = (q, decide (0 < q.s), 0) := by unfold readRD; rw [if_neg (by rw [hdk]; simp), ← hq]
    have hrc := HRC.out
    rw [hrd] at hrc
    have hrg : 0 ≤ q.s ∧ q.s ≤ 1099511627776 := by rw [hq]; exact HRG.out
    obtain ⟨N, eN⟩ : ∃ N : Nat, q.s + 1 = (N : Int) := ⟨(q.s + 1).toNat, by omega⟩
    have HN0 := Lib.hid (show N ≤ 1099511627777 by omega)
    have hws : IntKind.i64.wrap (q.s + 1) = (N : Int) := by rw [eN, IntKind.wrap_i64]; omega
    obtain ⟨bs, e5, hby⟩ : ∃ bs e5, bytesR (N : Int) b x = (bs, e5) := ⟨_, _, rfl⟩
    have HBY := Lib.hid hby
    have HD := Lib.hid hdk
    have HEN := Lib.hid (show (rootD D).s + 1 = (N : Int) by rw [← hq]; exact eN)
    have HM := Lib.hid (show bs.length ≤ 100000000 from by have := bytesR_len (N : Int) b x; rw [hby] at this; exact this)
    clear hq hrd hdk HRC hrg eN hby
    go_wp2_with fail
    refine hrc.mono ?_; rintro e w3 ⟨A3, c3, B3, F3, rfl, o3, hB, hF, hd, hc⟩
    simp only [rtV]
    have HS3 := Lib.hid ((HS.out.step hd hc).below (below_alloc1 w3 (.cells #[.int .i64 q.s, .int .i64 q.b, .slice A3 q.x.length c3] 36)))
    have q0 := box_cellsR w3 [.int .i64 q.s, .int .i64 q.b, .slice A3 q.x.length c3] 36 0 _ rfl
    clear hrc o3 hB hF hd hc
    go_upto_region 2 with fail
    obtain ⟨W4, hW4⟩ : ∃ W4, W4 = w3.alloc (.cells #[.int .i64 q.s, .int .i64 q.b, .slice A3 q.x.length c3] 36) := ⟨_, rfl⟩
    have hT4 : w3.alloc (.cells [Value.int .i64 q.s, .int .i64 q.b, .slice A3 q.x.length c3].toArray 36) = W4 := hW4.symm
    rw [hT4] at q0
    rw [← hW4] at HS3 ⊢
    clear hW4 hT4
    have y0 := World.ownsRow.cellAt HS3.out.o3 0 (by omega)
    simp only [List.getElem?_cons_zero] at y0
    have g0 := World.ownsRow.frozenAt HS3.out.o3 0
    have HS5 := Lib.hid (HS3.out.serial (by rw [Hw]; exact Nat.le_refl _) (N : Int))
    go_upto_region 5 with fail
    obtain ⟨W5, hW5⟩ : ∃ W5, W5 = W4.setCell ⟨r, 0, none⟩ (.int .i64 (N : Int)) := ⟨_, rfl⟩
    rw [← hW5] at HS5 ⊢
    clear hW5 y0 g0 q0 hws
    have y0 := World.ownsRow.cellAt HS5.out.o3 0 (by omega)
    have y1 := World.ownsRow.cellAt HS5.out.o3 1 (by omega)
    have y2 := World.ownsRow.cellAt HS5.out.o3 2 (by omega)
    simp only [List.getElem?_cons_zero, List.getElem?_cons_succ] at y0 y1 y2
    have hbc := Bytes_any (N : Int) b A n c x W5 HS5.out.xr.1 (fun hne a ha => (HS5.out.xr.2 hne a ha).1)
    rw [HBY.out] at hbc
    go_wp2_with fail
    refine hbc.mono ?_; rintro e w6 ⟨A5, c5, rfl, o5, b6⟩
    clear hbc y0 y1 y2
    have HS6 := Lib.hid ((HS5.out.below b6).withY (rws_own o5 (fun q hq => (HS5.out.dk.bound q hq).2)))
    clear o5 b6
    by_cases he5 : e5 = 0
    · subst he5
      have HN : Hid (N ≤ 1099511627776) := Lib.hid (by have := bytesR_ok (x := x) (s := (N : Int)) (b := b) (by rw [HBY.out]); omega)
      have hrd := Read_any HS6.out.dk rnw
      obtain ⟨b7, e7, ha7⟩ : ∃ b7 e7, readD D rnw = (b7, e7) := ⟨_, _, rfl⟩
      rw [ha7] at hrd
      go_wp2_with fail
      refine hrd.mono ?_; rintro e w7 ⟨A7, c7, rfl, -, b67⟩
      have HS7 := Lib.hid (HS6.out.below b67)
      clear hrd b67
      by_cases he7 : e7 = 0
      · subst he7
        have hrm := Remove_any HS7.out.dk rnw
        obtain ⟨e8, D1, ha8⟩ : ∃ e8 D1, removeD D rnw = (e8, D1) := ⟨_, _, rfl⟩
        rw [ha8] at hrm
        go_wp2_with fail
        refine hrm.mono ?_; rintro e wq ⟨rfl, Fq, dq, gq⟩
        have HSq := Lib.hid (HS7.out.step dq gq)
        clear hrm dq gq
        by_cases he8 : e8 = 0
        · subst he8
          have HT := Lib.hid (show writeF D b x = putD D1 (N : Int) b x bs by unfold writeF; rw [if_neg (by rw [HD.out]; simp), HEN.out, HBY.out, ha7, ha8]; simp)
          clear ha7 ha8
          have hac := Append_any HSq.out.dk rnw rnw_max HSq.out.yr.1 (fun a ha hne => (HSq.out.yr.2 (by intro h9; exact hne (by have := congrArg List.length h9; exact List.eq_nil_of_length_eq_zero (by simpa [bytesV] using this))) a ha).2) HM.out
          obtain ⟨e4, D2, ha4⟩ : ∃ e4 D2, appendD D1 rnw bs = (e4, D2) := ⟨_, _, rfl⟩
          rw [ha4] at hac
          go_wp2_with fail
          refine hac.mono ?_; rintro e w8 ⟨rfl, F8, d8, g8⟩
          have HS8 := Lib.hid (HSq.out.step d8 g8)
          clear hac d8 g8
          by_cases he4 : e4 = 0
          · subst he4
            have hsc := Sync_any HS8.out.dk rnw
            obtain ⟨e5, D3, ha5⟩ : ∃ e5 D3, syncD D2 rnw = (e5, D3) := ⟨_, _, rfl⟩
            rw [ha5] at hsc
            go_wp2_with fail
            refine hsc.mono ?_; rintro e w9 ⟨rfl, F9, d9, g9⟩
            have HS9 := Lib.hid (HS8.out.step d9 g9)
            clear hsc d9 g9
            by_cases he5 : e5 = 0
            · subst he5
              have y0 := World.ownsRow.cellAt HS9.out.o3 0 (by omega)
              have y1 := World.ownsRow.cellAt HS9.out.o3 1 (by omega)
              have y2 := World.ownsRow.cellAt HS9.out.o3 2 (by omega)
              simp only [List.getElem?_cons_zero, List.getElem?_cons_succ] at y0 y1 y2
              go_wp2_with fail
              refine (name_any N HN.out w9).mono ?_; rintro e w10 ⟨rfl, rfl⟩
              have hrc := Rename_any HS9.out.dk rnw (rnm N) (rnm_max N)
              obtain ⟨e6, D4, ha6⟩ : ∃ e6 D4, renameD D3 rnw (rnm N) = (e6, D4) := ⟨_, _, rfl⟩
              rw [ha6] at hrc
              go_wp2_with fail
              refine hrc.mono ?_; rintro e w11 ⟨rfl, F11, d11, g11⟩
              have HS11 := Lib.hid (HS9.out.step d11 g11)
              clear hrc d11 g11 y0 y1 y2
              by_cases he6 : e6 = 0
              · subst he6
                have HE := Lib.hid (show writeF D b x = (D4, ⟨(N : Int), b, x⟩, 0) by rw [HT.out]; simp only [putD, ha4, ha5, ha6, Int.toNat_natCast, ne_eq, not_true_eq_false, if_false])
                have y0 := World.ownsRow.cellAt HS11.out.o3 0 (by omega)
                have y1 := World.ownsRow.cellAt HS11.out.o3 1 (by omega)
                have y2 := World.ownsRow.cellAt HS11.out.o3 2 (by omega)
                simp only [List.getElem?_cons_zero, List.getElem?_cons_succ] at y0 y1 y2
                have hxsl := Lib.hid HS11.out.xr.1
                clear ha4 ha5 ha6
                go_upto_region 23 with (at_builtin; refine wpList_ownA _ rfl _ _ 34 rfl w11.heap.size 5 (.int .u8 0) 1 1 Tryz.underlying34 infoByte rfl (by decide) none 0 0 [] rfl (World.ownsRow_nil _ _ _ _) A n c (bytesV x) rfl hxsl.out (bytesV_one x) (by unfold maxLen; omega) (by omega) (Nat.le_refl _) ?_; intro A12 c12 w12 hat; have hb12 := Lib.hid (hat.below (Nat.le_refl _)); have HAT := Lib.hid hat; clear hat y0 y1 y2; have z2 := World.ownsRow.cellAt (HS11.out.o3.below hb12.out) 2 (by omega); have g2 := World.ownsRow.frozenAt (HS11.out.o3.below hb12.out) 2; simp only [List.getElem?_cons_zero, List.getElem?_cons_succ] at z2)
                have HS12 := Lib.hid (HS11.out.below hb12.out)
                have st3 := Lib.hid (World.ownsRow.stored HS12.out.o3 2 (.slice A12 n c12))
                obtain ⟨W13, hW13⟩ : ∃ W13, W13 = w12.setCell ⟨r, 2, none⟩ (.slice A12 n c12) := ⟨_, rfl⟩
                rw [← hW13] at st3 ⊢
                clear hW13 z2 g2
                have o4 : Own r 36 1 W13 (some ⟨r + 1, 0, none⟩) 3 3 zrt := own_keptR HS12.out.o4 st3.out.2 (fun a ha => by cases ha; simp)
                have y0 := World.ownsRow.cellAt st3.out.1 0 (by omega)
                have y1 := World.ownsRow.cellAt st3.out.1 1 (by omega)
                have y2 := World.ownsRow.cellAt st3.out.1 2 (by omega)
                simp only [List.set_cons_zero, List.set_cons_succ, List.getElem?_cons_zero, List.getElem?_cons_succ] at y0 y1 y2
                have k0 := World.ownsRow.cellAt o4 0 (by omega)
                have k1 := World.ownsRow.cellAt o4 1 (by omega)
                have k2 := World.ownsRow.cellAt o4 2 (by omega)
                simp only [zrt, List.getElem?_cons_zero, List.getElem?_cons_succ] at k0 k1 k2
                have f0 := World.ownsRow.frozenAt o4 0
                have f1 := World.ownsRow.frozenAt o4 1
                have f2 := World.ownsRow.frozenAt o4 2
                have Hst := Lib.hid (stored3R o4 (.int .i64 (N : Int)) (.int .i64 b) (.slice A12 n c12))
                have Hn := Lib.hid hn
                clear o4 hn
                go_wp2_with fail
                refine bodyPost_ret (results_cell1R rfl _ _ _ ⟨r + 1, 0, none⟩ rfl _ (load_ownR Hst.out.1)) rfl ?_
                rw [HE.out]
                have hz := (own_ltR HS11.out.o4 _ rfl).2
                have hat2 : Own w11.heap.size 5 1 w12 A12 n c12 (bytesV x) := by have h9 := HAT.out.app; rw [List.nil_append, Nat.zero_add] at h9; exact h9
                have hat3 := own_keptR (own_keptR hat2 st3.out.2 (fun a ha e => by have h1 := (own_ltR hat2 a ha).1; simp only at hz; omega)) Hst.out.2 (fun a ha e => by have h1 := (own_ltR hat2 a ha).1; simp only at hz; omega)
                refine ⟨A12, c12, F11, by simp only [Hn.out]; rfl, ?_, dk_new (dk_new HS12.out.dk st3.out.2 HS12.out.n3) Hst.out.2 HS12.out.n4, cg_new (cg_new HS12.out.cg st3.out.2 (by rw [Hw]; exact Nat.le_refl _)) Hst.out.2 (by rw [Hw]; omega), fun a ha => Nat.le_trans HS11.out.cg.size (own_ltR hat3 a ha).1⟩
                rw [Hn.out]
                exact rws_own hat3 (fun q hq => (HS11.out.dk.bound q hq).2)
              · have HE := Lib.hid (show writeF D b x = (D4, rt0, e6) by rw [HT.out]; simp only [putD, ha4, ha5, ha6, he6, Int.toNat_natCast, ne_eq, not_true_eq_false, not_false_eq_true, if_true, if_false])
                have he62 : (e6 == 0) = false := by simpa using he6
                clear ha4 ha5 ha6
                have k0 := World.ownsRow.cellAt HS11.out.o4 0 (by omega)
                have k1 := World.ownsRow.cellAt HS11.out.o4 1 (by omega)
                have k2 := World.ownsRow.cellAt HS11.out.o4 2 (by omega)
                simp only [zrt, List.getElem?_cons_zero, List.getElem?_cons_succ] at k0 k1 k2
                have f0 := World.ownsRow.frozenAt HS11.out.o4 0
                have f1 := World.ownsRow.frozenAt HS11.out.o4 1
                have f2 := World.ownsRow.frozenAt HS11.out.o4 2
                have Hst := Lib.hid (stored3R HS11.out.o4 (.int .i64 0) (.int .i64 0) (.slice none 0 0))
                go_wp2_with fail
                refine bodyPost_ret (results_cell1R rfl _ _ _ ⟨r + 1, 0, none⟩ rfl _ (load_ownR Hst.out.1)) rfl ?_
                rw [HE.out]
                exact WriteP.none HS11.out Hst.out.2 (by rw [Hw]; exact Nat.le_refl _)
            · have HE := Lib.hid (show writeF D b x = (D3, rt0, e5) by rw [HT.out]; simp only [putD, ha4, ha5, he5, ne_eq, not_true_eq_false, not_false_eq_true, if_true, if_false])
              have he52 : (e5 == 0) = false := by simpa using he5
              clear ha4 ha5
              have k0 := World.ownsRow.cellAt HS9.out.o4 0 (by omega)
              have k1 := World.ownsRow.cellAt HS9.out.o4 1 (by omega)
              have k2 := World.ownsRow.cellAt HS9.out.o4 2 (by omega)
              simp only [zrt, List.getElem?_cons_zero, List.getElem?_cons_succ] at k0 k1 k2
              have f0 := World.ownsRow.frozenAt HS9.out.o4 0
              have f1 := World.ownsRow.frozenAt HS9.out.o4 1
              have f2 := World.ownsRow.frozenAt HS9.out.o4 2
              have Hst := Lib.hid (stored3R HS9.out.o4 (.int .i64 0) (.int .i64 0) (.slice none 0 0))
              go_wp2_with fail
              refine bodyPost_ret (results_cell1R rfl _ _ _ ⟨r + 1, 0, none⟩ rfl _ (load_ownR Hst.out.1)) rfl ?_
              rw [HE.out]
              exact WriteP.none HS9.out Hst.out.2 (by rw [Hw]; exact Nat.le_refl _)
          · have HE := Lib.hid (show writeF D b x = (D2, rt0, e4) by rw [HT.out]; simp only [putD, ha4, he4, ne_eq, not_false_eq_true, if_true])
            have he42 : (e4 == 0) = false := by simpa using he4
            clear ha4
            have k0 := World.ownsRow.cellAt HS8.out.o4 0 (by omega)
            have k1 := World.ownsRow.cellAt HS8.out.o4 1 (by omega)
            have k2 := World.ownsRow.cellAt HS8.out.o4 2 (by omega)
            simp only [zrt, List.getElem?_cons_zero, List.getElem?_cons_succ] at k0 k1 k2
            have f0 := World.ownsRow.frozenAt HS8.out.o4 0
            have f1 := World.ownsRow.frozenAt HS8.out.o4 1
            have f2 := World.ownsRow.frozenAt HS8.out.o4 2
            have Hst := Lib.hid (stored3R HS8.out.o4 (.int .i64 0) (.int .i64 0) (.slice none 0 0))
            go_wp2_with fail
            refine bodyPost_ret (results_cell1R rfl _ _ _ ⟨r + 1, 0, none⟩ rfl _ (load_ownR Hst.out.1)) rfl ?_
            rw [HE.out]
            exact WriteP.none HS8.out Hst.out.2 (by rw [Hw]; exact Nat.le_refl _)
        · have HE := Lib.hid (show writeF D b x = (D1, rt0, e8) by unfold writeF; rw [if_neg (by rw [HD.out]; simp), HEN.out, HBY.out, ha7, ha8]; simp [he8])
          have he82 : (e8 == 0) = false := by simpa using he8
          clear ha7 ha8
          have k0 := World.ownsRow.cellAt HSq.out.o4 0 (by omega)
          have k1 := World.ownsRow.cellAt HSq.out.o4 1 (by omega)
          have k2 := World.ownsRow.cellAt HSq.out.o4 2 (by omega)
          simp only [zrt, List.getElem?_cons_zero, List.getElem?_cons_succ] at k0 k1 k2
          have f0 := World.ownsRow.frozenAt HSq.out.o4 0
          have f1 := World.ownsRow.frozenAt HSq.out.o4 1
          have f2 := World.ownsRow.frozenAt HSq.out.o4 2
          have Hst := Lib.hid (stored3R HSq.out.o4 (.int .i64 0) (.int .i64 0) (.slice none 0 0))
          go_wp2_with fail
          refine bodyPost_ret (results_cell1R rfl _ _ _ ⟨r + 1, 0, none⟩ rfl _ (load_ownR Hst.out.1)) rfl ?_
          rw [HE.out]
          exact WriteP.none HSq.out Hst.out.2 (by rw [Hw]; exact Nat.le_refl _)
      · have he72 : (e7 == 0) = false := by simpa using he7
        have HT := Lib.hid (show writeF D b x = putD D (N : Int) b x bs by unfold writeF; rw [if_neg (by rw [HD.out]; simp), HEN.out, HBY.out, ha7]; simp [he7])
        clear ha7
        have hac := Append_any HS7.out.dk rnw rnw_max HS7.out.yr.1 (fun a ha hne => (HS7.out.yr.2 (by intro h9; exact hne (by have := congrArg List.length h9; exact List.eq_nil_of_length_eq_zero (by simpa [bytesV] using this))) a ha).2) HM.out
        obtain ⟨e4, D2, ha4⟩ : ∃ e4 D2, appendD D rnw bs = (e4, D2) := ⟨_, _, rfl⟩
        rw [ha4] at hac
        go_wp2_with fail
        refine hac.mono ?_; rintro e w8 ⟨rfl, F8, d8, g8⟩
        have HS8 := Lib.hid (HS7.out.step d8 g8)
        clear hac d8 g8
        by_cases he4 : e4 = 0
        · subst he4
          have hsc := Sync_any HS8.out.dk rnw
          obtain ⟨e5, D3, ha5⟩ : ∃ e5 D3, syncD D2 rnw = (e5, D3) := ⟨_, _, rfl⟩
          rw [ha5] at hsc
          go_wp2_with fail
          refine hsc.mono ?_; rintro e w9 ⟨rfl, F9, d9, g9⟩
          have HS9 := Lib.hid (HS8.out.step d9 g9)
          clear hsc d9 g9
          by_cases he5 : e5 = 0
          · subst he5
            have y0 := World.ownsRow.cellAt HS9.out.o3 0 (by omega)
            have y1 := World.ownsRow.cellAt HS9.out.o3 1 (by omega)
            have y2 := World.ownsRow.cellAt HS9.out.o3 2 (by omega)
            simp only [List.getElem?_cons_zero, List.getElem?_cons_succ] at y0 y1 y2
            go_wp2_with fail
            refine (name_any N HN.out w9).mono ?_; rintro e w10 ⟨rfl, rfl⟩
            have hrc := Rename_any HS9.out.dk rnw (rnm N) (rnm_max N)
            obtain ⟨e6, D4, ha6⟩ : ∃ e6 D4, renameD D3 rnw (rnm N) = (e6, D4) := ⟨_, _, rfl⟩
            rw [ha6] at hrc
            go_wp2_with fail
            refine hrc.mono ?_; rintro e w11 ⟨rfl, F11, d11, g11⟩
            have HS11 := Lib.hid (HS9.out.step d11 g11)
            clear hrc d11 g11 y0 y1 y2
            by_cases he6 : e6 = 0
            · subst he6
              have HE := Lib.hid (show writeF D b x = (D4, ⟨(N : Int), b, x⟩, 0) by rw [HT.out]; simp only [putD, ha4, ha5, ha6, Int.toNat_natCast, ne_eq, not_true_eq_false, if_false])
              have y0 := World.ownsRow.cellAt HS11.out.o3 0 (by omega)
              have y1 := World.ownsRow.cellAt HS11.out.o3 1 (by omega)
              have y2 := World.ownsRow.cellAt HS11.out.o3 2 (by omega)
              simp only [List.getElem?_cons_zero, List.getElem?_cons_succ] at y0 y1 y2
              have hxsl := Lib.hid HS11.out.xr.1
              clear ha4 ha5 ha6
              go_upto_region 23 with (at_builtin; refine wpList_ownA _ rfl _ _ 34 rfl w11.heap.size 5 (.int .u8 0) 1 1 Tryz.underlying34 infoByte rfl (by decide) none 0 0 [] rfl (World.ownsRow_nil _ _ _ _) A n c (bytesV x) rfl hxsl.out (bytesV_one x) (by unfold maxLen; omega) (by omega) (Nat.le_refl _) ?_; intro A12 c12 w12 hat; have hb12 := Lib.hid (hat.below (Nat.le_refl _)); have HAT := Lib.hid hat; clear hat y0 y1 y2; have z2 := World.ownsRow.cellAt (HS11.out.o3.below hb12.out) 2 (by omega); have g2 := World.ownsRow.frozenAt (HS11.out.o3.below hb12.out) 2; simp only [List.getElem?_cons_zero, List.getElem?_cons_succ] at z2)
              have HS12 := Lib.hid (HS11.out.below hb12.out)
              have st3 := Lib.hid (World.ownsRow.stored HS12.out.o3 2 (.slice A12 n c12))
              obtain ⟨W13, hW13⟩ : ∃ W13, W13 = w12.setCell ⟨r, 2, none⟩ (.slice A12 n c12) := ⟨_, rfl⟩
              rw [← hW13] at st3 ⊢
              clear hW13 z2 g2
              have o4 : Own r 36 1 W13 (some ⟨r + 1, 0, none⟩) 3 3 zrt := own_keptR HS12.out.o4 st3.out.2 (fun a ha => by cases ha; simp)
              have y0 := World.ownsRow.cellAt st3.out.1 0 (by omega)
              have y1 := World.ownsRow.cellAt st3.out.1 1 (by omega)
              have y2 := World.ownsRow.cellAt st3.out.1 2 (by omega)
              simp only [List.set_cons_zero, List.set_cons_succ, List.getElem?_cons_zero, List.getElem?_cons_succ] at y0 y1 y2
              have k0 := World.ownsRow.cellAt o4 0 (by omega)
              have k1 := World.ownsRow.cellAt o4 1 (by omega)
              have k2 := World.ownsRow.cellAt o4 2 (by omega)
              simp only [zrt, List.getElem?_cons_zero, List.getElem?_cons_succ] at k0 k1 k2
              have f0 := World.ownsRow.frozenAt o4 0
              have f1 := World.ownsRow.frozenAt o4 1
              have f2 := World.ownsRow.frozenAt o4 2
              have Hst := Lib.hid (stored3R o4 (.int .i64 (N : Int)) (.int .i64 b) (.slice A12 n c12))
              have Hn := Lib.hid hn
              clear o4 hn
              go_wp2_with fail
              refine bodyPost_ret (results_cell1R rfl _ _ _ ⟨r + 1, 0, none⟩ rfl _ (load_ownR Hst.out.1)) rfl ?_
              rw [HE.out]
              have hz := (own_ltR HS11.out.o4 _ rfl).2
              have hat2 : Own w11.heap.size 5 1 w12 A12 n c12 (bytesV x) := by have h9 := HAT.out.app; rw [List.nil_append, Nat.zero_add] at h9; exact h9
              have hat3 := own_keptR (own_keptR hat2 st3.out.2 (fun a ha e => by have h1 := (own_ltR hat2 a ha).1; simp only at hz; omega)) Hst.out.2 (fun a ha e => by have h1 := (own_ltR hat2 a ha).1; simp only at hz; omega)
              refine ⟨A12, c12, F11, by simp only [Hn.out]; rfl, ?_, dk_new (dk_new HS12.out.dk st3.out.2 HS12.out.n3) Hst.out.2 HS12.out.n4, cg_new (cg_new HS12.out.cg st3.out.2 (by rw [Hw]; exact Nat.le_refl _)) Hst.out.2 (by rw [Hw]; omega), fun a ha => Nat.le_trans HS11.out.cg.size (own_ltR hat3 a ha).1⟩
              rw [Hn.out]
              exact rws_own hat3 (fun q hq => (HS11.out.dk.bound q hq).2)
            · have HE := Lib.hid (show writeF D b x = (D4, rt0, e6) by rw [HT.out]; simp only [putD, ha4, ha5, ha6, he6, Int.toNat_natCast, ne_eq, not_true_eq_false, not_false_eq_true, if_true, if_false])
              have he62 : (e6 == 0) = false := by simpa using he6
              clear ha4 ha5 ha6
              have k0 := World.ownsRow.cellAt HS11.out.o4 0 (by omega)
              have k1 := World.ownsRow.cellAt HS11.out.o4 1 (by omega)
              have k2 := World.ownsRow.cellAt HS11.out.o4 2 (by omega)
              simp only [zrt, List.getElem?_cons_zero, List.getElem?_cons_succ] at k0 k1 k2
              have f0 := World.ownsRow.frozenAt HS11.out.o4 0
              have f1 := World.ownsRow.frozenAt HS11.out.o4 1
              have f2 := World.ownsRow.frozenAt HS11.out.o4 2
              have Hst := Lib.hid (stored3R HS11.out.o4 (.int .i64 0) (.int .i64 0) (.slice none 0 0))
              go_wp2_with fail
              refine bodyPost_ret (results_cell1R rfl _ _ _ ⟨r + 1, 0, none⟩ rfl _ (load_ownR Hst.out.1)) rfl ?_
              rw [HE.out]
              exact WriteP.none HS11.out Hst.out.2 (by rw [Hw]; exact Nat.le_refl _)
          · have HE := Lib.hid (show writeF D b x = (D3, rt0, e5) by rw [HT.out]; simp only [putD, ha4, ha5, he5, ne_eq, not_true_eq_false, not_false_eq_true, if_true, if_false])
            have he52 : (e5 == 0) = false := by simpa using he5
            clear ha4 ha5
            have k0 := World.ownsRow.cellAt HS9.out.o4 0 (by omega)
            have k1 := World.ownsRow.cellAt HS9.out.o4 1 (by omega)
            have k2 := World.ownsRow.cellAt HS9.out.o4 2 (by omega)
            simp only [zrt, List.getElem?_cons_zero, List.getElem?_cons_succ] at k0 k1 k2
            have f0 := World.ownsRow.frozenAt HS9.out.o4 0
            have f1 := World.ownsRow.frozenAt HS9.out.o4 1
            have f2 := World.ownsRow.frozenAt HS9.out.o4 2
            have Hst := Lib.hid (stored3R HS9.out.o4 (.int .i64 0) (.int .i64 0) (.slice none 0 0))
            go_wp2_with fail
            refine bodyPost_ret (results_cell1R rfl _ _ _ ⟨r + 1, 0, none⟩ rfl _ (load_ownR Hst.out.1)) rfl ?_
            rw [HE.out]
            exact WriteP.none HS9.out Hst.out.2 (by rw [Hw]; exact Nat.le_refl _)
        · have HE := Lib.hid (show writeF D b x = (D2, rt0, e4) by rw [HT.out]; simp only [putD, ha4, he4, ne_eq, not_false_eq_true, if_true])
          have he42 : (e4 == 0) = false := by simpa using he4
          clear ha4
          have k0 := World.ownsRow.cellAt HS8.out.o4 0 (by omega)
          have k1 := World.ownsRow.cellAt HS8.out.o4 1 (by omega)
          have k2 := World.ownsRow.cellAt HS8.out.o4 2 (by omega)
          simp only [zrt, List.getElem?_cons_zero, List.getElem?_cons_succ] at k0 k1 k2
          have f0 := World.ownsRow.frozenAt HS8.out.o4 0
          have f1 := World.ownsRow.frozenAt HS8.out.o4 1
          have f2 := World.ownsRow.frozenAt HS8.out.o4 2
          have Hst := Lib.hid (stored3R HS8.out.o4 (.int .i64 0) (.int .i64 0) (.slice none 0 0))
          go_wp2_with fail
          refine bodyPost_ret (results_cell1R rfl _ _ _ ⟨r + 1, 0, none⟩ rfl _ (load_ownR Hst.out.1)) rfl ?_
          rw [HE.out]
          exact WriteP.none HS8.out Hst.out.2 (by rw [Hw]; exact Nat.le_refl _)
    · have he52 : (e5 == 0) = false := by simpa using he5
      have HE := Lib.hid (show writeF D b x = (D, rt0, e5) by unfold writeF; rw [if_neg (by rw [HD.out]; simp), HEN.out, HBY.out]; simp [he5])
      have k0 := World.ownsRow.cellAt HS6.out.o4 0 (by omega)
      have k1 := World.ownsRow.cellAt HS6.out.o4 1 (by omega)
      have k2 := World.ownsRow.cellAt HS6.out.o4 2 (by omega)
      simp only [zrt, List.getElem?_cons_zero, List.getElem?_cons_succ] at k0 k1 k2
      have f0 := World.ownsRow.frozenAt HS6.out.o4 0
      have f1 := World.ownsRow.frozenAt HS6.out.o4 1
      have f2 := World.ownsRow.frozenAt HS6.out.o4 2
      have Hst := Lib.hid (stored3R HS6.out.o4 (.int .i64 0) (.int .i64 0) (.slice none 0 0))
      go_wp2_with fail
      refine bodyPost_ret (results_cell1R rfl _ _ _ ⟨r + 1, 0, none⟩ rfl _ (load_ownR Hst.out.1)) rfl ?_
      rw [HE.out]
      exact WriteP.none HS6.out Hst.out.2 (by rw [Hw]; exact Nat.le_refl _)
end Go.Proofs.YtemegkapmgcffaaGreat

/- Roots: a disk of the caller's own, and slices beside it. -/
namespace Go.Proofs.YtemegkapmgcffaaGreat
open Go.RowKit
set_option linter.unusedSimpArgs false
set_option linter.unusedVariables false

structure Rsl where
  A : Option Addr
  n : Nat
  c : Nat
  x : List UInt8
/-- a disk of the caller's own (newer than W), and slices of bytes that it does not hold -/
def DskL (W w : World) (p : Nat) (D : Dk) (L : List Rsl) : Prop := ∃ F, DkIs w W.heap.size p D F ∧ Below W.heap.size W w ∧ ∀ ρ, ρ ∈ L → Rws F w ρ.A ρ.n ρ.c (bytesV ρ.x)
section
variable {W w w' : World} {p : Nat} {D D' : Dk} {L L' : List Rsl}
theorem DskL.bel (h : DskL W w p D L) : Below W.heap.size W w := by obtain ⟨F, h1, h2, h3⟩ := h; exact h2
theorem DskL.sub (h : DskL W w p D L) (hs : ∀ ρ, ρ ∈ L' → ρ ∈ L) : DskL W w p D L' := by obtain ⟨F, h1, h2, h3⟩ := h; exact ⟨F, h1, h2, fun ρ hr => h3 ρ (hs ρ hr)⟩
theorem DskL.sl (h : DskL W w p D L) {ρ : Rsl} (hr : ρ ∈ L) : Sl w 1 ρ.A ρ.n ρ.c (bytesV ρ.x) := by obtain ⟨F, h1, h2, h3⟩ := h; exact (h3 ρ hr).1
theorem DskL.below (h : DskL W w p D L) (hb : Below w.heap.size w w') : DskL W w' p D L := by
  obtain ⟨F, h1, h2, h3⟩ := h
  exact ⟨F, h1.below hb, h2.trans (hb.mono h2.size), fun ρ hr => (h3 ρ hr).below hb⟩
theorem DskL.of (h : Dsk W w p D) : DskL W w p D [] := by
  obtain ⟨F, h1, h2⟩ := h
  exact ⟨F, h1, h2, fun ρ hr => by cases hr⟩
theorem DskL.dsk (h : DskL W w p D L) : Dsk W w p D := by obtain ⟨F, h1, h2, h3⟩ := h; exact ⟨F, h1, h2⟩
theorem DskL.good (h : DskL W w p D L) : Good D := h.dsk.good
/-- a slice that was there before the disk was -/
theorem DskL.old (h : DskL W w p D L) {ρ : Rsl} (hs : Sl W 1 ρ.A ρ.n ρ.c (bytesV ρ.x)) : DskL W w p D (ρ :: L) := by
  obtain ⟨F, h1, h2, h3⟩ := h
  refine ⟨F, h1, h2, fun σ hr => ?_⟩
  rcases List.mem_cons.1 hr with h5 | h5
  · subst h5
    refine ⟨hs.below h2, fun hne a ha => ?_⟩
    obtain ⟨v, t, hv⟩ := List.exists_cons_of_ne_nil hne
    obtain ⟨ad, h6, h7⟩ := hs.cells 0 v (by rw [hv]; rfl)
    rw [ha] at h6
    cases h6
    have h8 := World.block_lt_of_cell? _ _ h7
    rw [add_block] at h8
    exact ⟨Nat.lt_of_lt_of_le h8 h2.size, fun hf => by have := (h1.bound _ hf).1; omega⟩
  · exact h3 σ h5
/-- a slice that is newer than the disk -/
theorem DskL.new (h : DskL W w p D L) (hb : Below w.heap.size w w') {B : Nat} {t : TypeId} {ρ : Rsl} (hB : w.heap.size ≤ B) (ho : Own B t 1 w' ρ.A ρ.n ρ.c (bytesV ρ.x)) : DskL W w' p D (ρ :: L) := by
  obtain ⟨F, h1, h2, h3⟩ := h.below hb
  obtain ⟨F0, g1, g2, g3⟩ := h
  refine ⟨F0, g1.below hb, h2, fun σ hr => ?_⟩
  rcases List.mem_cons.1 hr with h5 | h5
  · subst h5
    exact rws_own ho (fun q hq => Nat.lt_of_lt_of_le (g1.bound q hq).2 hB)
  · exact (g3 σ h5).below hb
theorem DskL.op {P : Ending → Prop} {f : FuncId} {args : Array Value} (h : DskL W w p D L)
    (hc : ∀ F, DkIs w W.heap.size p D F → (∀ ρ, ρ ∈ L → Rws F w ρ.A ρ.n ρ.c (bytesV ρ.x)) → Calls Tryz.prog f args w fun x w' => P x ∧ ∃ F', DkIs w' W.heap.size p D' F' ∧ Cg F F' w w') :
    Calls Tryz.prog f args w fun x w' => P x ∧ DskL W w' p D' L := by
  obtain ⟨F, h1, h2, h3⟩ := h
  refine (hc F h1 h3).mono fun x w' ⟨k1, F', k2, k3⟩ => ?_
  exact ⟨k1, F', k2, h2.trans (k3.bel (fun q hq => (h1.bound q hq).1) h2.size), fun ρ hr => (h3 ρ hr).step k3⟩
theorem rread_l {q : Rt} {ok : Bool} {e : Int} (h : DskL W w p D L) (hr : readRD D = (q, ok, e)) :
    Calls Tryz.prog 18 #[.pointer (some ⟨p, 0, none⟩)] w fun x w' => ∃ A c, x = .returned (.tuple #[.agg #[.int .i64 q.s, .int .i64 q.b, .slice A q.x.length c], .bool ok, .int .i64 e]) ∧ DskL W w' p D (⟨A, q.x.length, c, q.x⟩ :: L) := by
  obtain ⟨F, h1, h2, h3⟩ := h
  have hc := rRead_any h1
  rw [hr] at hc
  refine hc.mono fun x w' ⟨A, c, B, F', k1, k2, k3, k4, k5, k6⟩ => ?_
  refine ⟨A, c, k1, F', k5, h2.trans (k6.bel (fun q hq => (h1.bound q hq).1) h2.size), fun ρ hr => ?_⟩
  rcases List.mem_cons.1 hr with h5 | h5
  · subst h5
    exact rws_own k2 k4
  · exact (h3 ρ h5).step k6
theorem rwrite_l {q : Rt} {e : Int} (h : DskL W w p D L) (s0 b : Int) {ρ : Rsl} (hm : ρ ∈ L) (hn : ρ.n ≤ 100000000) (hr : writeF D b ρ.x = (D', q, e)) :
    Calls Tryz.prog 6 #[.pointer (some ⟨p, 0, none⟩), .agg #[.int .i64 s0, .int .i64 b, .slice ρ.A ρ.n ρ.c]] w fun x w' => ∃ A c, x = .returned (.tuple #[.agg #[.int .i64 q.s, .int .i64 q.b, .slice A q.x.length c], .int .i64 e]) ∧ DskL W w' p D' (⟨A, q.x.length, c, q.x⟩ :: L) := by
  obtain ⟨F, h1, h2, h3⟩ := h
  have hc := rWrite_any h1 s0 b ρ.A ρ.n ρ.c ρ.x (h3 ρ hm) hn
  rw [hr] at hc
  refine hc.mono fun x w' ⟨A, c, F', k1, k2, k5, k6, k7⟩ => ?_
  refine ⟨A, c, k1, F', k5, h2.trans (k6.bel (fun q hq => (h1.bound q hq).1) h2.size), fun σ hs => ?_⟩
  rcases List.mem_cons.1 hs with h5 | h5
  · subst h5
    exact k2
  · exact (h3 σ h5).step k6
end
end Go.Proofs.YtemegkapmgcffaaGreat
