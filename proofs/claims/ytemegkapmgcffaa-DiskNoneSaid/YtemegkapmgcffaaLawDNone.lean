import Derived.Test.YtemegkapmgcffaaDkZ
import Derived.Test.YtemegkapmgcffaaDkY
/- DiskNone: the walk. -/
namespace Go.Proofs.Ytemegkapmgcffaa
open Go.RowKit
set_option linter.unusedSimpArgs false
set_option linter.unusedVariables false

def dedV (o : Int) (d : Ded) : List Value := [.int .u8 o, .string (bstr d.a), .string (bstr d.t2), .slice d.bA d.b.length d.bc, .int .i64 d.n, .slice d.kA d.ks.length d.kc, .slice d.tA d.ts.length d.tc]
set_option maxRecDepth 100000 in
set_option maxHeartbeats 8000000 in
theorem dnone_any {W : World} (d : Ded) (hd : OkDed W d) : Calls Try.prog 14 #[.agg (dedC d).toArray] W fun x w' => x = .returned (.bool true) ∧ Below W.heap.size W w' := by
  have hop := hd.op
  have hdc : (dedC d).toArray = (dedV d.op d).toArray := rfl
  rw [hdc]
  have ho1 := new_own W (dedV d.op d) 70 7 rfl (by unfold maxLen; omega)
  have hb1 := below_alloc1 W (.cells (dedV d.op d).toArray 70)
  obtain ⟨W1, hW1⟩ : ∃ W1, W1 = W.alloc (.cells (dedV d.op d).toArray 70) := ⟨_, rfl⟩
  have hs1 : W1.heap.size = W.heap.size + 1 := by rw [hW1]; simp
  rw [← hW1] at ho1 hb1
  have hb2 := below_alloc1 W1 (.cells #[.slice none 0 0, .int .i64 0, .int .i64 0, .bool false, Value.nilFunc] 38)
  have hz := box_cellsN W1 [.slice none 0 0, .int .i64 0, .int .i64 0, .bool false, Value.nilFunc] 38 4 _ rfl
  obtain ⟨W2, hW2⟩ : ∃ W2, W2 = W1.alloc (.cells #[.slice none 0 0, .int .i64 0, .int .i64 0, .bool false, Value.nilFunc] 38) := ⟨_, rfl⟩
  have hs2 : W2.heap.size = W.heap.size + 2 := by rw [hW2]; simp [hs1]
  have hT : (W1.alloc (.cells [.slice none 0 0, .int .i64 0, .int .i64 0, .bool false, Value.nilFunc].toArray 38)) = W2 := hW2.symm
  rw [hT, hs1] at hz
  rw [← hW2] at hb2
  have hb3 := below_alloc1 W2 (.cells #[.pointer none, .pointer (some ⟨W.heap.size + 1, 0, none⟩)] 34)
  have hx0 := box_cellsN W2 [.pointer none, .pointer (some ⟨W.heap.size + 1, 0, none⟩)] 34 0 _ rfl
  have hx1 := box_cellsN W2 [.pointer none, .pointer (some ⟨W.heap.size + 1, 0, none⟩)] 34 1 _ rfl
  obtain ⟨W3, hW3⟩ : ∃ W3, W3 = W2.alloc (.cells #[.pointer none, .pointer (some ⟨W.heap.size + 1, 0, none⟩)] 34) := ⟨_, rfl⟩
  have hT3 : W2.alloc (.cells [.pointer none, .pointer (some ⟨W.heap.size + 1, 0, none⟩)].toArray 34) = W3 := hW3.symm
  rw [hT3, hs2] at hx0 hx1
  rw [← hW3] at hb3
  have HX0 := Lib.hid hx0
  have HX1 := Lib.hid hx1
  have HZ := Lib.hid (cellB hb3 hz)
  have HO := Lib.hid ((ho1.below hb2).below hb3)
  have HB := Lib.hid (hb1.trans ((hb2.trans (hb3.mono hb2.size)).mono hb1.size))
  have HW3 := Lib.hid (show W3 = _ from hW3.trans (by rw [hW2, hW1]))
  have HS3 := Lib.hid (show W3.heap.size = W.heap.size + 3 by rw [hW3]; simp [hs2])
  have Hd := Lib.hid hd
  clear ho1 hb1 hb2 hb3 hz hx0 hx1 hs1 hs2 hT hT3 hW1 hW2 hW3 hd
  go_enter Try.func14, Try.ntmps14
  go_wp2_with fail
  rw [← HW3.out]
  clear HW3
  obtain ⟨op, hopp⟩ : ∃ op, op = d.op := ⟨_, rfl⟩
  rw [← hopp] at hop HO
  have Hopp := Lib.hid hopp
  clear hopp
  go_loopw [14] (fun s14 wx => ∃ (i : Nat) (o : Int), i ≤ 2 ∧ s14 = .int .i64 (i : Int) ∧ 0 ≤ o ∧ o ≤ 255 ∧ Hid (Own W.heap.size 70 1 wx (some ⟨W.heap.size, 0, none⟩) 7 7 (dedV o d)) ∧ Hid (W3.heap[W.heap.size + 1]? = wx.heap[W.heap.size + 1]? ∧ W3.heap[W.heap.size + 2]? = wx.heap[W.heap.size + 2]?) ∧ Hid (Below W.heap.size W wx)) (fun iv _ => 2 - (intOf iv).toNat)
  case atStart => exact ⟨0, op, by omega, rfl, hop.1, hop.2, HO, Lib.hid ⟨rfl, rfl⟩, HB⟩
  case round =>
    obtain ⟨i, o, hi, rfl, ho0, ho1, HOw, HE, HBw⟩ := hrel
    by_cases h2 : i < 2
    · obtain ⟨v, hv⟩ : ∃ v : Option Addr, v = if i = 0 then none else some ⟨W.heap.size + 1, 0, none⟩ := ⟨_, rfl⟩
      have hcell : ∀ q k u, (q = W.heap.size + 1 ∨ q = W.heap.size + 2) → W3.cell? ⟨q, k, none⟩ = some u → wr.cell? ⟨q, k, none⟩ = some u := fun q k u hq hu => by
        refine (World.cell?_of_block ?_).trans hu
        rcases hq with rfl | rfl
        · exact HE.out.1.symm
        · exact HE.out.2.symm
      have hN : NoD wr v := by
        rw [hv]
        split
        · exact .inl rfl
        · exact .inr ⟨_, rfl, hcell _ _ _ (.inl rfl) HZ.out⟩
      have hvc : wr.cell? ⟨W.heap.size + 2, i, none⟩ = some (.pointer v) := by
        obtain rfl | rfl : i = 0 ∨ i = 1 := by omega
        · rw [hv, if_pos rfl]; exact hcell _ _ _ (.inr rfl) HX0.out
        · rw [hv, if_neg (by decide)]; exact hcell _ _ _ (.inr rfl) HX1.out
      have hin : (0 : Int) ≤ (i : Int) ∧ (i : Int) < 2 := by omega
      have hvc2 : wr.cell? ⟨W.heap.size + 1 + 1, i, none⟩ = some (.pointer v) := hvc
      have k1 := World.ownsRow.cellAt HOw.out 1 (by omega)
      have k0 := World.ownsRow.cellAt HOw.out 0 (by omega)
      simp only [dedV, List.getElem?_cons_zero, List.getElem?_cons_succ] at k0 k1
      have y0 := World.ownsRow.frozenAt HOw.out 0
      have st := World.ownsRow.stored HOw.out 0 (.int .u8 (o % 7))
      have ho7 : 0 ≤ o % 7 ∧ o % 7 ≤ 6 := by omega
      obtain ⟨W5, hW5⟩ : ∃ W5, W5 = wr.setCell ⟨W.heap.size, 0, none⟩ (.int .u8 (o % 7)) := ⟨_, rfl⟩
      rw [← hW5] at st
      have HW5 := Lib.hid hW5
      have HO5 := Lib.hid (show Own W.heap.size 70 1 W5 (some ⟨W.heap.size, 0, none⟩) 7 7 (dedV (o % 7) d) from st.1)
      have HG5 := Lib.hid st.2
      have hN5 : NoD W5 v := by
        rcases hN with h | ⟨q, h1, h3⟩
        · exact .inl h
        · refine .inr ⟨q, h1, cellG st.2 h3 ?_⟩
          rw [hv] at h1
          split at h1
          · cases h1
          · cases h1; simp
      have HN := Lib.hid hN
      have HN5 := Lib.hid hN5
      clear hcell hW5 st hv hvc hN hN5
      go_wp2_with fail
      refine (readN HN.out _).mono ?_; rintro x w1 ⟨rfl, rfl⟩
      go_upto_region 7 with fail
      rw [← HW5.out]
      have e0 := World.ownsRow.cellAt HO5.out 0 (by omega)
      have e1 := World.ownsRow.cellAt HO5.out 1 (by omega)
      have e2 := World.ownsRow.cellAt HO5.out 2 (by omega)
      have e3 := World.ownsRow.cellAt HO5.out 3 (by omega)
      have e4 := World.ownsRow.cellAt HO5.out 4 (by omega)
      have e5 := World.ownsRow.cellAt HO5.out 5 (by omega)
      have e6 := World.ownsRow.cellAt HO5.out 6 (by omega)
      simp only [dedV, List.getElem?_cons_zero, List.getElem?_cons_succ] at e0 e1 e2 e3 e4 e5 e6
      clear k0 k1 y0 hvc2 HW5
      go_wp2_with fail
      refine (doesN HN5.out d ho7).mono ?_; rintro x w6 ⟨rfl, hb6⟩
      have HN6 := Lib.hid (HN5.out.below hb6)
      have g1 := cellB hb6 e1
      have g4 := cellB hb6 e4
      have g5 := cellB hb6 e5
      have g6 := cellB hb6 e6
      have Hb6 := Lib.hid hb6
      clear hb6 e0 e1 e2 e3 e4 e5 e6
      go_wp2_with fail
      refine (armN HN6.out _).mono ?_; rintro x w7 ⟨rfl, rfl⟩
      go_wp2_with fail
      refine (crashN HN6.out _ _).mono ?_; rintro x w8 ⟨rfl, rfl⟩
      have HA := Lib.hid g1
      have HN0 := HN
      clear HN0 HN
      have HN := HN6
      clear g1 g4 g5 g6
      go_upto_region 10 with fail
      --@region 14 10 none10.spec
      refine wp_region_run (by kernel_rfl) (by kernel_rfl) ?_
      apply RunL.pure
      · intro vs w hb hd; clear hd; simp only [List.take, putL, Act.put, List.setIfInBounds_toArray, List.set_cons_zero, List.set_cons_succ]; unfold StepOK; go_simp; exact ⟨Below.refl _ _, isV_mk _ _⟩
      apply RunL.pure
      · intro vs w hb hd; have d0 : isV _ (vs 0) w := hd 0 (by decide) (by kernel_rfl); unfold isV at d0; clear hd; simp only [List.take, putL, Act.put, List.setIfInBounds_toArray, List.set_cons_zero, List.set_cons_succ]; unfold StepOK; go_simp; exact ⟨Below.refl _ _, isV_mk _ _⟩
      apply RunL.pure
      · intro vs w hb hd; have d1 : isV _ (vs 1) w := hd 1 (by decide) (by kernel_rfl); unfold isV at d1; clear hd; simp only [List.take, putL, Act.put, List.setIfInBounds_toArray, List.set_cons_zero, List.set_cons_succ]; unfold StepOK; go_simp; exact ⟨Below.refl _ _, isV_mk _ _⟩
      apply RunL.pure
      · intro vs w hb hd; have d2 : isV _ (vs 2) w := hd 2 (by decide) (by kernel_rfl); unfold isV at d2; clear hd; simp only [List.take, putL, Act.put, List.setIfInBounds_toArray, List.set_cons_zero, List.set_cons_succ]; unfold StepOK; go_simp; exact ⟨Below.refl _ _, isV_mk _ _⟩
      apply RunL.pure
      · intro vs w hb hd; have d2 : isV _ (vs 2) w := hd 2 (by decide) (by kernel_rfl); unfold isV at d2; have d3 : isV _ (vs 3) w := hd 3 (by decide) (by kernel_rfl); unfold isV at d3; clear hd; simp only [List.take, putL, Act.put, List.setIfInBounds_toArray, List.set_cons_zero, List.set_cons_succ]; unfold StepOK; go_simp; exact ⟨Below.refl _ _, isV_mk _ _⟩
      apply RunL.pure
      · intro vs w hb hd; have d2 : isV _ (vs 2) w := hd 2 (by decide) (by kernel_rfl); unfold isV at d2; have d4 : isV _ (vs 4) w := hd 4 (by decide) (by kernel_rfl); unfold isV at d4; clear hd; simp only [List.take, putL, Act.put, List.setIfInBounds_toArray, List.set_cons_zero, List.set_cons_succ]; unfold StepOK; go_simp; exact ⟨Below.refl _ _, isV_mk _ _⟩
      apply RunL.pure
      · intro vs w hb hd; have d2 : isV _ (vs 2) w := hd 2 (by decide) (by kernel_rfl); unfold isV at d2; have d5 : isV _ (vs 5) w := hd 5 (by decide) (by kernel_rfl); unfold isV at d5; clear hd; simp only [List.take, putL, Act.put, List.setIfInBounds_toArray, List.set_cons_zero, List.set_cons_succ]; unfold StepOK; go_simp; exact ⟨Below.refl _ _, isV_mk _ _⟩
      apply RunL.pure
      · intro vs w hb hd; have d6 : isV _ (vs 6) w := hd 6 (by decide) (by kernel_rfl); unfold isV at d6; clear hd; simp only [List.take, putL, Act.put, List.setIfInBounds_toArray, List.set_cons_zero, List.set_cons_succ]; unfold StepOK; go_simp; exact ⟨Below.refl _ _, isV_mk _ _⟩
      apply RunL.pure
      · intro vs w hb hd; have d6 : isV _ (vs 6) w := hd 6 (by decide) (by kernel_rfl); unfold isV at d6; have d7 : isV _ (vs 7) w := hd 7 (by decide) (by kernel_rfl); unfold isV at d7; clear hd; simp only [List.take, putL, Act.put, List.setIfInBounds_toArray, List.set_cons_zero, List.set_cons_succ]; unfold StepOK; go_simp; exact ⟨Below.refl _ _, isV_mk _ _⟩
      apply RunL.pure
      · intro vs w hb hd; have d6 : isV _ (vs 6) w := hd 6 (by decide) (by kernel_rfl); unfold isV at d6; have d8 : isV _ (vs 8) w := hd 8 (by decide) (by kernel_rfl); unfold isV at d8; clear hd; simp only [List.take, putL, Act.put, List.setIfInBounds_toArray, List.set_cons_zero, List.set_cons_succ]; unfold StepOK; go_simp; exact ⟨Below.refl _ _, isV_mk _ _⟩
      apply RunL.pure
      · intro vs w hb hd; have d6 : isV _ (vs 6) w := hd 6 (by decide) (by kernel_rfl); unfold isV at d6; have d9 : isV _ (vs 9) w := hd 9 (by decide) (by kernel_rfl); unfold isV at d9; clear hd; simp only [List.take, putL, Act.put, List.setIfInBounds_toArray, List.set_cons_zero, List.set_cons_succ]; unfold StepOK; go_simp; exact ⟨Below.refl _ _, isV_mk _ _⟩
      apply RunL.pure
      · intro vs w hb hd; have d6 : isV _ (vs 6) w := hd 6 (by decide) (by kernel_rfl); unfold isV at d6; have d10 : isV _ (vs 10) w := hd 10 (by decide) (by kernel_rfl); unfold isV at d10; clear hd; simp only [List.take, putL, Act.put, List.setIfInBounds_toArray, List.set_cons_zero, List.set_cons_succ]; unfold StepOK; go_simp; exact ⟨Below.refl _ _, isV_mk _ _⟩
      apply RunL.pure
      · intro vs w hb hd; have d11 : isV _ (vs 11) w := hd 11 (by decide) (by kernel_rfl); unfold isV at d11; clear hd; simp only [List.take, putL, Act.put, List.setIfInBounds_toArray, List.set_cons_zero, List.set_cons_succ]; unfold StepOK; go_simp; exact ⟨Below.refl _ _, isV_mk _ _⟩
      refine RunL.such (isV (.slice none 0 0)) (isV_stable _) ?_ ?_
      · intro vs w hb hd; have d11 : isV _ (vs 11) w := hd 11 (by decide) (by kernel_rfl); unfold isV at d11; have d12 : isV _ (vs 12) w := hd 12 (by decide) (by kernel_rfl); unfold isV at d12; clear hd; have hn := HN.out.below hb; simp only [List.take, putL, Act.put, List.setIfInBounds_toArray, List.set_cons_zero, List.set_cons_succ]; unfold StepOK; go_simp; exact ⟨Below.refl _ _, such_of_bool ((listN hn).mono (fun e w' ⟨h1, h2⟩ => ⟨h1, h2 ▸ Below.refl _ _⟩))⟩
      apply RunL.pure
      · intro vs w hb hd; have d11 : isV _ (vs 11) w := hd 11 (by decide) (by kernel_rfl); unfold isV at d11; have d13 := hd 13 (by decide) (by kernel_rfl); simp only [TR, Nat.reduceAdd, Nat.reduceSub, List.getD_cons_zero, List.getD_cons_succ] at d13; clear hd; unfold isV at d13; simp only [List.take, putL, Act.put, List.setIfInBounds_toArray, List.set_cons_zero, List.set_cons_succ]; unfold StepOK; go_simp; exact ⟨Below.refl _ _, isV_mk _ _⟩
      apply RunL.pure
      · intro vs w hb hd; have d11 : isV _ (vs 11) w := hd 11 (by decide) (by kernel_rfl); unfold isV at d11; have d14 : isV _ (vs 14) w := hd 14 (by decide) (by kernel_rfl); unfold isV at d14; clear hd; simp only [List.take, putL, Act.put, List.setIfInBounds_toArray, List.set_cons_zero, List.set_cons_succ]; unfold StepOK; go_simp; exact ⟨Below.refl _ _, isV_mk _ _⟩
      apply RunL.pure
      · intro vs w hb hd; have d11 : isV _ (vs 11) w := hd 11 (by decide) (by kernel_rfl); unfold isV at d11; have d15 : isV _ (vs 15) w := hd 15 (by decide) (by kernel_rfl); unfold isV at d15; clear hd; simp only [List.take, putL, Act.put, List.setIfInBounds_toArray, List.set_cons_zero, List.set_cons_succ]; unfold StepOK; go_simp; exact ⟨Below.refl _ _, isV_mk _ _⟩
      apply RunL.pure
      · intro vs w hb hd; have d13 := hd 13 (by decide) (by kernel_rfl); simp only [TR, Nat.reduceAdd, Nat.reduceSub, List.getD_cons_zero, List.getD_cons_succ] at d13; have d16 : isV _ (vs 16) w := hd 16 (by decide) (by kernel_rfl); unfold isV at d16; clear hd; simp only [List.take, putL, Act.put, List.setIfInBounds_toArray, List.set_cons_zero, List.set_cons_succ]; unfold StepOK; go_simp; exact ⟨Below.refl _ _, isV_mk _ _⟩
      apply RunL.pure
      · intro vs w hb hd; have d17 : isV _ (vs 17) w := hd 17 (by decide) (by kernel_rfl); unfold isV at d17; clear hd; simp only [List.take, putL, Act.put, List.setIfInBounds_toArray, List.set_cons_zero, List.set_cons_succ]; unfold StepOK; go_simp; exact ⟨Below.refl _ _, isV_mk _ _⟩
      apply RunL.pure
      · intro vs w hb hd; have d17 : isV _ (vs 17) w := hd 17 (by decide) (by kernel_rfl); unfold isV at d17; clear hd; simp only [List.take, putL, Act.put, List.setIfInBounds_toArray, List.set_cons_zero, List.set_cons_succ]; unfold StepOK; go_simp; exact ⟨Below.refl _ _, isV_mk _ _⟩
      apply RunL.pure
      · intro vs w hb hd; have d17 : isV _ (vs 17) w := hd 17 (by decide) (by kernel_rfl); unfold isV at d17; have d19 : isV _ (vs 19) w := hd 19 (by decide) (by kernel_rfl); unfold isV at d19; clear hd; have hx1 := cellB hb HA.out; simp only [List.take, putL, Act.put, List.setIfInBounds_toArray, List.set_cons_zero, List.set_cons_succ]; unfold StepOK; go_simp; exact ⟨Below.refl _ _, isV_mk _ _⟩
      refine RunL.such (isV (.int .i64 0)) (isV_stable _) ?_ ?_
      · intro vs w hb hd; have d17 : isV _ (vs 17) w := hd 17 (by decide) (by kernel_rfl); unfold isV at d17; have d18 : isV _ (vs 18) w := hd 18 (by decide) (by kernel_rfl); unfold isV at d18; have d20 : isV _ (vs 20) w := hd 20 (by decide) (by kernel_rfl); unfold isV at d20; clear hd; have hn := HN.out.below hb; simp only [List.take, putL, Act.put, List.setIfInBounds_toArray, List.set_cons_zero, List.set_cons_succ]; unfold StepOK; go_simp; exact ⟨Below.refl _ _, such_of_bool (sizeN hn _)⟩
      apply RunL.pure
      · intro vs w hb hd; have d17 : isV _ (vs 17) w := hd 17 (by decide) (by kernel_rfl); unfold isV at d17; clear hd; simp only [List.take, putL, Act.put, List.setIfInBounds_toArray, List.set_cons_zero, List.set_cons_succ]; unfold StepOK; go_simp; exact ⟨Below.refl _ _, isV_mk _ _⟩
      apply RunL.pure
      · intro vs w hb hd; have d17 : isV _ (vs 17) w := hd 17 (by decide) (by kernel_rfl); unfold isV at d17; clear hd; simp only [List.take, putL, Act.put, List.setIfInBounds_toArray, List.set_cons_zero, List.set_cons_succ]; unfold StepOK; go_simp; exact ⟨Below.refl _ _, isV_mk _ _⟩
      apply RunL.pure
      · intro vs w hb hd; have d17 : isV _ (vs 17) w := hd 17 (by decide) (by kernel_rfl); unfold isV at d17; have d23 : isV _ (vs 23) w := hd 23 (by decide) (by kernel_rfl); unfold isV at d23; clear hd; have hx1 := cellB hb HA.out; simp only [List.take, putL, Act.put, List.setIfInBounds_toArray, List.set_cons_zero, List.set_cons_succ]; unfold StepOK; go_simp; exact ⟨Below.refl _ _, isV_mk _ _⟩
      refine RunL.such (isV (.int .i64 0)) (isV_stable _) ?_ ?_
      · intro vs w hb hd; have d17 : isV _ (vs 17) w := hd 17 (by decide) (by kernel_rfl); unfold isV at d17; have d21 := hd 21 (by decide) (by kernel_rfl); simp only [TR, Nat.reduceAdd, Nat.reduceSub, List.getD_cons_zero, List.getD_cons_succ] at d21; have d22 : isV _ (vs 22) w := hd 22 (by decide) (by kernel_rfl); unfold isV at d22; have d24 : isV _ (vs 24) w := hd 24 (by decide) (by kernel_rfl); unfold isV at d24; clear hd; have hn := HN.out.below hb; simp only [List.take, putL, Act.put, List.setIfInBounds_toArray, List.set_cons_zero, List.set_cons_succ]; unfold StepOK; go_simp; exact ⟨Below.refl _ _, such_of_bool (syncedN hn _)⟩
      apply RunL.pure
      · intro vs w hb hd; have d17 : isV _ (vs 17) w := hd 17 (by decide) (by kernel_rfl); unfold isV at d17; have d21 := hd 21 (by decide) (by kernel_rfl); simp only [TR, Nat.reduceAdd, Nat.reduceSub, List.getD_cons_zero, List.getD_cons_succ] at d21; have d25 := hd 25 (by decide) (by kernel_rfl); simp only [TR, Nat.reduceAdd, Nat.reduceSub, List.getD_cons_zero, List.getD_cons_succ] at d25; clear hd; unfold isV at d21 d25; simp only [List.take, putL, Act.put, List.setIfInBounds_toArray, List.set_cons_zero, List.set_cons_succ]; unfold StepOK; go_simp; exact ⟨Below.refl _ _, isV_mk _ _⟩
      apply RunL.pure
      · intro vs w hb hd; have d17 : isV _ (vs 17) w := hd 17 (by decide) (by kernel_rfl); unfold isV at d17; clear hd; simp only [List.take, putL, Act.put, List.setIfInBounds_toArray, List.set_cons_zero, List.set_cons_succ]; unfold StepOK; go_simp; exact ⟨Below.refl _ _, isV_mk _ _⟩
      refine RunL.such (isV (.int .i64 0)) (isV_stable _) ?_ ?_
      · intro vs w hb hd; have d17 : isV _ (vs 17) w := hd 17 (by decide) (by kernel_rfl); unfold isV at d17; have d25 := hd 25 (by decide) (by kernel_rfl); simp only [TR, Nat.reduceAdd, Nat.reduceSub, List.getD_cons_zero, List.getD_cons_succ] at d25; have d27 : isV _ (vs 27) w := hd 27 (by decide) (by kernel_rfl); unfold isV at d27; clear hd; have hn := HN.out.below hb; simp only [List.take, putL, Act.put, List.setIfInBounds_toArray, List.set_cons_zero, List.set_cons_succ]; unfold StepOK; go_simp; exact ⟨Below.refl _ _, such_of_bool ((usedN hn).mono (fun e w' ⟨h1, h2⟩ => ⟨h1, h2 ▸ Below.refl _ _⟩))⟩
      apply RunL.pure
      · intro vs w hb hd; have d17 : isV _ (vs 17) w := hd 17 (by decide) (by kernel_rfl); unfold isV at d17; have d26 : isV _ (vs 26) w := hd 26 (by decide) (by kernel_rfl); unfold isV at d26; have d28 := hd 28 (by decide) (by kernel_rfl); simp only [TR, Nat.reduceAdd, Nat.reduceSub, List.getD_cons_zero, List.getD_cons_succ] at d28; clear hd; unfold isV at d28; simp only [List.take, putL, Act.put, List.setIfInBounds_toArray, List.set_cons_zero, List.set_cons_succ]; unfold StepOK; go_simp; exact ⟨Below.refl _ _, isV_mk _ _⟩
      apply RunL.pure
      · intro vs w hb hd; have d17 : isV _ (vs 17) w := hd 17 (by decide) (by kernel_rfl); unfold isV at d17; have d29 : isV _ (vs 29) w := hd 29 (by decide) (by kernel_rfl); unfold isV at d29; clear hd; simp only [List.take, putL, Act.put, List.setIfInBounds_toArray, List.set_cons_zero, List.set_cons_succ]; unfold StepOK; go_simp; exact ⟨Below.refl _ _, isV_mk _ _⟩
      apply RunL.pure
      · intro vs w hb hd; have d17 : isV _ (vs 17) w := hd 17 (by decide) (by kernel_rfl); unfold isV at d17; have d30 : isV _ (vs 30) w := hd 30 (by decide) (by kernel_rfl); unfold isV at d30; clear hd; simp only [List.take, putL, Act.put, List.setIfInBounds_toArray, List.set_cons_zero, List.set_cons_succ]; unfold StepOK; go_simp; exact ⟨Below.refl _ _, isV_mk _ _⟩
      apply RunL.pure
      · intro vs w hb hd; have d28 := hd 28 (by decide) (by kernel_rfl); simp only [TR, Nat.reduceAdd, Nat.reduceSub, List.getD_cons_zero, List.getD_cons_succ] at d28; have d31 : isV _ (vs 31) w := hd 31 (by decide) (by kernel_rfl); unfold isV at d31; clear hd; simp only [List.take, putL, Act.put, List.setIfInBounds_toArray, List.set_cons_zero, List.set_cons_succ]; unfold StepOK; go_simp; exact ⟨Below.refl _ _, isV_mk _ _⟩
      apply RunL.pure
      · intro vs w hb hd; have d32 : isV _ (vs 32) w := hd 32 (by decide) (by kernel_rfl); unfold isV at d32; clear hd; simp only [List.take, putL, Act.put, List.setIfInBounds_toArray, List.set_cons_zero, List.set_cons_succ]; unfold StepOK; go_simp; exact ⟨Below.refl _ _, isV_mk _ _⟩
      refine RunL.such (isV (.bool false)) (isV_stable _) ?_ ?_
      · intro vs w hb hd; have d32 : isV _ (vs 32) w := hd 32 (by decide) (by kernel_rfl); unfold isV at d32; have d33 : isV _ (vs 33) w := hd 33 (by decide) (by kernel_rfl); unfold isV at d33; clear hd; have hn := HN.out.below hb; simp only [List.take, putL, Act.put, List.setIfInBounds_toArray, List.set_cons_zero, List.set_cons_succ]; unfold StepOK; go_simp; exact ⟨Below.refl _ _, such_of_bool ((downN hn).mono (fun e w' ⟨h1, h2⟩ => ⟨h1, h2 ▸ Below.refl _ _⟩))⟩
      apply RunL.pure
      · intro vs w hb hd; have d32 : isV _ (vs 32) w := hd 32 (by decide) (by kernel_rfl); unfold isV at d32; have d34 := hd 34 (by decide) (by kernel_rfl); simp only [TR, Nat.reduceAdd, Nat.reduceSub, List.getD_cons_zero, List.getD_cons_succ] at d34; clear hd; unfold isV at d34; simp only [List.take, putL, Act.put, List.setIfInBounds_toArray, List.set_cons_zero, List.set_cons_succ]; unfold StepOK; go_simp; exact ⟨Below.refl _ _, isV_mk _ _⟩
      intro vs w1 hb hd
      have e0 : isV _ (vs 0) w1 := hd 0 (by decide)
      have e1 : isV _ (vs 1) w1 := hd 1 (by decide)
      have e2 : isV _ (vs 2) w1 := hd 2 (by decide)
      have e3 : isV _ (vs 3) w1 := hd 3 (by decide)
      have e4 : isV _ (vs 4) w1 := hd 4 (by decide)
      have e5 : isV _ (vs 5) w1 := hd 5 (by decide)
      have e6 : isV _ (vs 6) w1 := hd 6 (by decide)
      have e7 : isV _ (vs 7) w1 := hd 7 (by decide)
      have e8 : isV _ (vs 8) w1 := hd 8 (by decide)
      have e9 : isV _ (vs 9) w1 := hd 9 (by decide)
      have e10 : isV _ (vs 10) w1 := hd 10 (by decide)
      have e11 : isV _ (vs 11) w1 := hd 11 (by decide)
      have e12 : isV _ (vs 12) w1 := hd 12 (by decide)
      have e13 := hd 13 (by decide); simp only [TR, Nat.reduceAdd, Nat.reduceSub, List.getD_cons_zero, List.getD_cons_succ] at e13
      have e14 : isV _ (vs 14) w1 := hd 14 (by decide)
      have e15 : isV _ (vs 15) w1 := hd 15 (by decide)
      have e16 : isV _ (vs 16) w1 := hd 16 (by decide)
      have e17 : isV _ (vs 17) w1 := hd 17 (by decide)
      have e18 : isV _ (vs 18) w1 := hd 18 (by decide)
      have e19 : isV _ (vs 19) w1 := hd 19 (by decide)
      have e20 : isV _ (vs 20) w1 := hd 20 (by decide)
      have e21 := hd 21 (by decide); simp only [TR, Nat.reduceAdd, Nat.reduceSub, List.getD_cons_zero, List.getD_cons_succ] at e21
      have e22 : isV _ (vs 22) w1 := hd 22 (by decide)
      have e23 : isV _ (vs 23) w1 := hd 23 (by decide)
      have e24 : isV _ (vs 24) w1 := hd 24 (by decide)
      have e25 := hd 25 (by decide); simp only [TR, Nat.reduceAdd, Nat.reduceSub, List.getD_cons_zero, List.getD_cons_succ] at e25
      have e26 : isV _ (vs 26) w1 := hd 26 (by decide)
      have e27 : isV _ (vs 27) w1 := hd 27 (by decide)
      have e28 := hd 28 (by decide); simp only [TR, Nat.reduceAdd, Nat.reduceSub, List.getD_cons_zero, List.getD_cons_succ] at e28
      have e29 : isV _ (vs 29) w1 := hd 29 (by decide)
      have e30 : isV _ (vs 30) w1 := hd 30 (by decide)
      have e31 : isV _ (vs 31) w1 := hd 31 (by decide)
      have e32 : isV _ (vs 32) w1 := hd 32 (by decide)
      have e33 : isV _ (vs 33) w1 := hd 33 (by decide)
      have e34 := hd 34 (by decide); simp only [TR, Nat.reduceAdd, Nat.reduceSub, List.getD_cons_zero, List.getD_cons_succ] at e34
      have e35 : isV _ (vs 35) w1 := hd 35 (by decide)
      clear hd
      unfold isV at e0 e1 e2 e3 e4 e5 e6 e7 e8 e9 e10 e11 e12 e14 e15 e16 e17 e18 e19 e20 e22 e23 e24 e26 e27 e29 e30 e31 e32 e33 e35
      simp only [putL, Act.put, List.setIfInBounds_toArray, List.set_cons_zero, List.set_cons_succ, e0, e1, e2, e3, e4, e5, e6, e7, e8, e9, e10, e11, e12, e14, e15, e16, e17, e18, e19, e20, e22, e23, e24, e26, e27, e29, e30, e31, e32, e33, e35]
      clear e0 e1 e2 e3 e4 e5 e6 e7 e8 e9 e10 e11 e12 e14 e15 e16 e17 e18 e19 e20 e22 e23 e24 e26 e27 e29 e30 e31 e32 e33 e35
      --@end
      have hsz : W.heap.size + 3 ≤ wr.heap.size := by
        have h1 := HE.out.2
        have h3 : W3.heap[W.heap.size + 2]? ≠ none := by
          rw [Array.getElem?_eq_getElem (by have := HS3.out; omega)]; simp
        rw [h1] at h3
        rcases Nat.lt_or_ge (W.heap.size + 2) wr.heap.size with h4 | h4
        · omega
        · exact absurd (Array.getElem?_eq_none h4) h3
      have hkeep : ∀ q, (q = W.heap.size + 1 ∨ q = W.heap.size + 2) → w1.heap[q]? = wr.heap[q]? := fun q hq => by
        have s5 := HG5.out.size
        have s6 := Hb6.out.size
        rw [hb.block q (by omega), Hb6.out.block q (by omega)]
        exact HG5.out.block q (by omega) (fun e2 => by have := Option.some.inj e2; omega)
      have R1 := Lib.hid (show W3.heap[W.heap.size + 1]? = w1.heap[W.heap.size + 1]? ∧ W3.heap[W.heap.size + 2]? = w1.heap[W.heap.size + 2]? from ⟨HE.out.1.trans (hkeep _ (.inl rfl)).symm, HE.out.2.trans (hkeep _ (.inr rfl)).symm⟩)
      have R2 := Lib.hid ((HO5.out.below Hb6.out).below hb)
      have R3 := Lib.hid (((HBw.out.grown HG5.out HBw.out.size (fun q hq => by cases hq; exact Nat.le_refl _)).trans (Hb6.out.mono (Nat.le_trans HBw.out.size HG5.out.size))).trans (hb.mono (by have := HBw.out.size; have := HG5.out.size; have := Hb6.out.size; omega)))
      clear hkeep hb HE HOw HBw
      go_wp2_with fail
      go_roundw
      case rel => exact ⟨i + 1, o % 7, by omega, by go_num, by omega, by omega, R2, R1, R3⟩
      case measure => simp [intOf]; omega
    · obtain rfl : i = 2 := by omega
      have HBw2 := HBw
      go_wp2_with fail
      refine (awake2_any _).mono ?_; rintro x w1 ⟨rfl, hb⟩
      go_wp2_with fail
      go_ret
      exact ⟨rfl, HBw2.out.trans (hb.mono HBw2.out.size)⟩
end Go.Proofs.Ytemegkapmgcffaa
