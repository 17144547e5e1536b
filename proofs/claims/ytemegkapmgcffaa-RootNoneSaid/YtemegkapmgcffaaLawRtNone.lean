import Derived.Test.YtemegkapmgcffaaMRc
import Derived.Test.YtemegkapmgcffaaDkZ
import Derived.Test.YtemegkapmgcffaaRowsR
/- RootNone: the walk (printed by wip/gen/grtnone.py). -/
namespace Go.Proofs.Ytemegkapmgcffaa
open Go.RowKit
set_option linter.unusedSimpArgs false
set_option linter.unusedVariables false

theorem wrote3 {W w w' : World} {r : Nat} (hb : Below W.heap.size W w) (hg : w.grownBy w' (some r)) (hr : W.heap.size ≤ r) : Below W.heap.size W w' :=
  hb.grown hg hb.size (fun k hk => by cases hk; exact hr)
set_option maxRecDepth 100000 in
set_option maxHeartbeats 8000000 in
theorem rReadN {w : World} {v : Option Addr} (h : NoD w v) : Calls Try.prog 26 #[.pointer v] w fun e w' => e = .returned (.tuple #[.agg #[.int .i64 0, .int .i64 0, .slice none 0 0], .bool false, .int .i64 1]) ∧ Below w.heap.size w w' := by
  have hown := new_own w [.int .i64 0, .int .i64 0, .slice none 0 0] 24 3 rfl (by unfold maxLen; omega)
  have hb1 := below_alloc1 w (.cells #[.int .i64 0, .int .i64 0, .slice none 0 0] 24)
  obtain ⟨W1, hW1⟩ : ∃ W1, W1 = w.alloc (.cells #[.int .i64 0, .int .i64 0, .slice none 0 0] 24) := ⟨_, rfl⟩
  have hT : (w.alloc (.cells [Value.int .i64 0, .int .i64 0, .slice none 0 0].toArray 24)) = W1 := hW1.symm
  rw [hT] at hown
  rw [← hW1] at hb1
  have HW1 := Lib.hid hW1
  have H1 := Lib.hid (h.below hb1)
  have HO := Lib.hid hown
  have HB1 := Lib.hid hb1
  clear hown hb1 hW1 hT h
  go_enter Try.func26, Try.ntmps26
  go_upto_region 1 with fail
  rw [← HW1.out]
  go_wp2_with fail
  refine (appendN H1.out _ none 0 0).mono ?_; rintro e w2 ⟨rfl, b2⟩
  have HO2 := Lib.hid (Own.below HO.out b2)
  have HB2 := Lib.hid (HB1.out.trans (b2.mono HB1.out.size))
  clear b2
  have k0 := World.ownsRow.cellAt HO2.out 0 (by omega)
  have k1 := World.ownsRow.cellAt HO2.out 1 (by omega)
  have k2 := World.ownsRow.cellAt HO2.out 2 (by omega)
  simp only [List.getElem?_cons_zero, List.getElem?_cons_succ] at k0 k1 k2
  have f0 := World.ownsRow.frozenAt HO2.out 0
  have f1 := World.ownsRow.frozenAt HO2.out 1
  have f2 := World.ownsRow.frozenAt HO2.out 2
  have Hst := Lib.hid (stored3R HO2.out (.int .i64 0) (.int .i64 0) (.slice none 0 0))
  go_wp2_with fail
  refine bodyPost_ret (results_cell2 rfl _ _ _ ⟨w.heap.size, 0, none⟩ rfl _ (load_ownR Hst.out.1)) rfl ?_
  exact ⟨rfl, wrote3 HB2.out Hst.out.2 (Nat.le_refl _)⟩
set_option maxRecDepth 100000 in
set_option maxHeartbeats 8000000 in
theorem rWriteN {w : World} {v : Option Addr} (h : NoD w v) (s b : Int) (A : Option Addr) (n c : Nat) : Calls Try.prog 27 #[.pointer v, .agg #[.int .i64 s, .int .i64 b, .slice A n c]] w fun e w' => e = .returned (.tuple #[.agg #[.int .i64 0, .int .i64 0, .slice none 0 0], .int .i64 1]) ∧ Below w.heap.size w w' := by
  have hb3 := below_alloc1 w (.cells #[.int .i64 s, .int .i64 b, .slice A n c] 24)
  obtain ⟨W1, hW1⟩ : ∃ W1, W1 = w.alloc (.cells #[.int .i64 s, .int .i64 b, .slice A n c] 24) := ⟨_, rfl⟩
  rw [← hW1] at hb3
  have hz1 : W1.heap.size = w.heap.size + 1 := by rw [hW1]; simp
  have hr4 := new_own W1 zrt 24 3 rfl (by unfold maxLen; omega)
  have hb4 := below_alloc1 W1 (.cells #[.int .i64 0, .int .i64 0, .slice none 0 0] 24)
  obtain ⟨W2, hW2⟩ : ∃ W2, W2 = W1.alloc (.cells #[.int .i64 0, .int .i64 0, .slice none 0 0] 24) := ⟨_, rfl⟩
  have hT2 : (W1.alloc (.cells zrt.toArray 24)) = W2 := hW2.symm
  rw [hT2, hz1] at hr4
  rw [← hW2] at hb4
  have eW : (w.alloc (.cells #[.int .i64 s, .int .i64 b, .slice A n c] 24)).alloc (.cells #[.int .i64 0, .int .i64 0, .slice none 0 0] 24) = W2 := by rw [hW2, hW1]
  have hb2 : Below w.heap.size w W2 := hb3.trans (hb4.mono (by omega))
  have H2 := Lib.hid (h.below hb2)
  have HO := Lib.hid (Own.lower hr4 (show w.heap.size ≤ w.heap.size + 1 by omega))
  have HB := Lib.hid hb2
  clear hb3 hW1 hr4 hb4 hW2 hT2 hb2 h hz1
  go_enter Try.func27, Try.ntmps27
  go_upto_region 1 with fail
  clear eW
  go_wp2_with fail
  refine (rReadN H2.out).mono ?_; rintro e w3 ⟨rfl, b3⟩
  have b4 := below_alloc1 w3 (.cells #[.int .i64 0, .int .i64 0, .slice none 0 0] 24)
  go_upto_region 2 with fail
  obtain ⟨W4, hW4⟩ : ∃ W4, W4 = w3.alloc (.cells #[.int .i64 0, .int .i64 0, .slice none 0 0] 24) := ⟨_, rfl⟩
  rw [← hW4] at b4 ⊢
  have HO4 := Lib.hid (Own.below (Own.below HO.out b3) b4)
  have HB4 := Lib.hid (HB.out.trans ((b3.trans (b4.mono b3.size)).mono HB.out.size))
  clear hW4 b3 b4
  have k0 := World.ownsRow.cellAt HO4.out 0 (by omega)
  have k1 := World.ownsRow.cellAt HO4.out 1 (by omega)
  have k2 := World.ownsRow.cellAt HO4.out 2 (by omega)
  simp only [zrt, List.getElem?_cons_zero, List.getElem?_cons_succ] at k0 k1 k2
  have f0 := World.ownsRow.frozenAt HO4.out 0
  have f1 := World.ownsRow.frozenAt HO4.out 1
  have f2 := World.ownsRow.frozenAt HO4.out 2
  have Hst := Lib.hid (stored3R HO4.out (.int .i64 0) (.int .i64 0) (.slice none 0 0))
  go_wp2_with fail
  refine bodyPost_ret (results_cell1R rfl _ _ _ ⟨w.heap.size + 1, 0, none⟩ rfl _ (load_ownR Hst.out.1)) rfl ?_
  exact ⟨rfl, wrote3 HB4.out Hst.out.2 (by omega)⟩
set_option maxRecDepth 100000 in
set_option maxHeartbeats 16000000 in
theorem rtnone_any {W : World} (d : Ro) : Calls Try.prog 4 #[roA d] W fun x w' => x = .returned (.bool true) ∧ Below W.heap.size W w' := by
  have hdc : roA d = .agg #[.int .i64 d.s, .int .i64 d.b, .slice d.A d.x.length d.c] := rfl
  rw [hdc]
  have hb1 := below_alloc1 W (.cells #[.int .i64 d.s, .int .i64 d.b, .slice d.A d.x.length d.c] 24)
  have r0 := box_cellsR W [.int .i64 d.s, .int .i64 d.b, .slice d.A d.x.length d.c] 24 0 _ rfl
  have r1 := box_cellsR W [.int .i64 d.s, .int .i64 d.b, .slice d.A d.x.length d.c] 24 1 _ rfl
  have r2 := box_cellsR W [.int .i64 d.s, .int .i64 d.b, .slice d.A d.x.length d.c] 24 2 _ rfl
  obtain ⟨W1, hW1⟩ : ∃ W1, W1 = W.alloc (.cells #[.int .i64 d.s, .int .i64 d.b, .slice d.A d.x.length d.c] 24) := ⟨_, rfl⟩
  have hs1 : W1.heap.size = W.heap.size + 1 := by rw [hW1]; simp
  have hT1 : (W.alloc (.cells [Value.int .i64 d.s, .int .i64 d.b, .slice d.A d.x.length d.c].toArray 24)) = W1 := hW1.symm
  rw [hT1] at r0 r1 r2
  rw [← hW1] at hb1
  have hb2 := below_alloc1 W1 (.cells #[.slice none 0 0, .int .i64 0, .int .i64 0, .bool false, Value.nilFunc] 38)
  have hz := box_cellsR W1 [.slice none 0 0, .int .i64 0, .int .i64 0, .bool false, Value.nilFunc] 38 4 _ rfl
  obtain ⟨W2, hW2⟩ : ∃ W2, W2 = W1.alloc (.cells #[.slice none 0 0, .int .i64 0, .int .i64 0, .bool false, Value.nilFunc] 38) := ⟨_, rfl⟩
  have hs2 : W2.heap.size = W.heap.size + 2 := by rw [hW2]; simp [hs1]
  have hT : (W1.alloc (.cells [.slice none 0 0, .int .i64 0, .int .i64 0, .bool false, Value.nilFunc].toArray 38)) = W2 := hW2.symm
  rw [hT, hs1] at hz
  rw [← hW2] at hb2
  have hb3 := below_alloc1 W2 (.cells #[.pointer none, .pointer (some ⟨W.heap.size + 1, 0, none⟩)] 34)
  have hx0 := box_cellsR W2 [.pointer none, .pointer (some ⟨W.heap.size + 1, 0, none⟩)] 34 0 _ rfl
  have hx1 := box_cellsR W2 [.pointer none, .pointer (some ⟨W.heap.size + 1, 0, none⟩)] 34 1 _ rfl
  obtain ⟨W3, hW3⟩ : ∃ W3, W3 = W2.alloc (.cells #[.pointer none, .pointer (some ⟨W.heap.size + 1, 0, none⟩)] 34) := ⟨_, rfl⟩
  have hT3 : W2.alloc (.cells [.pointer none, .pointer (some ⟨W.heap.size + 1, 0, none⟩)].toArray 34) = W3 := hW3.symm
  rw [hT3, hs2] at hx0 hx1
  rw [← hW3] at hb3
  have hb13 := hb2.trans (hb3.mono hb2.size)
  have HX0 := Lib.hid hx0
  have HX1 := Lib.hid hx1
  have HZ := Lib.hid (cellB hb3 hz)
  have HR0 := Lib.hid (cellB hb13 r0)
  have HR1 := Lib.hid (cellB hb13 r1)
  have HR2 := Lib.hid (cellB hb13 r2)
  have HB := Lib.hid (hb1.trans (hb13.mono hb1.size))
  have HW3 := Lib.hid (show W3 = _ from hW3.trans (by rw [hW2, hW1]))
  clear hb1 hb2 hb3 hz hx0 hx1 hs1 hs2 hT hT1 hT3 hW1 hW2 hW3 hb13 r0 r1 r2
  go_enter Try.func4, Try.ntmps4
  go_wp2_with fail
  rw [← HW3.out]
  clear HW3
  go_loopw [16] (fun s16 wx => ∃ (i : Nat), i ≤ 2 ∧ s16 = .int .i64 (i : Int) ∧ Hid (Below W3.heap.size W3 wx)) (fun iv _ => 2 - (intOf iv).toNat)
  case atStart => exact ⟨0, by omega, rfl, Lib.hid (Below.refl _ _)⟩
  case round =>
    obtain ⟨i, hi, rfl, HBw⟩ := hrel
    by_cases h2 : i < 2
    · obtain ⟨v, hv⟩ : ∃ v : Option Addr, v = if i = 0 then none else some ⟨W.heap.size + 1, 0, none⟩ := ⟨_, rfl⟩
      have hN : NoD wr v := by
        rw [hv]
        split
        · exact .inl rfl
        · exact .inr ⟨_, rfl, cellB HBw.out HZ.out⟩
      have hvc : wr.cell? ⟨W.heap.size + 2, i, none⟩ = some (.pointer v) := by
        obtain rfl | rfl : i = 0 ∨ i = 1 := by omega
        · rw [hv, if_pos rfl]; exact cellB HBw.out HX0.out
        · rw [hv, if_neg (by decide)]; exact cellB HBw.out HX1.out
      have hin : (0 : Int) ≤ (i : Int) ∧ (i : Int) < 2 := by omega
      have hvc2 : wr.cell? ⟨W.heap.size + 1 + 1, i, none⟩ = some (.pointer v) := hvc
      have HN := Lib.hid hN
      clear hv hvc hN
      go_wp2_with fail
      refine (rReadN HN.out).mono ?_; rintro x w1 ⟨rfl, b1⟩
      have q0 := box_cellsR w1 [.int .i64 0, .int .i64 0, .slice none 0 0] 24 0 _ rfl
      have q1 := box_cellsR w1 [.int .i64 0, .int .i64 0, .slice none 0 0] 24 1 _ rfl
      have q2 := box_cellsR w1 [.int .i64 0, .int .i64 0, .slice none 0 0] 24 2 _ rfl
      have qb := below_alloc1 w1 (.cells #[.int .i64 0, .int .i64 0, .slice none 0 0] 24)
      go_upto_region 6 with fail
      obtain ⟨w2, hw2⟩ : ∃ w2, w2 = w1.alloc (.cells #[.int .i64 0, .int .i64 0, .slice none 0 0] 24) := ⟨_, rfl⟩
      have hTw2 : (w1.alloc (.cells [Value.int .i64 0, .int .i64 0, .slice none 0 0].toArray 24)) = w2 := hw2.symm
      rw [hTw2] at q0 q1 q2
      rw [← hw2] at qb ⊢
      clear hTw2 hw2
      have B2 := Lib.hid (HBw.out.trans ((b1.trans (qb.mono b1.size)).mono HBw.out.size))
      have z0 := cellB B2.out HR0.out
      have z1 := cellB B2.out HR1.out
      have z2 := cellB B2.out HR2.out
      have HN2 := Lib.hid (HN.out.below (b1.trans (qb.mono b1.size)))
      clear b1 qb hvc2
      go_wp2_with fail
      refine (rWriteN HN2.out _ _ _ _ _).mono ?_; rintro x w3 ⟨rfl, b3⟩
      have p0 := box_cellsR w3 [.int .i64 0, .int .i64 0, .slice none 0 0] 24 0 _ rfl
      have p1 := box_cellsR w3 [.int .i64 0, .int .i64 0, .slice none 0 0] 24 1 _ rfl
      have p2 := box_cellsR w3 [.int .i64 0, .int .i64 0, .slice none 0 0] 24 2 _ rfl
      have pb := below_alloc1 w3 (.cells #[.int .i64 0, .int .i64 0, .slice none 0 0] 24)
      go_upto_region 7 with fail
      obtain ⟨w4, hw4⟩ : ∃ w4, w4 = w3.alloc (.cells #[.int .i64 0, .int .i64 0, .slice none 0 0] 24) := ⟨_, rfl⟩
      have hTw4 : (w3.alloc (.cells [Value.int .i64 0, .int .i64 0, .slice none 0 0].toArray 24)) = w4 := hw4.symm
      rw [hTw4] at p0 p1 p2
      rw [← hw4] at pb ⊢
      clear hTw4 hw4
      have b4 := b3.trans (pb.mono b3.size)
      have y0 := cellB b4 q0
      have y1 := cellB b4 q1
      have y2 := cellB b4 q2
      have B4 := Lib.hid (B2.out.trans (b4.mono B2.out.size))
      have hs := sameRoot_any 0 0 0 0 none none 0 0 0 0 [] [] w4 (Sl.nil _ _) (Sl.nil _ _)
      clear b3 pb b4 q0 q1 q2 z0 z1 z2
      go_wp2_with fail
      refine hs.mono ?_; rintro x w5 ⟨rfl, b5⟩
      have x0 := cellB b5 p0
      have x1 := cellB b5 p1
      have x2 := cellB b5 p2
      have B5 := Lib.hid (B4.out.trans (b5.mono B4.out.size))
      have hs2 := sameRoot_any 0 0 0 0 none none 0 0 0 0 [] [] w5 (Sl.nil _ _) (Sl.nil _ _)
      clear b5 p0 p1 p2 y0 y1 y2 hs
      go_wp2_with fail
      refine hs2.mono ?_; rintro x w6 ⟨rfl, b6⟩
      have B6 := Lib.hid (B5.out.trans (b6.mono B5.out.size))
      clear b6 x0 x1 x2 hs2
      go_wp2_with fail
      go_roundw
      case rel => exact ⟨i + 1, by omega, by go_num, B6⟩
      case measure => simp [intOf]; omega
    · obtain rfl : i = 2 := by omega
      go_wp2_with fail
      refine (awake6_any wr).mono ?_; rintro e wz ⟨rfl, bz⟩
      go_wp2_with fail
      go_ret
      have hsz := HB.out.size
      exact ⟨rfl, HB.out.trans ((HBw.out.trans (bz.mono HBw.out.size)).mono HB.out.size)⟩
end Go.Proofs.Ytemegkapmgcffaa
