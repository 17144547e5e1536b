import Derived.Test.YtemegkapmgcffaaGreatR2D
/- The document's disk, by value: Arm (printed by wip/gen/gr2j.py). -/
namespace Go.Proofs.YtemegkapmgcffaaGreat
open Go.RowKit
set_option linter.unusedSimpArgs false
set_option linter.unusedVariables false

section
variable {w : World} {room fuse : Int} {dark : Bool} {A : Option Addr} {n c : Nat} {es : List FE}
set_option maxRecDepth 100000 in
set_option maxHeartbeats 8000000 in
theorem r2Arm_any (N : Int) : Calls Tryz.prog 13 #[.agg #[.int .i64 room, .slice A n c, .int .i64 fuse, .bool dark], .int .i64 N] w fun x w' => x = .returned (.agg #[.int .i64 room, .slice A n c, .int .i64 (if dark = true then fuse else max 0 N), .bool dark]) ∧ Below w.heap.size w w' := by
  have hb1 := below_alloc1 w (.cells #[.int .i64 room, .slice A n c, .int .i64 fuse, .bool dark] 30)
  have k0 := box_cellsR w [.int .i64 room, .slice A n c, .int .i64 fuse, .bool dark] 30 0 _ rfl
  have k1 := box_cellsR w [.int .i64 room, .slice A n c, .int .i64 fuse, .bool dark] 30 1 _ rfl
  have k2 := box_cellsR w [.int .i64 room, .slice A n c, .int .i64 fuse, .bool dark] 30 2 _ rfl
  have k3 := box_cellsR w [.int .i64 room, .slice A n c, .int .i64 fuse, .bool dark] 30 3 _ rfl
  have ob := new_own w [.int .i64 room, .slice A n c, .int .i64 fuse, .bool dark] 30 4 rfl (by unfold maxLen; omega)
  obtain ⟨w1, hw1⟩ : ∃ w1, w1 = w.alloc (.cells #[.int .i64 room, .slice A n c, .int .i64 fuse, .bool dark] 30) := ⟨_, rfl⟩
  have hT1 : (w.alloc (.cells [.int .i64 room, .slice A n c, .int .i64 fuse, .bool dark].toArray 30)) = w1 := hw1.symm
  rw [hT1] at k0 k1 k2 k3 ob
  rw [← hw1] at hb1
  have hz1 : w1.heap.size = w.heap.size + 1 := by rw [hw1]; simp
  have hb2 := below_alloc1 w1 (.cells #[.int .i64 0, .slice none 0 0, .int .i64 0, .bool false] 30)
  have orr := new_own w1 [.int .i64 0, .slice none 0 0, .int .i64 0, .bool false] 30 4 rfl (by unfold maxLen; omega)
  obtain ⟨w2, hw2⟩ : ∃ w2, w2 = w1.alloc (.cells #[.int .i64 0, .slice none 0 0, .int .i64 0, .bool false] 30) := ⟨_, rfl⟩
  have hT2 : (w1.alloc (.cells [.int .i64 0, .slice none 0 0, .int .i64 0, .bool false].toArray 30)) = w2 := hw2.symm
  rw [hT2, hz1] at orr
  rw [← hw2] at hb2
  have eW : (w.alloc (.cells #[.int .i64 room, .slice A n c, .int .i64 fuse, .bool dark] 30)).alloc (.cells #[.int .i64 0, .slice none 0 0, .int .i64 0, .bool false] 30) = w2 := by rw [hw2, hw1]
  have k0 := cellB hb2 k0
  have k1 := cellB hb2 k1
  have k2 := cellB hb2 k2
  have k3 := cellB hb2 k3
  have OB := Lib.hid (Own.below ob hb2)
  have OR := Lib.hid (Own.lower orr (show w.heap.size ≤ w.heap.size + 1 by omega))
  have HB := Lib.hid (hb1.trans (hb2.mono hb1.size))
  clear hb1 hb2 hw1 hw2 hT1 hT2 hz1 ob orr
  have g2 := World.ownsRow.frozenAt OB.out 2
  go_enter Tryz.func13, Tryz.ntmps13
  go_upto_region 1 with fail
  clear eW
  cases dark with
  | true =>
    have f0 := World.ownsRow.frozenAt OR.out 0
    have f1 := World.ownsRow.frozenAt OR.out 1
    have f2 := World.ownsRow.frozenAt OR.out 2
    have f3 := World.ownsRow.frozenAt OR.out 3
    have m0 := World.ownsRow.cellAt OR.out 0 (by omega)
    have m1 := World.ownsRow.cellAt OR.out 1 (by omega)
    have m2 := World.ownsRow.cellAt OR.out 2 (by omega)
    have m3 := World.ownsRow.cellAt OR.out 3 (by omega)
    simp only [List.getElem?_cons_zero, List.getElem?_cons_succ] at m0 m1 m2 m3
    have Hst := Lib.hid (stored4R OR.out (.int .i64 room) (.slice A n c) (.int .i64 fuse) (.bool true))
    go_wp2_with fail
    refine bodyPost_ret (results_cellD rfl _ _ _ ⟨w.heap.size + 1, 0, none⟩ rfl _ (load_own2D Hst.out.1)) rfl ?_
    exact ⟨rfl, wrote2 HB.out Hst.out.2 (by omega)⟩

  | false =>
    by_cases h1 : N < 0
    · skip
      have b1 := World.ownsRow.stored OB.out 2 (.int .i64 0)
      have hor := OR.out.apart b1.2 (by omega)
      have HG := Lib.hid b1.2
      have OR2 := Lib.hid hor
      clear b1 hor
      have f0 := World.ownsRow.frozenAt OR.out 0
      have f1 := World.ownsRow.frozenAt OR.out 1
      have f2 := World.ownsRow.frozenAt OR.out 2
      have f3 := World.ownsRow.frozenAt OR.out 3
      have m0 := World.ownsRow.cellAt OR.out 0 (by omega)
      have m1 := World.ownsRow.cellAt OR.out 1 (by omega)
      have m2 := World.ownsRow.cellAt OR.out 2 (by omega)
      have m3 := World.ownsRow.cellAt OR.out 3 (by omega)
      simp only [List.getElem?_cons_zero, List.getElem?_cons_succ] at m0 m1 m2 m3
      have Hst := Lib.hid (stored4R OR2.out (.int .i64 room) (.slice A n c) (.int .i64 0) (.bool false))
      go_wp2_with fail
      refine bodyPost_ret (results_cellD rfl _ _ _ ⟨w.heap.size + 1, 0, none⟩ rfl _ (load_own2D Hst.out.1)) rfl ?_
      refine ⟨?_, wrote2 (wrote2 HB.out HG.out (Nat.le_refl _)) Hst.out.2 (by omega)⟩
      rw [show max 0 N = 0 by omega]
    · skip
      have b1 := World.ownsRow.stored OB.out 2 (.int .i64 N)
      have hor := OR.out.apart b1.2 (by omega)
      have HG := Lib.hid b1.2
      have OR2 := Lib.hid hor
      clear b1 hor
      have f0 := World.ownsRow.frozenAt OR.out 0
      have f1 := World.ownsRow.frozenAt OR.out 1
      have f2 := World.ownsRow.frozenAt OR.out 2
      have f3 := World.ownsRow.frozenAt OR.out 3
      have m0 := World.ownsRow.cellAt OR.out 0 (by omega)
      have m1 := World.ownsRow.cellAt OR.out 1 (by omega)
      have m2 := World.ownsRow.cellAt OR.out 2 (by omega)
      have m3 := World.ownsRow.cellAt OR.out 3 (by omega)
      simp only [List.getElem?_cons_zero, List.getElem?_cons_succ] at m0 m1 m2 m3
      have Hst := Lib.hid (stored4R OR2.out (.int .i64 room) (.slice A n c) (.int .i64 N) (.bool false))
      go_wp2_with fail
      refine bodyPost_ret (results_cellD rfl _ _ _ ⟨w.heap.size + 1, 0, none⟩ rfl _ (load_own2D Hst.out.1)) rfl ?_
      refine ⟨?_, wrote2 (wrote2 HB.out HG.out (Nat.le_refl _)) Hst.out.2 (by omega)⟩
      rw [show max 0 N = N by omega]
end
end Go.Proofs.YtemegkapmgcffaaGreat
