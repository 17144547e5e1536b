import Derived.Test.YtemegkapmgcffaaGreatR2D
import Derived.Test.YtemegkapmgcffaaGreatMDe
/- The document's disk, by value: number, New. -/
namespace Go.Proofs.YtemegkapmgcffaaGreat
open Go.RowKit
set_option linter.unusedSimpArgs false
set_option linter.unusedVariables false

theorem slI_cell {w : World} {A : Option Addr} {n c : Nat} {l : List Int} (h : Sl w 1 A n c (intsV l)) {k : Nat} {x : Int} (hk : l[k]? = some x) : ∃ ad, A = some ad ∧ w.cell? (ad.add k) = some (.int .i64 x) :=
  h.cells k _ (by rw [intsV, List.getElem?_map, hk]; rfl)
set_option maxHeartbeats 4000000 in
theorem r2number_any (A : Option Addr) (n c : Nat) (l : List Int) (i : Nat) (w : World) (hs : Sl w 1 A n c (intsV l)) :
    Calls Tryz.prog 53 #[.slice A n c, .int .i64 (i : Int)] w fun x w' => x = .returned (.int .i64 (toldI l i)) ∧ w = w' := by
  have hl := sl_n hs
  go_enter Tryz.func53, Tryz.ntmps53
  by_cases g1 : (i : Int) < (n : Int)
  · obtain ⟨x, hx⟩ := get_some l i (by omega)
    obtain ⟨ad, rfl, hc⟩ := slI_cell hs hx
    have hin : (0 : Int) ≤ (i : Int) ∧ (i : Int) < (n : Int) := by omega
    by_cases g2 : 0 < x
    · have HT := Lib.hid (show toldI l i = x by unfold toldI; rw [hx]; simp only; rw [if_neg (by omega)])
      clear hx
      go_wp2_with fail
      go_ret
      exact ⟨by rw [HT.out]; rfl, rfl⟩
    · have HT := Lib.hid (show toldI l i = 0 by
        unfold toldI
        rw [hx]
        simp only
        split <;> omega)
      clear hx
      go_wp2_with fail
      go_ret
      exact ⟨by rw [HT.out]; rfl, rfl⟩
  · have HT := Lib.hid (show toldI l i = 0 by
      unfold toldI
      rw [List.getElem?_eq_none (by omega)])
    go_wp2_with fail
    go_ret
    exact ⟨by rw [HT.out]; rfl, rfl⟩
set_option maxRecDepth 100000 in
set_option maxHeartbeats 4000000 in
theorem r2New_any (most : Int) (w : World) :
    Calls Tryz.prog 5 #[.int .i64 most] w fun x w' => x = .returned (.tuple (if 0 ≤ most ∧ most ≤ 16777216 then #[.agg #[.int .i64 most, .slice none 0 0, .int .i64 (-1), .bool false], .int .i64 0] else #[.agg #[.int .i64 0, .slice none 0 0, .int .i64 0, .bool false], .int .i64 2])) ∧ Below w.heap.size w w' := by
  have hb1 := below_alloc1 w (.cells #[.int .i64 0, .slice none 0 0, .int .i64 0, .bool false] 30)
  have orr := new_own w [.int .i64 0, .slice none 0 0, .int .i64 0, .bool false] 30 4 rfl (by unfold maxLen; omega)
  obtain ⟨w1, hw1⟩ : ∃ w1, w1 = w.alloc (.cells #[.int .i64 0, .slice none 0 0, .int .i64 0, .bool false] 30) := ⟨_, rfl⟩
  have hT1 : (w.alloc (.cells [Value.int .i64 0, .slice none 0 0, .int .i64 0, .bool false].toArray 30)) = w1 := hw1.symm
  rw [hT1] at orr
  rw [← hw1] at hb1
  have eW : w.alloc (.cells #[.int .i64 0, .slice none 0 0, .int .i64 0, .bool false] 30) = w1 := hw1.symm
  have OR := Lib.hid orr
  have HB := Lib.hid hb1
  have f0 := World.ownsRow.frozenAt OR.out 0
  have f1 := World.ownsRow.frozenAt OR.out 1
  have f2 := World.ownsRow.frozenAt OR.out 2
  have f3 := World.ownsRow.frozenAt OR.out 3
  have m0 := World.ownsRow.cellAt OR.out 0 (by omega)
  have m1 := World.ownsRow.cellAt OR.out 1 (by omega)
  have m2 := World.ownsRow.cellAt OR.out 2 (by omega)
  have m3 := World.ownsRow.cellAt OR.out 3 (by omega)
  simp only [List.getElem?_cons_zero, List.getElem?_cons_succ] at m0 m1 m2 m3
  clear hb1 orr hw1 hT1
  go_enter Tryz.func5, Tryz.ntmps5
  go_upto_region 1 with fail
  clear eW
  by_cases g1 : 0 ≤ most
  · by_cases g2 : most ≤ 16777216
    · have Hst := Lib.hid (stored4R OR.out (.int .i64 most) (.slice none 0 0) (.int .i64 (-1)) (.bool false))
      go_wp2_with fail
      refine bodyPost_ret (results_cell1R rfl _ _ _ ⟨w.heap.size, 0, none⟩ rfl _ (load_own2D Hst.out.1)) rfl ?_
      refine ⟨?_, wrote2 HB.out Hst.out.2 (Nat.le_refl _)⟩
      first | rfl | (rw [if_pos ⟨g1, g2⟩]; rfl)
    · have Hst := Lib.hid (stored4R OR.out (.int .i64 0) (.slice none 0 0) (.int .i64 0) (.bool false))
      go_wp2_with fail
      refine bodyPost_ret (results_cell1R rfl _ _ _ ⟨w.heap.size, 0, none⟩ rfl _ (load_own2D Hst.out.1)) rfl ?_
      refine ⟨?_, wrote2 HB.out Hst.out.2 (Nat.le_refl _)⟩
      first | rfl | (rw [if_neg (fun h => g2 h.2)]; rfl)
  · have Hst := Lib.hid (stored4R OR.out (.int .i64 0) (.slice none 0 0) (.int .i64 0) (.bool false))
    go_wp2_with fail
    refine bodyPost_ret (results_cell1R rfl _ _ _ ⟨w.heap.size, 0, none⟩ rfl _ (load_own2D Hst.out.1)) rfl ?_
    refine ⟨?_, wrote2 HB.out Hst.out.2 (Nat.le_refl _)⟩
    first | rfl | (rw [if_neg (fun h => g1 h.1)]; rfl)
end Go.Proofs.YtemegkapmgcffaaGreat
