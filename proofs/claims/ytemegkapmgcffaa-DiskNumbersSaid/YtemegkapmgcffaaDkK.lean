import Derived.Test.YtemegkapmgcffaaDkI
/- The disk: New, Arm, Down, told. -/
namespace Go.Proofs.Ytemegkapmgcffaa
open Go.RowKit
set_option linter.unusedSimpArgs false
set_option linter.unusedVariables false

section
variable {w : World} {base p : Nat} {D : Dk} {F : Nat → Prop}
set_option maxHeartbeats 1000000 in
theorem Down_any (h : DkIs w base p D F) : Calls Try.prog 52 #[.pointer (some ⟨p, 0, none⟩)] w fun x w' => x = .returned (.bool D.dark) ∧ w = w' := by
  obtain ⟨R, c, es, h⟩ := h
  go_enter Try.func52, Try.ntmps52
  go_wp2_with fail
  refine (lit_any h).mono ?_; rintro e w1 ⟨rfl, rfl⟩
  clear h
  unfold litD
  cases hd : D.dark with
  | true =>
    simp only [if_true]
    go_wp2_with fail
    go_ret
    exact ⟨by simp [hd], rfl⟩
  | false =>
    simp only [Bool.false_eq_true, if_false]
    go_wp2_with fail
    go_ret
    exact ⟨by simp [hd], rfl⟩
theorem Good.fused {D : Dk} (h : Good D) {n : Int} (h1 : -1 ≤ n) (h2 : n ≤ 9223372036854775807) : Good { D with fuse := n } := ⟨h.srt, h.room, ⟨h1, h2⟩, h.few, h.safe, h.used, h.nms⟩
set_option maxHeartbeats 1000000 in
theorem Arm_any (h : DkIs w base p D F) (n : Int) (hn : n ≤ 9223372036854775807) : Calls Try.prog 35 #[.pointer (some ⟨p, 0, none⟩), .int .i64 n] w fun x w' => x = .returned (.tuple #[]) ∧ DkIs w' base p (armD D n) F ∧ Cg F F w w' := by
  obtain ⟨R, c, es, h⟩ := h
  obtain ⟨c0, c1, c2, c3, c4⟩ := h.cell
  have y2 := World.ownsRow.frozenAt h.own 2
  have st := World.ownsRow.stored h.own 2 (.int .i64 (max 0 n))
  have hgd : Good { D with fuse := max 0 n } := h.good.fused (by omega) (by omega)
  have hfin := h.turn (D' := { D with fuse := max 0 n }) hgd rfl st.1 st.2
  have Hfin := Lib.hid hfin
  have Hg := Lib.hid (Cg.grown st.2 h.fp)
  have Hh := Lib.hid h
  have HA := Lib.hid (show armD D n = if D.dark = true then D else { D with fuse := max 0 n } from rfl)
  clear hfin st c0 c1 c3 c4 hgd
  go_enter Try.func35, Try.ntmps35
  go_wp2_with fail
  refine (lit_any h).mono ?_; rintro e w1 ⟨rfl, rfl⟩
  clear h
  unfold litD
  cases hd : D.dark with
  | true =>
    simp only [if_true]
    go_wp2_with fail
    go_end0
    exact ⟨rfl, by rw [HA.out, if_pos hd]; exact ⟨_, _, _, Hh.out⟩, Cg.below (Below.refl _ _)⟩
  | false =>
    simp only [Bool.false_eq_true, if_false]
    rcases Int.le_total n 0 with h0 | h0
    · have hm : max 0 n = 0 := by omega
      rw [hm] at Hfin Hg
      go_wp2_with fail
      go_end0
      exact ⟨rfl, by rw [HA.out, if_neg (by rw [hd]; simp), hm]; exact ⟨_, _, _, Hfin.out⟩, Hg.out⟩
    · have hm : max 0 n = n := by omega
      rw [hm] at Hfin Hg
      go_wp2_with fail
      go_end0
      exact ⟨rfl, by rw [HA.out, if_neg (by rw [hd]; simp), hm]; exact ⟨_, _, _, Hfin.out⟩, Hg.out⟩
end
end Go.Proofs.Ytemegkapmgcffaa
