import Derived.Test.YtemegkapmgcffaaGreatDlB
/- The disk, plain: what a crash leaves; what a right disk tells of its own files. -/
namespace Go.Proofs.YtemegkapmgcffaaGreat
open Go.RowKit
set_option linter.unusedSimpArgs false
set_option linter.unusedVariables false

theorem look_own {D : Dk} (h : SrtF D.fs) {i : Nat} {f : Fl} (hf : D.fs[i]? = some f) : lookF D.fs f.nm = f := by
  obtain ⟨h1, h2⟩ := there_of h hf rfl
  unfold lookF
  rw [h2, h1, hf]
theorem read_own {D : Dk} (h : SrtF D.fs) (hd : D.dark = false) {i : Nat} {f : Fl} (hf : D.fs[i]? = some f) : readD D f.nm = (f.b, 0) := by
  have h2 := (there_of h hf rfl).2
  unfold readD
  rw [if_neg (by rw [hd]; simp), if_pos h2, look_own h hf]
end Go.Proofs.YtemegkapmgcffaaGreat
