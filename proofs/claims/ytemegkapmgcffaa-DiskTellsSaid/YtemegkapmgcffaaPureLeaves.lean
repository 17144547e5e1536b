import Derived.Test.YtemegkapmgcffaaDlB
/- The disk, plain: what a crash leaves; what a right disk tells of its own files. -/
namespace Go.Proofs.Ytemegkapmgcffaa
open Go.RowKit
set_option linter.unusedSimpArgs false
set_option linter.unusedVariables false

theorem left_shape (f : Fl) (kp tr : Int) (h : f.safe ≤ f.b.length) : ∃ e k, leftF f kp tr = ⟨f.nm, f.b.take e ++ List.replicate k 0, e + k⟩ ∧ f.safe ≤ e ∧ e + k ≤ f.b.length ∧ e % 64 + k ≤ 64 ∧ (e % 64 = 0 → k = 0) := by
  refine ⟨_, _, rfl, ?_, ?_, ?_, ?_⟩ <;> omega
theorem look_own {D : Dk} (h : SrtF D.fs) {i : Nat} {f : Fl} (hf : D.fs[i]? = some f) : lookF D.fs f.nm = f := by
  obtain ⟨h1, h2⟩ := there_of h hf rfl
  unfold lookF
  rw [h2, h1, hf]
theorem read_own {D : Dk} (h : SrtF D.fs) (hd : D.dark = false) {i : Nat} {f : Fl} (hf : D.fs[i]? = some f) : readD D f.nm = (f.b, 0) := by
  have h2 := (there_of h hf rfl).2
  unfold readD
  rw [if_neg (by rw [hd]; simp), if_pos h2, look_own h hf]
theorem crash_get {fs : List Fl} {ks ts : List Int} {i : Nat} {f : Fl} (hf : fs[i]? = some f) : (crashF fs ks ts)[i]? = some (leftF f (toldI ks i) (toldI ts i)) := by
  unfold crashF
  rw [List.getElem?_mapIdx, hf]
  rfl
theorem crash_len (fs : List Fl) (ks ts : List Int) : (crashF fs ks ts).length = fs.length := by
  unfold crashF; simp
end Go.Proofs.Ytemegkapmgcffaa
