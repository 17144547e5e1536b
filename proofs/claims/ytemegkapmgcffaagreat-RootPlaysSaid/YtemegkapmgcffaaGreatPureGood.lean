import Derived.Test.YtemegkapmgcffaaGreatMDd
import Derived.Test.YtemegkapmgcffaaGreatMDb
import Derived.Test.YtemegkapmgcffaaGreatMRb
/- The disk, plain: calls keep it right. -/
namespace Go.Proofs.YtemegkapmgcffaaGreat
open Go.RowKit
set_option linter.unusedSimpArgs false
set_option linter.unusedVariables false

theorem Good.deed {D : Dk} (h : Good D) {fs : List Fl} (hf : Good { D with fs := fs }) : Good (deedD D fs).2 := by
  unfold deedD
  split
  · exact h.dark
  · have := hf.fused (n := if 0 < D.fuse then D.fuse - 1 else D.fuse) (by have := h.fuse; split <;> omega) (by have := h.fuse; split <;> omega)
    exact this
theorem Good.of {D : Dk} (h : Good D) {nm : Nm} {may : Fl → Int} {act : Nat → Fl → List Fl} (ha : ∀ i f, D.fs[i]? = some f → may f = 0 → Good { D with fs := act i f }) : Good (ofD D nm may act).2 := by
  unfold ofD
  split
  · exact h
  · split
    · rename_i hf
      split
      · exact h
      · rename_i hm
        exact h.deed (ha _ _ hf (by simpa using hm))
    · exact h
theorem Good.sync {D : Dk} (h : Good D) (nm : Nm) : Good (syncD D nm).2 :=
  h.of fun i f hf _ => h.setF (f' := ⟨f.nm, f.b, f.b.length⟩) hf rfl (Nat.le_refl _) (Nat.le_refl _)
theorem Good.remove {D : Dk} (h : Good D) (nm : Nm) : Good (removeD D nm).2 :=
  h.of fun i f hf _ => h.erase i
theorem Good.rename {D : Dk} (h : Good D) (nm tn : Nm) : Good (renameD D nm tn).2 :=
  h.of fun i f hf hm => h.move hf (by
    have : namedF tn = true := by
      cases hn : namedF tn with
      | true => rfl
      | false => rw [hn] at hm; simp at hm
    unfold namedF at this
    simp only [Bool.and_eq_true, decide_eq_true_eq] at this
    exact this.2.2)
theorem Good.append {D : Dk} (h : Good D) (nm : Nm) (bs : List UInt8) : Good (appendD D nm bs).2 := by
  unfold appendD
  split
  · exact h
  · split
    · exact h
    · rename_i hn
      split
      · exact h
      · rename_i hr
        have hn2 : nm.length ≤ 60 := by
          cases hnn : namedF nm with
          | false => exact absurd hnn hn
          | true =>
            unfold namedF at hnn
            simp only [Bool.and_eq_true, decide_eq_true_eq] at hnn
            exact hnn.2.2
        refine h.deed ?_
        unfold appF
        split
        · rename_i f _ hf
          have h5 := h.safe f (List.mem_of_getElem? hf)
          exact h.setU (f' := ⟨f.nm, f.b ++ bs, f.safe⟩) hf rfl (by simp only [List.length_append]; omega) (by simp only [List.length_append]; omega)
        · rename_i hno
          have ht : thereF D.fs nm = false := by
            cases ht : thereF D.fs nm with
            | false => rfl
            | true =>
              obtain ⟨g, hg, _⟩ := there_true ht
              exact absurd hg (hno g ht)
          have hl : D.fs.length ≠ 200 := fun e => hr (.inr ⟨ht, e⟩)
          exact h.ins (f := ⟨nm, bs, 0⟩) ht (by have := h.few; omega) (by simp only; omega) (by simp only; omega) hn2
theorem deed_room (D : Dk) (fs : List Fl) : (deedD D fs).2.room = D.room := by unfold deedD; split <;> rfl
theorem of_room (D : Dk) (nm : Nm) (may : Fl → Int) (act : Nat → Fl → List Fl) : (ofD D nm may act).2.room = D.room := by
  unfold ofD
  split
  · rfl
  · split
    · split
      · rfl
      · exact deed_room _ _
    · rfl
theorem append_room (D : Dk) (nm : Nm) (bs : List UInt8) : (appendD D nm bs).2.room = D.room := by
  unfold appendD
  split
  · rfl
  · split
    · rfl
    · split
      · rfl
      · exact deed_room _ _
theorem Good.each {D : Dk} (h : Good D) {f : Fl} (hf : f ∈ D.fs) : (f.b.length : Int) ≤ D.room := by
  have h1 := mem_used hf
  have h2 := h.used
  omega
end Go.Proofs.YtemegkapmgcffaaGreat
