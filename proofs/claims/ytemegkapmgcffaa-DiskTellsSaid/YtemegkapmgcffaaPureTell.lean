import Derived.Test.YtemegkapmgcffaaPureLeaves
import Derived.Test.YtemegkapmgcffaaDkY
/- The disk, plain: how long files grow by deeds. -/
namespace Go.Proofs.Ytemegkapmgcffaa
open Go.RowKit
set_option linter.unusedSimpArgs false
set_option linter.unusedVariables false

def Lim (M : Nat) (fs : List Fl) : Prop := ∀ f, f ∈ fs → f.b.length ≤ M
theorem Lim.mono {M M' : Nat} {fs : List Fl} (h : Lim M fs) (hm : M ≤ M') : Lim M' fs := fun f hf => Nat.le_trans (h f hf) hm
theorem lim_set {M : Nat} {fs : List Fl} (h : Lim M fs) (i : Nat) {g : Fl} (hg : g.b.length ≤ M) : Lim M (fs.set i g) := fun f hf => by
  rcases List.mem_or_eq_of_mem_set hf with h1 | h1
  · exact h f h1
  · rw [h1]; exact hg
theorem lim_erase {M : Nat} {fs : List Fl} (h : Lim M fs) (i : Nat) : Lim M (fs.eraseIdx i) := fun f hf => h f (List.mem_of_mem_eraseIdx hf)
theorem lim_ins {M : Nat} {fs : List Fl} (h : Lim M fs) (i : Nat) {g : Fl} (hg : g.b.length ≤ M) : Lim M (insF fs i g) := fun f hf => by
  unfold insF at hf
  rcases List.mem_append.1 hf with h1 | h1
  · exact h f (List.mem_of_mem_take h1)
  · rcases List.mem_cons.1 h1 with h2 | h2
    · rw [h2]; exact hg
    · exact h f (List.mem_of_mem_drop h2)
theorem lim_move {M : Nat} {fs : List Fl} (h : Lim M fs) (i : Nat) {f : Fl} (hf : f.b.length ≤ M) (tn : Nm) : Lim M (moveF fs i f tn) := by
  unfold moveF
  split
  · exact lim_set (lim_erase h i) _ hf
  · exact lim_ins (lim_erase h i) _ hf
theorem lim_deed {D : Dk} {fs : List Fl} {M : Nat} (h1 : Lim M D.fs) (h2 : Lim M fs) : Lim M (deedD D fs).2.fs := by
  unfold deedD
  split
  · exact h1
  · exact h2
theorem lim_of {D : Dk} {nm : Nm} {may : Fl → Int} {act : Nat → Fl → List Fl} {M : Nat} (h1 : Lim M D.fs) (h2 : ∀ i f, D.fs[i]? = some f → Lim M (act i f)) : Lim M (ofD D nm may act).2.fs := by
  unfold ofD
  split
  · exact h1
  · split
    · rename_i hf
      split
      · exact h1
      · exact lim_deed h1 (h2 _ _ hf)
    · exact h1
theorem lim_get {M : Nat} {fs : List Fl} (h : Lim M fs) {i : Nat} {f : Fl} (hf : fs[i]? = some f) : f.b.length ≤ M := h f (List.mem_of_getElem? hf)
theorem lim_app {M : Nat} {fs : List Fl} (h : Lim M fs) (nm : Nm) {bs : List UInt8} (hb : bs.length ≤ 300) : Lim (M + 300) (appF fs nm bs) := by
  have h' := h.mono (Nat.le_add_right M 300)
  unfold appF
  split
  · rename_i f _ hf
    have := lim_get h hf
    exact lim_set h' _ (by simp only [List.length_append]; omega)
  · exact lim_ins h' _ (by simp only; omega)
theorem lim_crash {M : Nat} {fs : List Fl} (h : Lim M fs) (hs : ∀ f, f ∈ fs → f.safe ≤ f.b.length) (ks ts : List Int) : Lim M (crashF fs ks ts) := fun f hf => by
  obtain ⟨i, hi⟩ := List.mem_iff_getElem?.1 hf
  have hl : i < fs.length := by rw [← crash_len fs ks ts]; exact (List.getElem?_eq_some_iff.1 hi).1
  have hg : fs[i]? = some fs[i] := List.getElem?_eq_getElem hl
  rw [crash_get hg] at hi
  cases hi
  obtain ⟨e, k, h1, h2, h3, h4, h5⟩ := left_shape fs[i] (toldI ks i) (toldI ts i) (hs _ (List.getElem_mem hl))
  rw [h1]
  have := lim_get h hg
  simp only [List.length_append, List.length_take, List.length_replicate]
  omega
theorem lim_does {M : Nat} {D : Dk} (hg : Good D) (h : Lim M D.fs) (d : Ded) (hb : d.b.length ≤ 300) : Lim (M + 300) (doesD D d).2.fs := by
  have h' := h.mono (Nat.le_add_right M 300)
  unfold doesD
  split
  · unfold appendD
    split
    · exact h'
    · split
      · exact h'
      · split
        · exact h'
        · exact lim_deed h' (lim_app h _ hb)
  split
  · exact lim_of h' fun i f hf => lim_set (g := ⟨f.nm, f.b, f.b.length⟩) h' i (show f.b.length ≤ M + 300 from lim_get h' hf)
  split
  · exact lim_of h' fun i f hf => lim_move h' _ (lim_get h' hf) _
  split
  · exact lim_of h' fun i f hf => lim_erase h' _
  split
  · exact lim_of h' fun i f hf => by have := lim_get h' hf; exact lim_set h' _ (by simp only [List.length_take]; omega)
  split
  · unfold armD
    split <;> exact h'
  split
  · exact lim_crash h' hg.safe _ _
  · exact h'
end Go.Proofs.Ytemegkapmgcffaa
