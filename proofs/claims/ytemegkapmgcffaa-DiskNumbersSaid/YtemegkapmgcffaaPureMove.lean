import Derived.Test.YtemegkapmgcffaaDkG
/- The disk, plain: a file set in at its place, a file moved. -/
namespace Go.Proofs.Ytemegkapmgcffaa
open Go.RowKit
set_option linter.unusedSimpArgs false
set_option linter.unusedVariables false

theorem ins_get {fs : List Fl} {i : Nat} (f : Fl) (hi : i ≤ fs.length) (j : Nat) : (insF fs i f)[j]? = if j < i then fs[j]? else if j = i then some f else fs[j - 1]? := by
  unfold insF
  rw [List.getElem?_append, List.length_take, Nat.min_eq_left hi]
  split
  · rename_i h
    rw [List.getElem?_take, if_pos h]
  · rename_i h
    split
    · rename_i h2
      subst h2
      simp
    · rename_i h2
      obtain ⟨m, rfl⟩ : ∃ m, j = i + m + 1 := ⟨j - i - 1, by omega⟩
      rw [show i + m + 1 - i = m + 1 by omega, List.getElem?_cons_succ, List.getElem?_drop]
      rfl
theorem low_of {fs : List Fl} (hs : SrtF fs) {tn : Nm} (ht : thereF fs tn = false) {j : Nat} {y : Fl} (hj : posF fs tn ≤ j) (hy : fs[j]? = some y) : Op.bytesLess tn y.nm = true := by
  have hlt := (List.getElem?_eq_some_iff.1 hy).1
  obtain ⟨z, hz⟩ : ∃ z, fs[posF fs tn]? = some z := ⟨_, List.getElem?_eq_getElem (by omega)⟩
  have h1 : Op.bytesLess tn z.nm = true := by
    cases hb : Op.bytesLess tn z.nm with
    | true => rfl
    | false => exact absurd (bl_tri (posF_at hz) hb) (there_not hs ht z (List.mem_of_getElem? hz))
  rcases Nat.lt_or_ge (posF fs tn) j with h | h
  · exact bl_trans h1 (hs _ _ z y h hz hy)
  · obtain rfl : j = posF fs tn := by omega
    rw [hz] at hy
    cases hy
    exact h1
theorem srt_ins {fs : List Fl} (hs : SrtF fs) {tn : Nm} {f : Fl} (hn : f.nm = tn) (ht : thereF fs tn = false) : SrtF (insF fs (posF fs tn) f) := by
  have hp := posF_le fs tn
  intro i j x y hij hx hy
  rw [ins_get f hp] at hx hy
  split at hx
  · rename_i h1
    split at hy
    · exact hs _ _ x y hij hx hy
    · split at hy
      · cases hy
        rw [hn]
        exact posF_low h1 hx
      · exact hs _ _ x y (by omega) hx hy
  · rename_i h1
    rw [if_neg (by omega), if_neg (by omega)] at hy
    split at hx
    · cases hx
      rw [hn]
      exact low_of hs ht (by omega) hy
    · exact hs _ _ x y (by omega) hx hy
theorem used_ins (fs : List Fl) (i : Nat) (f : Fl) : usedF (insF fs i f) = usedF fs + f.b.length := by
  have h : usedF fs = usedF (fs.take i) + usedF (fs.drop i) := by
    unfold usedF
    rw [← List.sum_append, ← List.map_append, List.take_append_drop]
  rw [h]
  unfold usedF insF
  rw [List.map_append, List.sum_append, List.map_cons, List.sum_cons]
  omega
theorem used_erase_eq : ∀ {fs : List Fl} {k : Nat} {f : Fl}, fs[k]? = some f → usedF (fs.eraseIdx k) + f.b.length = usedF fs := by
  intro fs
  induction fs with
  | nil => intro k f h; simp at h
  | cons x r ih =>
    intro k f h
    cases k with
    | zero =>
      simp at h; subst h
      simp [usedF]; omega
    | succ k =>
      have := ih (k := k) (f := f) (by simpa using h)
      simp [usedF] at this ⊢
      omega
theorem Good.ins {D : Dk} (h : Good D) {f : Fl} (ht : thereF D.fs f.nm = false) (hl : D.fs.length < 200) (hu : (usedF D.fs : Int) + f.b.length ≤ D.room) (hs : f.safe ≤ f.b.length) (hn : f.nm.length ≤ 60) : Good { D with fs := insF D.fs (posF D.fs f.nm) f } := by
  have hm : ∀ x, x ∈ insF D.fs (posF D.fs f.nm) f → x ∈ D.fs ∨ x = f := by
    intro x hx
    unfold insF at hx
    simp only [List.mem_append, List.mem_cons] at hx
    rcases hx with hx | rfl | hx
    · exact .inl (List.mem_of_mem_take hx)
    · exact .inr rfl
    · exact .inl (List.mem_of_mem_drop hx)
  refine ⟨srt_ins h.srt rfl ht, h.room, h.fuse, ?_, fun x hx => ?_, ?_, fun x hx => ?_⟩
  · have := posF_le D.fs f.nm
    unfold insF
    simp only [List.length_append, List.length_take, List.length_cons, List.length_drop]
    omega
  · rcases hm x hx with h1 | rfl
    · exact h.safe x h1
    · exact hs
  · simp only [used_ins]
    omega
  · rcases hm x hx with h1 | rfl
    · exact h.nms x h1
    · exact hn
theorem Good.move {D : Dk} (h : Good D) {k : Nat} {f : Fl} (hf : D.fs[k]? = some f) {tn : Nm} (hn : tn.length ≤ 60) : Good { D with fs := moveF D.fs k f tn } := by
  have he := h.erase k
  have hu := used_erase_eq hf
  have hk := (List.getElem?_eq_some_iff.1 hf).1
  have hl := List.length_eraseIdx_of_lt hk
  have hsf := h.safe f (List.mem_of_getElem? hf)
  have hus := h.used
  unfold moveF
  split
  · rename_i ht
    obtain ⟨x, hx, hxn⟩ := there_true ht
    have hu2 := used_set (f' := ⟨tn, f.b, f.safe⟩) hx
    simp only at hu2
    refine ⟨srt_set he.srt hx hxn.symm, h.room, h.fuse, by simp only [List.length_set]; exact he.few, fun y hy => ?_, ?_, fun y hy => ?_⟩
    · rcases List.mem_or_eq_of_mem_set hy with h1 | rfl
      · exact he.safe y h1
      · exact hsf
    · simp only
      omega
    · rcases List.mem_or_eq_of_mem_set hy with h1 | rfl
      · exact he.nms y h1
      · exact hn
  · rename_i ht
    have hfe := h.few
    exact he.ins (f := ⟨tn, f.b, f.safe⟩) (by simpa using ht) (by simp only; omega) (by simp only; omega) hsf hn
end Go.Proofs.Ytemegkapmgcffaa
