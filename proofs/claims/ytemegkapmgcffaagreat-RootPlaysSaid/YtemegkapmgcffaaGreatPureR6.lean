import Derived.Test.YtemegkapmgcffaaGreatMRb
import Derived.Test.YtemegkapmgcffaaGreatPureLeaves
/- Roots, plain: the document's Read looks at the files in their order. -/
namespace Go.Proofs.YtemegkapmgcffaaGreat
open Go.RowKit
set_option linter.unusedSimpArgs false
set_option linter.unusedVariables false

/-- what is read of the first k files -/
def hitR (D : Dk) (nm : Nm) (k : Nat) (acc : Rt) : Rt := if thereF D.fs nm = true ∧ posF D.fs nm < k then candR D nm acc else acc
def partR (D : Dk) (k : Nat) : Rt := hitR D rn1 k (hitR D rn0 k rt0)
theorem rn01 : rn0 ≠ rn1 := by decide
theorem rn10_less : Op.bytesLess rn1 rn0 = false := by decide
theorem hit_miss {D : Dk} {nm : Nm} {k : Nat} {f : Fl} (hf : D.fs[k]? = some f) (hn : f.nm ≠ nm) (acc : Rt) : hitR D nm (k + 1) acc = hitR D nm k acc := by
  unfold hitR
  by_cases h : thereF D.fs nm = true
  · obtain ⟨g, hg, hgn⟩ := there_true h
    have hne : posF D.fs nm ≠ k := fun e => by
      rw [e, hf] at hg
      cases hg
      exact hn hgn
    by_cases h2 : posF D.fs nm < k
    · rw [if_pos ⟨h, by omega⟩, if_pos ⟨h, h2⟩]
    · rw [if_neg (fun hh => h2 (by omega)), if_neg (fun hh => h2 hh.2)]
  · rw [if_neg (fun hh => h hh.1), if_neg (fun hh => h hh.1)]
theorem part_other {D : Dk} {k : Nat} {f : Fl} (hf : D.fs[k]? = some f) (h0 : f.nm ≠ rn0) (h1 : f.nm ≠ rn1) : partR D (k + 1) = partR D k := by
  unfold partR
  rw [hit_miss hf h1, hit_miss hf h0]
theorem part_hit {D : Dk} (hs : SrtF D.fs) {k : Nat} {f : Fl} (hf : D.fs[k]? = some f) (hn : f.nm = rn0 ∨ f.nm = rn1) : partR D (k + 1) = candR D f.nm (partR D k) := by
  obtain ⟨h1, h2⟩ := there_of hs hf rfl
  rcases hn with hn | hn
  · rw [hn] at h1 h2 ⊢
    have key : ¬ (thereF D.fs rn1 = true ∧ posF D.fs rn1 < k + 1) := fun ⟨ht, hp⟩ => by
      obtain ⟨g, hg, hgn⟩ := there_true ht
      rcases Nat.lt_or_ge (posF D.fs rn1) k with h3 | h3
      · have := hs _ _ _ _ h3 hg hf
        rw [hgn, hn] at this
        rw [rn10_less] at this
        cases this
      · have : posF D.fs rn1 = k := by omega
        rw [this, hf] at hg
        cases hg
        exact rn01 (hn.symm.trans hgn)
    unfold partR
    have e1 : ∀ a, hitR D rn1 (k + 1) a = a := fun a => by unfold hitR; rw [if_neg key]
    have e2 : ∀ a, hitR D rn1 k a = a := fun a => by unfold hitR; rw [if_neg (fun h => key ⟨h.1, by omega⟩)]
    have e3 : ∀ a, hitR D rn0 k a = a := fun a => by unfold hitR; rw [if_neg (fun h => by omega)]
    have e4 : ∀ a, hitR D rn0 (k + 1) a = candR D rn0 a := fun a => by unfold hitR; rw [if_pos ⟨h2, by omega⟩]
    rw [e1, e2, e3, e4]
  · rw [hn] at h1 h2 ⊢
    unfold partR
    have e3 : ∀ a, hitR D rn1 k a = a := fun a => by unfold hitR; rw [if_neg (fun h => by omega)]
    have e4 : ∀ a, hitR D rn1 (k + 1) a = candR D rn1 a := fun a => by unfold hitR; rw [if_pos ⟨h2, by omega⟩]
    rw [e3, e4, hit_miss hf (by rw [hn]; exact fun e => rn01 e.symm)]
theorem hit_all {D : Dk} (hd : D.dark = false) (nm : Nm) (acc : Rt) : hitR D nm D.fs.length acc = candR D nm acc := by
  unfold hitR
  by_cases h : thereF D.fs nm = true
  · obtain ⟨g, hg, _⟩ := there_true h
    have := (List.getElem?_eq_some_iff.1 hg).1
    rw [if_pos ⟨h, this⟩]
  · rw [if_neg (fun hh => h hh.1)]
    have hr : readD D nm = ([], 16) := by
      unfold readD
      rw [if_neg (by rw [hd]; simp), if_neg h]
    unfold candR
    rw [hr, if_neg (by simp)]
theorem part_all {D : Dk} (hd : D.dark = false) : partR D D.fs.length = rootD D := by
  unfold partR
  rw [hit_all hd, hit_all hd]
  rfl
theorem part_zero (D : Dk) : partR D 0 = rt0 := by
  unfold partR hitR
  rw [if_neg (by omega), if_neg (by omega)]
theorem parse_one (l : List UInt8) (h : (parseF l).2 = 0) : 1 ≤ (parseF l).1.s := by
  unfold parseF at h ⊢
  split
  · rename_i h1
    have h2 := (rightR_iff _ _ _).1 h1.2.2.2.2.2
    exact h2.1
  · rename_i h1
    rw [if_neg h1] at h
    simp at h
theorem cand_own {D : Dk} (hs : SrtF D.fs) (hd : D.dark = false) {k : Nat} {f : Fl} (hf : D.fs[k]? = some f) (acc : Rt) : candR D f.nm acc = if (parseF f.b).2 = 0 ∧ acc.s < (parseF f.b).1.s then (parseF f.b).1 else acc := by
  unfold candR
  rw [read_own hs hd hf, if_pos rfl]
theorem hit_rng (D : Dk) (nm : Nm) (k : Nat) (acc : Rt) (h : 0 ≤ acc.s) : 0 ≤ (hitR D nm k acc).s := by
  unfold hitR
  split
  · unfold candR
    split
    · split
      · exact (parse_rng _).1
      · exact h
    · exact h
  · exact h
theorem part_rng (D : Dk) (k : Nat) : 0 ≤ (partR D k).s := hit_rng _ _ _ _ (hit_rng _ _ _ _ (by simp [rt0]))
end Go.Proofs.YtemegkapmgcffaaGreat
