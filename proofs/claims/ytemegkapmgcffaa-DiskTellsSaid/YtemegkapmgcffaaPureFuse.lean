import Derived.Test.YtemegkapmgcffaaPureLeaves
/- The disk, plain: with a fuse, and without one. -/
namespace Go.Proofs.Ytemegkapmgcffaa
open Go.RowKit
set_option linter.unusedSimpArgs false
set_option linter.unusedVariables false

def withF (D : Dk) (f : Int) : Dk := { D with fuse := f }
/-- how a deed on a disk with a fuse of f goes, as one without does -/
structure Fused (D : Dk) (f : Int) (r r' : Int × Dk) : Prop where
  fuse : r.2.fuse = -1
  dark : r.2.dark = false
  no : r.1 ≠ 0 → r.2 = D ∧ r' = (r.1, withF D f)
  out : r.1 = 0 → f = 0 → r' = (15, darkD (withF D f))
  on : r.1 = 0 → 0 < f → r' = (0, withF r.2 (f - 1))
theorem fused_deed {D : Dk} {f : Int} {fs : List Fl} (h1 : D.fuse = -1) (h2 : D.dark = false) (hf : 0 ≤ f) : Fused D f (deedD D fs) (deedD (withF D f) fs) := by
  have e1 : deedD D fs = (0, { D with fs := fs }) := by
    unfold deedD
    rw [if_neg (by omega), if_neg (by omega)]
  refine ⟨by rw [e1]; exact h1, by rw [e1]; exact h2, fun h => by rw [e1] at h; exact absurd rfl h, fun _ h0 => ?_, fun _ h0 => ?_⟩
  · subst h0; unfold deedD withF; rw [if_pos rfl]
  · rw [e1]
    unfold deedD withF
    rw [if_neg (by simp only; omega)]
    simp only
    rw [if_pos h0]
theorem fused_no {D : Dk} {f e : Int} (h1 : D.fuse = -1) (h2 : D.dark = false) (he : e ≠ 0) : Fused D f (e, D) (e, withF D f) :=
  ⟨h1, h2, fun _ => ⟨rfl, rfl⟩, fun h => absurd h he, fun h => absurd h he⟩
theorem fused_of {D : Dk} {f : Int} (h1 : D.fuse = -1) (h2 : D.dark = false) (hf : 0 ≤ f) (nm : Nm) (may : Fl → Int) (act : Nat → Fl → List Fl) : Fused D f (ofD D nm may act) (ofD (withF D f) nm may act) := by
  unfold ofD
  have hd : (withF D f).dark = false := h2
  have hs : (withF D f).fs = D.fs := rfl
  rw [if_neg (show ¬ D.dark = true by rw [h2]; simp), if_neg (show ¬ (withF D f).dark = true by rw [hd]; simp), hs]
  cases hth : thereF D.fs nm with
  | false => exact fused_no h1 h2 (by decide)
  | true =>
    cases hg : D.fs[posF D.fs nm]? with
    | none => exact fused_no h1 h2 (by decide)
    | some x =>
      simp only
      by_cases hm : may x ≠ 0
      · rw [if_pos hm, if_pos hm]
        exact fused_no h1 h2 hm
      · rw [if_neg hm, if_neg hm]
        exact fused_deed h1 h2 hf
theorem fused_does {D : Dk} {f : Int} (h1 : D.fuse = -1) (h2 : D.dark = false) (hf : 0 ≤ f) (d : Ded) (hop : 0 ≤ d.op ∧ d.op ≤ 6) : Fused D f (doesD D d) (doesD (withF D f) d) := by
  unfold doesD
  by_cases a1 : d.op ≤ 2
  · rw [if_pos a1, if_pos a1]
    unfold appendD
    have hd : (withF D f).dark = false := h2
    have hs : (withF D f).fs = D.fs := rfl
    have hr : (withF D f).room = D.room := rfl
    rw [if_neg (show ¬ D.dark = true by rw [h2]; simp), if_neg (show ¬ (withF D f).dark = true by rw [hd]; simp), hs, hr]
    by_cases b1 : namedF d.a = false
    · rw [if_pos b1, if_pos b1]
      exact fused_no h1 h2 (by decide)
    · rw [if_neg b1, if_neg b1]
      by_cases b2 : D.room < (usedF D.fs : Int) + d.b.length ∨ (thereF D.fs d.a = false ∧ D.fs.length = 200)
      · rw [if_pos b2, if_pos b2]
        exact fused_no h1 h2 (by decide)
      · rw [if_neg b2, if_neg b2]
        exact fused_deed h1 h2 hf
  · rw [if_neg a1, if_neg a1]
    by_cases a3 : d.op = 3
    · rw [if_pos a3, if_pos a3]; exact fused_of h1 h2 hf _ _ _
    · rw [if_neg a3, if_neg a3]
      by_cases a4 : d.op = 4
      · rw [if_pos a4, if_pos a4]; exact fused_of h1 h2 hf _ _ _
      · rw [if_neg a4, if_neg a4]
        by_cases a5 : d.op = 5
        · rw [if_pos a5, if_pos a5]; exact fused_of h1 h2 hf _ _ _
        · rw [if_neg a5, if_neg a5]
          have a6 : d.op = 6 := by omega
          rw [if_pos a6, if_pos a6]
          exact fused_of h1 h2 hf _ _ _
theorem left_none (f : Fl) (h : f.safe ≤ f.b.length) : leftF f 0 0 = ⟨f.nm, f.b.take f.safe, f.safe⟩ := by
  unfold leftF
  simp
end Go.Proofs.Ytemegkapmgcffaa
