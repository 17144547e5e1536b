import Derived.Test.YtcidifmikcnkcaaRingN
/- Rings, plain: one queue alone. -/
namespace Go.Proofs.Ytcidifmikcnkcaa
open Go.RowKit
set_option linter.unusedSimpArgs false
set_option linter.unusedVariables false

noncomputable def leastN (p : Nat → Prop) : Nat := by
  classical exact if h : ∃ n, p n ∧ ∀ m, m < n → ¬ p m then Classical.choose h else 0
theorem least_ex {p : Nat → Prop} (h : ∃ n, p n) : ∃ n, p n ∧ ∀ m, m < n → ¬ p m := by
  apply Classical.byContradiction
  intro hn
  obtain ⟨n, hp⟩ := h
  revert hp
  induction n using Nat.strongRecOn with
  | ind n ih => intro hp; exact hn ⟨n, hp, fun m hm hpm => ih m hm hpm⟩
theorem least_spec {p : Nat → Prop} (h : ∃ n, p n) : p (leastN p) ∧ ∀ m, m < leastN p → ¬ p m := by
  have h2 := least_ex h
  have e : leastN p = Classical.choose h2 := by simp [leastN, h2]
  rw [e]
  exact Classical.choose_spec h2
theorem least_le {p : Nat → Prop} {n : Nat} (h : p n) : leastN p ≤ n := by
  apply Classical.byContradiction
  intro hn
  exact (least_spec ⟨n, h⟩).2 n (by omega) h
/-- one queue: of a name, a cap, its numbers; the rings' own cap is M -/
def one (nm : Nm) (M m : Int) (l : List Int) : List (Nm × Qu) := if l = [] ∧ m = M then [] else [(nm, ⟨m, l⟩)]
section
variable {nm : Nm} {M m : Int} {l : List Int}
theorem one_lk : lk (one nm M m l) nm = if l = [] ∧ m = M then none else some ⟨m, l⟩ := by
  unfold one
  split
  · rfl
  · rw [lk_cons, if_pos rfl]
theorem one_len : (one nm M m l).length ≤ 1 := by unfold one; split <;> simp
theorem one_getQ (hn : namedB nm = true) : getQ (one nm M m l) M nm = ⟨m, l⟩ := by
  unfold getQ
  rw [one_lk]
  split
  · rename_i h
    obtain ⟨rfl, rfl⟩ := h
    simp [hn]
  · rfl
theorem one_keep (m' : Int) (l' : List Int) : keepQ (one nm M m l) M nm ⟨m', l'⟩ = one nm M m' l' := by
  unfold keepQ
  by_cases h : l' = [] ∧ m' = M
  · rw [if_pos h]
    have : one nm M m' l' = [] := by unfold one; rw [if_pos h]
    rw [this]
    unfold delQ one
    split <;> simp
  · rw [if_neg h]
    have : one nm M m' l' = [(nm, ⟨m', l'⟩)] := by unfold one; rw [if_neg h]
    rw [this]
    unfold updQ
    rw [one_lk]
    unfold one
    split <;> simp
theorem one_put (hn : namedB nm = true) (x : Int) : putR (one nm M m l) M nm x = if m ≤ l.length then (50, one nm M m l) else (0, one nm M m (l ++ [x])) := by
  unfold putR
  rw [if_pos hn, one_getQ hn]
  have hl : decide ((one nm M m l).length < 1000) = true := by have := one_len (nm := nm) (M := M) (m := m) (l := l); simp; omega
  split
  · rfl
  · rw [hl, Bool.or_true, if_pos rfl, one_keep]
theorem one_take (hn : namedB nm = true) (x : Int) (r : List Int) : takeR (one nm M m (x :: r)) M nm = one nm M m r := by
  unfold takeR
  rw [one_getQ hn, if_neg (by simp), one_keep]
  rfl
theorem one_cap (hn : namedB nm = true) {x : Int} (hx : 1 ≤ x ∧ x ≤ 65536) : capR (one nm M m l) M nm x = (0, one nm M x l) := by
  unfold capR
  have hl : decide ((one nm M m l).length < 1000) = true := by have := one_len (nm := nm) (M := M) (m := m) (l := l); simp; omega
  rw [if_pos ⟨hn, hx⟩, hl, Bool.or_true, if_neg (by simp), one_getQ hn, one_keep]
theorem one_drop (hn : namedB nm = true) (x : Int) : dropR (one nm M m l) M nm x = match posI l x with | some k => (true, one nm M m (l.eraseIdx k)) | none => (false, one nm M m l) := by
  unfold dropR
  rw [one_getQ hn]
  cases h : posI l x with
  | some k => simp only [h, one_keep]
  | none => simp only [h]
theorem one_held : heldN (one nm M m l) = if l = [] then [] else [nm] := by
  unfold one heldN
  by_cases h : l = []
  · subst h; split <;> simp
  · rw [if_neg (fun h2 => h h2.1), if_neg h]
    simp [h]
end
end Go.Proofs.Ytcidifmikcnkcaa
