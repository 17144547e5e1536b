import Derived.Test.YtcidifmikcnkcaaRingE
/- Rings: may, keep. -/
namespace Go.Proofs.Ytcidifmikcnkcaa
open Go.RowKit Go.Maps Go.WideShapes Go.WideMaps
set_option linter.unusedSimpArgs false
set_option linter.unusedVariables false

def updQ (qs : List (Nm × Qu)) (nm : Nm) (q : Qu) : List (Nm × Qu) := if (lk qs nm).isSome then qs.map (fun e => if e.1 = nm then (nm, q) else e) else qs ++ [(nm, q)]
def delQ (qs : List (Nm × Qu)) (nm : Nm) : List (Nm × Qu) := qs.filter (fun e => !decide (e.1 = nm))
theorem lk_nil (nm : Nm) : lk [] nm = none := rfl
theorem lk_cons (e : Nm × Qu) (r : List (Nm × Qu)) (nm : Nm) : lk (e :: r) nm = if e.1 = nm then some e.2 else lk r nm := by
  unfold lk
  by_cases h : e.1 = nm <;> simp [List.find?_cons, h]
theorem lk_append (a r : List (Nm × Qu)) (nm : Nm) : lk (a ++ r) nm = (lk a nm).or (lk r nm) := by
  induction a with
  | nil => simp [lk_nil]
  | cons e a ih => rw [List.cons_append, lk_cons, lk_cons, ih]; split <;> simp
theorem lk_mem {qs : List (Nm × Qu)} {nm : Nm} {q : Qu} (h : lk qs nm = some q) : (nm, q) ∈ qs := by
  induction qs with
  | nil => cases h
  | cons e r ih =>
    rw [lk_cons] at h
    split at h
    · rename_i he
      cases h
      subst he
      exact List.mem_cons_self
    · exact List.mem_cons_of_mem _ (ih h)
theorem lk_none {qs : List (Nm × Qu)} {nm : Nm} : lk qs nm = none ↔ nm ∉ qs.map Prod.fst := by
  induction qs with
  | nil => simp [lk_nil]
  | cons e r ih =>
    rw [lk_cons, List.map_cons, List.mem_cons]
    by_cases h : e.1 = nm
    · simp [h]
    · rw [if_neg h, ih]
      simp [fun e' => h (Eq.symm e')]
      intro hh; exact fun e' => h e'.symm
theorem lk_map (qs : List (Nm × Qu)) (nm nm' : Nm) (q : Qu) : lk (qs.map (fun e => if e.1 = nm then (nm, q) else e)) nm' = if nm' = nm then (lk qs nm').map (fun _ => q) else lk qs nm' := by
  induction qs with
  | nil => simp [lk_nil]
  | cons e r ih =>
    rw [List.map_cons, lk_cons, lk_cons, ih]
    by_cases h : e.1 = nm
    · subst h
      simp only [if_true]
      by_cases h2 : nm' = e.1
      · subst h2; simp
      · rw [if_neg h2, if_neg (fun x => h2 (Eq.symm x)), if_neg h2, if_neg (fun x => h2 (Eq.symm x))]
    · rw [if_neg h]
      by_cases h2 : nm' = nm
      · subst h2
        simp [h]
      · simp [h2]
theorem lk_upd (qs : List (Nm × Qu)) (nm nm' : Nm) (q : Qu) : lk (updQ qs nm q) nm' = if nm' = nm then some q else lk qs nm' := by
  unfold updQ
  split
  · rename_i h
    rw [lk_map]
    by_cases h2 : nm' = nm
    · subst h2
      obtain ⟨q0, h0⟩ := Option.isSome_iff_exists.1 h
      simp [h0]
    · simp [h2]
  · rename_i h
    rw [lk_append, lk_cons, lk_nil]
    have h : lk qs nm = none := by simpa using h
    by_cases h2 : nm' = nm
    · subst h2
      simp [h]
    · rw [if_neg h2, if_neg (fun x => h2 (Eq.symm x))]
      cases lk qs nm' <;> rfl
theorem len_upd (qs : List (Nm × Qu)) (nm : Nm) (q : Qu) : (updQ qs nm q).length = if (lk qs nm).isSome then qs.length else qs.length + 1 := by
  unfold updQ
  split <;> simp
theorem fst_upd (qs : List (Nm × Qu)) (nm : Nm) (q : Qu) : (updQ qs nm q).map Prod.fst = if (lk qs nm).isSome then qs.map Prod.fst else qs.map Prod.fst ++ [nm] := by
  unfold updQ
  split
  · rw [List.map_map]
    apply List.map_congr_left
    intro e he
    simp only [Function.comp]
    split
    · rename_i h; exact h.symm
    · rfl
  · simp
theorem nodup_upd {qs : List (Nm × Qu)} (h : (qs.map Prod.fst).Nodup) (nm : Nm) (q : Qu) : ((updQ qs nm q).map Prod.fst).Nodup := by
  rw [fst_upd]
  split
  · exact h
  · rename_i hn
    have hn : lk qs nm = none := by simpa using hn
    rw [List.nodup_append]
    refine ⟨h, by simp, ?_⟩
    intro a ha b hb e
    rw [List.mem_singleton] at hb
    subst hb; subst e
    exact lk_none.1 hn ha
theorem lk_del (qs : List (Nm × Qu)) (nm nm' : Nm) : lk (delQ qs nm) nm' = if nm' = nm then none else lk qs nm' := by
  unfold delQ
  induction qs with
  | nil => simp [lk_nil]
  | cons e r ih =>
    rw [List.filter_cons]
    by_cases h : e.1 = nm
    · subst h
      simp only [decide_true, Bool.not_true, Bool.false_eq_true, if_false]
      rw [ih, lk_cons]
      by_cases h2 : nm' = e.1
      · simp [h2]
      · rw [if_neg h2, if_neg h2, if_neg (fun x => h2 x.symm)]
    · simp only [h, decide_false, Bool.not_false, if_true]
      rw [lk_cons, lk_cons, ih]
      by_cases h2 : nm' = nm
      · subst h2; simp [h]
      · simp [h2]
theorem nodup_del {qs : List (Nm × Qu)} (h : (qs.map Prod.fst).Nodup) (nm : Nm) : ((delQ qs nm).map Prod.fst).Nodup := h.sublist (List.Sublist.map _ List.filter_sublist)
theorem len_del {qs : List (Nm × Qu)} (h : (qs.map Prod.fst).Nodup) (nm : Nm) : (delQ qs nm).length + (if (lk qs nm).isSome then 1 else 0) = qs.length := by
  unfold delQ
  induction qs with
  | nil => rfl
  | cons e r ih =>
    rw [List.map_cons, List.nodup_cons] at h
    have ih := ih h.2
    rw [lk_cons, List.filter_cons]
    by_cases h2 : e.1 = nm
    · have e0 : lk r nm = none := lk_none.2 (h2 ▸ h.1)
      have e1 : (if (some e.snd : Option Qu).isSome = true then (1 : Nat) else 0) = 1 := rfl
      have e2 : (if (none : Option Qu).isSome = true then (1 : Nat) else 0) = 0 := rfl
      rw [e0, e2] at ih
      rw [if_pos h2, e1]
      simp only [h2, decide_true, Bool.not_true, Bool.false_eq_true, if_false, List.length_cons]
      omega
    · simp only [h2, decide_false, Bool.not_false, if_true, if_false, List.length_cons] at ih ⊢
      omega
def keepQ (qs : List (Nm × Qu)) (most : Int) (nm : Nm) (q : Qu) : List (Nm × Qu) := if q.l = [] ∧ q.most = most then delQ qs nm else updQ qs nm q
theorem ownsMap_tight {w : World} {Pg : Program} {k : TypeId} {R : Value → Option (DataW Unit × List MemPlace)} {b n : Nat} {D : DataW Unit} (h : w.ownsMap Pg k R b n D) : w.ownsMap Pg k R b (Maps.size D) D := by
  obtain ⟨es, clock, h1, F, h2, rfl⟩ := h
  exact ⟨es, clock, h1, F, by simp [Maps.size, length_sorted], rfl⟩
end Go.Proofs.Ytcidifmikcnkcaa
