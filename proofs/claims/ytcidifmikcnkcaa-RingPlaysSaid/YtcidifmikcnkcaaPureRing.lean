import Derived.Test.YtcidifmikcnkcaaRingN
/- Rings, plain: what a deed does to its queue, and to the others. -/
namespace Go.Proofs.Ytcidifmikcnkcaa
open Go.RowKit
set_option linter.unusedSimpArgs false
set_option linter.unusedVariables false

section
variable {qs : List (Nm × Qu)} {M : Int} {nm nm' : Nm}
theorem lk_keep (q : Qu) (nm' : Nm) : lk (keepQ qs M nm q) nm' = if nm' = nm then (if q.l = [] ∧ q.most = M then none else some q) else lk qs nm' := by
  unfold keepQ
  by_cases h : q.l = [] ∧ q.most = M
  · rw [if_pos h, lk_del]
    simp [h]
  · rw [if_neg h, lk_upd]
    simp [h]
theorem getQ_keep_ne (q : Qu) (h : nm' ≠ nm) : getQ (keepQ qs M nm q) M nm' = getQ qs M nm' := by
  unfold getQ
  rw [lk_keep, if_neg h]
theorem getQ_keep (hn : namedB nm = true) (q : Qu) : getQ (keepQ qs M nm q) M nm = q := by
  unfold getQ
  rw [lk_keep, if_pos rfl]
  by_cases h : q.l = [] ∧ q.most = M
  · rw [if_pos h]
    obtain ⟨h1, h2⟩ := h
    cases q
    simp only at h1 h2
    subst h1 h2
    simp [hn]
  · rw [if_neg h]; rfl
theorem keep_len (q : Qu) : (keepQ qs M nm q).length ≤ qs.length + 1 := by
  unfold keepQ
  split
  · unfold delQ
    have := List.length_filter_le (fun e : Nm × Qu => !decide (e.1 = nm)) qs
    omega
  · rw [len_upd]; split <;> omega
theorem put_len (x : Int) : (putR qs M nm x).2.length ≤ qs.length + 1 := by
  unfold putR
  repeat' split
  all_goals first | exact keep_len _ | simp
theorem take_len : (takeR qs M nm).length ≤ qs.length + 1 := by
  unfold takeR
  split
  · simp
  · exact keep_len _
theorem cap_len (x : Int) : (capR qs M nm x).2.length ≤ qs.length + 1 := by
  unfold capR
  repeat' split
  all_goals first | exact keep_len _ | simp
theorem drop_len (x : Int) : (dropR qs M nm x).2.length ≤ qs.length + 1 := by
  unfold dropR
  split
  · exact keep_len _
  · simp
theorem put_ne (x : Int) (h : nm' ≠ nm) : getQ (putR qs M nm x).2 M nm' = getQ qs M nm' := by
  unfold putR
  repeat' split
  all_goals first | exact getQ_keep_ne _ h | rfl
theorem take_ne (h : nm' ≠ nm) : getQ (takeR qs M nm) M nm' = getQ qs M nm' := by
  unfold takeR
  split
  · rfl
  · exact getQ_keep_ne _ h
theorem cap_ne (x : Int) (h : nm' ≠ nm) : getQ (capR qs M nm x).2 M nm' = getQ qs M nm' := by
  unfold capR
  repeat' split
  all_goals first | exact getQ_keep_ne _ h | rfl
theorem drop_ne (x : Int) (h : nm' ≠ nm) : getQ (dropR qs M nm x).2 M nm' = getQ qs M nm' := by
  unfold dropR
  split
  · exact getQ_keep_ne _ h
  · rfl
/-- a put where there is room, of few queues -/
theorem put_ok (hn : namedB nm = true) (hl : qs.length < 1000) (x : Int) (hr : ((getQ qs M nm).l.length : Int) < (getQ qs M nm).most) :
    (putR qs M nm x).1 = 0 ∧ getQ (putR qs M nm x).2 M nm = ⟨(getQ qs M nm).most, (getQ qs M nm).l ++ [x]⟩ := by
  unfold putR
  rw [if_pos hn, if_neg (by omega), decide_eq_true hl, Bool.or_true, if_pos rfl]
  exact ⟨rfl, getQ_keep hn _⟩
theorem put_busy (hn : namedB nm = true) (x : Int) (hr : (getQ qs M nm).most ≤ ((getQ qs M nm).l.length : Int)) : putR qs M nm x = (50, qs) := by
  unfold putR
  rw [if_pos hn, if_pos hr]
theorem cap_ok (hn : namedB nm = true) (hl : qs.length < 1000) {x : Int} (hx : 1 ≤ x ∧ x ≤ 65536) :
    (capR qs M nm x).1 = 0 ∧ getQ (capR qs M nm x).2 M nm = ⟨x, (getQ qs M nm).l⟩ := by
  unfold capR
  rw [if_pos ⟨hn, hx⟩, decide_eq_true hl, Bool.or_true, if_neg (by simp)]
  exact ⟨rfl, getQ_keep hn _⟩
theorem take_ok (hn : namedB nm = true) : getQ (takeR qs M nm) M nm = ⟨(getQ qs M nm).most, (getQ qs M nm).l.eraseIdx 0⟩ := by
  unfold takeR
  split
  · rename_i h
    cases hq : getQ qs M nm with
    | mk m l =>
      rw [hq] at h
      simp only at h
      subst h
      rfl
  · exact getQ_keep hn _
theorem drop_some (hn : namedB nm = true) {x : Int} {k : Nat} (h : posI (getQ qs M nm).l x = some k) :
    (dropR qs M nm x).1 = true ∧ getQ (dropR qs M nm x).2 M nm = ⟨(getQ qs M nm).most, (getQ qs M nm).l.eraseIdx k⟩ := by
  unfold dropR
  rw [h]
  exact ⟨rfl, getQ_keep hn _⟩
theorem drop_none {x : Int} (h : posI (getQ qs M nm).l x = none) : dropR qs M nm x = (false, qs) := by
  unfold dropR
  rw [h]
theorem getQ_nil (hn : namedB nm = true) : getQ [] M nm = ⟨M, []⟩ := by unfold getQ; rw [lk_nil]; simp [hn]
end
end Go.Proofs.Ytcidifmikcnkcaa
