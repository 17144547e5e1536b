import Derived.Test.YtcidifmikcnkcaaPureRing
import Derived.Sort.Walk0
/- Rings, plain: the document's list of queues by rising names. -/
namespace Go.Proofs.Ytcidifmikcnkcaa
open Go.RowKit
set_option linter.unusedSimpArgs false
set_option linter.unusedVariables false

theorem bs_irrefl (a : Nm) : Op.bytesLess a a = false := by
  induction a with
  | nil => rfl
  | cons x a ih => simp [Op.bytesLess, ih]
theorem bs_trans {a b c : Nm} (h : Op.bytesLess a b = true) (k : Op.bytesLess b c = true) : Op.bytesLess a c = true := by
  rw [Go.Proofs.bytesLess_eq] at h k ⊢
  simp only [decide_eq_true_eq] at h k ⊢
  exact List.lt_trans h k
theorem bs_tri {a b : Nm} (h : Op.bytesLess a b = false) (k : Op.bytesLess b a = false) : a = b := by
  rw [Go.Proofs.bytesLess_eq] at h k
  simp only [decide_eq_false_iff_not] at h k
  exact List.le_antisymm (List.not_lt.1 k) (List.not_lt.1 h)
theorem bs_asymm {a b : Nm} (h : Op.bytesLess a b = true) : Op.bytesLess b a = false := by
  cases k : Op.bytesLess b a with
  | false => rfl
  | true => have := bs_trans h k; rw [bs_irrefl] at this; cases this
theorem bs_ne {a b : Nm} (h : Op.bytesLess a b = true) : a ≠ b := fun e => by rw [e, bs_irrefl] at h; cases h
def SrtP (P : List (Nm × Qu)) : Prop := P.Pairwise (fun a b => Op.bytesLess a.1 b.1 = true)
def lowP (nm : Nm) (P : List (Nm × Qu)) : List (Nm × Qu) := P.filter (fun e => Op.bytesLess e.1 nm)
def highP (nm : Nm) (P : List (Nm × Qu)) : List (Nm × Qu) := P.filter (fun e => Op.bytesLess nm e.1)
def none0 (q : Qu) (M : Int) : Bool := decide (q.l = []) && decide (q.most = M)
def outK (P : List (Nm × Qu)) (M : Int) (nm : Nm) (q : Qu) (k : Nat) : List (Nm × Qu) :=
  if none0 q M = true then delQ (P.take k) nm else lowP nm (P.take k) ++ (if highP nm (P.take k) = [] then [] else (nm, q) :: highP nm (P.take k))
def withP (P : List (Nm × Qu)) (M : Int) (nm : Nm) (q : Qu) : List (Nm × Qu) := if none0 q M = true then delQ P nm else lowP nm P ++ (nm, q) :: highP nm P
def doneK (P : List (Nm × Qu)) (M : Int) (nm : Nm) (q : Qu) (k : Nat) : Bool := none0 q M || !(highP nm (P.take k)).isEmpty
section
variable {P : List (Nm × Qu)} {M : Int} {nm : Nm} {q : Qu}
theorem low_snoc (l : List (Nm × Qu)) (e : Nm × Qu) : lowP nm (l ++ [e]) = if Op.bytesLess e.1 nm = true then lowP nm l ++ [e] else lowP nm l := by
  unfold lowP
  rw [List.filter_append]
  cases h : Op.bytesLess e.1 nm <;> simp [h]
theorem high_snoc (l : List (Nm × Qu)) (e : Nm × Qu) : highP nm (l ++ [e]) = if Op.bytesLess nm e.1 = true then highP nm l ++ [e] else highP nm l := by
  unfold highP
  rw [List.filter_append]
  cases h : Op.bytesLess nm e.1 <;> simp [h]
theorem del_snoc (l : List (Nm × Qu)) (e : Nm × Qu) : delQ (l ++ [e]) nm = if e.1 = nm then delQ l nm else delQ l nm ++ [e] := by
  unfold delQ
  rw [List.filter_append]
  by_cases h : e.1 = nm <;> simp [h]
theorem take_snocP {k : Nat} {e : Nm × Qu} (h : P[k]? = some e) : P.take (k + 1) = P.take k ++ [e] := by rw [List.take_add_one, h]; rfl
/-- the element is the queue's own -/
theorem out_same {k : Nat} {e : Nm × Qu} (h : P[k]? = some e) (hn : e.1 = nm) : outK P M nm q (k + 1) = outK P M nm q k ∧ doneK P M nm q (k + 1) = doneK P M nm q k := by
  have h1 : Op.bytesLess e.1 nm = false := by rw [hn]; exact bs_irrefl _
  have h2 : Op.bytesLess nm e.1 = false := by rw [hn]; exact bs_irrefl _
  unfold outK doneK
  rw [take_snocP h, low_snoc, high_snoc, del_snoc, h1, h2, if_pos hn]
  simp
theorem out_low (hs : SrtP P) {k : Nat} {e : Nm × Qu} (h : P[k]? = some e) (hn : Op.bytesLess e.1 nm = true) : outK P M nm q (k + 1) = outK P M nm q k ++ [e] ∧ doneK P M nm q (k + 1) = doneK P M nm q k := by
  have hne : e.1 ≠ nm := bs_ne hn
  have h2 : Op.bytesLess nm e.1 = false := bs_asymm hn
  have h0 : highP nm (P.take k) = [] := by
    unfold highP
    rw [List.filter_eq_nil_iff]
    intro x hx
    obtain ⟨j, hj, rfl⟩ := List.getElem_of_mem hx
    have hk := (List.getElem?_eq_some_iff.1 h).1
    have hjk : j < k := by rw [List.length_take] at hj; omega
    have := List.pairwise_iff_getElem.1 hs j k (by omega) hk hjk
    rw [(List.getElem?_eq_some_iff.1 h).2] at this
    rw [List.getElem_take]
    have h5 := bs_trans this hn
    simp [bs_asymm h5]
  unfold outK doneK
  rw [take_snocP h, low_snoc, high_snoc, del_snoc, h2, if_neg hne, if_pos hn, h0]
  cases none0 q M <;> simp
theorem out_high {k : Nat} {e : Nm × Qu} (h : P[k]? = some e) (hn : Op.bytesLess nm e.1 = true) : outK P M nm q (k + 1) = (if doneK P M nm q k = true then outK P M nm q k else outK P M nm q k ++ [(nm, q)]) ++ [e] ∧ doneK P M nm q (k + 1) = true := by
  have hne : e.1 ≠ nm := fun h5 => bs_ne hn h5.symm
  have h1 : Op.bytesLess e.1 nm = false := bs_asymm hn
  unfold outK doneK
  rw [take_snocP h, low_snoc, high_snoc, del_snoc, h1, if_neg hne, if_pos hn]
  cases hz : none0 q M with
  | true => simp
  | false =>
    cases hh : highP nm (List.take k P) with
    | nil => simp
    | cons x r => simp
theorem out_zero : outK P M nm q 0 = [] ∧ doneK P M nm q 0 = none0 q M := by
  unfold outK doneK
  simp [lowP, highP, delQ]
theorem out_end : withP P M nm q = (if doneK P M nm q P.length = true then outK P M nm q P.length else outK P M nm q P.length ++ [(nm, q)]) := by
  unfold withP outK doneK
  rw [List.take_length]
  cases hz : none0 q M with
  | true => simp
  | false =>
    cases hh : highP nm P with
    | nil => simp
    | cons x r => simp
theorem lk_low (nm' : Nm) : lk (lowP nm P) nm' = if Op.bytesLess nm' nm = true then lk P nm' else none := by
  induction P with
  | nil => simp [lowP, lk_nil]
  | cons e r ih =>
    unfold lowP at ih ⊢
    rw [List.filter_cons]
    by_cases h : Op.bytesLess e.1 nm = true
    · rw [if_pos h, lk_cons, lk_cons, ih]
      by_cases h2 : e.1 = nm'
      · rw [if_pos h2, if_pos h2, ← h2, if_pos h]
      · rw [if_neg h2, if_neg h2]
    · rw [if_neg h, ih, lk_cons]
      by_cases h2 : e.1 = nm'
      · rw [if_pos h2, ← h2, if_neg h, if_neg h]
      · rw [if_neg h2]
theorem lk_high (nm' : Nm) : lk (highP nm P) nm' = if Op.bytesLess nm nm' = true then lk P nm' else none := by
  induction P with
  | nil => simp [highP, lk_nil]
  | cons e r ih =>
    unfold highP at ih ⊢
    rw [List.filter_cons]
    by_cases h : Op.bytesLess nm e.1 = true
    · rw [if_pos h, lk_cons, lk_cons, ih]
      by_cases h2 : e.1 = nm'
      · rw [if_pos h2, if_pos h2, ← h2, if_pos h]
      · rw [if_neg h2, if_neg h2]
    · rw [if_neg h, ih, lk_cons]
      by_cases h2 : e.1 = nm'
      · rw [if_pos h2, ← h2, if_neg h, if_neg h]
      · rw [if_neg h2]
theorem lk_with (nm' : Nm) : lk (withP P M nm q) nm' = if nm' = nm then (if q.l = [] ∧ q.most = M then none else some q) else lk P nm' := by
  unfold withP
  cases hz : none0 q M with
  | true =>
    have hz2 : q.l = [] ∧ q.most = M := by unfold none0 at hz; simpa using hz
    rw [if_pos rfl, lk_del]
    simp [hz2]
  | false =>
    have hz2 : ¬ (q.l = [] ∧ q.most = M) := fun h => by unfold none0 at hz; simp [h.1, h.2] at hz
    rw [if_neg (by simp), lk_append, lk_cons, lk_low, lk_high, if_neg hz2]
    by_cases h : nm' = nm
    · subst h
      simp [bs_irrefl]
    · rw [if_neg h, if_neg (show ¬ nm = nm' from fun e => h e.symm)]
      cases h1 : Op.bytesLess nm' nm with
      | true => rw [bs_asymm h1]; simp
      | false =>
        cases h2 : Op.bytesLess nm nm' with
        | true => simp
        | false => exact absurd (bs_tri h1 h2) h
theorem srt_with (hs : SrtP P) : SrtP (withP P M nm q) := by
  unfold withP
  split
  · exact hs.sublist List.filter_sublist
  · unfold SrtP
    rw [List.pairwise_append]
    refine ⟨hs.sublist List.filter_sublist, ?_, ?_⟩
    · rw [List.pairwise_cons]
      exact ⟨fun e he => by have := (List.mem_filter.1 he).2; exact this, hs.sublist List.filter_sublist⟩
    · intro a ha b hb
      have h1 : Op.bytesLess a.1 nm = true := (List.mem_filter.1 ha).2
      rcases List.mem_cons.1 hb with h2 | h2
      · subst h2; exact h1
      · exact bs_trans h1 (List.mem_filter.1 h2).2
theorem len_with : (withP P M nm q).length ≤ P.length + 1 := by
  have key : ∀ P : List (Nm × Qu), (lowP nm P).length + (highP nm P).length ≤ P.length := by
    intro P
    induction P with
    | nil => simp [lowP, highP]
    | cons e r ih =>
      unfold lowP highP at ih ⊢
      rw [List.filter_cons, List.filter_cons]
      cases h1 : Op.bytesLess e.1 nm with
      | true => rw [bs_asymm h1]; simp; omega
      | false => cases h2 : Op.bytesLess nm e.1 <;> simp <;> omega
  unfold withP
  split
  · unfold delQ
    have := List.length_filter_le (fun e : Nm × Qu => !decide (e.1 = nm)) P
    omega
  · have := key P
    simp only [List.length_append, List.length_cons]
    omega
end
/-- the program's queues and the document's tell the same -/
def Twin (qs P : List (Nm × Qu)) : Prop := ∀ nm, lk qs nm = lk P nm
theorem Twin.get {qs P : List (Nm × Qu)} (h : Twin qs P) (M : Int) (nm : Nm) : getQ qs M nm = getQ P M nm := by unfold getQ; rw [h nm]
theorem Twin.keep {qs P : List (Nm × Qu)} (h : Twin qs P) (M : Int) (nm : Nm) (q : Qu) : Twin (keepQ qs M nm q) (withP P M nm q) := fun nm' => by
  rw [lk_keep, lk_with, h nm']
def put8 (P : List (Nm × Qu)) (M : Int) (nm : Nm) (x : Int) : List (Nm × Qu) × Int :=
  if namedB nm = false then (P, 2)
  else if (getQ P M nm).most ≤ (getQ P M nm).l.length then (P, 50)
  else if (lk P nm).isSome = false ∧ 1000 ≤ P.length then (P, 5)
  else (withP P M nm ⟨(getQ P M nm).most, (getQ P M nm).l ++ [x]⟩, 0)
def cap8 (P : List (Nm × Qu)) (M : Int) (nm : Nm) (x : Int) : List (Nm × Qu) × Int :=
  if namedB nm = false ∨ x < 1 ∨ 65536 < x then (P, 2)
  else if (lk P nm).isSome = false ∧ 1000 < (withP P M nm ⟨x, (getQ P M nm).l⟩).length then (P, 5)
  else (withP P M nm ⟨x, (getQ P M nm).l⟩, 0)
def take8 (P : List (Nm × Qu)) (M : Int) (nm : Nm) : List (Nm × Qu) × Int × Bool :=
  match (getQ P M nm).l with
  | [] => (P, 0, false)
  | y :: r => (withP P M nm ⟨(getQ P M nm).most, r⟩, y, true)
def drop8 (P : List (Nm × Qu)) (M : Int) (nm : Nm) (x : Int) : List (Nm × Qu) × Bool :=
  match posI (getQ P M nm).l x with
  | some k => (withP P M nm ⟨(getQ P M nm).most, (getQ P M nm).l.take k ++ (getQ P M nm).l.drop (k + 1)⟩, true)
  | none => (P, false)
section
variable {qs P : List (Nm × Qu)} {M : Int} {nm : Nm}
theorem twin_put (h : Twin qs P) (hq : qs.length < 1000) (hp : P.length < 1000) (x : Int) : (putR qs M nm x).1 = (put8 P M nm x).2 ∧ Twin (putR qs M nm x).2 (put8 P M nm x).1 := by
  unfold putR put8
  rw [h.get M nm, decide_eq_true hq, Bool.or_true]
  cases hn : namedB nm with
  | false =>
    simp only [Bool.false_eq_true, if_false, if_true]
    exact ⟨trivial, h⟩
  | true =>
    have hp2 : ¬ ((lk P nm).isSome = false ∧ 1000 ≤ P.length) := fun hh => by omega
    by_cases hm : (getQ P M nm).most ≤ ((getQ P M nm).l.length : Int)
    · simp only [hm, if_true, Bool.true_eq_false, if_false]
      exact ⟨trivial, h⟩
    · simp only [hm, hp2, if_true, if_false, Bool.true_eq_false]
      exact ⟨trivial, h.keep M nm _⟩
theorem twin_cap (h : Twin qs P) (hq : qs.length < 1000) (hp : P.length < 1000) (x : Int) : (capR qs M nm x).1 = (cap8 P M nm x).2 ∧ Twin (capR qs M nm x).2 (cap8 P M nm x).1 := by
  unfold capR cap8
  rw [h.get M nm, decide_eq_true hq, Bool.or_true]
  have hl := len_with (P := P) (M := M) (nm := nm) (q := ⟨x, (getQ P M nm).l⟩)
  by_cases h1 : namedB nm = true ∧ 1 ≤ x ∧ x ≤ 65536
  · rw [if_pos h1, if_neg (by simp), if_neg (by rw [h1.1]; simp; omega), if_neg (fun hh => by omega)]
    exact ⟨rfl, h.keep M nm _⟩
  · rw [if_neg h1, if_pos (by
      cases hn : namedB nm with
      | false => exact .inl rfl
      | true =>
        rw [hn] at h1
        simp only [true_and] at h1
        omega)]
    exact ⟨rfl, h⟩
theorem twin_take (h : Twin qs P) : lookR (getQ qs M nm) = ((take8 P M nm).2.1, (take8 P M nm).2.2) ∧ Twin (takeR qs M nm) (take8 P M nm).1 := by
  unfold takeR take8 lookR
  rw [h.get M nm]
  cases hl : (getQ P M nm).l with
  | nil => exact ⟨rfl, h⟩
  | cons y r =>
    rw [if_neg (by simp)]
    exact ⟨rfl, h.keep M nm _⟩
theorem twin_drop (h : Twin qs P) (x : Int) : (dropR qs M nm x).1 = (drop8 P M nm x).2 ∧ Twin (dropR qs M nm x).2 (drop8 P M nm x).1 := by
  unfold dropR drop8
  rw [h.get M nm]
  cases posI (getQ P M nm).l x with
  | none => exact ⟨rfl, h⟩
  | some k =>
    simp only [List.eraseIdx_eq_take_drop_succ]
    exact ⟨trivial, h.keep M nm _⟩
theorem put8_len (x : Int) : (put8 P M nm x).1.length ≤ P.length + 1 := by
  unfold put8
  repeat' split
  all_goals first | exact len_with | simp
theorem cap8_len (x : Int) : (cap8 P M nm x).1.length ≤ P.length + 1 := by
  unfold cap8
  repeat' split
  all_goals first | exact len_with | simp
theorem take8_len : (take8 P M nm).1.length ≤ P.length + 1 := by
  unfold take8
  split
  · simp
  · exact len_with
theorem drop8_len (x : Int) : (drop8 P M nm x).1.length ≤ P.length + 1 := by
  unfold drop8
  split
  · exact len_with
  · simp
theorem put8_srt (hs : SrtP P) (x : Int) : SrtP (put8 P M nm x).1 := by
  unfold put8
  repeat' split
  all_goals first | exact srt_with hs | exact hs
theorem cap8_srt (hs : SrtP P) (x : Int) : SrtP (cap8 P M nm x).1 := by
  unfold cap8
  repeat' split
  all_goals first | exact srt_with hs | exact hs
theorem take8_srt (hs : SrtP P) : SrtP (take8 P M nm).1 := by
  unfold take8
  split
  · exact hs
  · exact srt_with hs
theorem drop8_srt (hs : SrtP P) (x : Int) : SrtP (drop8 P M nm x).1 := by
  unfold drop8
  split
  · exact srt_with hs
  · exact hs
end
theorem SrtP.nodup {P : List (Nm × Qu)} (h : SrtP P) : (P.map Prod.fst).Nodup := by
  unfold List.Nodup
  rw [List.pairwise_map]
  exact h.imp fun hab => bs_ne hab
theorem held_same {qs P : List (Nm × Qu)} (h : Twin qs P) (hq : (qs.map Prod.fst).Nodup) (hs : SrtP P) : (heldN qs).mergeSort leB = heldN P := by
  have hp := hs.nodup
  have hperm : (heldN qs).Perm (heldN P) := (List.perm_ext_iff_of_nodup (held_nodup hq) (held_nodup hp)).2 fun x => by
    rw [held_mem hq, held_mem hp, h x]
  have hsrt : (heldN P).Pairwise (fun a b => leB a b = true) := by
    unfold heldN
    rw [List.pairwise_map]
    refine (hs.sublist List.filter_sublist).imp fun {a b} hab => ?_
    rw [Go.Proofs.bytesLess_eq] at hab
    simp only [decide_eq_true_eq] at hab
    simp only [leB, decide_eq_true_eq]
    exact List.le_of_lt hab
  rw [mergeSort_of_perm hperm]
  exact List.mergeSort_of_pairwise hsrt
end Go.Proofs.Ytcidifmikcnkcaa
