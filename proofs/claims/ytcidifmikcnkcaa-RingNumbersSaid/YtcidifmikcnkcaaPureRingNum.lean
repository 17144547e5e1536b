import Derived.Test.YtcidifmikcnkcaaRingNm
/- Rings, plain: the thousand queues; a queue among few. -/
namespace Go.Proofs.Ytcidifmikcnkcaa
open Go.RowKit
set_option linter.unusedSimpArgs false
set_option linter.unusedVariables false

theorem letN_inj {a b : Nat} (ha : a < 10) (hb : b < 10) (h : letN a = letN b) : a = b := by
  have := congrArg UInt8.toNat h
  simp [letN, UInt8.toNat_ofNat'] at this
  omega
theorem nmN_inj {h t u h' t' u' : Nat} (ht : t < 10) (hu : u < 10) (ht' : t' < 10) (hu' : u' < 10) (e : nmN h t u = nmN h' t' u') : h = h' ∧ t = t' ∧ u = u' := by
  have hl := congrArg List.length e
  simp [nmN] at hl
  obtain rfl : h = h' := by omega
  unfold nmN at e
  have e1 := List.append_inj e (by simp)
  have e2 := List.append_inj e1.1 (by simp)
  refine ⟨rfl, letN_inj ht ht' ?_, letN_inj hu hu' ?_⟩
  · simpa using e2.2
  · simpa using e1.2
theorem nameN_inj {i j : Nat} (h : nameN i = nameN j) : i = j := by
  have := nmN_inj (by omega) (by omega) (by omega) (by omega) h
  omega
theorem nameN_len (i : Nat) : (nameN i).length = 3 + i / 100 := by simp [nameN, nmN]; omega
theorem nameN_ok {i : Nat} (h : i < 1000) : namedB (nameN i) = true := by
  unfold namedB
  rw [nameN_len]
  simp
  omega
theorem nameN_maxLen {i : Nat} (h : i < 1000) : (nameN i).length ≤ maxLen := by
  rw [nameN_len]; unfold maxLen; omega
abbrev nZ : Nm := [122]
theorem nZ_len : nZ.length ≤ maxLen := by unfold maxLen; decide
theorem nZ_ok : namedB nZ = true := by rfl
theorem nZ_ne (i : Nat) : nZ ≠ nameN i := by
  intro h
  have := congrArg List.length h
  rw [nameN_len] at this
  simp at this
  omega
structure Thou (k : Nat) (qs : List (Nm × Qu)) : Prop where
  len : qs.length = k
  hit : ∀ i : Nat, i < k → lk qs (nameN i) = some ⟨9, [(i : Int)]⟩
  miss : ∀ nm, (∀ i : Nat, i < k → nm ≠ nameN i) → lk qs nm = none
  all : ∀ e, e ∈ qs → e.2.l ≠ []
theorem Thou.zero : Thou 0 [] := ⟨rfl, fun i h => by omega, fun nm _ => lk_nil _, fun e he => by cases he⟩
theorem upd_new {qs : List (Nm × Qu)} {nm : Nm} (h : lk qs nm = none) (q : Qu) : updQ qs nm q = qs ++ [(nm, q)] := by
  unfold updQ
  rw [h]
  rfl
theorem Thou.put {k : Nat} {qs : List (Nm × Qu)} (h : Thou k qs) (hk : k < 1000) : ∃ qs', putR qs 9 (nameN k) (k : Int) = (0, qs') ∧ Thou (k + 1) qs' := by
  have hm : lk qs (nameN k) = none := h.miss _ (fun i hi e => by have := nameN_inj e; omega)
  have hq : getQ qs 9 (nameN k) = ⟨9, []⟩ := by unfold getQ; rw [hm, nameN_ok hk]; rfl
  have hl := h.len
  refine ⟨qs ++ [(nameN k, ⟨9, [(k : Int)]⟩)], ?_, ?_⟩
  · unfold putR
    rw [if_pos (nameN_ok hk), hq, if_neg (by simp), decide_eq_true (by omega), Bool.or_true, if_pos rfl]
    unfold keepQ
    rw [if_neg (by simp), upd_new hm]
    rfl
  · refine ⟨by simp [hl], ?_, ?_, ?_⟩
    · intro i hi
      rw [lk_append, lk_cons]
      by_cases he : i = k
      · subst he
        rw [hm]; simp
      · rw [h.hit i (by omega)]; rfl
    · intro nm hn
      rw [lk_append, h.miss nm (fun i hi => hn i (by omega)), lk_cons, if_neg (fun e => hn k (by omega) e.symm), lk_nil]
      rfl
    · intro e he
      rw [List.mem_append] at he
      rcases he with he | he
      · exact h.all e he
      · rw [List.mem_singleton] at he; subst he; simp
theorem del_none {qs : List (Nm × Qu)} {nm : Nm} (h : lk qs nm = none) : delQ qs nm = qs := by
  unfold delQ
  rw [List.filter_eq_self]
  intro e he
  have := lk_none.1 h
  simp only [List.mem_map, not_exists, not_and] at this
  simpa using this e he
theorem held_len {qs : List (Nm × Qu)} (h : ∀ e, e ∈ qs → e.2.l ≠ []) : (heldN qs).length = qs.length := by
  unfold heldN
  rw [List.length_map]
  rw [List.filter_eq_self.2]
  intro e he
  simpa using h e he
/-- what the law does with the thousand queues -/
theorem thousand {qs : List (Nm × Qu)} (h : Thou 1000 qs) (hnd : (qs.map Prod.fst).Nodup) :
    putR qs 9 nZ 1 = (5, qs) ∧ capR qs 9 nZ 5 = (5, qs) ∧ capR qs 9 nZ 9 = (0, qs) ∧ ∃ q2, putR qs 9 (nameN 7) 1 = (0, q2) ∧ q2.length = 1000 ∧ (heldN q2).length = 1000 ∧ lookR (getQ q2 9 (nameN 1)) = (1, true) ∧
      ∃ q4, putR (takeR q2 9 (nameN 1)) 9 nZ 1 = (0, q4) ∧ (takeR q2 9 (nameN 1)).length ≤ 1000 ∧ q4.length ≤ 1000 ∧ capR q4 9 (nameN 1) 5 = (5, q4) := by
  have hz : lk qs nZ = none := h.miss _ (fun i _ => nZ_ne i)
  have hl := h.len
  have hgz : getQ qs 9 nZ = ⟨9, []⟩ := by unfold getQ; rw [hz, nZ_ok]; rfl
  have h7 : lk qs (nameN 7) = some ⟨9, [7]⟩ := h.hit 7 (by omega)
  have h1 : lk qs (nameN 1) = some ⟨9, [1]⟩ := h.hit 1 (by omega)
  have hd : decide (qs.length < 1000) = false := by simp; omega
  have h17 : nameN 1 ≠ nameN 7 := fun e => by have := nameN_inj e; omega
  refine ⟨?_, ?_, ?_, updQ qs (nameN 7) ⟨9, [7, 1]⟩, ?_, ?_, ?_, ?_, ?_⟩
  · unfold putR
    rw [if_pos nZ_ok, hgz, if_neg (by simp), hz, hd]
    rfl
  · unfold capR
    rw [if_pos ⟨nZ_ok, by omega, by omega⟩, hz, hd]
    rfl
  · unfold capR
    rw [if_pos ⟨nZ_ok, by omega, by omega⟩, hz, hd, if_neg (by simp), hgz]
    unfold keepQ
    rw [if_pos (by simp), del_none hz]
  · unfold putR
    have hg : getQ qs 9 (nameN 7) = ⟨9, [7]⟩ := by unfold getQ; rw [h7]; rfl
    rw [if_pos (nameN_ok (by omega)), hg, if_neg (by simp), h7, if_pos (by simp)]
    unfold keepQ
    rw [if_neg (by simp)]
    rfl
  · rw [len_upd, h7]; simpa using hl
  · rw [held_len, len_upd, h7]
    · simpa using hl
    · intro e he
      unfold updQ at he
      rw [h7] at he
      simp only [Option.isSome_some, if_true, List.mem_map] at he
      obtain ⟨e0, he0, rfl⟩ := he
      split
      · simp
      · exact h.all _ he0
  · have hg : getQ (updQ qs (nameN 7) ⟨9, [7, 1]⟩) 9 (nameN 1) = ⟨9, [1]⟩ := by
      unfold getQ
      rw [lk_upd, if_neg h17, h1]
      rfl
    rw [hg]
    rfl
  · have hg : getQ (updQ qs (nameN 7) ⟨9, [7, 1]⟩) 9 (nameN 1) = ⟨9, [1]⟩ := by
      unfold getQ
      rw [lk_upd, if_neg h17, h1]
      rfl
    have ht : takeR (updQ qs (nameN 7) ⟨9, [7, 1]⟩) 9 (nameN 1) = delQ (updQ qs (nameN 7) ⟨9, [7, 1]⟩) (nameN 1) := by
      unfold takeR
      rw [hg, if_neg (by simp)]
      unfold keepQ
      rw [if_pos (by simp)]
    rw [ht]
    have hnd2 := nodup_upd hnd (nameN 7) ⟨9, [7, 1]⟩
    have hlen := len_del hnd2 (nameN 1)
    rw [lk_upd, if_neg h17, h1, len_upd, h7] at hlen
    simp only [Option.isSome_some, if_true] at hlen
    generalize hq3 : delQ (updQ qs (nameN 7) ⟨9, [7, 1]⟩) (nameN 1) = q3 at hlen
    have hz3 : lk q3 nZ = none := by rw [← hq3, lk_del, if_neg (nZ_ne 1), lk_upd, if_neg (nZ_ne 7), hz]
    have h13 : lk q3 (nameN 1) = none := by rw [← hq3, lk_del, if_pos rfl]
    have hg3 : getQ q3 9 nZ = ⟨9, []⟩ := by unfold getQ; rw [hz3, nZ_ok]; rfl
    have hl3 : q3.length = 999 := by omega
    have hd3 : decide (q3.length < 1000) = true := by simp; omega
    refine ⟨q3 ++ [(nZ, ⟨9, [1]⟩)], ?_, by omega, by simp [hl3], ?_⟩
    · unfold putR
      rw [if_pos nZ_ok, hg3, if_neg (by simp), hd3, Bool.or_true, if_pos rfl]
      unfold keepQ
      rw [if_neg (by simp), upd_new hz3]
      rfl
    · have h14 : lk (q3 ++ [(nZ, (⟨9, [1]⟩ : Qu))]) (nameN 1) = none := by
        rw [lk_append, h13, lk_cons, if_neg (nZ_ne 1), lk_nil]; rfl
      have hd4 : decide ((q3 ++ [(nZ, (⟨9, [1]⟩ : Qu))]).length < 1000) = false := by simp [hl3]
      unfold capR
      rw [if_pos ⟨nameN_ok (by omega), by omega, by omega⟩, h14, hd4]
      rfl
theorem RIs.nodup {w : World} {base p : Nat} {most : Int} {qs : List (Nm × Qu)} (h : RIs w base p most qs) : (qs.map Prod.fst).Nodup := by
  obtain ⟨mb, D, lab, h⟩ := h
  exact h.nodup
/-- a queue among B others -/
structure St (nm : Nm) (M : Int) (B : Nat) (qs : List (Nm × Qu)) (q : Qu) : Prop where
  get : getQ qs M nm = q
  cnt : qs.length = B + (if (lk qs nm).isSome then 1 else 0)
section
variable {nm : Nm} {M : Int} {B : Nat} {qs : List (Nm × Qu)} {q : Qu}
theorem keep_cnt (hnd : (qs.map Prod.fst).Nodup) (q : Qu) : (keepQ qs M nm q).length + (if (lk qs nm).isSome then 1 else 0) = qs.length + (if (lk (keepQ qs M nm q) nm).isSome then 1 else 0) := by
  rw [lk_keep, if_pos rfl]
  unfold keepQ
  by_cases h : q.l = [] ∧ q.most = M
  · rw [if_pos h, if_pos h]
    have := len_del hnd nm
    simpa using this
  · rw [if_neg h, if_neg h, len_upd]
    split <;> simp
theorem St.keep (h : St nm M B qs q) (hnd : (qs.map Prod.fst).Nodup) (hn : namedB nm = true) (q' : Qu) : St nm M B (keepQ qs M nm q') q' := by
  refine ⟨getQ_keep hn q', ?_⟩
  have h1 := keep_cnt (M := M) hnd (nm := nm) q'
  have h2 := h.cnt
  split at h1 <;> split at h1 <;> split at h2 <;> split <;> simp_all <;> omega
theorem St.le (h : St nm M B qs q) : qs.length ≤ B + 1 := by
  have := h.cnt
  split at this <;> omega
theorem St.may (h : St nm M B qs q) (hB : B < 1000) : ((lk qs nm).isSome || decide (qs.length < 1000)) = true := by
  have := h.cnt
  cases hs : (lk qs nm).isSome with
  | true => rfl
  | false => rw [hs] at this; simp at this; simp; omega
theorem St.put (h : St nm M B qs q) (hnd : (qs.map Prod.fst).Nodup) (hn : namedB nm = true) (hB : B < 1000) (x : Int) (hr : (q.l.length : Int) < q.most) : (putR qs M nm x).1 = 0 ∧ St nm M B (putR qs M nm x).2 ⟨q.most, q.l ++ [x]⟩ := by
  unfold putR
  rw [if_pos hn, h.get, if_neg (by omega), if_pos (h.may hB)]
  exact ⟨rfl, h.keep hnd hn _⟩
theorem St.busy (h : St nm M B qs q) (hn : namedB nm = true) (x : Int) (hr : q.most ≤ (q.l.length : Int)) : putR qs M nm x = (50, qs) := by
  unfold putR
  rw [if_pos hn, h.get, if_pos hr]
theorem St.cap (h : St nm M B qs q) (hnd : (qs.map Prod.fst).Nodup) (hn : namedB nm = true) (hB : B < 1000) {x : Int} (hx : 1 ≤ x ∧ x ≤ 65536) : (capR qs M nm x).1 = 0 ∧ St nm M B (capR qs M nm x).2 ⟨x, q.l⟩ := by
  unfold capR
  rw [if_pos ⟨hn, hx⟩, h.may hB, if_neg (by simp), h.get]
  exact ⟨rfl, h.keep hnd hn _⟩
theorem St.take {m : Int} {x : Int} {r : List Int} (h : St nm M B qs ⟨m, x :: r⟩) (hnd : (qs.map Prod.fst).Nodup) (hn : namedB nm = true) : lookR (getQ qs M nm) = (x, true) ∧ St nm M B (takeR qs M nm) ⟨m, r⟩ := by
  unfold takeR
  rw [h.get, if_neg (by simp)]
  exact ⟨rfl, h.keep hnd hn _⟩
end
end Go.Proofs.Ytcidifmikcnkcaa
