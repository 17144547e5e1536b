import Derived.Test.YtphjmbhlokkdiaaFairF
namespace Go.Proofs.Ytphjmbhlokkdiaa
open Go.RowKit Go.Maps Go.WideShapes Go.WideMaps
set_option linter.unusedSimpArgs false
set_option linter.unusedVariables false

/-- the least number of which p holds -/
noncomputable def leastN (p : Nat → Prop) : Nat := by
  classical exact if h : ∃ n, p n ∧ ∀ m, m < n → ¬ p m then Classical.choose h else 0
theorem least_ex {p : Nat → Prop} (h : ∃ n, p n) : ∃ n, p n ∧ ∀ m, m < n → ¬ p m := by
  apply Classical.byContradiction
  intro hn
  obtain ⟨n, hp⟩ := h
  revert hp
  induction n using Nat.strongRecOn with
  | ind n ih => intro hp; exact hn ⟨n, hp, fun m hm hpm => ih m hm hpm⟩
theorem least_spec {p : Nat → Prop} (h : ∃ n, p n) : p (leastN p) ∧ ∀ m, m < leastN p → ¬ p m := by
  have h2 := least_ex h
  have e : leastN p = Classical.choose h2 := by simp [leastN, h2]
  rw [e]
  exact Classical.choose_spec h2
theorem least_le {p : Nat → Prop} {n : Nat} (h : p n) : leastN p ≤ n := by
  apply Classical.byContradiction
  intro hn
  exact (least_spec ⟨n, h⟩).2 n (by omega) h

/-- right turns with a queue -/
structure Gd (f : Fr) : Prop where
  q1 : 1 ≤ f.Q
  q2 : f.Q ≤ 1000
  len : f.ts.length ≤ 20
  at_ : ∃ k : Nat, f.At = (k : Int) ∧ k < f.ts.length
  ok : ∀ j q, f.ts[j]? = some q → okT f j q = true
  nodup : (f.ts.map Tn.N).Nodup
theorem okT_iff {f : Fr} {j : Nat} {q : Tn} : okT f j q = true ↔ namedB q.N = true ∧ 1 ≤ q.W ∧ q.W ≤ 100 ∧ 0 ≤ q.L ∧ q.L < belowF f j := by
  simp [okT, and_assoc]
def advF (f : Fr) : Fr := ⟨f.Q, f.ts, (f.At + 1).tmod f.ts.length, false⟩
/-- the queue that is served next -/
def pickN : Nat → Fr → List Hd → Option Fr
  | 0, _, _ => none
  | n + 1, f, hs =>
    match f.ts[f.At.toNat]? with
    | none => none
    | some q => if (serveF f f.At.toNat q (costOf hs q.N)).2 = true then some (serveF f f.At.toNat q (costOf hs q.N)).1 else pickN n (advF (serveF f f.At.toNat q (costOf hs q.N)).1) hs
theorem serveF_len (f : Fr) (k : Nat) (q : Tn) (cost : Int) : (serveF f k q cost).1.ts.length = f.ts.length := by
  unfold serveF
  generalize (if f.H = true then q.L else q.L + q.W * f.Q) = l
  split
  · simp
  · split <;> simp
theorem serveF_names (f : Fr) (k : Nat) (q : Tn) (cost : Int) (hq : f.ts[k]? = some q) : (serveF f k q cost).1.ts.map Tn.N = f.ts.map Tn.N := by
  have key : ∀ x, (f.ts.set k ⟨q.N, q.W, x⟩).map Tn.N = f.ts.map Tn.N := by
    intro x
    apply List.ext_getElem?
    intro j
    rw [List.getElem?_map, List.getElem?_map, List.getElem?_set]
    by_cases hj : k = j
    · subst hj
      rw [if_pos rfl, if_pos (List.getElem?_eq_some_iff.1 hq).1, hq]
      rfl
    · rw [if_neg hj]
  unfold serveF
  generalize (if f.H = true then q.L else q.L + q.W * f.Q) = l
  split
  · exact key _
  · split <;> exact key _
theorem serveF_at (f : Fr) (k : Nat) (q : Tn) (cost : Int) : (serveF f k q cost).1.At = f.At ∧ (serveF f k q cost).1.Q = f.Q := by
  unfold serveF
  generalize (if f.H = true then q.L else q.L + q.W * f.Q) = l
  split
  · exact ⟨rfl, rfl⟩
  · split <;> exact ⟨rfl, rfl⟩
theorem mul_bound {W Q : Int} (h1 : 1 ≤ W) (h2 : W ≤ 100) (h3 : 1 ≤ Q) : 1 ≤ W * Q ∧ W * Q ≤ 100 * Q := by
  refine ⟨?_, Int.mul_le_mul_of_nonneg_right h2 (by omega)⟩
  have := Int.mul_le_mul h1 h3 (by omega) (by omega : (0 : Int) ≤ W)
  omega
/-- what is left of the queue whose turn it is, behind serve -/
theorem serveF_left {f : Fr} (h : Gd f) {k : Nat} {q : Tn} (hk : f.At = (k : Int)) (hq : f.ts[k]? = some q) (cost : Int) (hc : 0 ≤ cost ∧ cost ≤ 1000) :
    ∃ x, (serveF f k q cost).1.ts = f.ts.set k ⟨q.N, q.W, x⟩ ∧ 0 ≤ x ∧ ((serveF f k q cost).2 = false → x < 1000) ∧ ((serveF f k q cost).2 = true → x < 1000 + 100 * f.Q ∧ (serveF f k q cost).1.H = true) := by
  obtain ⟨a1, a2, a3, a4, a5⟩ := okT_iff.1 (h.ok k q hq)
  have hm := mul_bound a2 a3 h.q1
  have hb : q.L < 1000 + 100 * f.Q ∧ (f.H = false → q.L < 1000) := by
    unfold belowF at a5
    rw [hk] at a5
    cases hH : f.H with
    | true => simp [hH] at a5; exact ⟨a5, by simp⟩
    | false => simp [hH] at a5; have := h.q1; exact ⟨by omega, fun _ => a5⟩
  unfold serveF
  by_cases h0 : cost = 0
  · rw [if_pos h0]; exact ⟨0, rfl, by omega, fun _ => by omega, fun h => by simp at h⟩
  · rw [if_neg h0]
    cases hH : f.H with
    | true =>
      simp only [if_true]
      by_cases h1 : q.L < cost
      · rw [if_pos h1]; exact ⟨q.L, rfl, a4, fun _ => by omega, fun h => by simp at h⟩
      · rw [if_neg h1]; exact ⟨q.L - cost, rfl, by omega, fun h => by simp at h, fun _ => ⟨by omega, rfl⟩⟩
    | false =>
      simp only [Bool.false_eq_true, if_false]
      have := hb.2 hH
      by_cases h1 : q.L + q.W * f.Q < cost
      · rw [if_pos h1]; exact ⟨q.L + q.W * f.Q, rfl, by omega, fun _ => by omega, fun h => by simp at h⟩
      · rw [if_neg h1]; exact ⟨q.L + q.W * f.Q - cost, rfl, by omega, fun h => by simp at h, fun _ => ⟨by omega, rfl⟩⟩
theorem serveF_gd {f : Fr} (h : Gd f) {k : Nat} {q : Tn} (hk : f.At = (k : Int)) (hq : f.ts[k]? = some q) (cost : Int) (hc : 0 ≤ cost ∧ cost ≤ 1000) :
    ((serveF f k q cost).2 = true → Gd (serveF f k q cost).1) ∧ ((serveF f k q cost).2 = false → Gd (advF (serveF f k q cost).1)) := by
  obtain ⟨x, h1, h2, h3, h4⟩ := serveF_left h hk hq cost hc
  have hkl := (List.getElem?_eq_some_iff.1 hq).1
  have hn := serveF_names f k q cost hq
  have hl := serveF_len f k q cost
  obtain ⟨ha, hQ⟩ := serveF_at f k q cost
  obtain ⟨a1, a2, a3, a4, a5⟩ := okT_iff.1 (h.ok k q hq)
  have each : ∀ j r, (serveF f k q cost).1.ts[j]? = some r → (j = k ∧ r = ⟨q.N, q.W, x⟩) ∨ (j ≠ k ∧ f.ts[j]? = some r) := by
    intro j r hr
    rw [h1, List.getElem?_set] at hr
    by_cases hj : k = j
    · rw [if_pos hj, if_pos (by omega)] at hr
      exact .inl ⟨hj.symm, (Option.some.inj hr).symm⟩
    · rw [if_neg hj] at hr; exact .inr ⟨fun e => hj e.symm, hr⟩
  have other : ∀ j r, j ≠ k → f.ts[j]? = some r → namedB r.N = true ∧ 1 ≤ r.W ∧ r.W ≤ 100 ∧ 0 ≤ r.L ∧ r.L < 1000 := by
    intro j r hj hr
    obtain ⟨b1, b2, b3, b4, b5⟩ := okT_iff.1 (h.ok j r hr)
    refine ⟨b1, b2, b3, b4, ?_⟩
    unfold belowF at b5
    rw [if_neg (by rw [hk]; omega)] at b5
    exact b5
  constructor
  · intro ht
    obtain ⟨x1, x2⟩ := h4 ht
    refine ⟨by rw [hQ]; exact h.q1, by rw [hQ]; exact h.q2, by rw [hl]; exact h.len, ⟨k, by rw [ha, hk], by rw [hl]; exact hkl⟩, fun j r hr => ?_, by rw [hn]; exact h.nodup⟩
    rcases each j r hr with ⟨rfl, rfl⟩ | ⟨hj, hr2⟩
    · refine okT_iff.2 ⟨a1, a2, a3, h2, ?_⟩
      unfold belowF
      rw [if_pos ⟨by rw [ha, hk], x2⟩, hQ]
      exact x1
    · obtain ⟨b1, b2, b3, b4, b5⟩ := other j r hj hr2
      refine okT_iff.2 ⟨b1, b2, b3, b4, ?_⟩
      unfold belowF
      rw [if_neg (by rw [ha, hk]; omega)]
      exact b5
  · intro hf
    have x1 := h3 hf
    have hmod : (f.At + 1).tmod (f.ts.length : Int) = (((k + 1) % f.ts.length : Nat) : Int) := by
      rw [hk]
      have : ((k : Int) + 1) = ((k + 1 : Nat) : Int) := by omega
      rw [this, Int.ofNat_tmod]
    refine ⟨by show 1 ≤ (serveF f k q cost).1.Q; rw [hQ]; exact h.q1, by show (serveF f k q cost).1.Q ≤ 1000; rw [hQ]; exact h.q2, by show (serveF f k q cost).1.ts.length ≤ 20; rw [hl]; exact h.len, ⟨(k + 1) % f.ts.length, by show ((serveF f k q cost).1.At + 1).tmod ((serveF f k q cost).1.ts.length : Int) = _; rw [ha, hl, hmod], by show _ < (serveF f k q cost).1.ts.length; rw [hl]; exact Nat.mod_lt _ (by omega)⟩, fun j r hr => ?_, by show ((serveF f k q cost).1.ts.map Tn.N).Nodup; rw [hn]; exact h.nodup⟩
    have hbel : belowF (advF (serveF f k q cost).1) j = 1000 := by simp [belowF, advF]
    rcases each j r hr with ⟨rfl, rfl⟩ | ⟨hj, hr2⟩
    · exact okT_iff.2 ⟨a1, a2, a3, h2, by rw [hbel]; exact x1⟩
    · obtain ⟨b1, b2, b3, b4, b5⟩ := other j r hj hr2
      exact okT_iff.2 ⟨b1, b2, b3, b4, by rw [hbel]; exact b5⟩
theorem Gd.right {f : Fr} (h : Gd f) : rightF f = true := by
  obtain ⟨k, hk, hkl⟩ := h.at_
  have hall : (List.range f.ts.length).all (okAt f) = true := by
    rw [List.all_eq_true]
    intro j hj
    have hjl := List.mem_range.1 hj
    have hq : f.ts[j]? = some f.ts[j] := by simp
    have hnm : f.ts[j].N ∉ (f.ts.take j).map Tn.N := by
      intro hm
      have e1 : f.ts = f.ts.take j ++ (f.ts[j] :: f.ts.drop (j + 1)) := by rw [← List.drop_eq_getElem_cons hjl, List.take_append_drop]
      have hnd := h.nodup
      rw [e1, List.map_append, List.map_cons, List.nodup_append] at hnd
      exact hnd.2.2 _ hm _ List.mem_cons_self rfl
    unfold okAt
    rw [hq]
    simp only [h.ok j _ hq, decide_eq_false hnm]
    rfl
  unfold rightF
  rw [hall]
  have h1 := h.q1
  have h2 := h.q2
  have h3 := h.len
  have h4 : (f.ts.length == 0) = false := by rw [beq_eq_false_iff_ne]; omega
  rw [h4]
  simp only [Bool.and_eq_true, decide_eq_true_eq]
  exact ⟨⟨⟨⟨⟨⟨h1, h2⟩, h3⟩, by omega⟩, by omega⟩, rfl⟩, trivial⟩
theorem right_gd {f : Fr} (h : rightF f = true) (hn : 0 < f.ts.length) : Gd f := by
  unfold rightF at h
  simp only [Bool.and_eq_true, decide_eq_true_eq] at h
  obtain ⟨⟨⟨⟨⟨⟨h1, h2⟩, h3⟩, h4⟩, h5⟩, h6⟩, h7⟩ := h
  rw [List.all_eq_true] at h7
  have key : ∀ j q, f.ts[j]? = some q → okT f j q = true ∧ q.N ∉ (f.ts.take j).map Tn.N := by
    intro j q hq
    have := h7 j (List.mem_range.2 (List.getElem?_eq_some_iff.1 hq).1)
    unfold okAt at this
    rw [hq] at this
    simpa using this
  refine ⟨h1, h2, h3, ⟨f.At.toNat, by omega, by omega⟩, fun j q hq => (key j q hq).1, ?_⟩
  rw [List.Nodup, List.pairwise_iff_getElem]
  intro i j hi hj hij
  simp only [List.length_map] at hi hj
  simp only [List.getElem_map]
  intro he
  have hq : f.ts[j]? = some f.ts[j] := by simp
  apply (key j _ hq).2
  rw [← he]
  exact List.mem_map_of_mem (List.mem_take_iff_getElem.2 ⟨i, by omega, rfl⟩)
theorem costOf_bound {hs : List Hd} (h : ∀ x, x ∈ hs → 1 ≤ x.C ∧ x.C ≤ 1000) (s : List UInt8) : 0 ≤ costOf hs s ∧ costOf hs s ≤ 1000 := by
  unfold costOf
  split
  · rename_i x hx
    have := h x (List.mem_of_find?_eq_some hx)
    omega
  · omega
end Go.Proofs.Ytphjmbhlokkdiaa
