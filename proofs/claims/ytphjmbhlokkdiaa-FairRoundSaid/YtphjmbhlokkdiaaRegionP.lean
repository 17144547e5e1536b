import Derived.Test.YtphjmbhlokkdiaaRegionN
/- A region in the text's order, walked by predicates as a drawn one is (RunL): guarded operations need not part the walk. -/
namespace Go.Proofs.Ytphjmbhlokkdiaa
open Go.RowKit
set_option linter.unusedSimpArgs false
set_option linter.unusedVariables false

theorem putL_congr : ∀ (l : List Oper) (k : Nat) (vs us : Nat → Value) (a : Act), (∀ j, k ≤ j → j < k + l.length → vs j = us j) → putL l k vs a = putL l k us a
  | [], _, _, _, _, _ => rfl
  | o :: r, k, vs, us, a, h => by
    rw [putL, putL, h k (Nat.le_refl _) (by simp), putL_congr r (k + 1) vs us _ (fun j h1 h2 => h j (by omega) (by simp; omega))]
theorem putL_snoc : ∀ (l : List Oper) (o : Oper) (k : Nat) (vs : Nat → Value) (a : Act), putL (l ++ [o]) k vs a = (putL l k vs a).put o.dst (vs (k + l.length))
  | [], o, k, vs, a => by simp [putL]
  | p :: r, o, k, vs, a => by
    rw [List.cons_append, putL, putL, putL_snoc r o (k + 1) vs _, List.length_cons, show k + 1 + r.length = k + (r.length + 1) by omega]
section
variable {P : Program} {Q : Exit → Act → World → Prop}
theorem wpList_run {l : List Oper} {a0 : Act} {w0 : World} (T : Nat → Value → World → Prop) (hT : ∀ i, Stable (T i))
    (hstep : ∀ k o, l[k]? = some o → ∀ (vs : Nat → Value) (w : World), Below w0.heap.size w0 w → (∀ j, j < k → waitsFor o j = true → T j (vs j) w) → StepOK P l.toArray (T k) o (putL (l.take k) 0 vs a0) w)
    (hQ : ∀ (vs : Nat → Value) (w : World), Below w0.heap.size w0 w → (∀ j, j < l.length → T j (vs j) w) → Q .normal (putL l 0 vs a0) w) :
    ∀ (d k : Nat) (vs : Nat → Value) (w : World), k + d = l.length → Below w0.heap.size w0 w → (∀ j, j < k → T j (vs j) w) → wpList P l.toArray Q (l.drop k) (putL (l.take k) 0 vs a0) w := by
  intro d
  induction d with
  | zero =>
    intro k vs w hk hb hv
    rw [List.drop_of_length_le (by omega), List.take_of_length_le (by omega)]
    exact hQ vs w hb (fun j hj => hv j (by omega))
  | succ d ih =>
    intro k vs w hk hb hv
    have hkl : k < l.length := by omega
    have hst := hstep k l[k] (by simp [hkl]) vs w hb (fun j hj _ => hv j hj)
    have hnext : ∀ v w', Below w.heap.size w w' → T k v w' → wpList P l.toArray Q (l.drop (k + 1)) ((putL (l.take k) 0 vs a0).put l[k].dst v) w' := by
      intro v w' hb' hv'
      have h := ih (k + 1) (fun j => if j = k then v else vs j) w' (by omega) (hb.trans (hb'.mono hb.size)) (fun j hj => by
        by_cases hjk : j = k
        · simp only [hjk, if_true]; exact hv'
        · simp only [hjk, if_false]; exact hT j _ _ _ hb' (hv j (by omega)))
      rw [show l.take (k + 1) = l.take k ++ [l[k]] by simp, putL_snoc] at h
      simp only [Nat.zero_add, List.length_take, Nat.min_eq_left (Nat.le_of_lt hkl), if_true] at h
      rw [putL_congr (l.take k) 0 (fun j => if j = k then v else vs j) vs a0 (fun j _ hj => by
        have hj2 : j < k := by simp only [Nat.zero_add, List.length_take] at hj; omega
        simp only [show j ≠ k by omega, if_false])] at h
      exact h
    rw [List.drop_eq_getElem_cons hkl]
    unfold wpList
    unfold StepOK at hst
    split
    · rename_i hw
      rw [if_pos hw] at hst
      exact .inl (wp_of_upS hst hnext)
    · rename_i hw
      rw [if_neg hw] at hst
      exact hnext undef w (Below.refl _ _) hst
theorem wp_region_lrun {id : Nat} {l : List Oper} {a0 : Act} {w0 : World} (h : RunL P Q l a0 w0 0 l []) : (Code.region id l.toArray false).wp P Q a0 w0 := by
  obtain ⟨T, _, h2, h3, h4⟩ := runL_spec l 0 [] rfl (fun j hj => by omega) h
  refine wp_region_lit ?_
  have := wpList_run T h2 (fun k o ho vs w hb hd => by
    have := h3 k o ho vs w hb (fun j hj => hd j (by omega))
    rwa [Nat.zero_add] at this) (fun vs w hb hd => h4 vs w hb (fun j hj => hd j (by omega))) l.length 0 (fun _ => undef) w0 (by omega) (Below.refl _ _) (fun j hj => by omega)
  simpa [putL] using this
end
end Go.Proofs.Ytphjmbhlokkdiaa
