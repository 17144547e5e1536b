import Derived.Test.YtemegkapmgcffaaRegion
import Derived.StillTail
/- As Region, and the last operations (behind m) come in the text's order, each behind all others: they may do what they will. -/
namespace Go.Proofs.Ytemegkapmgcffaa
open Go.RowKit
set_option linter.unusedSimpArgs false
set_option linter.unusedVariables false

section
variable {P : Program} {Q : Exit → Act → World → Prop}
def okRegT (l : List Oper) (m n : Nat) : Bool := Region.noSelect l.toArray && decide (m ≤ l.length) && ((List.range m).all fun k => match l[k]? with
  | none => false
  | some o => (match o.dst with | some d => decide (d < n) | none => false) &&
    (List.range l.length).all (fun j => j == k || dstAt l j != o.dst) &&
    o.after.all (fun e => !Region.binds .any e || decide (e.on < k)) &&
    (o.looksAt l.toArray).all (fun t => oldB l k t || (List.range k).any (fun j => waitsFor o j && dstAt l j == some t))) &&
  (List.range l.length).all fun k => decide (k < m) || match l[k]? with
    | none => false
    | some o => (List.range m).all (fun j => waitsFor o j)
structure RInvT (l : List Oper) (m : Nat) (T : Nat → Value → World → Prop) (a0 : Act) (w0 : World) (listed : Array Bool) (a : Act) (w : World) : Prop where
  below : Below w0.heap.size w0 w
  defers : a.defers = a0.defers
  size : a.tmps.size = a0.tmps.size
  lsize : listed.size = l.length
  old : ∀ t, (∀ j, dstAt l j = some t → listed.getD j true = false) → a.tmps.getD t undef = a0.tmps.getD t undef
  closed : ∀ j o, l[j]? = some o → listed.getD j true = true → ∀ i, waitsFor o i = true → listed.getD i true = true
  done : ∀ j d, j < m → dstAt l j = some d → listed.getD j true = true → T j (a.tmps.getD d undef) w
  tail : ∀ t, m ≤ t → t < l.length → listed.getD t true = false
theorem okRegT_tail {l : List Oper} {m n : Nat} (h : okRegT l m n = true) (k : Nat) (o : Oper) (hk : m ≤ k) (ho : l[k]? = some o) (j : Nat) (hj : j < m) : waitsFor o j = true := by
  unfold okRegT at h
  rw [Bool.and_eq_true] at h
  have := List.all_eq_true.1 h.2 k (List.mem_range.2 (List.getElem?_eq_some_iff.1 ho).1)
  rw [ho] at this
  simp only [Bool.or_eq_true, decide_eq_true_eq] at this
  rcases this with h1 | h1
  · omega
  · exact List.all_eq_true.1 h1 j (List.mem_range.2 hj)
theorem okRegT_spec {l : List Oper} {m n : Nat} (h : okRegT l m n = true) : Region.noSelect l.toArray = true ∧ m ≤ l.length ∧ ∀ k o, k < m → l[k]? = some o →
    (∃ d, o.dst = some d ∧ d < n) ∧ (∀ j, j ≠ k → dstAt l j ≠ o.dst) ∧ (∀ e ∈ o.after, Region.binds .any e = true → e.on < k) ∧
    (∀ t ∈ o.looksAt l.toArray, oldB l k t = true ∨ ∃ j, j < k ∧ waitsFor o j = true ∧ dstAt l j = some t) := by
  unfold okRegT at h
  simp only [Bool.and_eq_true, decide_eq_true_eq] at h
  obtain ⟨⟨⟨hs, hm⟩, h2⟩, _⟩ := h
  refine ⟨hs, hm, fun k o hkm ho => ?_⟩
  have hk : k < l.length := (List.getElem?_eq_some_iff.1 ho).1
  have h2 := List.all_eq_true.1 h2 k (List.mem_range.2 hkm)
  rw [ho] at h2
  simp only [Bool.and_eq_true] at h2
  obtain ⟨⟨⟨h3, h4⟩, h5⟩, h6⟩ := h2
  have hd : ∃ d, o.dst = some d ∧ d < n := by
    cases hd : o.dst with
    | none => rw [hd] at h3; cases h3
    | some d => rw [hd] at h3; exact ⟨d, rfl, by simpa using h3⟩
  refine ⟨hd, fun j hj he => ?_, fun e he hb => ?_, fun t ht => ?_⟩
  · obtain ⟨d, hd, _⟩ := hd
    have hjl : j < l.length := by
      apply Classical.byContradiction
      intro hn
      rw [dstAt, List.getElem?_eq_none (by omega), hd] at he
      cases he
    have := List.all_eq_true.1 h4 j (List.mem_range.2 hjl)
    simp [hj, he] at this
  · have := Array.all_eq_true'.1 h5 e he
    simpa [hb] using this
  · have := List.all_eq_true.1 h6 t ht
    rw [Bool.or_eq_true] at this
    rcases this with h | h
    · exact .inl h
    · obtain ⟨j, hj, hh⟩ := List.any_eq_true.1 h
      rw [Bool.and_eq_true] at hh
      exact .inr ⟨j, List.mem_range.1 hj, hh.1, by simpa using hh.2⟩

theorem wpAny_tail {l : List Oper} {m : Nat} {T : Nat → Value → World → Prop} {a0 : Act} {w0 : World} (hok : okRegT l m a0.tmps.size = true) (hseq : Region.seqB .any l.toArray (l.length - m) m ((List.replicate m true ++ List.replicate (l.length - m) false).toArray) = true) (hT : ∀ i, Stable (T i))
    (hstep : ∀ k o, k < m → l[k]? = some o → ∀ (vs : Nat → Value) (w : World), Below w0.heap.size w0 w → (∀ j, j < k → waitsFor o j = true → T j (vs j) w) → StepOK P l.toArray (T k) o (putL (l.take k) 0 vs a0) w)
    (hQ : ∀ (vs : Nat → Value) (w : World), Below w0.heap.size w0 w → (∀ j, j < m → T j (vs j) w) → wpList P l.toArray Q (l.drop m) (putL (l.take m) 0 vs a0) w) :
    ∀ (fuel : Nat) (listed : Array Bool) (a : Act) (w : World), RInvT l m T a0 w0 listed a w → (List.range m).countP (fun i => !listed.getD i true) = fuel → wpAny P .any l.toArray Q (fuel + (l.length - m)) listed a w := by
  obtain ⟨hsel, hml, hspec⟩ := okRegT_spec hok
  intro fuel
  induction fuel with
  | zero =>
    intro listed a w hI hc
    have hall : ∀ j, j < m → listed.getD j true = true := by
      intro j hj
      have := List.countP_eq_zero.1 hc j (List.mem_range.2 hj)
      simpa using this
    have hli : listed = (List.replicate m true ++ List.replicate (l.length - m) false).toArray := by
      apply Array.ext
      · rw [hI.lsize]; simp; omega
      · intro i h1 h2
        have hil : i < l.length := by rw [← hI.lsize]; exact h1
        by_cases him : i < m
        · have := hall i him
          simp only [Array.getD_eq_getD_getElem?, Array.getElem?_eq_getElem h1, Option.getD_some] at this
          rw [this]
          simp [List.getElem_append, him]
        · have := hI.tail i (by omega) hil
          simp only [Array.getD_eq_getD_getElem?, Array.getElem?_eq_getElem h1, Option.getD_some] at this
          rw [this]
          simp [List.getElem_append, him]
    let vs : Nat → Value := fun j => match dstAt l j with | some d => a.tmps.getD d undef | none => undef
    have hTs : ∀ j, j < m → T j (vs j) w := by
      intro j hj
      have hjl : j < l.length := by omega
      obtain ⟨d, hd, _⟩ := (hspec j l[j] hj (by simp [hjl])).1
      have hda : dstAt l j = some d := by simp [dstAt, hjl, hd]
      have := hI.done j d hj hda (hall j hj)
      simp only [vs, hda]; exact this
    have hdt : ∀ j t, dstAt (l.take m) j = some t → j < m ∧ dstAt l j = some t := by
      intro j t hj
      rw [dstAt, List.getElem?_take] at hj
      split at hj
      · rename_i h; exact ⟨h, hj⟩
      · cases hj
    have ha : a = putL (l.take m) 0 vs a0 := by
      have h1 : a.tmps = (putL (l.take m) 0 vs a0).tmps := by
        apply Array.ext
        · rw [putL_size, hI.size]
        · intro t h1 h2
          have key : a.tmps.getD t undef = (putL (l.take m) 0 vs a0).tmps.getD t undef := by
            by_cases hw : ∃ j, dstAt (l.take m) j = some t
            · obtain ⟨j, hj⟩ := hw
              obtain ⟨hjm, hj2⟩ := hdt j t hj
              have hjl : j < l.length := by omega
              have hdj : l[j].dst = some t := by simpa [dstAt, hjl] using hj2
              rw [putL_at (l.take m) 0 vs a0 j t hj (fun i hi he => (hspec j l[j] hjm (by simp [hjl])).2.1 i hi (by rw [hdj]; exact (hdt i t he).2)) (by rw [← hI.size]; exact h1)]
              simp only [vs, Nat.zero_add, hj2]
            · rw [putL_old (l.take m) 0 vs a0 t (fun j hj => hw ⟨j, hj⟩)]
              refine hI.old t (fun j hj => ?_)
              rcases Nat.lt_or_ge j m with h | h
              · exact absurd ⟨j, by rw [dstAt, List.getElem?_take, if_pos h]; exact hj⟩ hw
              · have hjl : j < l.length := by
                  apply Classical.byContradiction; intro hn
                  rw [dstAt, List.getElem?_eq_none (by omega)] at hj; cases hj
                exact hI.tail j h hjl
          simpa [h1, h2] using key
      have h2 : a.defers = (putL (l.take m) 0 vs a0).defers := by rw [putL_defers, hI.defers]
      cases a; simp only at h1 h2; cases hx : putL (l.take m) 0 vs a0; rw [hx] at h1 h2; simp only at h1 h2; rw [h1, h2]
    have hlen : (l.drop m).length = l.length - m := by simp
    have h3 := hQ vs w hI.below hTs
    rw [← ha] at h3
    have := wpAny_of_seq (P := P) (md := .any) (ops := l.toArray) (Q' := Q) (l.drop m) m listed a w (fun j => by simp [List.getElem?_drop]) (by rw [hlen, hli]; exact hseq) h3
    rw [hlen] at this
    rw [Nat.zero_add]
    exact this
  | succ fuel ih =>
    intro listed a w hI hc
    obtain ⟨i0, hi0, hun⟩ : ∃ i0, i0 < m ∧ listed.getD i0 true = false := by
      have hp : 0 < (List.range m).countP (fun i => !listed.getD i true) := by omega
      obtain ⟨i0, h1, h2⟩ := List.countP_pos_iff.1 hp
      exact ⟨i0, List.mem_range.1 h1, by simpa using h2⟩
    have hready : Region.ready .any l.toArray listed ≠ [] := by
      intro hr
      have hall : ∀ j, j < m → listed.getD j true = true := by
        intro j
        induction j using Nat.strongRecOn with
        | ind j ih2 =>
          intro hj
          apply Classical.byContradiction
          intro hn
          have hjl : j < l.length := by omega
          have hmem : j ∈ Region.ready .any l.toArray listed := by
            rw [mem_ready]
            refine ⟨by simpa using hn, l[j], by simp [hjl], fun e he hb => ?_⟩
            have hlt := (hspec j l[j] hj (by simp [hjl])).2.2.1 e he hb
            have h1 := ih2 e.on hlt (by omega)
            have hs : e.on < listed.size := by rw [hI.lsize]; omega
            simpa [hs] using h1
          rw [hr] at hmem; cases hmem
      rw [hall i0 hi0] at hun; cases hun
    rw [show fuel + 1 + (l.length - m) = (fuel + (l.length - m)) + 1 by omega]
    refine ⟨fun hr => absurd hr hready, fun k hk => ?_⟩
    obtain ⟨h0, o, ho, hdeps⟩ := mem_ready.1 hk
    have hol : l[k]? = some o := by simpa using ho
    have hkl : k < l.length := (List.getElem?_eq_some_iff.1 hol).1
    have hkm : k < m := by
      apply Classical.byContradiction
      intro hn
      have h1 := okRegT_tail hok k o (by omega) hol i0 hi0
      obtain ⟨e, he, hb⟩ := Array.any_eq_true'.1 h1
      rw [Bool.and_eq_true] at hb
      have hon : e.on = i0 := by simpa using hb.2
      have h2 := hdeps e he hb.1
      rw [hon] at h2
      have hs : i0 < listed.size := by rw [hI.lsize]; omega
      simp [hs] at h2 hun
      rw [hun] at h2; cases h2
    obtain ⟨⟨d, hd, hdn⟩, huniq, hafter, hlook⟩ := hspec k o hkm hol
    let vs : Nat → Value := fun j => match dstAt l j with | some d => a.tmps.getD d undef | none => undef
    have hlisted : ∀ j, waitsFor o j = true → listed.getD j true = true ∧ j < k := by
      intro j hj
      obtain ⟨e, he, hb⟩ := Array.any_eq_true'.1 hj
      rw [Bool.and_eq_true] at hb
      have hon : e.on = j := by simpa using hb.2
      have h1 := hdeps e he hb.1
      have h2 := hafter e he hb.1
      rw [hon] at h1 h2
      have hs : j < listed.size := by rw [hI.lsize]; omega
      exact ⟨by simpa [hs] using h1, h2⟩
    have hTs : ∀ j, j < k → waitsFor o j = true → T j (vs j) w := by
      intro j hj hw
      have hjl : j < l.length := by omega
      obtain ⟨d', hd', _⟩ := (hspec j l[j] (by omega) (by simp [hjl])).1
      have hda : dstAt l j = some d' := by simp [dstAt, show j < l.length by omega, hd']
      have := hI.done j d' (by omega) hda (hlisted j hw).1
      simp only [vs, hda]; exact this
    have hst := hstep k o hkm hol vs w hI.below hTs
    -- it looks at slots that are the same here and there
    have hslot : ∀ t ∈ o.looksAt l.toArray, a.tmps.getD t undef = (putL (l.take k) 0 vs a0).tmps.getD t undef := by
      intro t ht
      rcases hlook t ht with hold | ⟨j, hjk, hwj, hdj⟩
      · have hnot : ∀ j, dstAt l j = some t → ∀ o', l[j]? = some o' → waitsFor o' k = true := by
          intro j hj o' ho'
          have hjl : j < l.length := (List.getElem?_eq_some_iff.1 ho').1
          have := List.all_eq_true.1 hold j (List.mem_range.2 hjl)
          simpa [hj, ho'] using this
        rw [hI.old t (fun j hj => ?_), putL_old _ _ _ _ _ (fun j hj => ?_)]
        · have hjl : j < l.length := by
            apply Classical.byContradiction; intro hn
            rw [dstAt, List.getElem?_take] at hj
            split at hj
            · omega
            · cases hj
          have hj' : dstAt l j = some t := by
            rw [dstAt, List.getElem?_take] at hj
            split at hj
            · exact hj
            · cases hj
          have hjk : j < k := by
            apply Classical.byContradiction; intro hn
            rw [dstAt, List.getElem?_take, if_neg hn] at hj; cases hj
          have hw := hnot j hj' l[j] (by simp [hjl])
          obtain ⟨e, he, hb⟩ := Array.any_eq_true'.1 hw
          rw [Bool.and_eq_true] at hb
          have hon : e.on = k := by simpa using hb.2
          have := (hspec j l[j] (by omega) (by simp [hjl])).2.2.1 e he hb.1
          omega
        · have hjl : j < l.length := by
            apply Classical.byContradiction; intro hn
            rw [dstAt, List.getElem?_eq_none (by omega)] at hj; cases hj
          have hw := hnot j hj l[j] (by simp [hjl])
          cases hl : listed.getD j true with
          | false => rfl
          | true => exact absurd (hI.closed j l[j] (by simp [hjl]) hl k hw) (by rw [h0]; simp)
      · have hjl : j < l.length := by omega
        have hdj' : l[j].dst = some t := by simpa [dstAt, hjl] using hdj
        have h1 : dstAt (l.take k) j = some t := by rw [dstAt, List.getElem?_take, if_pos hjk]; exact hdj
        have h2 : ∀ i, i ≠ j → dstAt (l.take k) i ≠ some t := by
          intro i hi hh
          rw [dstAt, List.getElem?_take] at hh
          split at hh
          · exact (hspec j l[j] (by omega) (by simp [hjl])).2.1 i hi (by rw [hdj']; exact hh)
          · cases hh
        have h3 : t < a0.tmps.size := by
          obtain ⟨d', hd', hlt⟩ := (hspec j l[j] (by omega) (by simp [hjl])).1
          rw [hd'] at hdj'; cases hdj'; exact hlt
        rw [putL_at _ 0 vs a0 j t h1 h2 h3]
        simp only [vs, Nat.zero_add, hdj]
    have he : execOp a.eval o = execOp (putL (l.take k) 0 vs a0).eval o := execOp_congr o (fun cs b => Region.noSelect_spec hsel k o cs b ho) fun x hx => by
      cases x with
      | tmp t => exact hslot t (List.mem_append_left _ (List.mem_filterMap.2 ⟨.tmp t, by simpa using hx, rfl⟩))
      | const v => rfl
      | global g => rfl
      | func f => rfl
    have hwant : Region.wanted o (yielded l.toArray a.tmps) = Region.wanted o (yielded l.toArray (putL (l.take k) 0 vs a0).tmps) := by
      unfold Region.wanted
      cases hg : o.guard with
      | none => rfl
      | some gw =>
        obtain ⟨g, want⟩ := gw
        have hy : yielded l.toArray a.tmps g = yielded l.toArray (putL (l.take k) 0 vs a0).tmps g := by
          unfold yielded
          cases ht : ((l.toArray)[g]?).bind (·.dst) with
          | none => rfl
          | some t =>
            have hs := hslot t (List.mem_append_right _ (by rw [hg]; simpa using ht))
            have hsz : a.tmps.size = (putL (l.take k) 0 vs a0).tmps.size := (hI.size).trans (putL_size _ _ _ _).symm
            have h2 : a.tmps[t]? = (putL (l.take k) 0 vs a0).tmps[t]? := by
              by_cases hlt : t < a.tmps.size
              · have hlt2 : t < (putL (l.take k) 0 vs a0).tmps.size := hsz ▸ hlt
                simp [hlt, hlt2] at hs ⊢; exact hs
              · rw [Array.getElem?_eq_none (Nat.le_of_not_lt hlt), Array.getElem?_eq_none (hsz ▸ Nat.le_of_not_lt hlt)]
            simp only [Option.bind_some, h2]
        simp only [hy]
    -- what is left holds behind it
    have hnext : ∀ v w', Below w.heap.size w w' → T k v w' → wpAny P .any l.toArray Q (fuel + (l.length - m)) (listed.setIfInBounds k true) (a.put o.dst v) w' := by
      intro v w' hb hv
      have hks : k < listed.size := by rw [hI.lsize]; exact hkl
      have hset : ∀ j, (listed.setIfInBounds k true).getD j true = if j = k then true else listed.getD j true := by
        intro j
        by_cases hj : j = k
        · subst hj; simp [hks]
        · rw [if_neg hj, getD_set_ne true (Ne.symm hj)]
      apply ih
      · refine ⟨hI.below.trans (hb.mono hI.below.size), by rw [put_defers]; exact hI.defers, by rw [put_size]; exact hI.size, by simpa using hI.lsize, ?_, ?_, ?_, fun t ht1 ht2 => by rw [hset, if_neg (by omega)]; exact hI.tail t ht1 ht2⟩
        · intro t ht
          rw [put_other]
          · apply hI.old
            intro j hj
            have := ht j hj
            rw [hset] at this
            split at this
            · cases this
            · exact this
          · intro hdt
            have := ht k (by simp [dstAt, hol, hdt])
            rw [hset, if_pos rfl] at this; cases this
        · intro j o' ho' hl i hi
          rw [hset] at hl ⊢
          by_cases hik : i = k
          · rw [if_pos hik]
          · rw [if_neg hik]
            by_cases hjk : j = k
            · subst hjk; rw [hol] at ho'; cases ho'; exact (hlisted i hi).1
            · rw [if_neg hjk] at hl; exact hI.closed j o' ho' hl i hi
        · intro j d' hj hdj hl
          by_cases hjk : j = k
          · subst hjk
            have : o.dst = some d' := by simpa [dstAt, hol] using hdj
            rw [this, put_at _ _ _ (by rw [hI.size]; rw [hd] at this; cases this; exact hdn)]
            exact hv
          · rw [hset, if_neg hjk] at hl
            rw [put_other _ _ _ _ (fun h => huniq j hjk (by rw [hdj, h]))]
            exact hT j _ _ _ hb (hI.done j d' hj hdj hl)
      · have := cnt_set (fun i => !listed.getD i true) (fun i => !(listed.setIfInBounds k true).getD i true) k (by simp only [h0]; rfl) (by simp only [hset]; simp) (fun j hj => by simp only [hset, if_neg hj]) m hkm
        omega
    unfold wpOp
    rw [ho]
    unfold StepOK at hst
    rw [← hwant, ← he] at hst
    simp only
    split
    · rename_i hw
      rw [if_pos hw] at hst
      exact .inl (wp_of_upS hst hnext)
    · rename_i hw
      rw [if_neg hw] at hst
      exact hnext undef w (Below.refl _ _) hst


def RunT (P : Program) (Q : Exit → Act → World → Prop) (l0 : List Oper) (m : Nat) (a0 : Act) (w0 : World) : Nat → List Oper → List (Value → World → Prop) → Prop
  | k, [], Ts => ∀ (vs : Nat → Value) (w : World), Below w0.heap.size w0 w → (∀ j, j < k → TR Ts k j (vs j) w) → wpList P l0.toArray Q (l0.drop m) (putL (l0.take m) 0 vs a0) w
  | k, o :: r, Ts => ∃ T, Stable T ∧ (∀ (vs : Nat → Value) (w : World), Below w0.heap.size w0 w → (∀ j, j < k → waitsFor o j = true → TR Ts k j (vs j) w) → StepOK P l0.toArray T o (putL (l0.take k) 0 vs a0) w) ∧
      RunT P Q l0 m a0 w0 (k + 1) r (T :: Ts)
theorem runT_spec {l0 : List Oper} {m : Nat} {a0 : Act} {w0 : World} : ∀ (r : List Oper) (k : Nat) (Ts : List (Value → World → Prop)), Ts.length = k → (∀ j, j < k → Stable (TR Ts k j)) → RunT P Q l0 m a0 w0 k r Ts →
    ∃ T : Nat → Value → World → Prop, (∀ j, j < k → T j = TR Ts k j) ∧ (∀ i, Stable (T i)) ∧
      (∀ i o, r[i]? = some o → ∀ (vs : Nat → Value) (w : World), Below w0.heap.size w0 w → (∀ j, j < k + i → waitsFor o j = true → T j (vs j) w) → StepOK P l0.toArray (T (k + i)) o (putL (l0.take (k + i)) 0 vs a0) w) ∧
      (∀ (vs : Nat → Value) (w : World), Below w0.heap.size w0 w → (∀ j, j < k + r.length → T j (vs j) w) → wpList P l0.toArray Q (l0.drop m) (putL (l0.take m) 0 vs a0) w)
  | [], k, Ts, hl, hs, h => by
    refine ⟨fun j => if j < k then TR Ts k j else fun _ _ => True, fun j hj => by simp [hj], fun i => ?_, fun i o hi => by simp at hi, fun vs w hb hT => ?_⟩
    · by_cases hi : i < k
      · simp only [hi, if_true]; exact hs i hi
      · simp only [hi, if_false]; exact fun _ _ _ _ _ => trivial
    · refine h vs w hb (fun j hj => ?_)
      have := hT j (by simpa using hj)
      simpa [hj] using this
  | o :: r, k, Ts, hl, hs, h => by
    obtain ⟨T0, hst, hstep, hrest⟩ := h
    have hTR : ∀ j, j < k → TR (T0 :: Ts) (k + 1) j = TR Ts k j := by
      intro j hj
      unfold TR
      rw [show k + 1 - 1 - j = (k - 1 - j) + 1 by omega, List.getD_cons_succ]
    have hTk : TR (T0 :: Ts) (k + 1) k = T0 := by unfold TR; rw [show k + 1 - 1 - k = 0 by omega, List.getD_cons_zero]
    obtain ⟨T, h1, h2, h3, h4⟩ := runT_spec r (k + 1) (T0 :: Ts) (by simp [hl]) (fun j hj => by
      by_cases hjk : j = k
      · subst hjk; rw [hTk]; exact hst
      · rw [hTR j (by omega)]; exact hs j (by omega)) hrest
    have hT : ∀ j, j < k → T j = TR Ts k j := fun j hj => (h1 j (by omega)).trans (hTR j hj)
    have hk : T k = T0 := (h1 k (by omega)).trans hTk
    refine ⟨T, hT, h2, fun i o' hi vs w hb hd => ?_, fun vs w hb hd => h4 vs w hb (fun j hj => hd j (by simp; omega))⟩
    cases i with
    | zero =>
      simp at hi; subst hi
      rw [Nat.add_zero, hk]
      exact hstep vs w hb (fun j hj hw => by rw [← hT j hj]; exact hd j (by omega) hw)
    | succ i =>
      have := h3 i o' (by simpa using hi) vs w hb (fun j hj hw => hd j (by omega) hw)
      rwa [show k + 1 + i = k + (i + 1) by omega] at this

theorem wp_region_tail {id : Nat} {l : List Oper} {a0 : Act} {w0 : World} (m : Nat) (hm : P.follows .mixedOrders = true) (hok : okRegT l m a0.tmps.size = true) (hseq : Region.seqB .any l.toArray (l.length - m) m ((List.replicate m true ++ List.replicate (l.length - m) false).toArray) = true) (h : RunT P Q l m a0 w0 0 (l.take m) []) :
    (Code.region id l.toArray true).wp P Q a0 w0 := by
  obtain ⟨T, _, h2, h3, h4⟩ := runT_spec (l.take m) 0 [] rfl (fun j hj => by omega) h
  have hml := (okRegT_spec hok).2.1
  have H := wpAny_tail (P := P) (Q := Q) (T := T) hok hseq h2 (fun k o hk ho vs w hb hd => by
    have := h3 k o (by rw [List.getElem?_take, if_pos hk]; exact ho) vs w hb (fun j hj => hd j (by omega))
    rwa [Nat.zero_add] at this) (fun vs w hb hd => h4 vs w hb (fun j hj => hd j (by rw [List.length_take] at hj; omega))) m (Array.replicate l.toArray.size false) a0 _
    ⟨below_drewN (Below.refl _ _) 1, rfl, rfl, by simp, fun _ _ => rfl, fun j o ho hl => by
      have hj : j < l.length := (List.getElem?_eq_some_iff.1 ho).1
      simp [hj] at hl, fun j d hj _ hl => by
      have hj2 : j < l.length := by omega
      simp [hj2] at hl, fun t _ ht => by simp [ht]⟩ (by
      have : (List.range m).countP (fun i => !(Array.replicate l.toArray.size false).getD i true) = (List.range m).length := by
        rw [List.countP_eq_length]
        intro i hi
        have := List.mem_range.1 hi
        have h5 : i < l.length := by omega
        simp [h5]
      rw [this]; simp)
  refine wp_region_any hm ?_
  have e1 : m + (l.length - m) = l.toArray.size := by simp; omega
  rw [e1] at H
  exact H
theorem RunT.pure {l0 : List Oper} {m : Nat} {a0 : Act} {w0 : World} {k : Nat} {o : Oper} {r : List Oper} {Ts : List (Value → World → Prop)} {c : Value}
    (h : ∀ (vs : Nat → Value) (w : World), Below w0.heap.size w0 w → (∀ j, j < k → waitsFor o j = true → TR Ts k j (vs j) w) → StepOK P l0.toArray (isV c) o (putL (l0.take k) 0 vs a0) w)
    (hr : RunT P Q l0 m a0 w0 (k + 1) r (isV c :: Ts)) : RunT P Q l0 m a0 w0 k (o :: r) Ts := ⟨isV c, isV_stable c, h, hr⟩
theorem RunT.such {l0 : List Oper} {m : Nat} {a0 : Act} {w0 : World} {k : Nat} {o : Oper} {r : List Oper} {Ts : List (Value → World → Prop)} (T : Value → World → Prop) (hT : Stable T)
    (h : ∀ (vs : Nat → Value) (w : World), Below w0.heap.size w0 w → (∀ j, j < k → waitsFor o j = true → TR Ts k j (vs j) w) → StepOK P l0.toArray T o (putL (l0.take k) 0 vs a0) w)
    (hr : RunT P Q l0 m a0 w0 (k + 1) r (T :: Ts)) : RunT P Q l0 m a0 w0 k (o :: r) Ts := ⟨T, hT, h, hr⟩
end
end Go.Proofs.Ytemegkapmgcffaa
