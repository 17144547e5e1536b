import Derived.Test.YtemegkapmgcffaaGreatMWa
import Derived.StillTail
/- Regions that draw their order, some of whose operations (a chain: each waits for all such ahead of it) write what was there: 'J k' is what holds of the memory when those ahead of k are done. -/
namespace Go.Proofs.YtemegkapmgcffaaGreat
open Go.RowKit
set_option linter.unusedSimpArgs false
set_option linter.unusedVariables false

section
variable {P : Program} {Q : Exit → Act → World → Prop}

def StableR (R : World → World → Prop) (T : Value → World → Prop) : Prop := ∀ v w w', R w w' → T v w → T v w'
/-- what an operation that writes must have come to -/
def upE (P : Program) (R : World → World → Prop) (J : Value → World → Prop) (w : World) : Result Next → Prop
  | .ok (.value u) w' => R w w' ∧ J u w'
  | .ok .skip w' => R w w' ∧ J undef w'
  | .ok (.enter f args) w' => R w w' ∧ Calls P f args w' (fun e w'' => ∃ v, e = .returned v ∧ R w' w'' ∧ J v w'')
  | _ => False
@[go_sem] theorem upE_value (P : Program) (R : World → World → Prop) (J : Value → World → Prop) (w w' : World) (u : Value) : upE P R J w (.ok (.value u) w') = (R w w' ∧ J u w') := rfl
@[go_sem] theorem upE_skip (P : Program) (R : World → World → Prop) (J : Value → World → Prop) (w w' : World) : upE P R J w (.ok .skip w') = (R w w' ∧ J undef w') := rfl
@[go_sem] theorem upE_enter (P : Program) (R : World → World → Prop) (J : Value → World → Prop) (w w' : World) (f : FuncId) (args : Array Value) : upE P R J w (.ok (.enter f args) w') =
  (R w w' ∧ Calls P f args w' (fun e w'' => ∃ v, e = .returned v ∧ R w' w'' ∧ J v w'')) := rfl
@[irreducible] def StepE (P : Program) (ops : Array Oper) (R : World → World → Prop) (J : Value → World → Prop) (o : Oper) (a : Act) (w : World) : Prop :=
  if Region.wanted o (yielded ops a.tmps) then upE P R J w ((execOp a.eval o).run P w) else J undef w

theorem wp_of_upE {R : World → World → Prop} {J : Value → World → Prop} {o : Oper} {a : Act} {w : World} {K : Act → World → Prop} (hRt : ∀ w w1 w2, R w w1 → R w1 w2 → R w w2) (h : upE P R J w ((execOp a.eval o).run P w))
    (hK : ∀ v w', R w w' → J v w' → K (a.put o.dst v) w') : o.wp P a w K Q := by
  unfold Oper.wp
  generalize (execOp a.eval o).run P w = r at *
  cases r with
  | ok n w' =>
    cases n <;> simp only [upE] at h <;> simp only [Oper.upon]
    case value u => exact hK _ _ h.1 h.2
    case skip => exact hK _ _ h.1 h.2
    case enter f args =>
      obtain ⟨h1, h2⟩ := h
      refine h2.mono fun e w'' ⟨v, he, hb, ht⟩ => ?_
      subst he
      exact hK _ _ (hRt _ _ _ h1 hb) ht
  | halt x w' => simp only [upE] at h

def valOf (l : List Oper) (a : Act) (j : Nat) : Value := match dstAt l j with | some d => a.tmps.getD d undef | none => undef
/-- the last one of those that write, ahead of k -/
def prevE (es : List Nat) : Nat → Option Nat
  | 0 => none
  | k + 1 => if k ∈ es then some k else prevE es k
def lastV (pe : Option Nat) (vs : Nat → Value) : Value := match pe with | some e => vs e | none => undef
theorem prevE_lt (es : List Nat) : ∀ k p, prevE es k = some p → p < k ∧ p ∈ es := by
  intro k
  induction k with
  | zero => intro p h; cases h
  | succ k ih =>
    intro p h
    unfold prevE at h
    split at h
    · cases h; exact ⟨by omega, by assumption⟩
    · have := ih p h; exact ⟨by omega, this.2⟩
theorem prevE_gap (es : List Nat) (q : Nat) : ∀ d, (∀ e ∈ es, q ≤ e → q + d ≤ e) → prevE es (q + d) = prevE es q := by
  intro d
  induction d with
  | zero => intro _; rfl
  | succ d ih =>
    intro h
    rw [← Nat.add_assoc, prevE, if_neg (fun hm => by have := h _ hm (by omega); omega)]
    exact ih (fun e he hq => by have := h e he hq; omega)
theorem J_gap {J : Nat → Value → World → Prop} (es : List Nat) (hJ : ∀ k, k ∉ es → J (k + 1) = J k) (q : Nat) : ∀ d, (∀ e ∈ es, q ≤ e → q + d ≤ e) → J (q + d) = J q := by
  intro d
  induction d with
  | zero => intro _; rfl
  | succ d ih =>
    intro h
    rw [← Nat.add_assoc, hJ _ (fun hm => by have := h _ hm (by omega); omega)]
    exact ih (fun e he hq => by have := h e he hq; omega)

structure EInv (l : List Oper) (R : World → World → Prop) (T : Nat → Value → World → Prop) (J : Nat → Value → World → Prop) (es : List Nat) (a0 : Act) (w0 : World) (listed : Array Bool) (a : Act) (w : World) : Prop where
  rel : R w0 w
  defers : a.defers = a0.defers
  size : a.tmps.size = a0.tmps.size
  lsize : listed.size = l.length
  old : ∀ t, (∀ j, dstAt l j = some t → listed.getD j true = false) → a.tmps.getD t undef = a0.tmps.getD t undef
  closed : ∀ j o, l[j]? = some o → listed.getD j true = true → ∀ i, waitsFor o i = true → listed.getD i true = true
  done : ∀ j d, j < l.length → dstAt l j = some d → listed.getD j true = true → T j (a.tmps.getD d undef) w
  eff : ∃ q, q ≤ l.length ∧ (∀ e ∈ es, listed.getD e true = true ↔ e < q) ∧ J q (lastV (prevE es q) (valOf l a)) w

/-- each that writes waits for all such ahead of it -/
def okEff (l : List Oper) (es : List Nat) : Bool := es.all fun k => decide (k < l.length) && es.all fun e => !decide (e < k) || (match l[k]? with | some o => waitsFor o e | none => false)

theorem wpAny_eff {l : List Oper} {R : World → World → Prop} {T : Nat → Value → World → Prop} {J : Nat → Value → World → Prop} {es : List Nat} {a0 : Act} {w0 : World} (hok : okReg l a0.tmps.size = true) (hoe : okEff l es = true)
    (hRB : ∀ w w', Below w.heap.size w w' → R w w') (hRt : ∀ w w1 w2, R w w1 → R w1 w2 → R w w2)
    (hT : ∀ i, StableR R (T i)) (hTe : ∀ e, e ∈ es → ∀ v w, J (e + 1) v w → T e v w) (hJc : ∀ k, k ∉ es → J (k + 1) = J k) (hJs : ∀ k, Stable (J k))
    (hstep : ∀ k o, l[k]? = some o → k ∉ es → ∀ (vs : Nat → Value) (w : World), R w0 w → (∀ j, j < k → waitsFor o j = true → T j (vs j) w) → StepOK P l.toArray (T k) o (putL (l.take k) 0 vs a0) w)
    (hstepE : ∀ k o, l[k]? = some o → k ∈ es → ∀ (vs : Nat → Value) (w : World), R w0 w → (∀ j, j < k → waitsFor o j = true → T j (vs j) w) → J k (lastV (prevE es k) vs) w → StepE P l.toArray R (J (k + 1)) o (putL (l.take k) 0 vs a0) w)
    (hQ : ∀ (vs : Nat → Value) (w : World), R w0 w → (∀ j, j < l.length → T j (vs j) w) → J l.length (lastV (prevE es l.length) vs) w → Q .normal (putL l 0 vs a0) w) :
    ∀ (fuel : Nat) (listed : Array Bool) (a : Act) (w : World), EInv l R T J es a0 w0 listed a w → (List.range l.length).countP (fun i => !listed.getD i true) ≤ fuel → wpAny P .any l.toArray Q fuel listed a w := by
  obtain ⟨hsel, hspec⟩ := okReg_spec hok
  have hes : ∀ k ∈ es, k < l.length ∧ ∀ e ∈ es, e < k → ∀ o, l[k]? = some o → waitsFor o e = true := by
    intro k hk
    have h1 := List.all_eq_true.1 hoe k hk
    rw [Bool.and_eq_true] at h1
    refine ⟨by simpa using h1.1, fun e he hlt o ho => ?_⟩
    have h2 := List.all_eq_true.1 h1.2 e he
    simpa [hlt, ho] using h2
  -- all have come up: the end
  have fin : ∀ (listed : Array Bool) (a : Act) (w : World), EInv l R T J es a0 w0 listed a w → Region.ready .any l.toArray listed = [] → Q .normal a w := by
    intro listed a w hI hr
    have hall : ∀ j, j < l.length → listed.getD j true = true := by
      intro j
      induction j using Nat.strongRecOn with
      | ind j ih =>
        intro hj
        apply Classical.byContradiction
        intro hn
        have hmem : j ∈ Region.ready .any l.toArray listed := by
          rw [mem_ready]
          refine ⟨by simpa using hn, l[j], by simp [hj], fun e he hb => ?_⟩
          have hlt := (hspec j l[j] (by simp [hj])).2.2.1 e he hb
          have h1 := ih e.on hlt (by omega)
          have hs : e.on < listed.size := by rw [hI.lsize]; omega
          simpa [hs] using h1
        rw [hr] at hmem; cases hmem
    have hTs : ∀ j, j < l.length → T j (valOf l a j) w := by
      intro j hj
      obtain ⟨d, hd, _⟩ := (hspec j l[j] (by simp [hj])).1
      have hda : dstAt l j = some d := by simp [dstAt, hj, hd]
      have := hI.done j d hj hda (hall j hj)
      simp only [valOf, hda]; exact this
    have ha : a = putL l 0 (valOf l a) a0 := by
      have h1 : a.tmps = (putL l 0 (valOf l a) a0).tmps := by
        apply Array.ext
        · rw [putL_size, hI.size]
        · intro t h1 h2
          have key : a.tmps.getD t undef = (putL l 0 (valOf l a) a0).tmps.getD t undef := by
            by_cases hw : ∃ j, dstAt l j = some t
            · obtain ⟨j, hj⟩ := hw
              have hjl : j < l.length := by
                apply Classical.byContradiction; intro hn
                rw [dstAt, List.getElem?_eq_none (by omega)] at hj; cases hj
              have hdj : l[j].dst = some t := by simpa [dstAt, hjl] using hj
              rw [putL_at l 0 (valOf l a) a0 j t hj (fun i hi => by rw [← hdj]; exact (hspec j l[j] (by simp [hjl])).2.1 i hi) (by rw [← hI.size]; exact h1)]
              simp only [valOf, Nat.zero_add, hj]
            · rw [putL_old l 0 (valOf l a) a0 t (fun j hj => hw ⟨j, hj⟩)]
              exact hI.old t (fun j hj => absurd ⟨j, hj⟩ hw)
          simpa [h1, h2] using key
      have h2 : a.defers = (putL l 0 (valOf l a) a0).defers := by rw [putL_defers, hI.defers]
      generalize putL l 0 (valOf l a) a0 = b at h1 h2
      cases a; cases b; simp only at h1 h2; rw [h1, h2]
    obtain ⟨q, hq, hql, hJ⟩ := hI.eff
    have hgap : ∀ e ∈ es, q ≤ e → q + (l.length - q) ≤ e := by
      intro e he hqe
      have := (hql e he).1 (hall e (hes e he).1)
      omega
    have e1 := J_gap es hJc q (l.length - q) hgap
    have e2 := prevE_gap es q (l.length - q) hgap
    rw [show q + (l.length - q) = l.length by omega] at e1 e2
    rw [← e1, ← e2] at hJ
    rw [ha]
    exact hQ _ w hI.rel hTs hJ
  intro fuel
  induction fuel with
  | zero =>
    intro listed a w hI hc
    have hr : Region.ready .any l.toArray listed = [] := by
      apply List.eq_nil_iff_forall_not_mem.2
      intro j hj
      obtain ⟨h0, o, ho, _⟩ := mem_ready.1 hj
      have hjl : j < l.length := by simpa using (Array.getElem?_eq_some_iff.1 ho).1
      have : 0 < (List.range l.length).countP (fun i => !listed.getD i true) := List.countP_pos_iff.2 ⟨j, List.mem_range.2 hjl, by rw [h0]; rfl⟩
      omega
    exact ⟨hr, fin _ _ _ hI hr⟩
  | succ fuel ih =>
    intro listed a w hI hc
    refine ⟨fin _ _ _ hI, fun k hk => ?_⟩
    obtain ⟨h0, o, ho, hdeps⟩ := mem_ready.1 hk
    have hol : l[k]? = some o := by simpa using ho
    have hkl : k < l.length := (List.getElem?_eq_some_iff.1 hol).1
    obtain ⟨⟨d, hd, hdn⟩, huniq, hafter, hlook⟩ := hspec k o hol
    have hlisted : ∀ j, waitsFor o j = true → listed.getD j true = true ∧ j < k := by
      intro j hj
      obtain ⟨e, he, hb⟩ := Array.any_eq_true'.1 hj
      rw [Bool.and_eq_true] at hb
      have hon : e.on = j := by simpa using hb.2
      have h1 := hdeps e he hb.1
      have h2 := hafter e he hb.1
      rw [hon] at h1 h2
      have hs : j < listed.size := by rw [hI.lsize]; omega
      exact ⟨by simpa [hs] using h1, h2⟩
    have hTs : ∀ j, j < k → waitsFor o j = true → T j (valOf l a j) w := by
      intro j hj hw
      obtain ⟨d', hd', _⟩ := (hspec j l[j] (by simp)).1
      have hda : dstAt l j = some d' := by simp [dstAt, show j < l.length by omega, hd']
      have := hI.done j d' (by omega) hda (hlisted j hw).1
      simp only [valOf, hda]; exact this
    -- it looks at slots that are the same here and there
    have hslot : ∀ t ∈ o.looksAt l.toArray, a.tmps.getD t undef = (putL (l.take k) 0 (valOf l a) a0).tmps.getD t undef := by
      intro t ht
      rcases hlook t ht with hold | ⟨j, hjk, hwj, hdj⟩
      · have hnot : ∀ j, dstAt l j = some t → ∀ o', l[j]? = some o' → waitsFor o' k = true := by
          intro j hj o' ho'
          have hjl : j < l.length := (List.getElem?_eq_some_iff.1 ho').1
          have := List.all_eq_true.1 hold j (List.mem_range.2 hjl)
          simpa [hj, ho'] using this
        rw [hI.old t (fun j hj => ?_), putL_old _ _ _ _ _ (fun j hj => ?_)]
        · have hjl : j < l.length := by
            apply Classical.byContradiction; intro hn
            rw [dstAt, List.getElem?_take] at hj
            split at hj
            · omega
            · cases hj
          have hj' : dstAt l j = some t := by
            rw [dstAt, List.getElem?_take] at hj
            split at hj
            · exact hj
            · cases hj
          have hjk : j < k := by
            apply Classical.byContradiction; intro hn
            rw [dstAt, List.getElem?_take, if_neg hn] at hj; cases hj
          have hw := hnot j hj' l[j] (by simp [hjl])
          obtain ⟨e, he, hb⟩ := Array.any_eq_true'.1 hw
          rw [Bool.and_eq_true] at hb
          have hon : e.on = k := by simpa using hb.2
          have := (hspec j l[j] (by simp [hjl])).2.2.1 e he hb.1
          omega
        · have hjl : j < l.length := by
            apply Classical.byContradiction; intro hn
            rw [dstAt, List.getElem?_eq_none (by omega)] at hj; cases hj
          have hw := hnot j hj l[j] (by simp [hjl])
          cases hl : listed.getD j true with
          | false => rfl
          | true => exact absurd (hI.closed j l[j] (by simp [hjl]) hl k hw) (by rw [h0]; simp)
      · have hjl : j < l.length := by omega
        have hdj' : l[j].dst = some t := by simpa [dstAt, hjl] using hdj
        have h1 : dstAt (l.take k) j = some t := by rw [dstAt, List.getElem?_take, if_pos hjk]; exact hdj
        have h2 : ∀ i, i ≠ j → dstAt (l.take k) i ≠ some t := by
          intro i hi hh
          rw [dstAt, List.getElem?_take] at hh
          split at hh
          · exact (hspec j l[j] (by simp [hjl])).2.1 i hi (by rw [hdj']; exact hh)
          · cases hh
        have h3 : t < a0.tmps.size := by
          obtain ⟨d', hd', hlt⟩ := (hspec j l[j] (by simp [hjl])).1
          rw [hd'] at hdj'; cases hdj'; exact hlt
        rw [putL_at _ 0 (valOf l a) a0 j t h1 h2 h3]
        simp only [valOf, Nat.zero_add, hdj]
    have he : execOp a.eval o = execOp (putL (l.take k) 0 (valOf l a) a0).eval o := execOp_congr o (fun cs b => Region.noSelect_spec hsel k o cs b ho) fun x hx => by
      cases x with
      | tmp t => exact hslot t (List.mem_append_left _ (List.mem_filterMap.2 ⟨.tmp t, by simpa using hx, rfl⟩))
      | const v => rfl
      | global g => rfl
      | func f => rfl
    have hwant : Region.wanted o (yielded l.toArray a.tmps) = Region.wanted o (yielded l.toArray (putL (l.take k) 0 (valOf l a) a0).tmps) := by
      unfold Region.wanted
      cases hg : o.guard with
      | none => rfl
      | some gw =>
        obtain ⟨g, want⟩ := gw
        have hy : yielded l.toArray a.tmps g = yielded l.toArray (putL (l.take k) 0 (valOf l a) a0).tmps g := by
          unfold yielded
          cases ht : ((l.toArray)[g]?).bind (·.dst) with
          | none => rfl
          | some t =>
            have hs := hslot t (List.mem_append_right _ (by rw [hg]; simpa using ht))
            have hsz : a.tmps.size = (putL (l.take k) 0 (valOf l a) a0).tmps.size := (hI.size).trans (putL_size _ _ _ _).symm
            have h2 : a.tmps[t]? = (putL (l.take k) 0 (valOf l a) a0).tmps[t]? := by
              by_cases hlt : t < a.tmps.size
              · have hlt2 : t < (putL (l.take k) 0 (valOf l a) a0).tmps.size := hsz ▸ hlt
                simp [hlt, hlt2] at hs ⊢; exact hs
              · rw [Array.getElem?_eq_none (Nat.le_of_not_lt hlt), Array.getElem?_eq_none (hsz ▸ Nat.le_of_not_lt hlt)]
            simp only [Option.bind_some, h2]
        simp only [hy]
    have hks : k < listed.size := by rw [hI.lsize]; exact hkl
    have hset : ∀ j, (listed.setIfInBounds k true).getD j true = if j = k then true else listed.getD j true := by
      intro j
      by_cases hj : j = k
      · subst hj; simp [hks]
      · rw [if_neg hj, getD_set_ne true (Ne.symm hj)]
    have hval : ∀ v j, j ≠ k → valOf l (a.put o.dst v) j = valOf l a j := by
      intro v j hj
      unfold valOf
      cases hdj : dstAt l j with
      | none => rfl
      | some d' => exact put_other _ _ _ _ (fun h => huniq j hj (by rw [hdj, h]))
    have hvalk : ∀ v, valOf l (a.put o.dst v) k = v := by
      intro v
      have hdk : dstAt l k = some d := by simp [dstAt, hol, hd]
      unfold valOf
      simp only [hdk, hd]
      exact put_at _ _ _ (by rw [hI.size]; exact hdn)
    have hcnt : (List.range l.length).countP (fun i => !(listed.setIfInBounds k true).getD i true) ≤ fuel := by
      have := cnt_set (fun i => !listed.getD i true) (fun i => !(listed.setIfInBounds k true).getD i true) k (by simp only [h0]; rfl) (by simp only [hset]; simp) (fun j hj => by simp only [hset, if_neg hj]) l.length hkl
      omega
    -- what is left holds behind it
    have hnext : ∀ v w', R w w' → T k v w' → (∃ q, q ≤ l.length ∧ (∀ e ∈ es, (listed.setIfInBounds k true).getD e true = true ↔ e < q) ∧ J q (lastV (prevE es q) (valOf l (a.put o.dst v))) w') → wpAny P .any l.toArray Q fuel (listed.setIfInBounds k true) (a.put o.dst v) w' := by
      intro v w' hr hv heff
      apply ih
      · refine ⟨hRt _ _ _ hI.rel hr, by rw [put_defers]; exact hI.defers, by rw [put_size]; exact hI.size, by simpa using hI.lsize, ?_, ?_, ?_, heff⟩
        · intro t ht
          rw [put_other]
          · apply hI.old
            intro j hj
            have := ht j hj
            rw [hset] at this
            split at this
            · cases this
            · exact this
          · intro hdt
            have := ht k (by simp [dstAt, hol, hdt])
            rw [hset, if_pos rfl] at this; cases this
        · intro j o' ho' hl i hi
          rw [hset] at hl ⊢
          by_cases hik : i = k
          · rw [if_pos hik]
          · rw [if_neg hik]
            by_cases hjk : j = k
            · subst hjk; rw [hol] at ho'; cases ho'; exact (hlisted i hi).1
            · rw [if_neg hjk] at hl; exact hI.closed j o' ho' hl i hi
        · intro j d' hj hdj hl
          by_cases hjk : j = k
          · subst hjk
            have : o.dst = some d' := by simpa [dstAt, hol] using hdj
            rw [this, put_at _ _ _ (by rw [hI.size]; rw [hd] at this; cases this; exact hdn)]
            exact hv
          · rw [hset, if_neg hjk] at hl
            rw [put_other _ _ _ _ (fun h => huniq j hjk (by rw [hdj, h]))]
            exact hT j _ _ _ hr (hI.done j d' hj hdj hl)
      · exact hcnt
    obtain ⟨q, hq, hql, hJ⟩ := hI.eff
    have hnlk : listed.getD k true ≠ true := by rw [h0]; simp
    by_cases hke : k ∈ es
    · -- one that writes
      have hqk : q ≤ k := by
        apply Classical.byContradiction
        intro hn
        exact hnlk ((hql k hke).2 (by omega))
      have hgap : ∀ e ∈ es, q ≤ e → q + (k - q) ≤ e := by
        intro e he hqe
        apply Classical.byContradiction
        intro hn
        have hw := (hes k hke).2 e he (by omega) o hol
        have := (hql e he).1 (hlisted e hw).1
        omega
      have e1 := J_gap es hJc q (k - q) hgap
      have e2 := prevE_gap es q (k - q) hgap
      rw [show q + (k - q) = k by omega] at e1 e2
      rw [← e1, ← e2] at hJ
      have hst := hstepE k o hol hke (valOf l a) w hI.rel hTs hJ
      have hnextE : ∀ v w', R w w' → J (k + 1) v w' → wpAny P .any l.toArray Q fuel (listed.setIfInBounds k true) (a.put o.dst v) w' := by
        intro v w' hr hj
        refine hnext v w' hr (hTe k hke v w' hj) ⟨k + 1, by omega, fun e he => ?_, ?_⟩
        · rw [hset]
          by_cases hek : e = k
          · rw [if_pos hek, hek]; simp
          · rw [if_neg hek, hql e he]
            constructor
            · intro h; omega
            · intro h
              have hw := (hes k hke).2 e he (by omega) o hol
              exact (hql e he).1 (hlisted e hw).1
        · rw [prevE, if_pos hke, lastV, hvalk]
          exact hj
      unfold wpOp
      rw [ho]
      unfold StepE at hst
      rw [← hwant, ← he] at hst
      simp only
      split
      · rename_i hw
        rw [if_pos hw] at hst
        exact .inl (wp_of_upE hRt hst hnextE)
      · rename_i hw
        rw [if_neg hw] at hst
        exact hnextE undef w (hRB _ _ (Below.refl _ _)) hst
    · have hst := hstep k o hol hke (valOf l a) w hI.rel hTs
      have hnextP : ∀ v w', Below w.heap.size w w' → T k v w' → wpAny P .any l.toArray Q fuel (listed.setIfInBounds k true) (a.put o.dst v) w' := by
        intro v w' hb hv
        refine hnext v w' (hRB _ _ hb) hv ⟨q, hq, fun e he => ?_, ?_⟩
        · rw [hset, if_neg (show e ≠ k from fun h => hke (h ▸ he))]; exact hql e he
        · have hlv : lastV (prevE es q) (valOf l (a.put o.dst v)) = lastV (prevE es q) (valOf l a) := by
            unfold lastV
            cases hp : prevE es q with
            | none => rfl
            | some p => exact hval v p (show p ≠ k from fun h => hke (h ▸ (prevE_lt es q p hp).2))
          rw [hlv]
          exact hJs q _ _ _ hb hJ
      unfold wpOp
      rw [ho]
      unfold StepOK at hst
      rw [← hwant, ← he] at hst
      simp only
      split
      · rename_i hw
        rw [if_pos hw] at hst
        exact .inl (wp_of_upS hst hnextP)
      · rename_i hw
        rw [if_neg hw] at hst
        exact hnextP undef w (Below.refl _ _) hst

theorem wp_region_eff {id : Nat} {l : List Oper} {R : World → World → Prop} {T : Nat → Value → World → Prop} {J : Nat → Value → World → Prop} {es : List Nat} {a0 : Act} {w0 : World} (hm : P.follows .mixedOrders = true) (hok : okReg l a0.tmps.size = true) (hoe : okEff l es = true)
    (hRB : ∀ w w', Below w.heap.size w w' → R w w') (hRt : ∀ w w1 w2, R w w1 → R w1 w2 → R w w2)
    (hT : ∀ i, StableR R (T i)) (hTe : ∀ e, e ∈ es → ∀ v w, J (e + 1) v w → T e v w) (hJc : ∀ k, k ∉ es → J (k + 1) = J k) (hJs : ∀ k, Stable (J k)) (hJ0 : J 0 undef w0)
    (hstep : ∀ k o, l[k]? = some o → k ∉ es → ∀ (vs : Nat → Value) (w : World), R w0 w → (∀ j, j < k → waitsFor o j = true → T j (vs j) w) → StepOK P l.toArray (T k) o (putL (l.take k) 0 vs a0) w)
    (hstepE : ∀ k o, l[k]? = some o → k ∈ es → ∀ (vs : Nat → Value) (w : World), R w0 w → (∀ j, j < k → waitsFor o j = true → T j (vs j) w) → J k (lastV (prevE es k) vs) w → StepE P l.toArray R (J (k + 1)) o (putL (l.take k) 0 vs a0) w)
    (hQ : ∀ (vs : Nat → Value) (w : World), R w0 w → (∀ j, j < l.length → T j (vs j) w) → J l.length (lastV (prevE es l.length) vs) w → Q .normal (putL l 0 vs a0) w) :
    (Code.region id l.toArray true).wp P Q a0 w0 := by
  have hb := below_drewN (Below.refl w0.heap.size w0) 1
  refine wp_region_any hm (wpAny_eff hok hoe hRB hRt hT hTe hJc hJs hstep hstepE hQ _ _ _ _ ⟨hRB _ _ hb, rfl, rfl, by simp, fun _ _ => rfl, ?_, ?_, ?_⟩ ?_)
  · intro j o ho hl
    have hj : j < l.length := (List.getElem?_eq_some_iff.1 ho).1
    simp [hj] at hl
  · intro j d hj _ hl
    simp [hj] at hl
  · refine ⟨0, Nat.zero_le _, fun e he => ?_, hJs 0 _ _ _ hb hJ0⟩
    have h1 := List.all_eq_true.1 hoe e he
    rw [Bool.and_eq_true] at h1
    have h2 : e < l.length := by simpa using h1.1
    simp [h2]
  · exact Nat.le_trans List.countP_le_length (by simp)

/-- the walk of the text's order, with operations that write (es) -/
def RunE (P : Program) (Q : Exit → Act → World → Prop) (R : World → World → Prop) (es : List Nat) (l0 : List Oper) (a0 : Act) (w0 : World) : Nat → List Oper → List (Value → World → Prop) → (Value → World → Prop) → Prop
  | k, [], Ts, J => ∀ (vs : Nat → Value) (w : World), R w0 w → (∀ j, j < k → TR Ts k j (vs j) w) → J (lastV (prevE es k) vs) w → Q .normal (putL l0 0 vs a0) w
  | k, o :: r, Ts, J => (k ∉ es ∧ ∃ T, StableR R T ∧ (∀ (vs : Nat → Value) (w : World), R w0 w → (∀ j, j < k → waitsFor o j = true → TR Ts k j (vs j) w) → StepOK P l0.toArray T o (putL (l0.take k) 0 vs a0) w) ∧ RunE P Q R es l0 a0 w0 (k + 1) r (T :: Ts) J) ∨
      (k ∈ es ∧ ∃ J' T0, Stable J' ∧ StableR R T0 ∧ (∀ v w, J' v w → T0 v w) ∧ (∀ (vs : Nat → Value) (w : World), R w0 w → (∀ j, j < k → waitsFor o j = true → TR Ts k j (vs j) w) → J (lastV (prevE es k) vs) w → StepE P l0.toArray R J' o (putL (l0.take k) 0 vs a0) w) ∧ RunE P Q R es l0 a0 w0 (k + 1) r (T0 :: Ts) J')

theorem runE_spec {R : World → World → Prop} {es : List Nat} {l0 : List Oper} {a0 : Act} {w0 : World} : ∀ (r : List Oper) (k : Nat) (Ts : List (Value → World → Prop)) (J0 : Value → World → Prop), Ts.length = k → (∀ j, j < k → StableR R (TR Ts k j)) → Stable J0 → (∀ e, e ∈ es → e < k + r.length) → RunE P Q R es l0 a0 w0 k r Ts J0 →
    ∃ (T : Nat → Value → World → Prop) (J : Nat → Value → World → Prop), (∀ j, j < k → T j = TR Ts k j) ∧ J k = J0 ∧ (∀ i, StableR R (T i)) ∧ (∀ e, k ≤ e → e ∈ es → ∀ v w, J (e + 1) v w → T e v w) ∧ (∀ i, k ≤ i → i ∉ es → J (i + 1) = J i) ∧ (∀ i, k ≤ i → Stable (J i)) ∧
      (∀ i o, r[i]? = some o → k + i ∉ es → ∀ (vs : Nat → Value) (w : World), R w0 w → (∀ j, j < k + i → waitsFor o j = true → T j (vs j) w) → StepOK P l0.toArray (T (k + i)) o (putL (l0.take (k + i)) 0 vs a0) w) ∧
      (∀ i o, r[i]? = some o → k + i ∈ es → ∀ (vs : Nat → Value) (w : World), R w0 w → (∀ j, j < k + i → waitsFor o j = true → T j (vs j) w) → J (k + i) (lastV (prevE es (k + i)) vs) w → StepE P l0.toArray R (J (k + i + 1)) o (putL (l0.take (k + i)) 0 vs a0) w) ∧
      (∀ (vs : Nat → Value) (w : World), R w0 w → (∀ j, j < k + r.length → T j (vs j) w) → J (k + r.length) (lastV (prevE es (k + r.length)) vs) w → Q .normal (putL l0 0 vs a0) w)
  | [], k, Ts, J0, hl, hs, hj, hes, h => by
    refine ⟨fun j => if j < k then TR Ts k j else fun _ _ => True, fun _ => J0, fun j hj => by simp [hj], rfl, fun i => ?_, fun e he _ v w _ => by simp [show ¬ e < k by omega], fun _ _ _ => rfl, fun _ _ => hj, fun i o hi => by simp at hi, fun i o hi => by simp at hi, fun vs w hb hT hJ => ?_⟩
    · by_cases hi : i < k
      · simp only [hi, if_true]; exact hs i hi
      · simp only [hi, if_false]; exact fun _ _ _ _ _ => trivial
    · refine h vs w hb (fun j hj => ?_) hJ
      have := hT j (by simpa using hj)
      simpa [hj] using this
  | o :: r, k, Ts, J0, hl, hs, hj, hes, h => by
    have hTR : ∀ (T0 : Value → World → Prop) j, j < k → TR (T0 :: Ts) (k + 1) j = TR Ts k j := by
      intro T0 j hj
      unfold TR
      rw [show k + 1 - 1 - j = (k - 1 - j) + 1 by omega, List.getD_cons_succ]
    have hTk : ∀ T0 : Value → World → Prop, TR (T0 :: Ts) (k + 1) k = T0 := by intro T0; unfold TR; rw [show k + 1 - 1 - k = 0 by omega, List.getD_cons_zero]
    have hes' : ∀ e, e ∈ es → e < k + 1 + r.length := by intro e he; have := hes e he; simp at this; omega
    rcases h with ⟨hke, T0, hst, hstep, hrest⟩ | ⟨hke, J', T0, hst, hTst, hJT, hstep, hrest⟩
    · obtain ⟨T, J, h1, hJ0, h2, h2e, h2c, h2s, h3, h3e, h4⟩ := runE_spec r (k + 1) (T0 :: Ts) J0 (by simp [hl]) (fun j hj => by
        by_cases hjk : j = k
        · subst hjk; rw [hTk]; exact hst
        · rw [hTR T0 j (by omega)]; exact hs j (by omega)) hj hes' hrest
      have hT : ∀ j, j < k → T j = TR Ts k j := fun j hj => (h1 j (by omega)).trans (hTR T0 j hj)
      have hk : T k = T0 := (h1 k (by omega)).trans (hTk T0)
      obtain ⟨JJ, hJJk, hJJ⟩ : ∃ JJ : Nat → Value → World → Prop, JJ k = J0 ∧ ∀ i, i ≠ k → JJ i = J i := ⟨fun i => if i = k then J0 else J i, by simp, fun i h => by simp [h]⟩
      refine ⟨T, JJ, hT, hJJk, h2, fun e he hee v w hjv => ?_, fun i hi hie => ?_, fun i hi => ?_, fun i o' hi hie vs w hb hd => ?_, fun i o' hi hie vs w hb hd hJ => ?_, fun vs w hb hd hJ => h4 vs w hb (fun j hj => hd j (by simp; omega)) ?_⟩
      · rw [hJJ _ (by omega)] at hjv
        exact h2e e (by rcases Nat.lt_or_ge k e with h | h; omega; exact absurd hee (by rw [show e = k by omega]; exact hke)) hee v w hjv
      · by_cases hik : i = k
        · rw [hik, hJJk, hJJ _ (by omega), hJ0]
        · rw [hJJ _ hik, hJJ _ (by omega)]; exact h2c i (by omega) hie
      · by_cases hik : i = k
        · rw [hik, hJJk]; exact hj
        · rw [hJJ _ hik]; exact h2s i (by omega)
      · cases i with
        | zero =>
          simp at hi; subst hi
          rw [Nat.add_zero, hk]
          exact hstep vs w hb (fun j hj hw => by rw [← hT j hj]; exact hd j (by omega) hw)
        | succ i =>
          have := h3 i o' (by simpa using hi) (by rw [show k + 1 + i = k + (i + 1) by omega]; exact hie) vs w hb (fun j hj hw => hd j (by omega) hw)
          rwa [show k + 1 + i = k + (i + 1) by omega] at this
      · cases i with
        | zero => exact absurd hie hke
        | succ i =>
          rw [hJJ _ (by omega)] at hJ ⊢
          have := h3e i o' (by simpa using hi) (by rw [show k + 1 + i = k + (i + 1) by omega]; exact hie) vs w hb (fun j hj hw => hd j (by omega) hw) (by rw [show k + 1 + i = k + (i + 1) by omega]; exact hJ)
          rwa [show k + 1 + i = k + (i + 1) by omega] at this
      · rw [hJJ _ (by simp)] at hJ
        rw [show k + 1 + r.length = k + (o :: r).length by simp; omega]
        exact hJ
    · obtain ⟨T, J, h1, hJ0, h2, h2e, h2c, h2s, h3, h3e, h4⟩ := runE_spec r (k + 1) (T0 :: Ts) J' (by simp [hl]) (fun j hj => by
        by_cases hjk : j = k
        · subst hjk; rw [hTk]; exact hTst
        · rw [hTR _ j (by omega)]; exact hs j (by omega)) hst hes' hrest
      have hT : ∀ j, j < k → T j = TR Ts k j := fun j hj => (h1 j (by omega)).trans (hTR _ j hj)
      have hk : T k = T0 := (h1 k (by omega)).trans (hTk _)
      obtain ⟨JJ, hJJk, hJJ⟩ : ∃ JJ : Nat → Value → World → Prop, JJ k = J0 ∧ ∀ i, i ≠ k → JJ i = J i := ⟨fun i => if i = k then J0 else J i, by simp, fun i h => by simp [h]⟩
      refine ⟨T, JJ, hT, hJJk, h2, fun e he hee v w hjv => ?_, fun i hi hie => ?_, fun i hi => ?_, fun i o' hi hie vs w hb hd => ?_, fun i o' hi hie vs w hb hd hJ => ?_, fun vs w hb hd hJ => h4 vs w hb (fun j hj => hd j (by simp; omega)) ?_⟩
      · rw [hJJ _ (by omega)] at hjv
        by_cases hek : e = k
        · rw [hek, hk]
          rw [hek, hJ0] at hjv
          exact hJT v w hjv
        · exact h2e e (by omega) hee v w hjv
      · by_cases hik : i = k
        · exact absurd hke (by rw [← hik]; exact hie)
        · rw [hJJ _ hik, hJJ _ (by omega)]; exact h2c i (by omega) hie
      · by_cases hik : i = k
        · rw [hik, hJJk]; exact hj
        · rw [hJJ _ hik]; exact h2s i (by omega)
      · cases i with
        | zero => exact absurd hke hie
        | succ i =>
          have := h3 i o' (by simpa using hi) (by rw [show k + 1 + i = k + (i + 1) by omega]; exact hie) vs w hb (fun j hj hw => hd j (by omega) hw)
          rwa [show k + 1 + i = k + (i + 1) by omega] at this
      · cases i with
        | zero =>
          simp at hi; subst hi
          rw [Nat.add_zero, hJJ _ (by omega), hJ0]
          rw [Nat.add_zero, hJJk] at hJ
          exact hstep vs w hb (fun j hj hw => by rw [← hT j hj]; exact hd j (by omega) hw) hJ
        | succ i =>
          rw [hJJ _ (by omega)] at hJ ⊢
          have := h3e i o' (by simpa using hi) (by rw [show k + 1 + i = k + (i + 1) by omega]; exact hie) vs w hb (fun j hj hw => hd j (by omega) hw) (by rw [show k + 1 + i = k + (i + 1) by omega]; exact hJ)
          rwa [show k + 1 + i = k + (i + 1) by omega] at this
      · rw [hJJ _ (by simp)] at hJ
        rw [show k + 1 + r.length = k + (o :: r).length by simp; omega]
        exact hJ

theorem wp_region_runE {id : Nat} {R : World → World → Prop} {l : List Oper} {a0 : Act} {w0 : World} (es : List Nat) (J0 : Value → World → Prop) (hm : P.follows .mixedOrders = true) (hok : okReg l a0.tmps.size = true) (hoe : okEff l es = true)
    (hRB : ∀ w w', Below w.heap.size w w' → R w w') (hRt : ∀ w w1 w2, R w w1 → R w1 w2 → R w w2) (hJs : Stable J0) (hJ0 : J0 undef w0) (h : RunE P Q R es l a0 w0 0 l [] J0) :
    (Code.region id l.toArray true).wp P Q a0 w0 := by
  have hlt : ∀ e, e ∈ es → e < 0 + l.length := by
    intro e he
    have h1 := List.all_eq_true.1 hoe e he
    rw [Bool.and_eq_true] at h1
    have h2 : e < l.length := by simpa using h1.1
    omega
  obtain ⟨T, J, _, hj0, h2, h2e, h2c, h2s, h3, h3e, h4⟩ := runE_spec l 0 [] J0 rfl (fun j hj => by omega) hJs hlt h
  refine wp_region_eff hm hok hoe hRB hRt h2 (fun e he => h2e e (Nat.zero_le _) he) (fun k hk => h2c k (Nat.zero_le _) hk) (fun k => h2s k (Nat.zero_le _)) (by rw [hj0]; exact hJ0) (fun k o ho hke vs w hb hd => ?_) (fun k o ho hke vs w hb hd hJ => ?_) (fun vs w hb hd hJ => h4 vs w hb (fun j hj => hd j (by omega)) (by rw [Nat.zero_add]; exact hJ))
  · have := h3 k o ho (by rw [Nat.zero_add]; exact hke) vs w hb (fun j hj => hd j (by omega))
    rwa [Nat.zero_add] at this
  · have := h3e k o ho (by rw [Nat.zero_add]; exact hke) vs w hb (fun j hj => hd j (by omega)) (by rw [Nat.zero_add]; exact hJ)
    rwa [Nat.zero_add] at this

section
variable {R : World → World → Prop} {es : List Nat} {l0 : List Oper} {a0 : Act} {w0 : World} {k : Nat} {o : Oper} {r : List Oper} {Ts : List (Value → World → Prop)} {J : Value → World → Prop}
theorem isV_stableR (c : Value) : StableR R (isV c) := fun _ _ _ _ h => h
theorem RunE.pure {c : Value} (hk : k ∉ es)
    (h : ∀ (vs : Nat → Value) (w : World), R w0 w → (∀ j, j < k → waitsFor o j = true → TR Ts k j (vs j) w) → StepOK P l0.toArray (isV c) o (putL (l0.take k) 0 vs a0) w)
    (hr : RunE P Q R es l0 a0 w0 (k + 1) r (isV c :: Ts) J) : RunE P Q R es l0 a0 w0 k (o :: r) Ts J := .inl ⟨hk, isV c, isV_stableR c, h, hr⟩
theorem RunE.such (hk : k ∉ es) (T : Value → World → Prop) (hT : StableR R T)
    (h : ∀ (vs : Nat → Value) (w : World), R w0 w → (∀ j, j < k → waitsFor o j = true → TR Ts k j (vs j) w) → StepOK P l0.toArray T o (putL (l0.take k) 0 vs a0) w)
    (hr : RunE P Q R es l0 a0 w0 (k + 1) r (T :: Ts) J) : RunE P Q R es l0 a0 w0 k (o :: r) Ts J := .inl ⟨hk, T, hT, h, hr⟩
theorem RunE.eff (hk : k ∈ es) (J' : Value → World → Prop) (hJ : Stable J')
    (h : ∀ (vs : Nat → Value) (w : World), R w0 w → (∀ j, j < k → waitsFor o j = true → TR Ts k j (vs j) w) → J (lastV (prevE es k) vs) w → StepE P l0.toArray R J' o (putL (l0.take k) 0 vs a0) w)
    (hr : RunE P Q R es l0 a0 w0 (k + 1) r ((fun _ _ => True) :: Ts) J') : RunE P Q R es l0 a0 w0 k (o :: r) Ts J := .inr ⟨hk, J', _, hJ, fun _ _ _ _ _ => trivial, fun _ _ _ => trivial, h, hr⟩
/-- as eff, and its value is kept -/
theorem RunE.effV {c : Value} (hk : k ∈ es) (J' : Value → World → Prop) (hJ : Stable J') (hc : ∀ v w, J' v w → v = c)
    (h : ∀ (vs : Nat → Value) (w : World), R w0 w → (∀ j, j < k → waitsFor o j = true → TR Ts k j (vs j) w) → J (lastV (prevE es k) vs) w → StepE P l0.toArray R J' o (putL (l0.take k) 0 vs a0) w)
    (hr : RunE P Q R es l0 a0 w0 (k + 1) r (isV c :: Ts) J') : RunE P Q R es l0 a0 w0 k (o :: r) Ts J := .inr ⟨hk, J', isV c, hJ, isV_stableR c, hc, h, hr⟩
end
end
end Go.Proofs.YtemegkapmgcffaaGreat

/- As RegionE, and some of those that write have no slot for a value (stores). -/
namespace Go.Proofs.YtemegkapmgcffaaGreat
open Go.RowKit
set_option linter.unusedSimpArgs false
set_option linter.unusedVariables false

section
variable {P : Program} {Q : Exit → Act → World → Prop}

/-- as okReg; only those that write (es) may lack a slot -/
def okRegN (l : List Oper) (n : Nat) (es : List Nat) : Bool := Region.noSelect l.toArray && (List.range l.length).all fun k => match l[k]? with
  | none => false
  | some o => (match o.dst with | some d => decide (d < n) | none => decide (k ∈ es)) &&
    (List.range l.length).all (fun j => j == k || o.dst.isNone || dstAt l j != o.dst) &&
    o.after.all (fun e => !Region.binds .any e || decide (e.on < k)) &&
    (o.looksAt l.toArray).all (fun t => oldB l k t || (List.range k).any (fun j => waitsFor o j && dstAt l j == some t))
theorem okRegN_spec {l : List Oper} {n : Nat} {es : List Nat} (h : okRegN l n es = true) : Region.noSelect l.toArray = true ∧ ∀ k o, l[k]? = some o →
    ((∀ d, o.dst = some d → d < n) ∧ (o.dst = none → k ∈ es)) ∧ (∀ d, o.dst = some d → ∀ j, j ≠ k → dstAt l j ≠ some d) ∧ (∀ e ∈ o.after, Region.binds .any e = true → e.on < k) ∧
    (∀ t ∈ o.looksAt l.toArray, oldB l k t = true ∨ ∃ j, j < k ∧ waitsFor o j = true ∧ dstAt l j = some t) := by
  unfold okRegN at h
  rw [Bool.and_eq_true] at h
  refine ⟨h.1, fun k o ho => ?_⟩
  have hk : k < l.length := (List.getElem?_eq_some_iff.1 ho).1
  have h2 := List.all_eq_true.1 h.2 k (List.mem_range.2 hk)
  rw [ho] at h2
  simp only [Bool.and_eq_true] at h2
  obtain ⟨⟨⟨h3, h4⟩, h5⟩, h6⟩ := h2
  refine ⟨⟨fun d hd => ?_, fun hd => ?_⟩, fun d hd j hj he => ?_, fun e he hb => ?_, fun t ht => ?_⟩
  · rw [hd] at h3; simpa using h3
  · rw [hd] at h3; simpa using h3
  · have hjl : j < l.length := by
      apply Classical.byContradiction
      intro hn
      rw [dstAt, List.getElem?_eq_none (by omega)] at he
      cases he
    have := List.all_eq_true.1 h4 j (List.mem_range.2 hjl)
    simp [hj, he, hd] at this
  · have := Array.all_eq_true'.1 h5 e he
    simpa [hb] using this
  · have := List.all_eq_true.1 h6 t ht
    rw [Bool.or_eq_true] at this
    rcases this with h | h
    · exact .inl h
    · obtain ⟨j, hj, hh⟩ := List.any_eq_true.1 h
      rw [Bool.and_eq_true] at hh
      exact .inr ⟨j, List.mem_range.1 hj, hh.1, by simpa using hh.2⟩

theorem wpAny_effN {l : List Oper} {R : World → World → Prop} {T : Nat → Value → World → Prop} {J : Nat → Value → World → Prop} {es : List Nat} {a0 : Act} {w0 : World} (hok : okRegN l a0.tmps.size es = true) (hoe : okEff l es = true)
    (hRB : ∀ w w', Below w.heap.size w w' → R w w') (hRt : ∀ w w1 w2, R w w1 → R w1 w2 → R w w2)
    (hT : ∀ i, StableR R (T i)) (hTe : ∀ e o, l[e]? = some o → e ∈ es → (∀ v w, J (e + 1) v w → T e v w) ∧ (o.dst = none → ∀ v w, T e v w)) (hJc : ∀ k, k ∉ es → J (k + 1) = J k) (hJs : ∀ k, Stable (J k)) (hJn : ∀ k o, l[k]? = some o → k ∈ es → o.dst = none → ∀ u v w, J (k + 1) u w → J (k + 1) v w)
    (hstep : ∀ k o, l[k]? = some o → k ∉ es → ∀ (vs : Nat → Value) (w : World), R w0 w → (∀ j, j < k → waitsFor o j = true → T j (vs j) w) → StepOK P l.toArray (T k) o (putL (l.take k) 0 vs a0) w)
    (hstepE : ∀ k o, l[k]? = some o → k ∈ es → ∀ (vs : Nat → Value) (w : World), R w0 w → (∀ j, j < k → waitsFor o j = true → T j (vs j) w) → J k (lastV (prevE es k) vs) w → StepE P l.toArray R (J (k + 1)) o (putL (l.take k) 0 vs a0) w)
    (hQ : ∀ (vs : Nat → Value) (w : World), R w0 w → (∀ j, j < l.length → T j (vs j) w) → J l.length (lastV (prevE es l.length) vs) w → Q .normal (putL l 0 vs a0) w) :
    ∀ (fuel : Nat) (listed : Array Bool) (a : Act) (w : World), EInv l R T J es a0 w0 listed a w → (List.range l.length).countP (fun i => !listed.getD i true) ≤ fuel → wpAny P .any l.toArray Q fuel listed a w := by
  obtain ⟨hsel, hspec⟩ := okRegN_spec hok
  have hes : ∀ k ∈ es, k < l.length ∧ ∀ e ∈ es, e < k → ∀ o, l[k]? = some o → waitsFor o e = true := by
    intro k hk
    have h1 := List.all_eq_true.1 hoe k hk
    rw [Bool.and_eq_true] at h1
    refine ⟨by simpa using h1.1, fun e he hlt o ho => ?_⟩
    have h2 := List.all_eq_true.1 h1.2 e he
    simpa [hlt, ho] using h2
  -- all have come up: the end
  have fin : ∀ (listed : Array Bool) (a : Act) (w : World), EInv l R T J es a0 w0 listed a w → Region.ready .any l.toArray listed = [] → Q .normal a w := by
    intro listed a w hI hr
    have hall : ∀ j, j < l.length → listed.getD j true = true := by
      intro j
      induction j using Nat.strongRecOn with
      | ind j ih =>
        intro hj
        apply Classical.byContradiction
        intro hn
        have hmem : j ∈ Region.ready .any l.toArray listed := by
          rw [mem_ready]
          refine ⟨by simpa using hn, l[j], by simp [hj], fun e he hb => ?_⟩
          have hlt := (hspec j l[j] (by simp [hj])).2.2.1 e he hb
          have h1 := ih e.on hlt (by omega)
          have hs : e.on < listed.size := by rw [hI.lsize]; omega
          simpa [hs] using h1
        rw [hr] at hmem; cases hmem
    have hTs : ∀ j, j < l.length → T j (valOf l a j) w := by
      intro j hj
      cases hd : l[j].dst with
      | none => exact (hTe j l[j] (by simp [hj]) ((hspec j l[j] (by simp [hj])).1.2 hd)).2 hd _ _
      | some d =>
        have hda : dstAt l j = some d := by simp [dstAt, hj, hd]
        have := hI.done j d hj hda (hall j hj)
        simp only [valOf, hda]; exact this
    have ha : a = putL l 0 (valOf l a) a0 := by
      have h1 : a.tmps = (putL l 0 (valOf l a) a0).tmps := by
        apply Array.ext
        · rw [putL_size, hI.size]
        · intro t h1 h2
          have key : a.tmps.getD t undef = (putL l 0 (valOf l a) a0).tmps.getD t undef := by
            by_cases hw : ∃ j, dstAt l j = some t
            · obtain ⟨j, hj⟩ := hw
              have hjl : j < l.length := by
                apply Classical.byContradiction; intro hn
                rw [dstAt, List.getElem?_eq_none (by omega)] at hj; cases hj
              have hdj : l[j].dst = some t := by simpa [dstAt, hjl] using hj
              rw [putL_at l 0 (valOf l a) a0 j t hj (fun i hi => (hspec j l[j] (by simp [hjl])).2.1 t hdj i hi) (by rw [← hI.size]; exact h1)]
              simp only [valOf, Nat.zero_add, hj]
            · rw [putL_old l 0 (valOf l a) a0 t (fun j hj => hw ⟨j, hj⟩)]
              exact hI.old t (fun j hj => absurd ⟨j, hj⟩ hw)
          simpa [h1, h2] using key
      have h2 : a.defers = (putL l 0 (valOf l a) a0).defers := by rw [putL_defers, hI.defers]
      generalize putL l 0 (valOf l a) a0 = b at h1 h2
      cases a; cases b; simp only at h1 h2; rw [h1, h2]
    obtain ⟨q, hq, hql, hJ⟩ := hI.eff
    have hgap : ∀ e ∈ es, q ≤ e → q + (l.length - q) ≤ e := by
      intro e he hqe
      have := (hql e he).1 (hall e (hes e he).1)
      omega
    have e1 := J_gap es hJc q (l.length - q) hgap
    have e2 := prevE_gap es q (l.length - q) hgap
    rw [show q + (l.length - q) = l.length by omega] at e1 e2
    rw [← e1, ← e2] at hJ
    rw [ha]
    exact hQ _ w hI.rel hTs hJ
  intro fuel
  induction fuel with
  | zero =>
    intro listed a w hI hc
    have hr : Region.ready .any l.toArray listed = [] := by
      apply List.eq_nil_iff_forall_not_mem.2
      intro j hj
      obtain ⟨h0, o, ho, _⟩ := mem_ready.1 hj
      have hjl : j < l.length := by simpa using (Array.getElem?_eq_some_iff.1 ho).1
      have : 0 < (List.range l.length).countP (fun i => !listed.getD i true) := List.countP_pos_iff.2 ⟨j, List.mem_range.2 hjl, by rw [h0]; rfl⟩
      omega
    exact ⟨hr, fin _ _ _ hI hr⟩
  | succ fuel ih =>
    intro listed a w hI hc
    refine ⟨fin _ _ _ hI, fun k hk => ?_⟩
    obtain ⟨h0, o, ho, hdeps⟩ := mem_ready.1 hk
    have hol : l[k]? = some o := by simpa using ho
    have hkl : k < l.length := (List.getElem?_eq_some_iff.1 hol).1
    obtain ⟨⟨hdn, hnone⟩, huniq, hafter, hlook⟩ := hspec k o hol
    have hlisted : ∀ j, waitsFor o j = true → listed.getD j true = true ∧ j < k := by
      intro j hj
      obtain ⟨e, he, hb⟩ := Array.any_eq_true'.1 hj
      rw [Bool.and_eq_true] at hb
      have hon : e.on = j := by simpa using hb.2
      have h1 := hdeps e he hb.1
      have h2 := hafter e he hb.1
      rw [hon] at h1 h2
      have hs : j < listed.size := by rw [hI.lsize]; omega
      exact ⟨by simpa [hs] using h1, h2⟩
    have hTs : ∀ j, j < k → waitsFor o j = true → T j (valOf l a j) w := by
      intro j hj hw
      have hjl : j < l.length := by omega
      cases hd' : l[j].dst with
      | none => exact (hTe j l[j] (by simp [hjl]) ((hspec j l[j] (by simp [hjl])).1.2 hd')).2 hd' _ _
      | some d' =>
        have hda : dstAt l j = some d' := by simp [dstAt, hjl, hd']
        have := hI.done j d' (by omega) hda (hlisted j hw).1
        simp only [valOf, hda]; exact this
    -- it looks at slots that are the same here and there
    have hslot : ∀ t ∈ o.looksAt l.toArray, a.tmps.getD t undef = (putL (l.take k) 0 (valOf l a) a0).tmps.getD t undef := by
      intro t ht
      rcases hlook t ht with hold | ⟨j, hjk, hwj, hdj⟩
      · have hnot : ∀ j, dstAt l j = some t → ∀ o', l[j]? = some o' → waitsFor o' k = true := by
          intro j hj o' ho'
          have hjl : j < l.length := (List.getElem?_eq_some_iff.1 ho').1
          have := List.all_eq_true.1 hold j (List.mem_range.2 hjl)
          simpa [hj, ho'] using this
        rw [hI.old t (fun j hj => ?_), putL_old _ _ _ _ _ (fun j hj => ?_)]
        · have hjl : j < l.length := by
            apply Classical.byContradiction; intro hn
            rw [dstAt, List.getElem?_take] at hj
            split at hj
            · omega
            · cases hj
          have hj' : dstAt l j = some t := by
            rw [dstAt, List.getElem?_take] at hj
            split at hj
            · exact hj
            · cases hj
          have hjk : j < k := by
            apply Classical.byContradiction; intro hn
            rw [dstAt, List.getElem?_take, if_neg hn] at hj; cases hj
          have hw := hnot j hj' l[j] (by simp [hjl])
          obtain ⟨e, he, hb⟩ := Array.any_eq_true'.1 hw
          rw [Bool.and_eq_true] at hb
          have hon : e.on = k := by simpa using hb.2
          have := (hspec j l[j] (by simp [hjl])).2.2.1 e he hb.1
          omega
        · have hjl : j < l.length := by
            apply Classical.byContradiction; intro hn
            rw [dstAt, List.getElem?_eq_none (by omega)] at hj; cases hj
          have hw := hnot j hj l[j] (by simp [hjl])
          cases hl : listed.getD j true with
          | false => rfl
          | true => exact absurd (hI.closed j l[j] (by simp [hjl]) hl k hw) (by rw [h0]; simp)
      · have hjl : j < l.length := by omega
        have hdj' : l[j].dst = some t := by simpa [dstAt, hjl] using hdj
        have h1 : dstAt (l.take k) j = some t := by rw [dstAt, List.getElem?_take, if_pos hjk]; exact hdj
        have h2 : ∀ i, i ≠ j → dstAt (l.take k) i ≠ some t := by
          intro i hi hh
          rw [dstAt, List.getElem?_take] at hh
          split at hh
          · exact (hspec j l[j] (by simp [hjl])).2.1 t hdj' i hi hh
          · cases hh
        have h3 : t < a0.tmps.size := (hspec j l[j] (by simp [hjl])).1.1 t hdj'
        rw [putL_at _ 0 (valOf l a) a0 j t h1 h2 h3]
        simp only [valOf, Nat.zero_add, hdj]
    have he : execOp a.eval o = execOp (putL (l.take k) 0 (valOf l a) a0).eval o := execOp_congr o (fun cs b => Region.noSelect_spec hsel k o cs b ho) fun x hx => by
      cases x with
      | tmp t => exact hslot t (List.mem_append_left _ (List.mem_filterMap.2 ⟨.tmp t, by simpa using hx, rfl⟩))
      | const v => rfl
      | global g => rfl
      | func f => rfl
    have hwant : Region.wanted o (yielded l.toArray a.tmps) = Region.wanted o (yielded l.toArray (putL (l.take k) 0 (valOf l a) a0).tmps) := by
      unfold Region.wanted
      cases hg : o.guard with
      | none => rfl
      | some gw =>
        obtain ⟨g, want⟩ := gw
        have hy : yielded l.toArray a.tmps g = yielded l.toArray (putL (l.take k) 0 (valOf l a) a0).tmps g := by
          unfold yielded
          cases ht : ((l.toArray)[g]?).bind (·.dst) with
          | none => rfl
          | some t =>
            have hs := hslot t (List.mem_append_right _ (by rw [hg]; simpa using ht))
            have hsz : a.tmps.size = (putL (l.take k) 0 (valOf l a) a0).tmps.size := (hI.size).trans (putL_size _ _ _ _).symm
            have h2 : a.tmps[t]? = (putL (l.take k) 0 (valOf l a) a0).tmps[t]? := by
              by_cases hlt : t < a.tmps.size
              · have hlt2 : t < (putL (l.take k) 0 (valOf l a) a0).tmps.size := hsz ▸ hlt
                simp [hlt, hlt2] at hs ⊢; exact hs
              · rw [Array.getElem?_eq_none (Nat.le_of_not_lt hlt), Array.getElem?_eq_none (hsz ▸ Nat.le_of_not_lt hlt)]
            simp only [Option.bind_some, h2]
        simp only [hy]
    have hks : k < listed.size := by rw [hI.lsize]; exact hkl
    have hset : ∀ j, (listed.setIfInBounds k true).getD j true = if j = k then true else listed.getD j true := by
      intro j
      by_cases hj : j = k
      · subst hj; simp [hks]
      · rw [if_neg hj, getD_set_ne true (Ne.symm hj)]
    have hval : ∀ v j, j ≠ k → valOf l (a.put o.dst v) j = valOf l a j := by
      intro v j hj
      unfold valOf
      cases hdj : dstAt l j with
      | none => rfl
      | some d' => exact put_other _ _ _ _ (fun h => huniq d' h j hj hdj)
    have hvalk : ∀ v d, o.dst = some d → valOf l (a.put o.dst v) k = v := by
      intro v d hd
      have hdk : dstAt l k = some d := by simp [dstAt, hol, hd]
      unfold valOf
      simp only [hdk, hd]
      exact put_at _ _ _ (by rw [hI.size]; exact hdn d hd)
    have hcnt : (List.range l.length).countP (fun i => !(listed.setIfInBounds k true).getD i true) ≤ fuel := by
      have := cnt_set (fun i => !listed.getD i true) (fun i => !(listed.setIfInBounds k true).getD i true) k (by simp only [h0]; rfl) (by simp only [hset]; simp) (fun j hj => by simp only [hset, if_neg hj]) l.length hkl
      omega
    -- what is left holds behind it
    have hnext : ∀ v w', R w w' → T k v w' → (∃ q, q ≤ l.length ∧ (∀ e ∈ es, (listed.setIfInBounds k true).getD e true = true ↔ e < q) ∧ J q (lastV (prevE es q) (valOf l (a.put o.dst v))) w') → wpAny P .any l.toArray Q fuel (listed.setIfInBounds k true) (a.put o.dst v) w' := by
      intro v w' hr hv heff
      apply ih
      · refine ⟨hRt _ _ _ hI.rel hr, by rw [put_defers]; exact hI.defers, by rw [put_size]; exact hI.size, by simpa using hI.lsize, ?_, ?_, ?_, heff⟩
        · intro t ht
          rw [put_other]
          · apply hI.old
            intro j hj
            have := ht j hj
            rw [hset] at this
            split at this
            · cases this
            · exact this
          · intro hdt
            have := ht k (by simp [dstAt, hol, hdt])
            rw [hset, if_pos rfl] at this; cases this
        · intro j o' ho' hl i hi
          rw [hset] at hl ⊢
          by_cases hik : i = k
          · rw [if_pos hik]
          · rw [if_neg hik]
            by_cases hjk : j = k
            · subst hjk; rw [hol] at ho'; cases ho'; exact (hlisted i hi).1
            · rw [if_neg hjk] at hl; exact hI.closed j o' ho' hl i hi
        · intro j d' hj hdj hl
          by_cases hjk : j = k
          · subst hjk
            have : o.dst = some d' := by simpa [dstAt, hol] using hdj
            rw [this, put_at _ _ _ (by rw [hI.size]; exact hdn d' this)]
            exact hv
          · rw [hset, if_neg hjk] at hl
            rw [put_other _ _ _ _ (fun h => huniq d' h j hjk hdj)]
            exact hT j _ _ _ hr (hI.done j d' hj hdj hl)
      · exact hcnt
    obtain ⟨q, hq, hql, hJ⟩ := hI.eff
    have hnlk : listed.getD k true ≠ true := by rw [h0]; simp
    by_cases hke : k ∈ es
    · -- one that writes
      have hqk : q ≤ k := by
        apply Classical.byContradiction
        intro hn
        exact hnlk ((hql k hke).2 (by omega))
      have hgap : ∀ e ∈ es, q ≤ e → q + (k - q) ≤ e := by
        intro e he hqe
        apply Classical.byContradiction
        intro hn
        have hw := (hes k hke).2 e he (by omega) o hol
        have := (hql e he).1 (hlisted e hw).1
        omega
      have e1 := J_gap es hJc q (k - q) hgap
      have e2 := prevE_gap es q (k - q) hgap
      rw [show q + (k - q) = k by omega] at e1 e2
      rw [← e1, ← e2] at hJ
      have hst := hstepE k o hol hke (valOf l a) w hI.rel hTs hJ
      have hnextE : ∀ v w', R w w' → J (k + 1) v w' → wpAny P .any l.toArray Q fuel (listed.setIfInBounds k true) (a.put o.dst v) w' := by
        intro v w' hr hj
        refine hnext v w' hr ((hTe k o hol hke).1 v w' hj) ⟨k + 1, by omega, fun e he => ?_, ?_⟩
        · rw [hset]
          by_cases hek : e = k
          · rw [if_pos hek, hek]; simp
          · rw [if_neg hek, hql e he]
            constructor
            · intro h; omega
            · intro h
              have hw := (hes k hke).2 e he (by omega) o hol
              exact (hql e he).1 (hlisted e hw).1
        · rw [prevE, if_pos hke, lastV]
          cases hd : o.dst with
          | none => exact hJn k o hol hke hd _ _ _ hj
          | some d => rw [← hd, hvalk v d hd]; exact hj
      unfold wpOp
      rw [ho]
      unfold StepE at hst
      rw [← hwant, ← he] at hst
      simp only
      split
      · rename_i hw
        rw [if_pos hw] at hst
        exact .inl (wp_of_upE hRt hst hnextE)
      · rename_i hw
        rw [if_neg hw] at hst
        exact hnextE undef w (hRB _ _ (Below.refl _ _)) hst
    · have hst := hstep k o hol hke (valOf l a) w hI.rel hTs
      have hnextP : ∀ v w', Below w.heap.size w w' → T k v w' → wpAny P .any l.toArray Q fuel (listed.setIfInBounds k true) (a.put o.dst v) w' := by
        intro v w' hb hv
        refine hnext v w' (hRB _ _ hb) hv ⟨q, hq, fun e he => ?_, ?_⟩
        · rw [hset, if_neg (show e ≠ k from fun h => hke (h ▸ he))]; exact hql e he
        · have hlv : lastV (prevE es q) (valOf l (a.put o.dst v)) = lastV (prevE es q) (valOf l a) := by
            unfold lastV
            cases hp : prevE es q with
            | none => rfl
            | some p => exact hval v p (show p ≠ k from fun h => hke (h ▸ (prevE_lt es q p hp).2))
          rw [hlv]
          exact hJs q _ _ _ hb hJ
      unfold wpOp
      rw [ho]
      unfold StepOK at hst
      rw [← hwant, ← he] at hst
      simp only
      split
      · rename_i hw
        rw [if_pos hw] at hst
        exact .inl (wp_of_upS hst hnextP)
      · rename_i hw
        rw [if_neg hw] at hst
        exact hnextP undef w (Below.refl _ _) hst

theorem wp_region_effN {id : Nat} {l : List Oper} {R : World → World → Prop} {T : Nat → Value → World → Prop} {J : Nat → Value → World → Prop} {es : List Nat} {a0 : Act} {w0 : World} (hm : P.follows .mixedOrders = true) (hok : okRegN l a0.tmps.size es = true) (hoe : okEff l es = true)
    (hRB : ∀ w w', Below w.heap.size w w' → R w w') (hRt : ∀ w w1 w2, R w w1 → R w1 w2 → R w w2)
    (hT : ∀ i, StableR R (T i)) (hTe : ∀ e o, l[e]? = some o → e ∈ es → (∀ v w, J (e + 1) v w → T e v w) ∧ (o.dst = none → ∀ v w, T e v w)) (hJc : ∀ k, k ∉ es → J (k + 1) = J k) (hJs : ∀ k, Stable (J k)) (hJn : ∀ k o, l[k]? = some o → k ∈ es → o.dst = none → ∀ u v w, J (k + 1) u w → J (k + 1) v w) (hJ0 : J 0 undef w0)
    (hstep : ∀ k o, l[k]? = some o → k ∉ es → ∀ (vs : Nat → Value) (w : World), R w0 w → (∀ j, j < k → waitsFor o j = true → T j (vs j) w) → StepOK P l.toArray (T k) o (putL (l.take k) 0 vs a0) w)
    (hstepE : ∀ k o, l[k]? = some o → k ∈ es → ∀ (vs : Nat → Value) (w : World), R w0 w → (∀ j, j < k → waitsFor o j = true → T j (vs j) w) → J k (lastV (prevE es k) vs) w → StepE P l.toArray R (J (k + 1)) o (putL (l.take k) 0 vs a0) w)
    (hQ : ∀ (vs : Nat → Value) (w : World), R w0 w → (∀ j, j < l.length → T j (vs j) w) → J l.length (lastV (prevE es l.length) vs) w → Q .normal (putL l 0 vs a0) w) :
    (Code.region id l.toArray true).wp P Q a0 w0 := by
  have hb := below_drewN (Below.refl w0.heap.size w0) 1
  refine wp_region_any hm (wpAny_effN hok hoe hRB hRt hT hTe hJc hJs hJn hstep hstepE hQ _ _ _ _ ⟨hRB _ _ hb, rfl, rfl, by simp, fun _ _ => rfl, ?_, ?_, ?_⟩ ?_)
  · intro j o ho hl
    have hj : j < l.length := (List.getElem?_eq_some_iff.1 ho).1
    simp [hj] at hl
  · intro j d hj _ hl
    simp [hj] at hl
  · refine ⟨0, Nat.zero_le _, fun e he => ?_, hJs 0 _ _ _ hb hJ0⟩
    have h1 := List.all_eq_true.1 hoe e he
    rw [Bool.and_eq_true] at h1
    have h2 : e < l.length := by simpa using h1.1
    simp [h2]
  · exact Nat.le_trans List.countP_le_length (by simp)

/-- the walk of the text's order, with operations that write (es) -/
def RunN (P : Program) (Q : Exit → Act → World → Prop) (R : World → World → Prop) (es : List Nat) (l0 : List Oper) (a0 : Act) (w0 : World) : Nat → List Oper → List (Value → World → Prop) → (Value → World → Prop) → Prop
  | k, [], Ts, J => ∀ (vs : Nat → Value) (w : World), R w0 w → (∀ j, j < k → TR Ts k j (vs j) w) → J (lastV (prevE es k) vs) w → Q .normal (putL l0 0 vs a0) w
  | k, o :: r, Ts, J => (k ∉ es ∧ ∃ T, StableR R T ∧ (∀ (vs : Nat → Value) (w : World), R w0 w → (∀ j, j < k → waitsFor o j = true → TR Ts k j (vs j) w) → StepOK P l0.toArray T o (putL (l0.take k) 0 vs a0) w) ∧ RunN P Q R es l0 a0 w0 (k + 1) r (T :: Ts) J) ∨
      (k ∈ es ∧ ∃ J' T0, Stable J' ∧ StableR R T0 ∧ (∀ v w, J' v w → T0 v w) ∧ (o.dst = none → ∀ v w, T0 v w) ∧ (o.dst = none → ∀ u v w, J' u w → J' v w) ∧ (∀ (vs : Nat → Value) (w : World), R w0 w → (∀ j, j < k → waitsFor o j = true → TR Ts k j (vs j) w) → J (lastV (prevE es k) vs) w → StepE P l0.toArray R J' o (putL (l0.take k) 0 vs a0) w) ∧ RunN P Q R es l0 a0 w0 (k + 1) r (T0 :: Ts) J')

theorem runN_spec {R : World → World → Prop} {es : List Nat} {l0 : List Oper} {a0 : Act} {w0 : World} : ∀ (r : List Oper) (k : Nat) (Ts : List (Value → World → Prop)) (J0 : Value → World → Prop), Ts.length = k → (∀ j, j < k → StableR R (TR Ts k j)) → Stable J0 → (∀ e, e ∈ es → e < k + r.length) → RunN P Q R es l0 a0 w0 k r Ts J0 →
    ∃ (T : Nat → Value → World → Prop) (J : Nat → Value → World → Prop), (∀ j, j < k → T j = TR Ts k j) ∧ J k = J0 ∧ (∀ i, StableR R (T i)) ∧ (∀ i o, r[i]? = some o → k + i ∈ es → (∀ v w, J (k + i + 1) v w → T (k + i) v w) ∧ (o.dst = none → ∀ v w, T (k + i) v w)) ∧ (∀ i, k ≤ i → i ∉ es → J (i + 1) = J i) ∧ (∀ i, k ≤ i → Stable (J i)) ∧ (∀ i o, r[i]? = some o → k + i ∈ es → o.dst = none → ∀ u v w, J (k + i + 1) u w → J (k + i + 1) v w) ∧
      (∀ i o, r[i]? = some o → k + i ∉ es → ∀ (vs : Nat → Value) (w : World), R w0 w → (∀ j, j < k + i → waitsFor o j = true → T j (vs j) w) → StepOK P l0.toArray (T (k + i)) o (putL (l0.take (k + i)) 0 vs a0) w) ∧
      (∀ i o, r[i]? = some o → k + i ∈ es → ∀ (vs : Nat → Value) (w : World), R w0 w → (∀ j, j < k + i → waitsFor o j = true → T j (vs j) w) → J (k + i) (lastV (prevE es (k + i)) vs) w → StepE P l0.toArray R (J (k + i + 1)) o (putL (l0.take (k + i)) 0 vs a0) w) ∧
      (∀ (vs : Nat → Value) (w : World), R w0 w → (∀ j, j < k + r.length → T j (vs j) w) → J (k + r.length) (lastV (prevE es (k + r.length)) vs) w → Q .normal (putL l0 0 vs a0) w)
  | [], k, Ts, J0, hl, hs, hj, hes, h => by
    refine ⟨fun j => if j < k then TR Ts k j else fun _ _ => True, fun _ => J0, fun j hj => by simp [hj], rfl, fun i => ?_, fun i o hi => by simp at hi, fun _ _ _ => rfl, fun _ _ => hj, fun i o hi => by simp at hi, fun i o hi => by simp at hi, fun i o hi => by simp at hi, fun vs w hb hT hJ => ?_⟩
    · by_cases hi : i < k
      · simp only [hi, if_true]; exact hs i hi
      · simp only [hi, if_false]; exact fun _ _ _ _ _ => trivial
    · refine h vs w hb (fun j hj => ?_) hJ
      have := hT j (by simpa using hj)
      simpa [hj] using this
  | o :: r, k, Ts, J0, hl, hs, hj, hes, h => by
    have hTR : ∀ (T0 : Value → World → Prop) j, j < k → TR (T0 :: Ts) (k + 1) j = TR Ts k j := by
      intro T0 j hj
      unfold TR
      rw [show k + 1 - 1 - j = (k - 1 - j) + 1 by omega, List.getD_cons_succ]
    have hTk : ∀ T0 : Value → World → Prop, TR (T0 :: Ts) (k + 1) k = T0 := by intro T0; unfold TR; rw [show k + 1 - 1 - k = 0 by omega, List.getD_cons_zero]
    have hes' : ∀ e, e ∈ es → e < k + 1 + r.length := by intro e he; have := hes e he; simp at this; omega
    rcases h with ⟨hke, T0, hst, hstep, hrest⟩ | ⟨hke, J', T0, hst, hTst, hJT, hTn, hnn, hstep, hrest⟩
    · obtain ⟨T, J, h1, hJ0, h2, h2e, h2c, h2s, h2n, h3, h3e, h4⟩ := runN_spec r (k + 1) (T0 :: Ts) J0 (by simp [hl]) (fun j hj => by
        by_cases hjk : j = k
        · subst hjk; rw [hTk]; exact hst
        · rw [hTR T0 j (by omega)]; exact hs j (by omega)) hj hes' hrest
      have hT : ∀ j, j < k → T j = TR Ts k j := fun j hj => (h1 j (by omega)).trans (hTR T0 j hj)
      have hk : T k = T0 := (h1 k (by omega)).trans (hTk T0)
      obtain ⟨JJ, hJJk, hJJ⟩ : ∃ JJ : Nat → Value → World → Prop, JJ k = J0 ∧ ∀ i, i ≠ k → JJ i = J i := ⟨fun i => if i = k then J0 else J i, by simp, fun i h => by simp [h]⟩
      refine ⟨T, JJ, hT, hJJk, h2, fun i o' hi hie => ?_, fun i hi hie => ?_, fun i hi => ?_, fun i o' hi hie hon => ?_, fun i o' hi hie vs w hb hd => ?_, fun i o' hi hie vs w hb hd hJ => ?_, fun vs w hb hd hJ => h4 vs w hb (fun j hj => hd j (by simp; omega)) ?_⟩
      · cases i with
        | zero => exact absurd hie hke
        | succ i =>
          rw [hJJ _ (by omega)]
          have := h2e i o' (by simpa using hi) (by rw [show k + 1 + i = k + (i + 1) by omega]; exact hie)
          rwa [show k + 1 + i = k + (i + 1) by omega] at this
      · by_cases hik : i = k
        · rw [hik, hJJk, hJJ _ (by omega), hJ0]
        · rw [hJJ _ hik, hJJ _ (by omega)]; exact h2c i (by omega) hie
      · by_cases hik : i = k
        · rw [hik, hJJk]; exact hj
        · rw [hJJ _ hik]; exact h2s i (by omega)
      · cases i with
        | zero => exact absurd hie hke
        | succ i =>
          rw [hJJ _ (by omega)]
          have := h2n i o' (by simpa using hi) (by rw [show k + 1 + i = k + (i + 1) by omega]; exact hie) hon
          rwa [show k + 1 + i = k + (i + 1) by omega] at this
      · cases i with
        | zero =>
          simp at hi; subst hi
          rw [Nat.add_zero, hk]
          exact hstep vs w hb (fun j hj hw => by rw [← hT j hj]; exact hd j (by omega) hw)
        | succ i =>
          have := h3 i o' (by simpa using hi) (by rw [show k + 1 + i = k + (i + 1) by omega]; exact hie) vs w hb (fun j hj hw => hd j (by omega) hw)
          rwa [show k + 1 + i = k + (i + 1) by omega] at this
      · cases i with
        | zero => exact absurd hie hke
        | succ i =>
          rw [hJJ _ (by omega)] at hJ ⊢
          have := h3e i o' (by simpa using hi) (by rw [show k + 1 + i = k + (i + 1) by omega]; exact hie) vs w hb (fun j hj hw => hd j (by omega) hw) (by rw [show k + 1 + i = k + (i + 1) by omega]; exact hJ)
          rwa [show k + 1 + i = k + (i + 1) by omega] at this
      · rw [hJJ _ (by simp)] at hJ
        rw [show k + 1 + r.length = k + (o :: r).length by simp; omega]
        exact hJ
    · obtain ⟨T, J, h1, hJ0, h2, h2e, h2c, h2s, h2n, h3, h3e, h4⟩ := runN_spec r (k + 1) (T0 :: Ts) J' (by simp [hl]) (fun j hj => by
        by_cases hjk : j = k
        · subst hjk; rw [hTk]; exact hTst
        · rw [hTR _ j (by omega)]; exact hs j (by omega)) hst hes' hrest
      have hT : ∀ j, j < k → T j = TR Ts k j := fun j hj => (h1 j (by omega)).trans (hTR _ j hj)
      have hk : T k = T0 := (h1 k (by omega)).trans (hTk _)
      obtain ⟨JJ, hJJk, hJJ⟩ : ∃ JJ : Nat → Value → World → Prop, JJ k = J0 ∧ ∀ i, i ≠ k → JJ i = J i := ⟨fun i => if i = k then J0 else J i, by simp, fun i h => by simp [h]⟩
      refine ⟨T, JJ, hT, hJJk, h2, fun i o' hi hie => ?_, fun i hi hie => ?_, fun i hi => ?_, fun i o' hi hie hon => ?_, fun i o' hi hie vs w hb hd => ?_, fun i o' hi hie vs w hb hd hJ => ?_, fun vs w hb hd hJ => h4 vs w hb (fun j hj => hd j (by simp; omega)) ?_⟩
      · cases i with
        | zero =>
          simp at hi; subst hi
          simp only [Nat.add_zero]
          rw [hJJ _ (by omega), hJ0, hk]
          exact ⟨hJT, hTn⟩
        | succ i =>
          rw [hJJ _ (by omega)]
          have := h2e i o' (by simpa using hi) (by rw [show k + 1 + i = k + (i + 1) by omega]; exact hie)
          rwa [show k + 1 + i = k + (i + 1) by omega] at this
      · by_cases hik : i = k
        · exact absurd hke (by rw [← hik]; exact hie)
        · rw [hJJ _ hik, hJJ _ (by omega)]; exact h2c i (by omega) hie
      · by_cases hik : i = k
        · rw [hik, hJJk]; exact hj
        · rw [hJJ _ hik]; exact h2s i (by omega)
      · cases i with
        | zero =>
          simp at hi; subst hi
          rw [Nat.add_zero, hJJ _ (by omega), hJ0]
          exact hnn hon
        | succ i =>
          rw [hJJ _ (by omega)]
          have := h2n i o' (by simpa using hi) (by rw [show k + 1 + i = k + (i + 1) by omega]; exact hie) hon
          rwa [show k + 1 + i = k + (i + 1) by omega] at this
      · cases i with
        | zero => exact absurd hke hie
        | succ i =>
          have := h3 i o' (by simpa using hi) (by rw [show k + 1 + i = k + (i + 1) by omega]; exact hie) vs w hb (fun j hj hw => hd j (by omega) hw)
          rwa [show k + 1 + i = k + (i + 1) by omega] at this
      · cases i with
        | zero =>
          simp at hi; subst hi
          rw [Nat.add_zero, hJJ _ (by omega), hJ0]
          rw [Nat.add_zero, hJJk] at hJ
          exact hstep vs w hb (fun j hj hw => by rw [← hT j hj]; exact hd j (by omega) hw) hJ
        | succ i =>
          rw [hJJ _ (by omega)] at hJ ⊢
          have := h3e i o' (by simpa using hi) (by rw [show k + 1 + i = k + (i + 1) by omega]; exact hie) vs w hb (fun j hj hw => hd j (by omega) hw) (by rw [show k + 1 + i = k + (i + 1) by omega]; exact hJ)
          rwa [show k + 1 + i = k + (i + 1) by omega] at this
      · rw [hJJ _ (by simp)] at hJ
        rw [show k + 1 + r.length = k + (o :: r).length by simp; omega]
        exact hJ

theorem wp_region_runN {id : Nat} {R : World → World → Prop} {l : List Oper} {a0 : Act} {w0 : World} (es : List Nat) (J0 : Value → World → Prop) (hm : P.follows .mixedOrders = true) (hok : okRegN l a0.tmps.size es = true) (hoe : okEff l es = true)
    (hRB : ∀ w w', Below w.heap.size w w' → R w w') (hRt : ∀ w w1 w2, R w w1 → R w1 w2 → R w w2) (hJs : Stable J0) (hJ0 : J0 undef w0) (h : RunN P Q R es l a0 w0 0 l [] J0) :
    (Code.region id l.toArray true).wp P Q a0 w0 := by
  have hlt : ∀ e, e ∈ es → e < 0 + l.length := by
    intro e he
    have h1 := List.all_eq_true.1 hoe e he
    rw [Bool.and_eq_true] at h1
    have h2 : e < l.length := by simpa using h1.1
    omega
  obtain ⟨T, J, _, hj0, h2, h2e, h2c, h2s, h2n, h3, h3e, h4⟩ := runN_spec l 0 [] J0 rfl (fun j hj => by omega) hJs hlt h
  refine wp_region_effN hm hok hoe hRB hRt h2 (fun e o ho he => by have := h2e e o ho (by rw [Nat.zero_add]; exact he); rwa [Nat.zero_add] at this) (fun k hk => h2c k (Nat.zero_le _) hk) (fun k => h2s k (Nat.zero_le _)) (fun k o ho hk hn => by have := h2n k o ho (by rw [Nat.zero_add]; exact hk) hn; rwa [Nat.zero_add] at this) (by rw [hj0]; exact hJ0) (fun k o ho hke vs w hb hd => ?_) (fun k o ho hke vs w hb hd hJ => ?_) (fun vs w hb hd hJ => h4 vs w hb (fun j hj => hd j (by omega)) (by rw [Nat.zero_add]; exact hJ))
  · have := h3 k o ho (by rw [Nat.zero_add]; exact hke) vs w hb (fun j hj => hd j (by omega))
    rwa [Nat.zero_add] at this
  · have := h3e k o ho (by rw [Nat.zero_add]; exact hke) vs w hb (fun j hj => hd j (by omega)) (by rw [Nat.zero_add]; exact hJ)
    rwa [Nat.zero_add] at this

section
variable {R : World → World → Prop} {es : List Nat} {l0 : List Oper} {a0 : Act} {w0 : World} {k : Nat} {o : Oper} {r : List Oper} {Ts : List (Value → World → Prop)} {J : Value → World → Prop}
theorem RunN.pure {c : Value} (hk : k ∉ es)
    (h : ∀ (vs : Nat → Value) (w : World), R w0 w → (∀ j, j < k → waitsFor o j = true → TR Ts k j (vs j) w) → StepOK P l0.toArray (isV c) o (putL (l0.take k) 0 vs a0) w)
    (hr : RunN P Q R es l0 a0 w0 (k + 1) r (isV c :: Ts) J) : RunN P Q R es l0 a0 w0 k (o :: r) Ts J := .inl ⟨hk, isV c, isV_stableR c, h, hr⟩
theorem RunN.such (hk : k ∉ es) (T : Value → World → Prop) (hT : StableR R T)
    (h : ∀ (vs : Nat → Value) (w : World), R w0 w → (∀ j, j < k → waitsFor o j = true → TR Ts k j (vs j) w) → StepOK P l0.toArray T o (putL (l0.take k) 0 vs a0) w)
    (hr : RunN P Q R es l0 a0 w0 (k + 1) r (T :: Ts) J) : RunN P Q R es l0 a0 w0 k (o :: r) Ts J := .inl ⟨hk, T, hT, h, hr⟩
theorem RunN.eff (hk : k ∈ es) (J' : Value → World → Prop) (hJ : Stable J') (hd : o.dst.isSome = true)
    (h : ∀ (vs : Nat → Value) (w : World), R w0 w → (∀ j, j < k → waitsFor o j = true → TR Ts k j (vs j) w) → J (lastV (prevE es k) vs) w → StepE P l0.toArray R J' o (putL (l0.take k) 0 vs a0) w)
    (hr : RunN P Q R es l0 a0 w0 (k + 1) r ((fun _ _ => True) :: Ts) J') : RunN P Q R es l0 a0 w0 k (o :: r) Ts J := .inr ⟨hk, J', _, hJ, fun _ _ _ _ _ => trivial, fun _ _ _ => trivial, fun _ _ _ => trivial, (fun hn => by rw [hn] at hd; cases hd), h, hr⟩
theorem RunN.effV {c : Value} (hk : k ∈ es) (J' : Value → World → Prop) (hJ : Stable J') (hd : o.dst.isSome = true) (hc : ∀ v w, J' v w → v = c)
    (h : ∀ (vs : Nat → Value) (w : World), R w0 w → (∀ j, j < k → waitsFor o j = true → TR Ts k j (vs j) w) → J (lastV (prevE es k) vs) w → StepE P l0.toArray R J' o (putL (l0.take k) 0 vs a0) w)
    (hr : RunN P Q R es l0 a0 w0 (k + 1) r (isV c :: Ts) J') : RunN P Q R es l0 a0 w0 k (o :: r) Ts J := .inr ⟨hk, J', isV c, hJ, isV_stableR c, hc, (fun hn => by rw [hn] at hd; cases hd), (fun hn => by rw [hn] at hd; cases hd), h, hr⟩
theorem RunN.store (hk : k ∈ es) (J' : World → Prop) (hJ : Stable fun _ w => J' w)
    (h : ∀ (vs : Nat → Value) (w : World), R w0 w → (∀ j, j < k → waitsFor o j = true → TR Ts k j (vs j) w) → J (lastV (prevE es k) vs) w → StepE P l0.toArray R (fun _ => J') o (putL (l0.take k) 0 vs a0) w)
    (hr : RunN P Q R es l0 a0 w0 (k + 1) r ((fun _ _ => True) :: Ts) (fun _ => J')) : RunN P Q R es l0 a0 w0 k (o :: r) Ts J := .inr ⟨hk, fun _ => J', _, hJ, fun _ _ _ _ _ => trivial, fun _ _ _ => trivial, fun _ _ _ => trivial, (fun _ _ _ _ h => h), h, hr⟩
end
end
end Go.Proofs.YtemegkapmgcffaaGreat

/- As RegionN; what holds behind an operation that writes may speak of the value of one that it waits for (src): a store at a new place. -/
namespace Go.Proofs.YtemegkapmgcffaaGreat
open Go.RowKit
set_option linter.unusedSimpArgs false
set_option linter.unusedVariables false

section
variable {P : Program} {Q : Exit → Act → World → Prop}
/-- the value that what holds speaks of -/
def lastS (src : Nat → Nat) (pe : Option Nat) (vs : Nat → Value) : Value := match pe with | some e => vs (src e) | none => undef

structure EInvS (l : List Oper) (R : World → World → Prop) (T : Nat → Value → World → Prop) (J : Nat → Value → World → Prop) (es : List Nat) (src : Nat → Nat) (a0 : Act) (w0 : World) (listed : Array Bool) (a : Act) (w : World) : Prop where
  rel : R w0 w
  defers : a.defers = a0.defers
  size : a.tmps.size = a0.tmps.size
  lsize : listed.size = l.length
  old : ∀ t, (∀ j, dstAt l j = some t → listed.getD j true = false) → a.tmps.getD t undef = a0.tmps.getD t undef
  closed : ∀ j o, l[j]? = some o → listed.getD j true = true → ∀ i, waitsFor o i = true → listed.getD i true = true
  done : ∀ j d, j < l.length → dstAt l j = some d → listed.getD j true = true → T j (a.tmps.getD d undef) w
  eff : ∃ q, q ≤ l.length ∧ (∀ e ∈ es, listed.getD e true = true ↔ e < q) ∧ J q (lastS src (prevE es q) (valOf l a)) w

theorem wpAny_effS {l : List Oper} {R : World → World → Prop} {T : Nat → Value → World → Prop} {J : Nat → Value → World → Prop} {es : List Nat} {src : Nat → Nat} {a0 : Act} {w0 : World} (hok : okRegN l a0.tmps.size es = true) (hoe : okEff l es = true)
    (hRB : ∀ w w', Below w.heap.size w w' → R w w') (hRt : ∀ w w1 w2, R w w1 → R w1 w2 → R w w2)
    (hT : ∀ i, StableR R (T i)) (hTe : ∀ e, e ∈ es → T e = fun _ _ => True) (hJc : ∀ k, k ∉ es → J (k + 1) = J k) (hJs : ∀ k, Stable (J k)) (hJn : ∀ k o, l[k]? = some o → k ∈ es → (src k = k → o.dst = none → ∀ u v w, J (k + 1) u w → J (k + 1) v w) ∧ (src k ≠ k → waitsFor o (src k) = true))
    (hstep : ∀ k o, l[k]? = some o → k ∉ es → ∀ (vs : Nat → Value) (w : World), R w0 w → (∀ j, j < k → waitsFor o j = true → T j (vs j) w) → StepOK P l.toArray (T k) o (putL (l.take k) 0 vs a0) w)
    (hstepE : ∀ k o, l[k]? = some o → k ∈ es → ∀ (vs : Nat → Value) (w : World), R w0 w → (∀ j, j < k → waitsFor o j = true → T j (vs j) w) → J k (lastS src (prevE es k) vs) w → StepE P l.toArray R (fun v w2 => J (k + 1) (if src k = k then v else vs (src k)) w2) o (putL (l.take k) 0 vs a0) w)
    (hQ : ∀ (vs : Nat → Value) (w : World), R w0 w → (∀ j, j < l.length → T j (vs j) w) → J l.length (lastS src (prevE es l.length) vs) w → Q .normal (putL l 0 vs a0) w) :
    ∀ (fuel : Nat) (listed : Array Bool) (a : Act) (w : World), EInvS l R T J es src a0 w0 listed a w → (List.range l.length).countP (fun i => !listed.getD i true) ≤ fuel → wpAny P .any l.toArray Q fuel listed a w := by
  obtain ⟨hsel, hspec⟩ := okRegN_spec hok
  have hes : ∀ k ∈ es, k < l.length ∧ ∀ e ∈ es, e < k → ∀ o, l[k]? = some o → waitsFor o e = true := by
    intro k hk
    have h1 := List.all_eq_true.1 hoe k hk
    rw [Bool.and_eq_true] at h1
    refine ⟨by simpa using h1.1, fun e he hlt o ho => ?_⟩
    have h2 := List.all_eq_true.1 h1.2 e he
    simpa [hlt, ho] using h2
  -- all have come up: the end
  have fin : ∀ (listed : Array Bool) (a : Act) (w : World), EInvS l R T J es src a0 w0 listed a w → Region.ready .any l.toArray listed = [] → Q .normal a w := by
    intro listed a w hI hr
    have hall : ∀ j, j < l.length → listed.getD j true = true := by
      intro j
      induction j using Nat.strongRecOn with
      | ind j ih =>
        intro hj
        apply Classical.byContradiction
        intro hn
        have hmem : j ∈ Region.ready .any l.toArray listed := by
          rw [mem_ready]
          refine ⟨by simpa using hn, l[j], by simp [hj], fun e he hb => ?_⟩
          have hlt := (hspec j l[j] (by simp [hj])).2.2.1 e he hb
          have h1 := ih e.on hlt (by omega)
          have hs : e.on < listed.size := by rw [hI.lsize]; omega
          simpa [hs] using h1
        rw [hr] at hmem; cases hmem
    have hTs : ∀ j, j < l.length → T j (valOf l a j) w := by
      intro j hj
      cases hd : l[j].dst with
      | none => rw [hTe j ((hspec j l[j] (by simp [hj])).1.2 hd)]; trivial
      | some d =>
        have hda : dstAt l j = some d := by simp [dstAt, hj, hd]
        have := hI.done j d hj hda (hall j hj)
        simp only [valOf, hda]; exact this
    have ha : a = putL l 0 (valOf l a) a0 := by
      have h1 : a.tmps = (putL l 0 (valOf l a) a0).tmps := by
        apply Array.ext
        · rw [putL_size, hI.size]
        · intro t h1 h2
          have key : a.tmps.getD t undef = (putL l 0 (valOf l a) a0).tmps.getD t undef := by
            by_cases hw : ∃ j, dstAt l j = some t
            · obtain ⟨j, hj⟩ := hw
              have hjl : j < l.length := by
                apply Classical.byContradiction; intro hn
                rw [dstAt, List.getElem?_eq_none (by omega)] at hj; cases hj
              have hdj : l[j].dst = some t := by simpa [dstAt, hjl] using hj
              rw [putL_at l 0 (valOf l a) a0 j t hj (fun i hi => (hspec j l[j] (by simp [hjl])).2.1 t hdj i hi) (by rw [← hI.size]; exact h1)]
              simp only [valOf, Nat.zero_add, hj]
            · rw [putL_old l 0 (valOf l a) a0 t (fun j hj => hw ⟨j, hj⟩)]
              exact hI.old t (fun j hj => absurd ⟨j, hj⟩ hw)
          simpa [h1, h2] using key
      have h2 : a.defers = (putL l 0 (valOf l a) a0).defers := by rw [putL_defers, hI.defers]
      generalize putL l 0 (valOf l a) a0 = b at h1 h2
      cases a; cases b; simp only at h1 h2; rw [h1, h2]
    obtain ⟨q, hq, hql, hJ⟩ := hI.eff
    have hgap : ∀ e ∈ es, q ≤ e → q + (l.length - q) ≤ e := by
      intro e he hqe
      have := (hql e he).1 (hall e (hes e he).1)
      omega
    have e1 := J_gap es hJc q (l.length - q) hgap
    have e2 := prevE_gap es q (l.length - q) hgap
    rw [show q + (l.length - q) = l.length by omega] at e1 e2
    rw [← e1, ← e2] at hJ
    rw [ha]
    exact hQ _ w hI.rel hTs hJ
  intro fuel
  induction fuel with
  | zero =>
    intro listed a w hI hc
    have hr : Region.ready .any l.toArray listed = [] := by
      apply List.eq_nil_iff_forall_not_mem.2
      intro j hj
      obtain ⟨h0, o, ho, _⟩ := mem_ready.1 hj
      have hjl : j < l.length := by simpa using (Array.getElem?_eq_some_iff.1 ho).1
      have : 0 < (List.range l.length).countP (fun i => !listed.getD i true) := List.countP_pos_iff.2 ⟨j, List.mem_range.2 hjl, by rw [h0]; rfl⟩
      omega
    exact ⟨hr, fin _ _ _ hI hr⟩
  | succ fuel ih =>
    intro listed a w hI hc
    refine ⟨fin _ _ _ hI, fun k hk => ?_⟩
    obtain ⟨h0, o, ho, hdeps⟩ := mem_ready.1 hk
    have hol : l[k]? = some o := by simpa using ho
    have hkl : k < l.length := (List.getElem?_eq_some_iff.1 hol).1
    obtain ⟨⟨hdn, hnone⟩, huniq, hafter, hlook⟩ := hspec k o hol
    have hlisted : ∀ j, waitsFor o j = true → listed.getD j true = true ∧ j < k := by
      intro j hj
      obtain ⟨e, he, hb⟩ := Array.any_eq_true'.1 hj
      rw [Bool.and_eq_true] at hb
      have hon : e.on = j := by simpa using hb.2
      have h1 := hdeps e he hb.1
      have h2 := hafter e he hb.1
      rw [hon] at h1 h2
      have hs : j < listed.size := by rw [hI.lsize]; omega
      exact ⟨by simpa [hs] using h1, h2⟩
    have hTs : ∀ j, j < k → waitsFor o j = true → T j (valOf l a j) w := by
      intro j hj hw
      have hjl : j < l.length := by omega
      cases hd' : l[j].dst with
      | none => rw [hTe j ((hspec j l[j] (by simp [hjl])).1.2 hd')]; trivial
      | some d' =>
        have hda : dstAt l j = some d' := by simp [dstAt, hjl, hd']
        have := hI.done j d' (by omega) hda (hlisted j hw).1
        simp only [valOf, hda]; exact this
    -- it looks at slots that are the same here and there
    have hslot : ∀ t ∈ o.looksAt l.toArray, a.tmps.getD t undef = (putL (l.take k) 0 (valOf l a) a0).tmps.getD t undef := by
      intro t ht
      rcases hlook t ht with hold | ⟨j, hjk, hwj, hdj⟩
      · have hnot : ∀ j, dstAt l j = some t → ∀ o', l[j]? = some o' → waitsFor o' k = true := by
          intro j hj o' ho'
          have hjl : j < l.length := (List.getElem?_eq_some_iff.1 ho').1
          have := List.all_eq_true.1 hold j (List.mem_range.2 hjl)
          simpa [hj, ho'] using this
        rw [hI.old t (fun j hj => ?_), putL_old _ _ _ _ _ (fun j hj => ?_)]
        · have hjl : j < l.length := by
            apply Classical.byContradiction; intro hn
            rw [dstAt, List.getElem?_take] at hj
            split at hj
            · omega
            · cases hj
          have hj' : dstAt l j = some t := by
            rw [dstAt, List.getElem?_take] at hj
            split at hj
            · exact hj
            · cases hj
          have hjk : j < k := by
            apply Classical.byContradiction; intro hn
            rw [dstAt, List.getElem?_take, if_neg hn] at hj; cases hj
          have hw := hnot j hj' l[j] (by simp [hjl])
          obtain ⟨e, he, hb⟩ := Array.any_eq_true'.1 hw
          rw [Bool.and_eq_true] at hb
          have hon : e.on = k := by simpa using hb.2
          have := (hspec j l[j] (by simp [hjl])).2.2.1 e he hb.1
          omega
        · have hjl : j < l.length := by
            apply Classical.byContradiction; intro hn
            rw [dstAt, List.getElem?_eq_none (by omega)] at hj; cases hj
          have hw := hnot j hj l[j] (by simp [hjl])
          cases hl : listed.getD j true with
          | false => rfl
          | true => exact absurd (hI.closed j l[j] (by simp [hjl]) hl k hw) (by rw [h0]; simp)
      · have hjl : j < l.length := by omega
        have hdj' : l[j].dst = some t := by simpa [dstAt, hjl] using hdj
        have h1 : dstAt (l.take k) j = some t := by rw [dstAt, List.getElem?_take, if_pos hjk]; exact hdj
        have h2 : ∀ i, i ≠ j → dstAt (l.take k) i ≠ some t := by
          intro i hi hh
          rw [dstAt, List.getElem?_take] at hh
          split at hh
          · exact (hspec j l[j] (by simp [hjl])).2.1 t hdj' i hi hh
          · cases hh
        have h3 : t < a0.tmps.size := (hspec j l[j] (by simp [hjl])).1.1 t hdj'
        rw [putL_at _ 0 (valOf l a) a0 j t h1 h2 h3]
        simp only [valOf, Nat.zero_add, hdj]
    have he : execOp a.eval o = execOp (putL (l.take k) 0 (valOf l a) a0).eval o := execOp_congr o (fun cs b => Region.noSelect_spec hsel k o cs b ho) fun x hx => by
      cases x with
      | tmp t => exact hslot t (List.mem_append_left _ (List.mem_filterMap.2 ⟨.tmp t, by simpa using hx, rfl⟩))
      | const v => rfl
      | global g => rfl
      | func f => rfl
    have hwant : Region.wanted o (yielded l.toArray a.tmps) = Region.wanted o (yielded l.toArray (putL (l.take k) 0 (valOf l a) a0).tmps) := by
      unfold Region.wanted
      cases hg : o.guard with
      | none => rfl
      | some gw =>
        obtain ⟨g, want⟩ := gw
        have hy : yielded l.toArray a.tmps g = yielded l.toArray (putL (l.take k) 0 (valOf l a) a0).tmps g := by
          unfold yielded
          cases ht : ((l.toArray)[g]?).bind (·.dst) with
          | none => rfl
          | some t =>
            have hs := hslot t (List.mem_append_right _ (by rw [hg]; simpa using ht))
            have hsz : a.tmps.size = (putL (l.take k) 0 (valOf l a) a0).tmps.size := (hI.size).trans (putL_size _ _ _ _).symm
            have h2 : a.tmps[t]? = (putL (l.take k) 0 (valOf l a) a0).tmps[t]? := by
              by_cases hlt : t < a.tmps.size
              · have hlt2 : t < (putL (l.take k) 0 (valOf l a) a0).tmps.size := hsz ▸ hlt
                simp [hlt, hlt2] at hs ⊢; exact hs
              · rw [Array.getElem?_eq_none (Nat.le_of_not_lt hlt), Array.getElem?_eq_none (hsz ▸ Nat.le_of_not_lt hlt)]
            simp only [Option.bind_some, h2]
        simp only [hy]
    have hks : k < listed.size := by rw [hI.lsize]; exact hkl
    have hset : ∀ j, (listed.setIfInBounds k true).getD j true = if j = k then true else listed.getD j true := by
      intro j
      by_cases hj : j = k
      · subst hj; simp [hks]
      · rw [if_neg hj, getD_set_ne true (Ne.symm hj)]
    have hval : ∀ v j, j ≠ k → valOf l (a.put o.dst v) j = valOf l a j := by
      intro v j hj
      unfold valOf
      cases hdj : dstAt l j with
      | none => rfl
      | some d' => exact put_other _ _ _ _ (fun h => huniq d' h j hj hdj)
    have hvalk : ∀ v d, o.dst = some d → valOf l (a.put o.dst v) k = v := by
      intro v d hd
      have hdk : dstAt l k = some d := by simp [dstAt, hol, hd]
      unfold valOf
      simp only [hdk, hd]
      exact put_at _ _ _ (by rw [hI.size]; exact hdn d hd)
    have hcnt : (List.range l.length).countP (fun i => !(listed.setIfInBounds k true).getD i true) ≤ fuel := by
      have := cnt_set (fun i => !listed.getD i true) (fun i => !(listed.setIfInBounds k true).getD i true) k (by simp only [h0]; rfl) (by simp only [hset]; simp) (fun j hj => by simp only [hset, if_neg hj]) l.length hkl
      omega
    -- what is left holds behind it
    have hnext : ∀ v w', R w w' → T k v w' → (∃ q, q ≤ l.length ∧ (∀ e ∈ es, (listed.setIfInBounds k true).getD e true = true ↔ e < q) ∧ J q (lastS src (prevE es q) (valOf l (a.put o.dst v))) w') → wpAny P .any l.toArray Q fuel (listed.setIfInBounds k true) (a.put o.dst v) w' := by
      intro v w' hr hv heff
      apply ih
      · refine ⟨hRt _ _ _ hI.rel hr, by rw [put_defers]; exact hI.defers, by rw [put_size]; exact hI.size, by simpa using hI.lsize, ?_, ?_, ?_, heff⟩
        · intro t ht
          rw [put_other]
          · apply hI.old
            intro j hj
            have := ht j hj
            rw [hset] at this
            split at this
            · cases this
            · exact this
          · intro hdt
            have := ht k (by simp [dstAt, hol, hdt])
            rw [hset, if_pos rfl] at this; cases this
        · intro j o' ho' hl i hi
          rw [hset] at hl ⊢
          by_cases hik : i = k
          · rw [if_pos hik]
          · rw [if_neg hik]
            by_cases hjk : j = k
            · subst hjk; rw [hol] at ho'; cases ho'; exact (hlisted i hi).1
            · rw [if_neg hjk] at hl; exact hI.closed j o' ho' hl i hi
        · intro j d' hj hdj hl
          by_cases hjk : j = k
          · subst hjk
            have : o.dst = some d' := by simpa [dstAt, hol] using hdj
            rw [this, put_at _ _ _ (by rw [hI.size]; exact hdn d' this)]
            exact hv
          · rw [hset, if_neg hjk] at hl
            rw [put_other _ _ _ _ (fun h => huniq d' h j hjk hdj)]
            exact hT j _ _ _ hr (hI.done j d' hj hdj hl)
      · exact hcnt
    obtain ⟨q, hq, hql, hJ⟩ := hI.eff
    have hnlk : listed.getD k true ≠ true := by rw [h0]; simp
    by_cases hke : k ∈ es
    · -- one that writes
      have hqk : q ≤ k := by
        apply Classical.byContradiction
        intro hn
        exact hnlk ((hql k hke).2 (by omega))
      have hgap : ∀ e ∈ es, q ≤ e → q + (k - q) ≤ e := by
        intro e he hqe
        apply Classical.byContradiction
        intro hn
        have hw := (hes k hke).2 e he (by omega) o hol
        have := (hql e he).1 (hlisted e hw).1
        omega
      have e1 := J_gap es hJc q (k - q) hgap
      have e2 := prevE_gap es q (k - q) hgap
      rw [show q + (k - q) = k by omega] at e1 e2
      rw [← e1, ← e2] at hJ
      have hst := hstepE k o hol hke (valOf l a) w hI.rel hTs hJ
      have hnextE : ∀ v w', R w w' → J (k + 1) (if src k = k then v else valOf l a (src k)) w' → wpAny P .any l.toArray Q fuel (listed.setIfInBounds k true) (a.put o.dst v) w' := by
        intro v w' hr hj
        refine hnext v w' hr (by rw [hTe k hke]; trivial) ⟨k + 1, by omega, fun e he => ?_, ?_⟩
        · rw [hset]
          by_cases hek : e = k
          · rw [if_pos hek, hek]; simp
          · rw [if_neg hek, hql e he]
            constructor
            · intro h; omega
            · intro h
              have hw := (hes k hke).2 e he (by omega) o hol
              exact (hql e he).1 (hlisted e hw).1
        · rw [prevE, if_pos hke, lastS]
          by_cases hsk : src k = k
          · rw [if_pos hsk] at hj
            rw [hsk]
            cases hd : o.dst with
            | none => exact (hJn k o hol hke).1 hsk hd _ _ _ hj
            | some d => rw [← hd, hvalk v d hd]; exact hj
          · rw [if_neg hsk] at hj
            rw [hval v (src k) hsk]
            exact hj
      unfold wpOp
      rw [ho]
      unfold StepE at hst
      rw [← hwant, ← he] at hst
      simp only
      split
      · rename_i hw
        rw [if_pos hw] at hst
        exact .inl (wp_of_upE hRt hst hnextE)
      · rename_i hw
        rw [if_neg hw] at hst
        exact hnextE undef w (hRB _ _ (Below.refl _ _)) hst
    · have hst := hstep k o hol hke (valOf l a) w hI.rel hTs
      have hnextP : ∀ v w', Below w.heap.size w w' → T k v w' → wpAny P .any l.toArray Q fuel (listed.setIfInBounds k true) (a.put o.dst v) w' := by
        intro v w' hb hv
        refine hnext v w' (hRB _ _ hb) hv ⟨q, hq, fun e he => ?_, ?_⟩
        · rw [hset, if_neg (show e ≠ k from fun h => hke (h ▸ he))]; exact hql e he
        · have hlv : lastS src (prevE es q) (valOf l (a.put o.dst v)) = lastS src (prevE es q) (valOf l a) := by
            unfold lastS
            cases hp : prevE es q with
            | none => rfl
            | some p =>
              refine hval v (src p) (fun h => ?_)
              obtain ⟨hp1, hp2⟩ := prevE_lt es q p hp
              have hpl := (hes p hp2).1
              have hpt := (hql p hp2).2 hp1
              by_cases hsp : src p = p
              · exact hke (by rw [← h, hsp]; exact hp2)
              · exact hnlk (h ▸ hI.closed p l[p] (by simp [hpl]) hpt (src p) ((hJn p l[p] (by simp [hpl]) hp2).2 hsp))
          rw [hlv]
          exact hJs q _ _ _ hb hJ
      unfold wpOp
      rw [ho]
      unfold StepOK at hst
      rw [← hwant, ← he] at hst
      simp only
      split
      · rename_i hw
        rw [if_pos hw] at hst
        exact .inl (wp_of_upS hst hnextP)
      · rename_i hw
        rw [if_neg hw] at hst
        exact hnextP undef w (Below.refl _ _) hst

theorem wp_region_effS {id : Nat} {l : List Oper} {R : World → World → Prop} {T : Nat → Value → World → Prop} {J : Nat → Value → World → Prop} {es : List Nat} {src : Nat → Nat} {a0 : Act} {w0 : World} (hm : P.follows .mixedOrders = true) (hok : okRegN l a0.tmps.size es = true) (hoe : okEff l es = true)
    (hRB : ∀ w w', Below w.heap.size w w' → R w w') (hRt : ∀ w w1 w2, R w w1 → R w1 w2 → R w w2)
    (hT : ∀ i, StableR R (T i)) (hTe : ∀ e, e ∈ es → T e = fun _ _ => True) (hJc : ∀ k, k ∉ es → J (k + 1) = J k) (hJs : ∀ k, Stable (J k)) (hJn : ∀ k o, l[k]? = some o → k ∈ es → (src k = k → o.dst = none → ∀ u v w, J (k + 1) u w → J (k + 1) v w) ∧ (src k ≠ k → waitsFor o (src k) = true)) (hJ0 : J 0 undef w0)
    (hstep : ∀ k o, l[k]? = some o → k ∉ es → ∀ (vs : Nat → Value) (w : World), R w0 w → (∀ j, j < k → waitsFor o j = true → T j (vs j) w) → StepOK P l.toArray (T k) o (putL (l.take k) 0 vs a0) w)
    (hstepE : ∀ k o, l[k]? = some o → k ∈ es → ∀ (vs : Nat → Value) (w : World), R w0 w → (∀ j, j < k → waitsFor o j = true → T j (vs j) w) → J k (lastS src (prevE es k) vs) w → StepE P l.toArray R (fun v w2 => J (k + 1) (if src k = k then v else vs (src k)) w2) o (putL (l.take k) 0 vs a0) w)
    (hQ : ∀ (vs : Nat → Value) (w : World), R w0 w → (∀ j, j < l.length → T j (vs j) w) → J l.length (lastS src (prevE es l.length) vs) w → Q .normal (putL l 0 vs a0) w) :
    (Code.region id l.toArray true).wp P Q a0 w0 := by
  have hb := below_drewN (Below.refl w0.heap.size w0) 1
  refine wp_region_any hm (wpAny_effS hok hoe hRB hRt hT hTe hJc hJs hJn hstep hstepE hQ _ _ _ _ ⟨hRB _ _ hb, rfl, rfl, by simp, fun _ _ => rfl, ?_, ?_, ?_⟩ ?_)
  · intro j o ho hl
    have hj : j < l.length := (List.getElem?_eq_some_iff.1 ho).1
    simp [hj] at hl
  · intro j d hj _ hl
    simp [hj] at hl
  · refine ⟨0, Nat.zero_le _, fun e he => ?_, hJs 0 _ _ _ hb hJ0⟩
    have h1 := List.all_eq_true.1 hoe e he
    rw [Bool.and_eq_true] at h1
    have h2 : e < l.length := by simpa using h1.1
    simp [h2]
  · exact Nat.le_trans List.countP_le_length (by simp)

/-- the walk of the text's order, with operations that write (es) -/
def RunS (P : Program) (Q : Exit → Act → World → Prop) (R : World → World → Prop) (es : List Nat) (src : Nat → Nat) (l0 : List Oper) (a0 : Act) (w0 : World) : Nat → List Oper → List (Value → World → Prop) → (Value → World → Prop) → Prop
  | k, [], Ts, J => ∀ (vs : Nat → Value) (w : World), R w0 w → (∀ j, j < k → TR Ts k j (vs j) w) → J (lastS src (prevE es k) vs) w → Q .normal (putL l0 0 vs a0) w
  | k, o :: r, Ts, J => (k ∉ es ∧ ∃ T, StableR R T ∧ (∀ (vs : Nat → Value) (w : World), R w0 w → (∀ j, j < k → waitsFor o j = true → TR Ts k j (vs j) w) → StepOK P l0.toArray T o (putL (l0.take k) 0 vs a0) w) ∧ RunS P Q R es src l0 a0 w0 (k + 1) r (T :: Ts) J) ∨
      (k ∈ es ∧ ∃ J', Stable J' ∧ ((src k = k → o.dst = none → ∀ u v w, J' u w → J' v w) ∧ (src k ≠ k → waitsFor o (src k) = true)) ∧ (∀ (vs : Nat → Value) (w : World), R w0 w → (∀ j, j < k → waitsFor o j = true → TR Ts k j (vs j) w) → J (lastS src (prevE es k) vs) w → StepE P l0.toArray R (fun v w2 => J' (if src k = k then v else vs (src k)) w2) o (putL (l0.take k) 0 vs a0) w) ∧ RunS P Q R es src l0 a0 w0 (k + 1) r ((fun _ _ => True) :: Ts) J')

theorem runS_spec {R : World → World → Prop} {es : List Nat} {src : Nat → Nat} {l0 : List Oper} {a0 : Act} {w0 : World} : ∀ (r : List Oper) (k : Nat) (Ts : List (Value → World → Prop)) (J0 : Value → World → Prop), Ts.length = k → (∀ j, j < k → StableR R (TR Ts k j)) → Stable J0 → (∀ e, e ∈ es → e < k + r.length) → RunS P Q R es src l0 a0 w0 k r Ts J0 →
    ∃ (T : Nat → Value → World → Prop) (J : Nat → Value → World → Prop), (∀ j, j < k → T j = TR Ts k j) ∧ J k = J0 ∧ (∀ i, StableR R (T i)) ∧ (∀ e, k ≤ e → e ∈ es → T e = fun _ _ => True) ∧ (∀ i, k ≤ i → i ∉ es → J (i + 1) = J i) ∧ (∀ i, k ≤ i → Stable (J i)) ∧ (∀ i o, r[i]? = some o → k + i ∈ es → (src (k + i) = k + i → o.dst = none → ∀ u v w, J (k + i + 1) u w → J (k + i + 1) v w) ∧ (src (k + i) ≠ k + i → waitsFor o (src (k + i)) = true)) ∧
      (∀ i o, r[i]? = some o → k + i ∉ es → ∀ (vs : Nat → Value) (w : World), R w0 w → (∀ j, j < k + i → waitsFor o j = true → T j (vs j) w) → StepOK P l0.toArray (T (k + i)) o (putL (l0.take (k + i)) 0 vs a0) w) ∧
      (∀ i o, r[i]? = some o → k + i ∈ es → ∀ (vs : Nat → Value) (w : World), R w0 w → (∀ j, j < k + i → waitsFor o j = true → T j (vs j) w) → J (k + i) (lastS src (prevE es (k + i)) vs) w → StepE P l0.toArray R (fun v w2 => J (k + i + 1) (if src (k + i) = k + i then v else vs (src (k + i))) w2) o (putL (l0.take (k + i)) 0 vs a0) w) ∧
      (∀ (vs : Nat → Value) (w : World), R w0 w → (∀ j, j < k + r.length → T j (vs j) w) → J (k + r.length) (lastS src (prevE es (k + r.length)) vs) w → Q .normal (putL l0 0 vs a0) w)
  | [], k, Ts, J0, hl, hs, hj, hes, h => by
    refine ⟨fun j => if j < k then TR Ts k j else fun _ _ => True, fun _ => J0, fun j hj => by simp [hj], rfl, fun i => ?_, fun e he _ => by simp [show ¬ e < k by omega], fun _ _ _ => rfl, fun _ _ => hj, fun i o hi => by simp at hi, fun i o hi => by simp at hi, fun i o hi => by simp at hi, fun vs w hb hT hJ => ?_⟩
    · by_cases hi : i < k
      · simp only [hi, if_true]; exact hs i hi
      · simp only [hi, if_false]; exact fun _ _ _ _ _ => trivial
    · refine h vs w hb (fun j hj => ?_) hJ
      have := hT j (by simpa using hj)
      simpa [hj] using this
  | o :: r, k, Ts, J0, hl, hs, hj, hes, h => by
    have hTR : ∀ (T0 : Value → World → Prop) j, j < k → TR (T0 :: Ts) (k + 1) j = TR Ts k j := by
      intro T0 j hj
      unfold TR
      rw [show k + 1 - 1 - j = (k - 1 - j) + 1 by omega, List.getD_cons_succ]
    have hTk : ∀ T0 : Value → World → Prop, TR (T0 :: Ts) (k + 1) k = T0 := by intro T0; unfold TR; rw [show k + 1 - 1 - k = 0 by omega, List.getD_cons_zero]
    have hes' : ∀ e, e ∈ es → e < k + 1 + r.length := by intro e he; have := hes e he; simp at this; omega
    rcases h with ⟨hke, T0, hst, hstep, hrest⟩ | ⟨hke, J', hst, hnn, hstep, hrest⟩
    · obtain ⟨T, J, h1, hJ0, h2, h2e, h2c, h2s, h2n, h3, h3e, h4⟩ := runS_spec r (k + 1) (T0 :: Ts) J0 (by simp [hl]) (fun j hj => by
        by_cases hjk : j = k
        · subst hjk; rw [hTk]; exact hst
        · rw [hTR T0 j (by omega)]; exact hs j (by omega)) hj hes' hrest
      have hT : ∀ j, j < k → T j = TR Ts k j := fun j hj => (h1 j (by omega)).trans (hTR T0 j hj)
      have hk : T k = T0 := (h1 k (by omega)).trans (hTk T0)
      obtain ⟨JJ, hJJk, hJJ⟩ : ∃ JJ : Nat → Value → World → Prop, JJ k = J0 ∧ ∀ i, i ≠ k → JJ i = J i := ⟨fun i => if i = k then J0 else J i, by simp, fun i h => by simp [h]⟩
      refine ⟨T, JJ, hT, hJJk, h2, fun e he hee => ?_, fun i hi hie => ?_, fun i hi => ?_, fun i o' hi hie => ?_, fun i o' hi hie vs w hb hd => ?_, fun i o' hi hie vs w hb hd hJ => ?_, fun vs w hb hd hJ => h4 vs w hb (fun j hj => hd j (by simp; omega)) ?_⟩
      · exact h2e e (by rcases Nat.lt_or_ge k e with h | h; omega; exact absurd hee (by rw [show e = k by omega]; exact hke)) hee
      · by_cases hik : i = k
        · rw [hik, hJJk, hJJ _ (by omega), hJ0]
        · rw [hJJ _ hik, hJJ _ (by omega)]; exact h2c i (by omega) hie
      · by_cases hik : i = k
        · rw [hik, hJJk]; exact hj
        · rw [hJJ _ hik]; exact h2s i (by omega)
      · cases i with
        | zero => exact absurd hie hke
        | succ i =>
          rw [hJJ _ (by omega)]
          have := h2n i o' (by simpa using hi) (by rw [show k + 1 + i = k + (i + 1) by omega]; exact hie)
          rwa [show k + 1 + i = k + (i + 1) by omega] at this
      · cases i with
        | zero =>
          simp at hi; subst hi
          rw [Nat.add_zero, hk]
          exact hstep vs w hb (fun j hj hw => by rw [← hT j hj]; exact hd j (by omega) hw)
        | succ i =>
          have := h3 i o' (by simpa using hi) (by rw [show k + 1 + i = k + (i + 1) by omega]; exact hie) vs w hb (fun j hj hw => hd j (by omega) hw)
          rwa [show k + 1 + i = k + (i + 1) by omega] at this
      · cases i with
        | zero => exact absurd hie hke
        | succ i =>
          rw [hJJ _ (by omega)] at hJ ⊢
          have := h3e i o' (by simpa using hi) (by rw [show k + 1 + i = k + (i + 1) by omega]; exact hie) vs w hb (fun j hj hw => hd j (by omega) hw) (by rw [show k + 1 + i = k + (i + 1) by omega]; exact hJ)
          rwa [show k + 1 + i = k + (i + 1) by omega] at this
      · rw [hJJ _ (by simp)] at hJ
        rw [show k + 1 + r.length = k + (o :: r).length by simp; omega]
        exact hJ
    · obtain ⟨T, J, h1, hJ0, h2, h2e, h2c, h2s, h2n, h3, h3e, h4⟩ := runS_spec r (k + 1) ((fun _ _ => True) :: Ts) J' (by simp [hl]) (fun j hj => by
        by_cases hjk : j = k
        · subst hjk; rw [hTk]; exact fun _ _ _ _ _ => trivial
        · rw [hTR _ j (by omega)]; exact hs j (by omega)) hst hes' hrest
      have hT : ∀ j, j < k → T j = TR Ts k j := fun j hj => (h1 j (by omega)).trans (hTR _ j hj)
      have hk : T k = fun _ _ => True := (h1 k (by omega)).trans (hTk _)
      obtain ⟨JJ, hJJk, hJJ⟩ : ∃ JJ : Nat → Value → World → Prop, JJ k = J0 ∧ ∀ i, i ≠ k → JJ i = J i := ⟨fun i => if i = k then J0 else J i, by simp, fun i h => by simp [h]⟩
      refine ⟨T, JJ, hT, hJJk, h2, fun e he hee => ?_, fun i hi hie => ?_, fun i hi => ?_, fun i o' hi hie => ?_, fun i o' hi hie vs w hb hd => ?_, fun i o' hi hie vs w hb hd hJ => ?_, fun vs w hb hd hJ => h4 vs w hb (fun j hj => hd j (by simp; omega)) ?_⟩
      · by_cases hek : e = k
        · rw [hek]; exact hk
        · exact h2e e (by omega) hee
      · by_cases hik : i = k
        · exact absurd hke (by rw [← hik]; exact hie)
        · rw [hJJ _ hik, hJJ _ (by omega)]; exact h2c i (by omega) hie
      · by_cases hik : i = k
        · rw [hik, hJJk]; exact hj
        · rw [hJJ _ hik]; exact h2s i (by omega)
      · cases i with
        | zero =>
          simp at hi; subst hi
          rw [Nat.add_zero, hJJ _ (by omega), hJ0]
          exact hnn
        | succ i =>
          rw [hJJ _ (by omega)]
          have := h2n i o' (by simpa using hi) (by rw [show k + 1 + i = k + (i + 1) by omega]; exact hie)
          rwa [show k + 1 + i = k + (i + 1) by omega] at this
      · cases i with
        | zero => exact absurd hke hie
        | succ i =>
          have := h3 i o' (by simpa using hi) (by rw [show k + 1 + i = k + (i + 1) by omega]; exact hie) vs w hb (fun j hj hw => hd j (by omega) hw)
          rwa [show k + 1 + i = k + (i + 1) by omega] at this
      · cases i with
        | zero =>
          simp at hi; subst hi
          rw [Nat.add_zero, hJJ _ (by omega), hJ0]
          rw [Nat.add_zero, hJJk] at hJ
          exact hstep vs w hb (fun j hj hw => by rw [← hT j hj]; exact hd j (by omega) hw) hJ
        | succ i =>
          rw [hJJ _ (by omega)] at hJ ⊢
          have := h3e i o' (by simpa using hi) (by rw [show k + 1 + i = k + (i + 1) by omega]; exact hie) vs w hb (fun j hj hw => hd j (by omega) hw) (by rw [show k + 1 + i = k + (i + 1) by omega]; exact hJ)
          rwa [show k + 1 + i = k + (i + 1) by omega] at this
      · rw [hJJ _ (by simp)] at hJ
        rw [show k + 1 + r.length = k + (o :: r).length by simp; omega]
        exact hJ

theorem wp_region_runS {id : Nat} {R : World → World → Prop} {l : List Oper} {a0 : Act} {w0 : World} (es : List Nat) (src : Nat → Nat) (J0 : Value → World → Prop) (hm : P.follows .mixedOrders = true) (hok : okRegN l a0.tmps.size es = true) (hoe : okEff l es = true)
    (hRB : ∀ w w', Below w.heap.size w w' → R w w') (hRt : ∀ w w1 w2, R w w1 → R w1 w2 → R w w2) (hJs : Stable J0) (hJ0 : J0 undef w0) (h : RunS P Q R es src l a0 w0 0 l [] J0) :
    (Code.region id l.toArray true).wp P Q a0 w0 := by
  have hlt : ∀ e, e ∈ es → e < 0 + l.length := by
    intro e he
    have h1 := List.all_eq_true.1 hoe e he
    rw [Bool.and_eq_true] at h1
    have h2 : e < l.length := by simpa using h1.1
    omega
  obtain ⟨T, J, _, hj0, h2, h2e, h2c, h2s, h2n, h3, h3e, h4⟩ := runS_spec l 0 [] J0 rfl (fun j hj => by omega) hJs hlt h
  refine wp_region_effS hm hok hoe hRB hRt h2 (fun e he => h2e e (Nat.zero_le _) he) (fun k hk => h2c k (Nat.zero_le _) hk) (fun k => h2s k (Nat.zero_le _)) (fun k o ho hk => by have := h2n k o ho (by rw [Nat.zero_add]; exact hk); rwa [Nat.zero_add] at this) (by rw [hj0]; exact hJ0) (fun k o ho hke vs w hb hd => ?_) (fun k o ho hke vs w hb hd hJ => ?_) (fun vs w hb hd hJ => h4 vs w hb (fun j hj => hd j (by omega)) (by rw [Nat.zero_add]; exact hJ))
  · have := h3 k o ho (by rw [Nat.zero_add]; exact hke) vs w hb (fun j hj => hd j (by omega))
    rwa [Nat.zero_add] at this
  · have := h3e k o ho (by rw [Nat.zero_add]; exact hke) vs w hb (fun j hj => hd j (by omega)) (by rw [Nat.zero_add]; exact hJ)
    rwa [Nat.zero_add] at this

section
variable {R : World → World → Prop} {es : List Nat} {src : Nat → Nat} {l0 : List Oper} {a0 : Act} {w0 : World} {k : Nat} {o : Oper} {r : List Oper} {Ts : List (Value → World → Prop)} {J : Value → World → Prop}
theorem RunS.pure {c : Value} (hk : k ∉ es)
    (h : ∀ (vs : Nat → Value) (w : World), R w0 w → (∀ j, j < k → waitsFor o j = true → TR Ts k j (vs j) w) → StepOK P l0.toArray (isV c) o (putL (l0.take k) 0 vs a0) w)
    (hr : RunS P Q R es src l0 a0 w0 (k + 1) r (isV c :: Ts) J) : RunS P Q R es src l0 a0 w0 k (o :: r) Ts J := .inl ⟨hk, isV c, isV_stableR c, h, hr⟩
theorem RunS.such (hk : k ∉ es) (T : Value → World → Prop) (hT : StableR R T)
    (h : ∀ (vs : Nat → Value) (w : World), R w0 w → (∀ j, j < k → waitsFor o j = true → TR Ts k j (vs j) w) → StepOK P l0.toArray T o (putL (l0.take k) 0 vs a0) w)
    (hr : RunS P Q R es src l0 a0 w0 (k + 1) r (T :: Ts) J) : RunS P Q R es src l0 a0 w0 k (o :: r) Ts J := .inl ⟨hk, T, hT, h, hr⟩
theorem RunS.eff (hk : k ∈ es) (J' : Value → World → Prop) (hJ : Stable J') (hd : o.dst.isSome = true) (hs : src k = k)
    (h : ∀ (vs : Nat → Value) (w : World), R w0 w → (∀ j, j < k → waitsFor o j = true → TR Ts k j (vs j) w) → J (lastS src (prevE es k) vs) w → StepE P l0.toArray R J' o (putL (l0.take k) 0 vs a0) w)
    (hr : RunS P Q R es src l0 a0 w0 (k + 1) r ((fun _ _ => True) :: Ts) J') : RunS P Q R es src l0 a0 w0 k (o :: r) Ts J :=
  .inr ⟨hk, J', hJ, ⟨(fun _ hn => by rw [hn] at hd; cases hd), fun hn => absurd hs hn⟩, fun vs w h1 h2 h3 => by simp only [hs, if_true]; exact h vs w h1 h2 h3, hr⟩
theorem RunS.store (hk : k ∈ es) (J' : World → Prop) (hJ : Stable fun _ w => J' w) (hs : src k = k)
    (h : ∀ (vs : Nat → Value) (w : World), R w0 w → (∀ j, j < k → waitsFor o j = true → TR Ts k j (vs j) w) → J (lastS src (prevE es k) vs) w → StepE P l0.toArray R (fun _ => J') o (putL (l0.take k) 0 vs a0) w)
    (hr : RunS P Q R es src l0 a0 w0 (k + 1) r ((fun _ _ => True) :: Ts) (fun _ => J')) : RunS P Q R es src l0 a0 w0 k (o :: r) Ts J :=
  .inr ⟨hk, fun _ => J', hJ, ⟨fun _ _ _ _ _ h => h, fun hn => absurd hs hn⟩, h, hr⟩
theorem RunS.storeAt (hk : k ∈ es) (s : Nat) (J' : Value → World → Prop) (hJ : Stable J') (hs : src k = s) (hsk : s ≠ k) (hw : waitsFor o s = true)
    (h : ∀ (vs : Nat → Value) (w : World), R w0 w → (∀ j, j < k → waitsFor o j = true → TR Ts k j (vs j) w) → J (lastS src (prevE es k) vs) w → StepE P l0.toArray R (fun _ => J' (vs s)) o (putL (l0.take k) 0 vs a0) w)
    (hr : RunS P Q R es src l0 a0 w0 (k + 1) r ((fun _ _ => True) :: Ts) J') : RunS P Q R es src l0 a0 w0 k (o :: r) Ts J :=
  .inr ⟨hk, J', hJ, ⟨fun he => absurd (hs.symm.trans he) hsk, fun _ => by rw [hs]; exact hw⟩, fun vs w h1 h2 h3 => by rw [hs]; simp only [hsk, if_false]; exact h vs w h1 h2 h3, hr⟩
end
end
end Go.Proofs.YtemegkapmgcffaaGreat

/- As Region, and the last operations (behind m) come in the text's order, each behind all others: they may do what they will. -/
namespace Go.Proofs.YtemegkapmgcffaaGreat
open Go.RowKit
set_option linter.unusedSimpArgs false
set_option linter.unusedVariables false

section
variable {P : Program} {Q : Exit → Act → World → Prop}
def okRegT (l : List Oper) (m n : Nat) : Bool := Region.noSelect l.toArray && decide (m ≤ l.length) && ((List.range m).all fun k => match l[k]? with
  | none => false
  | some o => (match o.dst with | some d => decide (d < n) | none => false) &&
    (List.range l.length).all (fun j => j == k || dstAt l j != o.dst) &&
    o.after.all (fun e => !Region.binds .any e || decide (e.on < k)) &&
    (o.looksAt l.toArray).all (fun t => oldB l k t || (List.range k).any (fun j => waitsFor o j && dstAt l j == some t))) &&
  (List.range l.length).all fun k => decide (k < m) || match l[k]? with
    | none => false
    | some o => (List.range m).all (fun j => waitsFor o j)
structure RInvT (l : List Oper) (m : Nat) (T : Nat → Value → World → Prop) (a0 : Act) (w0 : World) (listed : Array Bool) (a : Act) (w : World) : Prop where
  below : Below w0.heap.size w0 w
  defers : a.defers = a0.defers
  size : a.tmps.size = a0.tmps.size
  lsize : listed.size = l.length
  old : ∀ t, (∀ j, dstAt l j = some t → listed.getD j true = false) → a.tmps.getD t undef = a0.tmps.getD t undef
  closed : ∀ j o, l[j]? = some o → listed.getD j true = true → ∀ i, waitsFor o i = true → listed.getD i true = true
  done : ∀ j d, j < m → dstAt l j = some d → listed.getD j true = true → T j (a.tmps.getD d undef) w
  tail : ∀ t, m ≤ t → t < l.length → listed.getD t true = false
theorem okRegT_tail {l : List Oper} {m n : Nat} (h : okRegT l m n = true) (k : Nat) (o : Oper) (hk : m ≤ k) (ho : l[k]? = some o) (j : Nat) (hj : j < m) : waitsFor o j = true := by
  unfold okRegT at h
  rw [Bool.and_eq_true] at h
  have := List.all_eq_true.1 h.2 k (List.mem_range.2 (List.getElem?_eq_some_iff.1 ho).1)
  rw [ho] at this
  simp only [Bool.or_eq_true, decide_eq_true_eq] at this
  rcases this with h1 | h1
  · omega
  · exact List.all_eq_true.1 h1 j (List.mem_range.2 hj)
theorem okRegT_spec {l : List Oper} {m n : Nat} (h : okRegT l m n = true) : Region.noSelect l.toArray = true ∧ m ≤ l.length ∧ ∀ k o, k < m → l[k]? = some o →
    (∃ d, o.dst = some d ∧ d < n) ∧ (∀ j, j ≠ k → dstAt l j ≠ o.dst) ∧ (∀ e ∈ o.after, Region.binds .any e = true → e.on < k) ∧
    (∀ t ∈ o.looksAt l.toArray, oldB l k t = true ∨ ∃ j, j < k ∧ waitsFor o j = true ∧ dstAt l j = some t) := by
  unfold okRegT at h
  simp only [Bool.and_eq_true, decide_eq_true_eq] at h
  obtain ⟨⟨⟨hs, hm⟩, h2⟩, _⟩ := h
  refine ⟨hs, hm, fun k o hkm ho => ?_⟩
  have hk : k < l.length := (List.getElem?_eq_some_iff.1 ho).1
  have h2 := List.all_eq_true.1 h2 k (List.mem_range.2 hkm)
  rw [ho] at h2
  simp only [Bool.and_eq_true] at h2
  obtain ⟨⟨⟨h3, h4⟩, h5⟩, h6⟩ := h2
  have hd : ∃ d, o.dst = some d ∧ d < n := by
    cases hd : o.dst with
    | none => rw [hd] at h3; cases h3
    | some d => rw [hd] at h3; exact ⟨d, rfl, by simpa using h3⟩
  refine ⟨hd, fun j hj he => ?_, fun e he hb => ?_, fun t ht => ?_⟩
  · obtain ⟨d, hd, _⟩ := hd
    have hjl : j < l.length := by
      apply Classical.byContradiction
      intro hn
      rw [dstAt, List.getElem?_eq_none (by omega), hd] at he
      cases he
    have := List.all_eq_true.1 h4 j (List.mem_range.2 hjl)
    simp [hj, he] at this
  · have := Array.all_eq_true'.1 h5 e he
    simpa [hb] using this
  · have := List.all_eq_true.1 h6 t ht
    rw [Bool.or_eq_true] at this
    rcases this with h | h
    · exact .inl h
    · obtain ⟨j, hj, hh⟩ := List.any_eq_true.1 h
      rw [Bool.and_eq_true] at hh
      exact .inr ⟨j, List.mem_range.1 hj, hh.1, by simpa using hh.2⟩

theorem wpAny_tail {l : List Oper} {m : Nat} {T : Nat → Value → World → Prop} {a0 : Act} {w0 : World} (hok : okRegT l m a0.tmps.size = true) (hseq : Region.seqB .any l.toArray (l.length - m) m ((List.replicate m true ++ List.replicate (l.length - m) false).toArray) = true) (hT : ∀ i, Stable (T i))
    (hstep : ∀ k o, k < m → l[k]? = some o → ∀ (vs : Nat → Value) (w : World), Below w0.heap.size w0 w → (∀ j, j < k → waitsFor o j = true → T j (vs j) w) → StepOK P l.toArray (T k) o (putL (l.take k) 0 vs a0) w)
    (hQ : ∀ (vs : Nat → Value) (w : World), Below w0.heap.size w0 w → (∀ j, j < m → T j (vs j) w) → wpList P l.toArray Q (l.drop m) (putL (l.take m) 0 vs a0) w) :
    ∀ (fuel : Nat) (listed : Array Bool) (a : Act) (w : World), RInvT l m T a0 w0 listed a w → (List.range m).countP (fun i => !listed.getD i true) = fuel → wpAny P .any l.toArray Q (fuel + (l.length - m)) listed a w := by
  obtain ⟨hsel, hml, hspec⟩ := okRegT_spec hok
  intro fuel
  induction fuel with
  | zero =>
    intro listed a w hI hc
    have hall : ∀ j, j < m → listed.getD j true = true := by
      intro j hj
      have := List.countP_eq_zero.1 hc j (List.mem_range.2 hj)
      simpa using this
    have hli : listed = (List.replicate m true ++ List.replicate (l.length - m) false).toArray := by
      apply Array.ext
      · rw [hI.lsize]; simp; omega
      · intro i h1 h2
        have hil : i < l.length := by rw [← hI.lsize]; exact h1
        by_cases him : i < m
        · have := hall i him
          simp only [Array.getD_eq_getD_getElem?, Array.getElem?_eq_getElem h1, Option.getD_some] at this
          rw [this]
          simp [List.getElem_append, him]
        · have := hI.tail i (by omega) hil
          simp only [Array.getD_eq_getD_getElem?, Array.getElem?_eq_getElem h1, Option.getD_some] at this
          rw [this]
          simp [List.getElem_append, him]
    let vs : Nat → Value := fun j => match dstAt l j with | some d => a.tmps.getD d undef | none => undef
    have hTs : ∀ j, j < m → T j (vs j) w := by
      intro j hj
      have hjl : j < l.length := by omega
      obtain ⟨d, hd, _⟩ := (hspec j l[j] hj (by simp [hjl])).1
      have hda : dstAt l j = some d := by simp [dstAt, hjl, hd]
      have := hI.done j d hj hda (hall j hj)
      simp only [vs, hda]; exact this
    have hdt : ∀ j t, dstAt (l.take m) j = some t → j < m ∧ dstAt l j = some t := by
      intro j t hj
      rw [dstAt, List.getElem?_take] at hj
      split at hj
      · rename_i h; exact ⟨h, hj⟩
      · cases hj
    have ha : a = putL (l.take m) 0 vs a0 := by
      have h1 : a.tmps = (putL (l.take m) 0 vs a0).tmps := by
        apply Array.ext
        · rw [putL_size, hI.size]
        · intro t h1 h2
          have key : a.tmps.getD t undef = (putL (l.take m) 0 vs a0).tmps.getD t undef := by
            by_cases hw : ∃ j, dstAt (l.take m) j = some t
            · obtain ⟨j, hj⟩ := hw
              obtain ⟨hjm, hj2⟩ := hdt j t hj
              have hjl : j < l.length := by omega
              have hdj : l[j].dst = some t := by simpa [dstAt, hjl] using hj2
              rw [putL_at (l.take m) 0 vs a0 j t hj (fun i hi he => (hspec j l[j] hjm (by simp [hjl])).2.1 i hi (by rw [hdj]; exact (hdt i t he).2)) (by rw [← hI.size]; exact h1)]
              simp only [vs, Nat.zero_add, hj2]
            · rw [putL_old (l.take m) 0 vs a0 t (fun j hj => hw ⟨j, hj⟩)]
              refine hI.old t (fun j hj => ?_)
              rcases Nat.lt_or_ge j m with h | h
              · exact absurd ⟨j, by rw [dstAt, List.getElem?_take, if_pos h]; exact hj⟩ hw
              · have hjl : j < l.length := by
                  apply Classical.byContradiction; intro hn
                  rw [dstAt, List.getElem?_eq_none (by omega)] at hj; cases hj
                exact hI.tail j h hjl
          simpa [h1, h2] using key
      have h2 : a.defers = (putL (l.take m) 0 vs a0).defers := by rw [putL_defers, hI.defers]
      cases a; simp only at h1 h2; cases hx : putL (l.take m) 0 vs a0; rw [hx] at h1 h2; simp only at h1 h2; rw [h1, h2]
    have hlen : (l.drop m).length = l.length - m := by simp
    have h3 := hQ vs w hI.below hTs
    rw [← ha] at h3
    have := wpAny_of_seq (P := P) (md := .any) (ops := l.toArray) (Q' := Q) (l.drop m) m listed a w (fun j => by simp [List.getElem?_drop]) (by rw [hlen, hli]; exact hseq) h3
    rw [hlen] at this
    rw [Nat.zero_add]
    exact this
  | succ fuel ih =>
    intro listed a w hI hc
    obtain ⟨i0, hi0, hun⟩ : ∃ i0, i0 < m ∧ listed.getD i0 true = false := by
      have hp : 0 < (List.range m).countP (fun i => !listed.getD i true) := by omega
      obtain ⟨i0, h1, h2⟩ := List.countP_pos_iff.1 hp
      exact ⟨i0, List.mem_range.1 h1, by simpa using h2⟩
    have hready : Region.ready .any l.toArray listed ≠ [] := by
      intro hr
      have hall : ∀ j, j < m → listed.getD j true = true := by
        intro j
        induction j using Nat.strongRecOn with
        | ind j ih2 =>
          intro hj
          apply Classical.byContradiction
          intro hn
          have hjl : j < l.length := by omega
          have hmem : j ∈ Region.ready .any l.toArray listed := by
            rw [mem_ready]
            refine ⟨by simpa using hn, l[j], by simp [hjl], fun e he hb => ?_⟩
            have hlt := (hspec j l[j] hj (by simp [hjl])).2.2.1 e he hb
            have h1 := ih2 e.on hlt (by omega)
            have hs : e.on < listed.size := by rw [hI.lsize]; omega
            simpa [hs] using h1
          rw [hr] at hmem; cases hmem
      rw [hall i0 hi0] at hun; cases hun
    rw [show fuel + 1 + (l.length - m) = (fuel + (l.length - m)) + 1 by omega]
    refine ⟨fun hr => absurd hr hready, fun k hk => ?_⟩
    obtain ⟨h0, o, ho, hdeps⟩ := mem_ready.1 hk
    have hol : l[k]? = some o := by simpa using ho
    have hkl : k < l.length := (List.getElem?_eq_some_iff.1 hol).1
    have hkm : k < m := by
      apply Classical.byContradiction
      intro hn
      have h1 := okRegT_tail hok k o (by omega) hol i0 hi0
      obtain ⟨e, he, hb⟩ := Array.any_eq_true'.1 h1
      rw [Bool.and_eq_true] at hb
      have hon : e.on = i0 := by simpa using hb.2
      have h2 := hdeps e he hb.1
      rw [hon] at h2
      have hs : i0 < listed.size := by rw [hI.lsize]; omega
      simp [hs] at h2 hun
      rw [hun] at h2; cases h2
    obtain ⟨⟨d, hd, hdn⟩, huniq, hafter, hlook⟩ := hspec k o hkm hol
    let vs : Nat → Value := fun j => match dstAt l j with | some d => a.tmps.getD d undef | none => undef
    have hlisted : ∀ j, waitsFor o j = true → listed.getD j true = true ∧ j < k := by
      intro j hj
      obtain ⟨e, he, hb⟩ := Array.any_eq_true'.1 hj
      rw [Bool.and_eq_true] at hb
      have hon : e.on = j := by simpa using hb.2
      have h1 := hdeps e he hb.1
      have h2 := hafter e he hb.1
      rw [hon] at h1 h2
      have hs : j < listed.size := by rw [hI.lsize]; omega
      exact ⟨by simpa [hs] using h1, h2⟩
    have hTs : ∀ j, j < k → waitsFor o j = true → T j (vs j) w := by
      intro j hj hw
      have hjl : j < l.length := by omega
      obtain ⟨d', hd', _⟩ := (hspec j l[j] (by omega) (by simp [hjl])).1
      have hda : dstAt l j = some d' := by simp [dstAt, show j < l.length by omega, hd']
      have := hI.done j d' (by omega) hda (hlisted j hw).1
      simp only [vs, hda]; exact this
    have hst := hstep k o hkm hol vs w hI.below hTs
    -- it looks at slots that are the same here and there
    have hslot : ∀ t ∈ o.looksAt l.toArray, a.tmps.getD t undef = (putL (l.take k) 0 vs a0).tmps.getD t undef := by
      intro t ht
      rcases hlook t ht with hold | ⟨j, hjk, hwj, hdj⟩
      · have hnot : ∀ j, dstAt l j = some t → ∀ o', l[j]? = some o' → waitsFor o' k = true := by
          intro j hj o' ho'
          have hjl : j < l.length := (List.getElem?_eq_some_iff.1 ho').1
          have := List.all_eq_true.1 hold j (List.mem_range.2 hjl)
          simpa [hj, ho'] using this
        rw [hI.old t (fun j hj => ?_), putL_old _ _ _ _ _ (fun j hj => ?_)]
        · have hjl : j < l.length := by
            apply Classical.byContradiction; intro hn
            rw [dstAt, List.getElem?_take] at hj
            split at hj
            · omega
            · cases hj
          have hj' : dstAt l j = some t := by
            rw [dstAt, List.getElem?_take] at hj
            split at hj
            · exact hj
            · cases hj
          have hjk : j < k := by
            apply Classical.byContradiction; intro hn
            rw [dstAt, List.getElem?_take, if_neg hn] at hj; cases hj
          have hw := hnot j hj' l[j] (by simp [hjl])
          obtain ⟨e, he, hb⟩ := Array.any_eq_true'.1 hw
          rw [Bool.and_eq_true] at hb
          have hon : e.on = k := by simpa using hb.2
          have := (hspec j l[j] (by omega) (by simp [hjl])).2.2.1 e he hb.1
          omega
        · have hjl : j < l.length := by
            apply Classical.byContradiction; intro hn
            rw [dstAt, List.getElem?_eq_none (by omega)] at hj; cases hj
          have hw := hnot j hj l[j] (by simp [hjl])
          cases hl : listed.getD j true with
          | false => rfl
          | true => exact absurd (hI.closed j l[j] (by simp [hjl]) hl k hw) (by rw [h0]; simp)
      · have hjl : j < l.length := by omega
        have hdj' : l[j].dst = some t := by simpa [dstAt, hjl] using hdj
        have h1 : dstAt (l.take k) j = some t := by rw [dstAt, List.getElem?_take, if_pos hjk]; exact hdj
        have h2 : ∀ i, i ≠ j → dstAt (l.take k) i ≠ some t := by
          intro i hi hh
          rw [dstAt, List.getElem?_take] at hh
          split at hh
          · exact (hspec j l[j] (by omega) (by simp [hjl])).2.1 i hi (by rw [hdj']; exact hh)
          · cases hh
        have h3 : t < a0.tmps.size := by
          obtain ⟨d', hd', hlt⟩ := (hspec j l[j] (by omega) (by simp [hjl])).1
          rw [hd'] at hdj'; cases hdj'; exact hlt
        rw [putL_at _ 0 vs a0 j t h1 h2 h3]
        simp only [vs, Nat.zero_add, hdj]
    have he : execOp a.eval o = execOp (putL (l.take k) 0 vs a0).eval o := execOp_congr o (fun cs b => Region.noSelect_spec hsel k o cs b ho) fun x hx => by
      cases x with
      | tmp t => exact hslot t (List.mem_append_left _ (List.mem_filterMap.2 ⟨.tmp t, by simpa using hx, rfl⟩))
      | const v => rfl
      | global g => rfl
      | func f => rfl
    have hwant : Region.wanted o (yielded l.toArray a.tmps) = Region.wanted o (yielded l.toArray (putL (l.take k) 0 vs a0).tmps) := by
      unfold Region.wanted
      cases hg : o.guard with
      | none => rfl
      | some gw =>
        obtain ⟨g, want⟩ := gw
        have hy : yielded l.toArray a.tmps g = yielded l.toArray (putL (l.take k) 0 vs a0).tmps g := by
          unfold yielded
          cases ht : ((l.toArray)[g]?).bind (·.dst) with
          | none => rfl
          | some t =>
            have hs := hslot t (List.mem_append_right _ (by rw [hg]; simpa using ht))
            have hsz : a.tmps.size = (putL (l.take k) 0 vs a0).tmps.size := (hI.size).trans (putL_size _ _ _ _).symm
            have h2 : a.tmps[t]? = (putL (l.take k) 0 vs a0).tmps[t]? := by
              by_cases hlt : t < a.tmps.size
              · have hlt2 : t < (putL (l.take k) 0 vs a0).tmps.size := hsz ▸ hlt
                simp [hlt, hlt2] at hs ⊢; exact hs
              · rw [Array.getElem?_eq_none (Nat.le_of_not_lt hlt), Array.getElem?_eq_none (hsz ▸ Nat.le_of_not_lt hlt)]
            simp only [Option.bind_some, h2]
        simp only [hy]
    -- what is left holds behind it
    have hnext : ∀ v w', Below w.heap.size w w' → T k v w' → wpAny P .any l.toArray Q (fuel + (l.length - m)) (listed.setIfInBounds k true) (a.put o.dst v) w' := by
      intro v w' hb hv
      have hks : k < listed.size := by rw [hI.lsize]; exact hkl
      have hset : ∀ j, (listed.setIfInBounds k true).getD j true = if j = k then true else listed.getD j true := by
        intro j
        by_cases hj : j = k
        · subst hj; simp [hks]
        · rw [if_neg hj, getD_set_ne true (Ne.symm hj)]
      apply ih
      · refine ⟨hI.below.trans (hb.mono hI.below.size), by rw [put_defers]; exact hI.defers, by rw [put_size]; exact hI.size, by simpa using hI.lsize, ?_, ?_, ?_, fun t ht1 ht2 => by rw [hset, if_neg (by omega)]; exact hI.tail t ht1 ht2⟩
        · intro t ht
          rw [put_other]
          · apply hI.old
            intro j hj
            have := ht j hj
            rw [hset] at this
            split at this
            · cases this
            · exact this
          · intro hdt
            have := ht k (by simp [dstAt, hol, hdt])
            rw [hset, if_pos rfl] at this; cases this
        · intro j o' ho' hl i hi
          rw [hset] at hl ⊢
          by_cases hik : i = k
          · rw [if_pos hik]
          · rw [if_neg hik]
            by_cases hjk : j = k
            · subst hjk; rw [hol] at ho'; cases ho'; exact (hlisted i hi).1
            · rw [if_neg hjk] at hl; exact hI.closed j o' ho' hl i hi
        · intro j d' hj hdj hl
          by_cases hjk : j = k
          · subst hjk
            have : o.dst = some d' := by simpa [dstAt, hol] using hdj
            rw [this, put_at _ _ _ (by rw [hI.size]; rw [hd] at this; cases this; exact hdn)]
            exact hv
          · rw [hset, if_neg hjk] at hl
            rw [put_other _ _ _ _ (fun h => huniq j hjk (by rw [hdj, h]))]
            exact hT j _ _ _ hb (hI.done j d' hj hdj hl)
      · have := cnt_set (fun i => !listed.getD i true) (fun i => !(listed.setIfInBounds k true).getD i true) k (by simp only [h0]; rfl) (by simp only [hset]; simp) (fun j hj => by simp only [hset, if_neg hj]) m hkm
        omega
    unfold wpOp
    rw [ho]
    unfold StepOK at hst
    rw [← hwant, ← he] at hst
    simp only
    split
    · rename_i hw
      rw [if_pos hw] at hst
      exact .inl (wp_of_upS hst hnext)
    · rename_i hw
      rw [if_neg hw] at hst
      exact hnext undef w (Below.refl _ _) hst


def RunT (P : Program) (Q : Exit → Act → World → Prop) (l0 : List Oper) (m : Nat) (a0 : Act) (w0 : World) : Nat → List Oper → List (Value → World → Prop) → Prop
  | k, [], Ts => ∀ (vs : Nat → Value) (w : World), Below w0.heap.size w0 w → (∀ j, j < k → TR Ts k j (vs j) w) → wpList P l0.toArray Q (l0.drop m) (putL (l0.take m) 0 vs a0) w
  | k, o :: r, Ts => ∃ T, Stable T ∧ (∀ (vs : Nat → Value) (w : World), Below w0.heap.size w0 w → (∀ j, j < k → waitsFor o j = true → TR Ts k j (vs j) w) → StepOK P l0.toArray T o (putL (l0.take k) 0 vs a0) w) ∧
      RunT P Q l0 m a0 w0 (k + 1) r (T :: Ts)
theorem runT_spec {l0 : List Oper} {m : Nat} {a0 : Act} {w0 : World} : ∀ (r : List Oper) (k : Nat) (Ts : List (Value → World → Prop)), Ts.length = k → (∀ j, j < k → Stable (TR Ts k j)) → RunT P Q l0 m a0 w0 k r Ts →
    ∃ T : Nat → Value → World → Prop, (∀ j, j < k → T j = TR Ts k j) ∧ (∀ i, Stable (T i)) ∧
      (∀ i o, r[i]? = some o → ∀ (vs : Nat → Value) (w : World), Below w0.heap.size w0 w → (∀ j, j < k + i → waitsFor o j = true → T j (vs j) w) → StepOK P l0.toArray (T (k + i)) o (putL (l0.take (k + i)) 0 vs a0) w) ∧
      (∀ (vs : Nat → Value) (w : World), Below w0.heap.size w0 w → (∀ j, j < k + r.length → T j (vs j) w) → wpList P l0.toArray Q (l0.drop m) (putL (l0.take m) 0 vs a0) w)
  | [], k, Ts, hl, hs, h => by
    refine ⟨fun j => if j < k then TR Ts k j else fun _ _ => True, fun j hj => by simp [hj], fun i => ?_, fun i o hi => by simp at hi, fun vs w hb hT => ?_⟩
    · by_cases hi : i < k
      · simp only [hi, if_true]; exact hs i hi
      · simp only [hi, if_false]; exact fun _ _ _ _ _ => trivial
    · refine h vs w hb (fun j hj => ?_)
      have := hT j (by simpa using hj)
      simpa [hj] using this
  | o :: r, k, Ts, hl, hs, h => by
    obtain ⟨T0, hst, hstep, hrest⟩ := h
    have hTR : ∀ j, j < k → TR (T0 :: Ts) (k + 1) j = TR Ts k j := by
      intro j hj
      unfold TR
      rw [show k + 1 - 1 - j = (k - 1 - j) + 1 by omega, List.getD_cons_succ]
    have hTk : TR (T0 :: Ts) (k + 1) k = T0 := by unfold TR; rw [show k + 1 - 1 - k = 0 by omega, List.getD_cons_zero]
    obtain ⟨T, h1, h2, h3, h4⟩ := runT_spec r (k + 1) (T0 :: Ts) (by simp [hl]) (fun j hj => by
      by_cases hjk : j = k
      · subst hjk; rw [hTk]; exact hst
      · rw [hTR j (by omega)]; exact hs j (by omega)) hrest
    have hT : ∀ j, j < k → T j = TR Ts k j := fun j hj => (h1 j (by omega)).trans (hTR j hj)
    have hk : T k = T0 := (h1 k (by omega)).trans hTk
    refine ⟨T, hT, h2, fun i o' hi vs w hb hd => ?_, fun vs w hb hd => h4 vs w hb (fun j hj => hd j (by simp; omega))⟩
    cases i with
    | zero =>
      simp at hi; subst hi
      rw [Nat.add_zero, hk]
      exact hstep vs w hb (fun j hj hw => by rw [← hT j hj]; exact hd j (by omega) hw)
    | succ i =>
      have := h3 i o' (by simpa using hi) vs w hb (fun j hj hw => hd j (by omega) hw)
      rwa [show k + 1 + i = k + (i + 1) by omega] at this

theorem wp_region_tail {id : Nat} {l : List Oper} {a0 : Act} {w0 : World} (m : Nat) (hm : P.follows .mixedOrders = true) (hok : okRegT l m a0.tmps.size = true) (hseq : Region.seqB .any l.toArray (l.length - m) m ((List.replicate m true ++ List.replicate (l.length - m) false).toArray) = true) (h : RunT P Q l m a0 w0 0 (l.take m) []) :
    (Code.region id l.toArray true).wp P Q a0 w0 := by
  obtain ⟨T, _, h2, h3, h4⟩ := runT_spec (l.take m) 0 [] rfl (fun j hj => by omega) h
  have hml := (okRegT_spec hok).2.1
  have H := wpAny_tail (P := P) (Q := Q) (T := T) hok hseq h2 (fun k o hk ho vs w hb hd => by
    have := h3 k o (by rw [List.getElem?_take, if_pos hk]; exact ho) vs w hb (fun j hj => hd j (by omega))
    rwa [Nat.zero_add] at this) (fun vs w hb hd => h4 vs w hb (fun j hj => hd j (by rw [List.length_take] at hj; omega))) m (Array.replicate l.toArray.size false) a0 _
    ⟨below_drewN (Below.refl _ _) 1, rfl, rfl, by simp, fun _ _ => rfl, fun j o ho hl => by
      have hj : j < l.length := (List.getElem?_eq_some_iff.1 ho).1
      simp [hj] at hl, fun j d hj _ hl => by
      have hj2 : j < l.length := by omega
      simp [hj2] at hl, fun t _ ht => by simp [ht]⟩ (by
      have : (List.range m).countP (fun i => !(Array.replicate l.toArray.size false).getD i true) = (List.range m).length := by
        rw [List.countP_eq_length]
        intro i hi
        have := List.mem_range.1 hi
        have h5 : i < l.length := by omega
        simp [h5]
      rw [this]; simp)
  refine wp_region_any hm ?_
  have e1 : m + (l.length - m) = l.toArray.size := by simp; omega
  rw [e1] at H
  exact H
theorem RunT.pure {l0 : List Oper} {m : Nat} {a0 : Act} {w0 : World} {k : Nat} {o : Oper} {r : List Oper} {Ts : List (Value → World → Prop)} {c : Value}
    (h : ∀ (vs : Nat → Value) (w : World), Below w0.heap.size w0 w → (∀ j, j < k → waitsFor o j = true → TR Ts k j (vs j) w) → StepOK P l0.toArray (isV c) o (putL (l0.take k) 0 vs a0) w)
    (hr : RunT P Q l0 m a0 w0 (k + 1) r (isV c :: Ts)) : RunT P Q l0 m a0 w0 k (o :: r) Ts := ⟨isV c, isV_stable c, h, hr⟩
theorem RunT.such {l0 : List Oper} {m : Nat} {a0 : Act} {w0 : World} {k : Nat} {o : Oper} {r : List Oper} {Ts : List (Value → World → Prop)} (T : Value → World → Prop) (hT : Stable T)
    (h : ∀ (vs : Nat → Value) (w : World), Below w0.heap.size w0 w → (∀ j, j < k → waitsFor o j = true → TR Ts k j (vs j) w) → StepOK P l0.toArray T o (putL (l0.take k) 0 vs a0) w)
    (hr : RunT P Q l0 m a0 w0 (k + 1) r (T :: Ts)) : RunT P Q l0 m a0 w0 k (o :: r) Ts := ⟨T, hT, h, hr⟩
end
end Go.Proofs.YtemegkapmgcffaaGreat

/- As RegionS, and the last operations (behind m) come in the text's order, each behind all others. -/
namespace Go.Proofs.YtemegkapmgcffaaGreat
open Go.RowKit
set_option linter.unusedSimpArgs false
set_option linter.unusedVariables false

section
variable {P : Program} {Q Q1 : Exit → Act → World → Prop}
theorem Oper_wp_exits {o : Oper} {a : Act} {w : World} {K K' : Act → World → Prop} (h : ∀ a w, K a w → K' a w) (hQ : ∀ ex a w, ex ≠ .normal → Q1 ex a w → Q ex a w)
    (hh : o.wp P a w K Q1) : o.wp P a w K' Q := by
  have hlo : LetsOut Q1 → LetsOut Q := fun ⟨a, w, h⟩ => ⟨a, w, hQ _ _ _ (by intro e; cases e) h⟩
  unfold Oper.wp at *
  generalize (execOp a.eval o).run P w = r at *
  cases r with
  | ok n w' =>
    cases n <;> simp only [Oper.upon] at hh ⊢ <;>
      first
        | exact h _ _ hh
        | exact Calls.mono hh (fun e w'' he => by cases e <;> first | exact h _ _ he | exact hlo he | exact hQ _ _ _ (by intro e; cases e) he)
        | exact Rows.mono hh (fun _ _ he => h _ _ he)
  | halt x w' => cases x <;> simp only [Oper.upon] at hh ⊢ <;> first | exact hh | exact hQ _ _ _ (by intro e; cases e) hh
def tailB (l : List Oper) (m : Nat) : Bool := decide (m ≤ l.length) && ((List.range m).all fun k => match l[k]? with
  | none => false
  | some o => o.guard.isNone && o.after.all (fun e => !Region.binds .any e || decide (e.on < k))) &&
  (List.range l.length).all fun k => decide (k < m) || match l[k]? with
    | none => false
    | some o => (List.range m).all (fun j => waitsFor o j)
theorem tailB_spec {l : List Oper} {m : Nat} (h : tailB l m = true) : m ≤ l.length ∧ (∀ k o, k < m → l[k]? = some o → o.guard = none ∧ ∀ e ∈ o.after, Region.binds .any e = true → e.on < k) ∧
    ∀ k o, m ≤ k → l[k]? = some o → ∀ j, j < m → waitsFor o j = true := by
  unfold tailB at h
  simp only [Bool.and_eq_true, decide_eq_true_eq] at h
  obtain ⟨⟨hm, h2⟩, h3⟩ := h
  refine ⟨hm, fun k o hk ho => ?_, fun k o hk ho j hj => ?_⟩
  · have := List.all_eq_true.1 h2 k (List.mem_range.2 hk)
    rw [ho] at this
    simp only [Bool.and_eq_true] at this
    refine ⟨by simpa using this.1, fun e he hb => ?_⟩
    have h5 := Array.all_eq_true'.1 this.2 e he
    simpa [hb] using h5
  · have := List.all_eq_true.1 h3 k (List.mem_range.2 (List.getElem?_eq_some_iff.1 ho).1)
    rw [ho] at this
    simp only [Bool.or_eq_true, decide_eq_true_eq] at this
    rcases this with h1 | h1
    · omega
    · exact List.all_eq_true.1 h1 j (List.mem_range.2 hj)
theorem wpAny_prefix {l : List Oper} {m : Nat} (ht : tailB l m = true) (hseq : Region.seqB .any l.toArray (l.length - m) m ((List.replicate m true ++ List.replicate (l.length - m) false).toArray) = true)
    (hQ : ∀ a w, Q1 .normal a w → wpList P l.toArray Q (l.drop m) a w) (hQ2 : ∀ ex a w, ex ≠ .normal → Q1 ex a w → Q ex a w) :
    ∀ (fuel : Nat) (listed : Array Bool) (a : Act) (w : World), listed.size = m → (List.range m).countP (fun i => !listed.getD i true) = fuel → wpAny P .any (l.take m).toArray Q1 fuel listed a w →
      wpAny P .any l.toArray Q (fuel + (l.length - m)) (listed ++ Array.replicate (l.length - m) false) a w := by
  obtain ⟨hml, hpre, htail⟩ := tailB_spec ht
  have hgetL : ∀ (listed : Array Bool) (b : Bool), listed.size = m → ∀ i, i < m → (listed ++ Array.replicate (l.length - m) false).getD i b = listed.getD i b := by
    intro listed b hs i hi
    simp only [Array.getD_eq_getD_getElem?]
    rw [Array.getElem?_append_left (by omega)]
  intro fuel
  induction fuel with
  | zero =>
    intro listed a w hs hc h
    have hall : ∀ j, j < m → listed.getD j true = true := by
      intro j hj
      have := List.countP_eq_zero.1 hc j (List.mem_range.2 hj)
      simpa using this
    have hli : listed ++ Array.replicate (l.length - m) false = (List.replicate m true ++ List.replicate (l.length - m) false).toArray := by
      have : listed = (List.replicate m true).toArray := by
        apply Array.ext
        · rw [hs]; simp
        · intro i h1 h2
          have := hall i (by omega)
          simp only [Array.getD_eq_getD_getElem?, Array.getElem?_eq_getElem h1, Option.getD_some] at this
          rw [this]; simp
      rw [this]
      apply Array.ext'
      simp
    have hlen : (l.drop m).length = l.length - m := by simp
    have := wpAny_of_seq (P := P) (md := .any) (ops := l.toArray) (Q' := Q) (l.drop m) m (listed ++ Array.replicate (l.length - m) false) a w (fun j => by simp [List.getElem?_drop]) (by rw [hlen, hli]; exact hseq) (hQ _ _ h.2)
    rw [hlen] at this
    rw [Nat.zero_add]
    exact this
  | succ fuel ih =>
    intro listed a w hs hc h
    obtain ⟨i0, hi0, hun⟩ : ∃ i0, i0 < m ∧ listed.getD i0 true = false := by
      have hp : 0 < (List.range m).countP (fun i => !listed.getD i true) := by omega
      obtain ⟨i0, h1, h2⟩ := List.countP_pos_iff.1 hp
      exact ⟨i0, List.mem_range.1 h1, by simpa using h2⟩
    have hbig : ∀ i, i ∈ Region.ready .any l.toArray (listed ++ Array.replicate (l.length - m) false) → i < m ∧ i ∈ Region.ready .any (l.take m).toArray listed := by
      intro i hi
      obtain ⟨h0, o, ho, hdeps⟩ := mem_ready.1 hi
      have hol : l[i]? = some o := by simpa using ho
      have him : i < m := by
        apply Classical.byContradiction
        intro hn
        obtain ⟨e, he, hb⟩ := Array.any_eq_true'.1 (htail i o (by omega) hol i0 hi0)
        rw [Bool.and_eq_true] at hb
        have hon : e.on = i0 := by simpa using hb.2
        have h2 := hdeps e he hb.1
        rw [hon, hgetL _ _ hs _ hi0] at h2
        have hs2 : i0 < listed.size := by omega
        simp [hs2] at h2 hun
        rw [hun] at h2; cases h2
      refine ⟨him, mem_ready.2 ⟨by rw [← hgetL _ _ hs _ him]; exact h0, o, by simp [List.getElem?_take, him, hol], fun e he hb => ?_⟩⟩
      have h2 := hdeps e he hb
      have := (hpre i o him hol).2 e he hb
      rwa [hgetL _ _ hs _ (by omega)] at h2
    have hready : Region.ready .any l.toArray (listed ++ Array.replicate (l.length - m) false) ≠ [] := by
      intro hr
      have hall : ∀ j, j < m → listed.getD j true = true := by
        intro j
        induction j using Nat.strongRecOn with
        | ind j ih2 =>
          intro hj
          apply Classical.byContradiction
          intro hn
          have hjl : j < l.length := by omega
          have hmem : j ∈ Region.ready .any l.toArray (listed ++ Array.replicate (l.length - m) false) := by
            rw [mem_ready]
            refine ⟨by rw [hgetL _ _ hs _ hj]; simpa using hn, l[j], by simp [hjl], fun e he hb => ?_⟩
            have hlt := (hpre j l[j] hj (by simp [hjl])).2 e he hb
            have h1 := ih2 e.on hlt (by omega)
            have hs2 : e.on < listed.size := by omega
            rw [hgetL _ _ hs _ (by omega)]
            simpa [hs2] using h1
          rw [hr] at hmem; cases hmem
      rw [hall i0 hi0] at hun; cases hun
    rw [show fuel + 1 + (l.length - m) = (fuel + (l.length - m)) + 1 by omega]
    refine ⟨fun hr => absurd hr hready, fun k hk => ?_⟩
    obtain ⟨hkm, hkp⟩ := hbig k hk
    have hw := h.2 k hkp
    obtain ⟨h0, o, ho, hdeps⟩ := mem_ready.1 hk
    have hol : l[k]? = some o := by simpa using ho
    have hop : ((l.take m).toArray)[k]? = some o := by simp [List.getElem?_take, hkm, hol]
    have hg := (hpre k o hkm hol).1
    have hset : (listed ++ Array.replicate (l.length - m) false).setIfInBounds k true = listed.setIfInBounds k true ++ Array.replicate (l.length - m) false := by
      exact Array.setIfInBounds_append_left (by omega)
    have hcnt : (List.range m).countP (fun i => !(listed.setIfInBounds k true).getD i true) = fuel := by
      have hks : k < listed.size := by omega
      have h00 : listed.getD k true = false := by rw [← hgetL _ _ hs _ hkm]; exact h0
      have := cnt_set (fun i => !listed.getD i true) (fun i => !(listed.setIfInBounds k true).getD i true) k (by simp only [h00]; rfl) (by simp [hks]) (fun j hj => by simp only [getD_set_ne true (Ne.symm hj)]) m hkm
      omega
    rw [hset]
    unfold wpOp at hw ⊢
    rw [hop] at hw
    rw [ho]
    simp only at hw ⊢
    have hwa : ∀ ops : Array Oper, Region.wanted o (yielded ops a.tmps) = true := fun ops => by unfold Region.wanted; rw [hg]
    rw [hwa] at hw ⊢
    simp only [if_true] at hw ⊢
    rcases hw with hw | ⟨h1, h2⟩
    · exact .inl (Oper_wp_exits (fun a' w' hk2 => ih _ _ _ (by simpa using hs) hcnt hk2) hQ2 hw)
    · obtain ⟨a9, w9, h9⟩ := h2
      exact .inr ⟨h1, a9, w9, hQ2 _ _ _ (by intro e; cases e) h9⟩
/-- what the walk of the first m operations must come to -/
def QT (P : Program) (Q : Exit → Act → World → Prop) (l : List Oper) (m : Nat) : Exit → Act → World → Prop := fun ex a w => match ex with | .normal => wpList P l.toArray Q (l.drop m) a w | ex => Q ex a w
theorem wp_region_tailS {id : Nat} {R : World → World → Prop} {l : List Oper} {a0 : Act} {w0 : World} (m : Nat) (es : List Nat) (src : Nat → Nat) (J0 : Value → World → Prop) (hm : P.follows .mixedOrders = true) (hok : okRegN (l.take m) a0.tmps.size es = true) (hoe : okEff (l.take m) es = true) (ht : tailB l m = true)
    (hseq : Region.seqB .any l.toArray (l.length - m) m ((List.replicate m true ++ List.replicate (l.length - m) false).toArray) = true)
    (hRB : ∀ w w', Below w.heap.size w w' → R w w') (hRt : ∀ w w1 w2, R w w1 → R w1 w2 → R w w2) (hJs : Stable J0) (hJ0 : J0 undef w0) (h : RunS P (QT P Q l m) R es src (l.take m) a0 w0 0 (l.take m) [] J0) :
    (Code.region id l.toArray true).wp P Q a0 w0 := by
  have hml := (tailB_spec ht).1
  have hlen : (l.take m).length = m := by simp; omega
  have hlt : ∀ e, e ∈ es → e < 0 + (l.take m).length := by
    intro e he
    have h1 := List.all_eq_true.1 hoe e he
    rw [Bool.and_eq_true] at h1
    have h2 : e < (l.take m).length := by simpa using h1.1
    omega
  obtain ⟨T, J, _, hj0, h2, h2e, h2c, h2s, h2n, h3, h3e, h4⟩ := runS_spec (l.take m) 0 [] J0 rfl (fun j hj => by omega) hJs hlt h
  have hb := below_drewN (Below.refl w0.heap.size w0) 1
  refine wp_region_any hm ?_
  have H := wpAny_effS (P := P) (Q := QT P Q l m) (src := src) hok hoe hRB hRt h2 (fun e he => h2e e (Nat.zero_le _) he) (fun k hk => h2c k (Nat.zero_le _) hk) (fun k => h2s k (Nat.zero_le _)) (fun k o ho hk => by have := h2n k o ho (by rw [Nat.zero_add]; exact hk); rwa [Nat.zero_add] at this) (fun k o ho hke vs w hb hd => by
      have := h3 k o ho (by rw [Nat.zero_add]; exact hke) vs w hb (fun j hj => hd j (by omega))
      rwa [Nat.zero_add] at this) (fun k o ho hke vs w hb hd hJ => by
      have := h3e k o ho (by rw [Nat.zero_add]; exact hke) vs w hb (fun j hj => hd j (by omega)) (by rw [Nat.zero_add]; exact hJ)
      rwa [Nat.zero_add] at this) (fun vs w hb hd hJ => h4 vs w hb (fun j hj => hd j (by omega)) (by rw [Nat.zero_add]; exact hJ))
    m (Array.replicate m false) a0 { w0 with drawn := w0.drawn + 1 } ⟨hRB _ _ hb, rfl, rfl, by simp; omega, fun _ _ => rfl, fun j o ho hl => by
      have hj : j < (l.take m).length := (List.getElem?_eq_some_iff.1 ho).1
      rw [hlen] at hj
      simp [hj] at hl, fun j d hj _ hl => by
      rw [hlen] at hj
      simp [hj] at hl, ⟨0, Nat.zero_le _, fun e he => by
      have h2 := hlt e he
      rw [hlen, Nat.zero_add] at h2
      simp [h2], by rw [hj0]; exact hJs _ _ _ hb hJ0⟩⟩ (by rw [hlen]; exact Nat.le_trans List.countP_le_length (by simp))
  have := wpAny_prefix (P := P) (Q := Q) (Q1 := QT P Q l m) ht hseq (fun _ _ h => h) (fun ex a w hne h => by cases ex <;> first | exact absurd rfl hne | exact h) m (Array.replicate m false) a0 _ (by simp) (by
      have : (List.range m).countP (fun i => !(Array.replicate m false).getD i true) = (List.range m).length := by
        rw [List.countP_eq_length]
        intro i hi
        have := List.mem_range.1 hi
        simp [this]
      rw [this]; simp) H
  have e1 : m + (l.length - m) = l.toArray.size := by simp; omega
  have e2 : Array.replicate m false ++ Array.replicate (l.length - m) false = Array.replicate l.toArray.size false := by
    rw [Array.replicate_append_replicate]; congr 1
  rw [e1, e2] at this
  exact this
end
end Go.Proofs.YtemegkapmgcffaaGreat

/- As RegionE, and an operation that writes waits for the one ahead of it that writes alone (printed by wip/gen/mkregionv.py). -/
namespace Go.Proofs.YtemegkapmgcffaaGreat
open Go.RowKit
set_option linter.unusedSimpArgs false
set_option linter.unusedVariables false

section
variable {P : Program} {Q : Exit → Act → World → Prop}
theorem prevE_some (es : List Nat) : ∀ (k e : Nat), e ∈ es → e < k → prevE es k ≠ none ∧ ∀ q, prevE es k = some q → e ≤ q := by
  intro k
  induction k with
  | zero => intro e _ h; omega
  | succ k ih =>
    intro e he hlt
    by_cases hk : k ∈ es
    · rw [prevE, if_pos hk]
      exact ⟨by simp, fun q hq => by cases hq; omega⟩
    · rw [prevE, if_neg hk]
      exact ih e he (by rcases Nat.lt_or_ge e k with h | h; exact h; exact absurd (show k = e by omega) (fun h2 => hk (h2 ▸ he)))
/-- each that writes waits for the one ahead of it that writes -/
def okEffV (l : List Oper) (es : List Nat) : Bool := es.all fun k => decide (k < l.length) && (match prevE es k, l[k]? with | some e, some o => waitsFor o e | none, _ => true | _, _ => false)
theorem wpAny_effV {l : List Oper} {R : World → World → Prop} {T : Nat → Value → World → Prop} {J : Nat → Value → World → Prop} {es : List Nat} {a0 : Act} {w0 : World} (hok : okReg l a0.tmps.size = true) (hoe : okEffV l es = true)
    (hRB : ∀ w w', Below w.heap.size w w' → R w w') (hRt : ∀ w w1 w2, R w w1 → R w1 w2 → R w w2)
    (hT : ∀ i, StableR R (T i)) (hTe : ∀ e, e ∈ es → ∀ v w, J (e + 1) v w → T e v w) (hJc : ∀ k, k ∉ es → J (k + 1) = J k) (hJs : ∀ k, Stable (J k))
    (hstep : ∀ k o, l[k]? = some o → k ∉ es → ∀ (vs : Nat → Value) (w : World), R w0 w → (∀ j, j < k → waitsFor o j = true → T j (vs j) w) → StepOK P l.toArray (T k) o (putL (l.take k) 0 vs a0) w)
    (hstepE : ∀ k o, l[k]? = some o → k ∈ es → ∀ (vs : Nat → Value) (w : World), R w0 w → (∀ j, j < k → waitsFor o j = true → T j (vs j) w) → J k (lastV (prevE es k) vs) w → StepE P l.toArray R (J (k + 1)) o (putL (l.take k) 0 vs a0) w)
    (hQ : ∀ (vs : Nat → Value) (w : World), R w0 w → (∀ j, j < l.length → T j (vs j) w) → J l.length (lastV (prevE es l.length) vs) w → Q .normal (putL l 0 vs a0) w) :
    ∀ (fuel : Nat) (listed : Array Bool) (a : Act) (w : World), EInv l R T J es a0 w0 listed a w → (List.range l.length).countP (fun i => !listed.getD i true) ≤ fuel → wpAny P .any l.toArray Q fuel listed a w := by
  obtain ⟨hsel, hspec⟩ := okReg_spec hok
  have hes : ∀ k ∈ es, k < l.length ∧ ∀ e, prevE es k = some e → ∀ o, l[k]? = some o → waitsFor o e = true := by
    intro k hk
    have h1 := List.all_eq_true.1 hoe k hk
    rw [Bool.and_eq_true] at h1
    refine ⟨by simpa using h1.1, fun e he o ho => ?_⟩
    have h2 := h1.2
    simpa [he, ho] using h2
  have hdown : ∀ (listed : Array Bool), (∀ j o, l[j]? = some o → listed.getD j true = true → ∀ i, waitsFor o i = true → listed.getD i true = true) →
      ∀ p, p ∈ es → listed.getD p true = true → ∀ e ∈ es, e < p → listed.getD e true = true := by
    intro listed hcl p
    induction p using Nat.strongRecOn with
    | ind p ih =>
      intro hp hl e he hep
      have hpl := (hes p hp).1
      cases hq : prevE es p with
      | none => exact absurd hq (prevE_some es p e he hep).1
      | some q =>
        have h1 := prevE_lt es p q hq
        have h2 := hcl p l[p] (by simp [hpl]) hl q ((hes p hp).2 q hq l[p] (by simp [hpl]))
        rcases Nat.lt_or_ge e q with h3 | h3
        · exact ih q h1.1 h1.2 h2 e he h3
        · have h4 := (prevE_some es p e he hep).2 q hq
          obtain rfl : e = q := by omega
          exact h2
  -- all have come up: the end
  have fin : ∀ (listed : Array Bool) (a : Act) (w : World), EInv l R T J es a0 w0 listed a w → Region.ready .any l.toArray listed = [] → Q .normal a w := by
    intro listed a w hI hr
    have hall : ∀ j, j < l.length → listed.getD j true = true := by
      intro j
      induction j using Nat.strongRecOn with
      | ind j ih =>
        intro hj
        apply Classical.byContradiction
        intro hn
        have hmem : j ∈ Region.ready .any l.toArray listed := by
          rw [mem_ready]
          refine ⟨by simpa using hn, l[j], by simp [hj], fun e he hb => ?_⟩
          have hlt := (hspec j l[j] (by simp [hj])).2.2.1 e he hb
          have h1 := ih e.on hlt (by omega)
          have hs : e.on < listed.size := by rw [hI.lsize]; omega
          simpa [hs] using h1
        rw [hr] at hmem; cases hmem
    have hTs : ∀ j, j < l.length → T j (valOf l a j) w := by
      intro j hj
      obtain ⟨d, hd, _⟩ := (hspec j l[j] (by simp [hj])).1
      have hda : dstAt l j = some d := by simp [dstAt, hj, hd]
      have := hI.done j d hj hda (hall j hj)
      simp only [valOf, hda]; exact this
    have ha : a = putL l 0 (valOf l a) a0 := by
      have h1 : a.tmps = (putL l 0 (valOf l a) a0).tmps := by
        apply Array.ext
        · rw [putL_size, hI.size]
        · intro t h1 h2
          have key : a.tmps.getD t undef = (putL l 0 (valOf l a) a0).tmps.getD t undef := by
            by_cases hw : ∃ j, dstAt l j = some t
            · obtain ⟨j, hj⟩ := hw
              have hjl : j < l.length := by
                apply Classical.byContradiction; intro hn
                rw [dstAt, List.getElem?_eq_none (by omega)] at hj; cases hj
              have hdj : l[j].dst = some t := by simpa [dstAt, hjl] using hj
              rw [putL_at l 0 (valOf l a) a0 j t hj (fun i hi => by rw [← hdj]; exact (hspec j l[j] (by simp [hjl])).2.1 i hi) (by rw [← hI.size]; exact h1)]
              simp only [valOf, Nat.zero_add, hj]
            · rw [putL_old l 0 (valOf l a) a0 t (fun j hj => hw ⟨j, hj⟩)]
              exact hI.old t (fun j hj => absurd ⟨j, hj⟩ hw)
          simpa [h1, h2] using key
      have h2 : a.defers = (putL l 0 (valOf l a) a0).defers := by rw [putL_defers, hI.defers]
      generalize putL l 0 (valOf l a) a0 = b at h1 h2
      cases a; cases b; simp only at h1 h2; rw [h1, h2]
    obtain ⟨q, hq, hql, hJ⟩ := hI.eff
    have hgap : ∀ e ∈ es, q ≤ e → q + (l.length - q) ≤ e := by
      intro e he hqe
      have := (hql e he).1 (hall e (hes e he).1)
      omega
    have e1 := J_gap es hJc q (l.length - q) hgap
    have e2 := prevE_gap es q (l.length - q) hgap
    rw [show q + (l.length - q) = l.length by omega] at e1 e2
    rw [← e1, ← e2] at hJ
    rw [ha]
    exact hQ _ w hI.rel hTs hJ
  intro fuel
  induction fuel with
  | zero =>
    intro listed a w hI hc
    have hr : Region.ready .any l.toArray listed = [] := by
      apply List.eq_nil_iff_forall_not_mem.2
      intro j hj
      obtain ⟨h0, o, ho, _⟩ := mem_ready.1 hj
      have hjl : j < l.length := by simpa using (Array.getElem?_eq_some_iff.1 ho).1
      have : 0 < (List.range l.length).countP (fun i => !listed.getD i true) := List.countP_pos_iff.2 ⟨j, List.mem_range.2 hjl, by rw [h0]; rfl⟩
      omega
    exact ⟨hr, fin _ _ _ hI hr⟩
  | succ fuel ih =>
    intro listed a w hI hc
    refine ⟨fin _ _ _ hI, fun k hk => ?_⟩
    obtain ⟨h0, o, ho, hdeps⟩ := mem_ready.1 hk
    have hol : l[k]? = some o := by simpa using ho
    have hkl : k < l.length := (List.getElem?_eq_some_iff.1 hol).1
    obtain ⟨⟨d, hd, hdn⟩, huniq, hafter, hlook⟩ := hspec k o hol
    have hlisted : ∀ j, waitsFor o j = true → listed.getD j true = true ∧ j < k := by
      intro j hj
      obtain ⟨e, he, hb⟩ := Array.any_eq_true'.1 hj
      rw [Bool.and_eq_true] at hb
      have hon : e.on = j := by simpa using hb.2
      have h1 := hdeps e he hb.1
      have h2 := hafter e he hb.1
      rw [hon] at h1 h2
      have hs : j < listed.size := by rw [hI.lsize]; omega
      exact ⟨by simpa [hs] using h1, h2⟩
    have hTs : ∀ j, j < k → waitsFor o j = true → T j (valOf l a j) w := by
      intro j hj hw
      obtain ⟨d', hd', _⟩ := (hspec j l[j] (by simp)).1
      have hda : dstAt l j = some d' := by simp [dstAt, show j < l.length by omega, hd']
      have := hI.done j d' (by omega) hda (hlisted j hw).1
      simp only [valOf, hda]; exact this
    -- it looks at slots that are the same here and there
    have hslot : ∀ t ∈ o.looksAt l.toArray, a.tmps.getD t undef = (putL (l.take k) 0 (valOf l a) a0).tmps.getD t undef := by
      intro t ht
      rcases hlook t ht with hold | ⟨j, hjk, hwj, hdj⟩
      · have hnot : ∀ j, dstAt l j = some t → ∀ o', l[j]? = some o' → waitsFor o' k = true := by
          intro j hj o' ho'
          have hjl : j < l.length := (List.getElem?_eq_some_iff.1 ho').1
          have := List.all_eq_true.1 hold j (List.mem_range.2 hjl)
          simpa [hj, ho'] using this
        rw [hI.old t (fun j hj => ?_), putL_old _ _ _ _ _ (fun j hj => ?_)]
        · have hjl : j < l.length := by
            apply Classical.byContradiction; intro hn
            rw [dstAt, List.getElem?_take] at hj
            split at hj
            · omega
            · cases hj
          have hj' : dstAt l j = some t := by
            rw [dstAt, List.getElem?_take] at hj
            split at hj
            · exact hj
            · cases hj
          have hjk : j < k := by
            apply Classical.byContradiction; intro hn
            rw [dstAt, List.getElem?_take, if_neg hn] at hj; cases hj
          have hw := hnot j hj' l[j] (by simp [hjl])
          obtain ⟨e, he, hb⟩ := Array.any_eq_true'.1 hw
          rw [Bool.and_eq_true] at hb
          have hon : e.on = k := by simpa using hb.2
          have := (hspec j l[j] (by simp [hjl])).2.2.1 e he hb.1
          omega
        · have hjl : j < l.length := by
            apply Classical.byContradiction; intro hn
            rw [dstAt, List.getElem?_eq_none (by omega)] at hj; cases hj
          have hw := hnot j hj l[j] (by simp [hjl])
          cases hl : listed.getD j true with
          | false => rfl
          | true => exact absurd (hI.closed j l[j] (by simp [hjl]) hl k hw) (by rw [h0]; simp)
      · have hjl : j < l.length := by omega
        have hdj' : l[j].dst = some t := by simpa [dstAt, hjl] using hdj
        have h1 : dstAt (l.take k) j = some t := by rw [dstAt, List.getElem?_take, if_pos hjk]; exact hdj
        have h2 : ∀ i, i ≠ j → dstAt (l.take k) i ≠ some t := by
          intro i hi hh
          rw [dstAt, List.getElem?_take] at hh
          split at hh
          · exact (hspec j l[j] (by simp [hjl])).2.1 i hi (by rw [hdj']; exact hh)
          · cases hh
        have h3 : t < a0.tmps.size := by
          obtain ⟨d', hd', hlt⟩ := (hspec j l[j] (by simp [hjl])).1
          rw [hd'] at hdj'; cases hdj'; exact hlt
        rw [putL_at _ 0 (valOf l a) a0 j t h1 h2 h3]
        simp only [valOf, Nat.zero_add, hdj]
    have he : execOp a.eval o = execOp (putL (l.take k) 0 (valOf l a) a0).eval o := execOp_congr o (fun cs b => Region.noSelect_spec hsel k o cs b ho) fun x hx => by
      cases x with
      | tmp t => exact hslot t (List.mem_append_left _ (List.mem_filterMap.2 ⟨.tmp t, by simpa using hx, rfl⟩))
      | const v => rfl
      | global g => rfl
      | func f => rfl
    have hwant : Region.wanted o (yielded l.toArray a.tmps) = Region.wanted o (yielded l.toArray (putL (l.take k) 0 (valOf l a) a0).tmps) := by
      unfold Region.wanted
      cases hg : o.guard with
      | none => rfl
      | some gw =>
        obtain ⟨g, want⟩ := gw
        have hy : yielded l.toArray a.tmps g = yielded l.toArray (putL (l.take k) 0 (valOf l a) a0).tmps g := by
          unfold yielded
          cases ht : ((l.toArray)[g]?).bind (·.dst) with
          | none => rfl
          | some t =>
            have hs := hslot t (List.mem_append_right _ (by rw [hg]; simpa using ht))
            have hsz : a.tmps.size = (putL (l.take k) 0 (valOf l a) a0).tmps.size := (hI.size).trans (putL_size _ _ _ _).symm
            have h2 : a.tmps[t]? = (putL (l.take k) 0 (valOf l a) a0).tmps[t]? := by
              by_cases hlt : t < a.tmps.size
              · have hlt2 : t < (putL (l.take k) 0 (valOf l a) a0).tmps.size := hsz ▸ hlt
                simp [hlt, hlt2] at hs ⊢; exact hs
              · rw [Array.getElem?_eq_none (Nat.le_of_not_lt hlt), Array.getElem?_eq_none (hsz ▸ Nat.le_of_not_lt hlt)]
            simp only [Option.bind_some, h2]
        simp only [hy]
    have hks : k < listed.size := by rw [hI.lsize]; exact hkl
    have hset : ∀ j, (listed.setIfInBounds k true).getD j true = if j = k then true else listed.getD j true := by
      intro j
      by_cases hj : j = k
      · subst hj; simp [hks]
      · rw [if_neg hj, getD_set_ne true (Ne.symm hj)]
    have hval : ∀ v j, j ≠ k → valOf l (a.put o.dst v) j = valOf l a j := by
      intro v j hj
      unfold valOf
      cases hdj : dstAt l j with
      | none => rfl
      | some d' => exact put_other _ _ _ _ (fun h => huniq j hj (by rw [hdj, h]))
    have hvalk : ∀ v, valOf l (a.put o.dst v) k = v := by
      intro v
      have hdk : dstAt l k = some d := by simp [dstAt, hol, hd]
      unfold valOf
      simp only [hdk, hd]
      exact put_at _ _ _ (by rw [hI.size]; exact hdn)
    have hcnt : (List.range l.length).countP (fun i => !(listed.setIfInBounds k true).getD i true) ≤ fuel := by
      have := cnt_set (fun i => !listed.getD i true) (fun i => !(listed.setIfInBounds k true).getD i true) k (by simp only [h0]; rfl) (by simp only [hset]; simp) (fun j hj => by simp only [hset, if_neg hj]) l.length hkl
      omega
    -- what is left holds behind it
    have hnext : ∀ v w', R w w' → T k v w' → (∃ q, q ≤ l.length ∧ (∀ e ∈ es, (listed.setIfInBounds k true).getD e true = true ↔ e < q) ∧ J q (lastV (prevE es q) (valOf l (a.put o.dst v))) w') → wpAny P .any l.toArray Q fuel (listed.setIfInBounds k true) (a.put o.dst v) w' := by
      intro v w' hr hv heff
      apply ih
      · refine ⟨hRt _ _ _ hI.rel hr, by rw [put_defers]; exact hI.defers, by rw [put_size]; exact hI.size, by simpa using hI.lsize, ?_, ?_, ?_, heff⟩
        · intro t ht
          rw [put_other]
          · apply hI.old
            intro j hj
            have := ht j hj
            rw [hset] at this
            split at this
            · cases this
            · exact this
          · intro hdt
            have := ht k (by simp [dstAt, hol, hdt])
            rw [hset, if_pos rfl] at this; cases this
        · intro j o' ho' hl i hi
          rw [hset] at hl ⊢
          by_cases hik : i = k
          · rw [if_pos hik]
          · rw [if_neg hik]
            by_cases hjk : j = k
            · subst hjk; rw [hol] at ho'; cases ho'; exact (hlisted i hi).1
            · rw [if_neg hjk] at hl; exact hI.closed j o' ho' hl i hi
        · intro j d' hj hdj hl
          by_cases hjk : j = k
          · subst hjk
            have : o.dst = some d' := by simpa [dstAt, hol] using hdj
            rw [this, put_at _ _ _ (by rw [hI.size]; rw [hd] at this; cases this; exact hdn)]
            exact hv
          · rw [hset, if_neg hjk] at hl
            rw [put_other _ _ _ _ (fun h => huniq j hjk (by rw [hdj, h]))]
            exact hT j _ _ _ hr (hI.done j d' hj hdj hl)
      · exact hcnt
    obtain ⟨q, hq, hql, hJ⟩ := hI.eff
    have hnlk : listed.getD k true ≠ true := by rw [h0]; simp
    by_cases hke : k ∈ es
    · -- one that writes
      have hek0 : ∀ e ∈ es, e < k → listed.getD e true = true := by
        intro e he hlt
        cases hq : prevE es k with
        | none => exact absurd hq (prevE_some es k e he hlt).1
        | some p =>
          have h1 := prevE_lt es k p hq
          have h2 := (hlisted p ((hes k hke).2 p hq o hol)).1
          rcases Nat.lt_or_ge e p with h3 | h3
          · exact hdown listed hI.closed p h1.2 h2 e he h3
          · have h4 := (prevE_some es k e he hlt).2 p hq
            obtain rfl : e = p := by omega
            exact h2
      have hqk : q ≤ k := by
        apply Classical.byContradiction
        intro hn
        exact hnlk ((hql k hke).2 (by omega))
      have hgap : ∀ e ∈ es, q ≤ e → q + (k - q) ≤ e := by
        intro e he hqe
        apply Classical.byContradiction
        intro hn
        have := (hql e he).1 (hek0 e he (by omega))
        omega
      have e1 := J_gap es hJc q (k - q) hgap
      have e2 := prevE_gap es q (k - q) hgap
      rw [show q + (k - q) = k by omega] at e1 e2
      rw [← e1, ← e2] at hJ
      have hst := hstepE k o hol hke (valOf l a) w hI.rel hTs hJ
      have hnextE : ∀ v w', R w w' → J (k + 1) v w' → wpAny P .any l.toArray Q fuel (listed.setIfInBounds k true) (a.put o.dst v) w' := by
        intro v w' hr hj
        refine hnext v w' hr (hTe k hke v w' hj) ⟨k + 1, by omega, fun e he => ?_, ?_⟩
        · rw [hset]
          by_cases hek : e = k
          · rw [if_pos hek, hek]; simp
          · rw [if_neg hek, hql e he]
            constructor
            · intro h; omega
            · intro h
              exact (hql e he).1 (hek0 e he (by omega))
        · rw [prevE, if_pos hke, lastV, hvalk]
          exact hj
      unfold wpOp
      rw [ho]
      unfold StepE at hst
      rw [← hwant, ← he] at hst
      simp only
      split
      · rename_i hw
        rw [if_pos hw] at hst
        exact .inl (wp_of_upE hRt hst hnextE)
      · rename_i hw
        rw [if_neg hw] at hst
        exact hnextE undef w (hRB _ _ (Below.refl _ _)) hst
    · have hst := hstep k o hol hke (valOf l a) w hI.rel hTs
      have hnextP : ∀ v w', Below w.heap.size w w' → T k v w' → wpAny P .any l.toArray Q fuel (listed.setIfInBounds k true) (a.put o.dst v) w' := by
        intro v w' hb hv
        refine hnext v w' (hRB _ _ hb) hv ⟨q, hq, fun e he => ?_, ?_⟩
        · rw [hset, if_neg (show e ≠ k from fun h => hke (h ▸ he))]; exact hql e he
        · have hlv : lastV (prevE es q) (valOf l (a.put o.dst v)) = lastV (prevE es q) (valOf l a) := by
            unfold lastV
            cases hp : prevE es q with
            | none => rfl
            | some p => exact hval v p (show p ≠ k from fun h => hke (h ▸ (prevE_lt es q p hp).2))
          rw [hlv]
          exact hJs q _ _ _ hb hJ
      unfold wpOp
      rw [ho]
      unfold StepOK at hst
      rw [← hwant, ← he] at hst
      simp only
      split
      · rename_i hw
        rw [if_pos hw] at hst
        exact .inl (wp_of_upS hst hnextP)
      · rename_i hw
        rw [if_neg hw] at hst
        exact hnextP undef w (Below.refl _ _) hst

theorem wp_region_effV {id : Nat} {l : List Oper} {R : World → World → Prop} {T : Nat → Value → World → Prop} {J : Nat → Value → World → Prop} {es : List Nat} {a0 : Act} {w0 : World} (hm : P.follows .mixedOrders = true) (hok : okReg l a0.tmps.size = true) (hoe : okEffV l es = true)
    (hRB : ∀ w w', Below w.heap.size w w' → R w w') (hRt : ∀ w w1 w2, R w w1 → R w1 w2 → R w w2)
    (hT : ∀ i, StableR R (T i)) (hTe : ∀ e, e ∈ es → ∀ v w, J (e + 1) v w → T e v w) (hJc : ∀ k, k ∉ es → J (k + 1) = J k) (hJs : ∀ k, Stable (J k)) (hJ0 : J 0 undef w0)
    (hstep : ∀ k o, l[k]? = some o → k ∉ es → ∀ (vs : Nat → Value) (w : World), R w0 w → (∀ j, j < k → waitsFor o j = true → T j (vs j) w) → StepOK P l.toArray (T k) o (putL (l.take k) 0 vs a0) w)
    (hstepE : ∀ k o, l[k]? = some o → k ∈ es → ∀ (vs : Nat → Value) (w : World), R w0 w → (∀ j, j < k → waitsFor o j = true → T j (vs j) w) → J k (lastV (prevE es k) vs) w → StepE P l.toArray R (J (k + 1)) o (putL (l.take k) 0 vs a0) w)
    (hQ : ∀ (vs : Nat → Value) (w : World), R w0 w → (∀ j, j < l.length → T j (vs j) w) → J l.length (lastV (prevE es l.length) vs) w → Q .normal (putL l 0 vs a0) w) :
    (Code.region id l.toArray true).wp P Q a0 w0 := by
  have hb := below_drewN (Below.refl w0.heap.size w0) 1
  refine wp_region_any hm (wpAny_effV hok hoe hRB hRt hT hTe hJc hJs hstep hstepE hQ _ _ _ _ ⟨hRB _ _ hb, rfl, rfl, by simp, fun _ _ => rfl, ?_, ?_, ?_⟩ ?_)
  · intro j o ho hl
    have hj : j < l.length := (List.getElem?_eq_some_iff.1 ho).1
    simp [hj] at hl
  · intro j d hj _ hl
    simp [hj] at hl
  · refine ⟨0, Nat.zero_le _, fun e he => ?_, hJs 0 _ _ _ hb hJ0⟩
    have h1 := List.all_eq_true.1 hoe e he
    rw [Bool.and_eq_true] at h1
    have h2 : e < l.length := by simpa using h1.1
    simp [h2]
  · exact Nat.le_trans List.countP_le_length (by simp)
theorem wp_region_runV {id : Nat} {R : World → World → Prop} {l : List Oper} {a0 : Act} {w0 : World} (es : List Nat) (J0 : Value → World → Prop) (hm : P.follows .mixedOrders = true) (hok : okReg l a0.tmps.size = true) (hoe : okEffV l es = true)
    (hRB : ∀ w w', Below w.heap.size w w' → R w w') (hRt : ∀ w w1 w2, R w w1 → R w1 w2 → R w w2) (hJs : Stable J0) (hJ0 : J0 undef w0) (h : RunE P Q R es l a0 w0 0 l [] J0) :
    (Code.region id l.toArray true).wp P Q a0 w0 := by
  have hlt : ∀ e, e ∈ es → e < 0 + l.length := by
    intro e he
    have h1 := List.all_eq_true.1 hoe e he
    rw [Bool.and_eq_true] at h1
    have h2 : e < l.length := by simpa using h1.1
    omega
  obtain ⟨T, J, _, hj0, h2, h2e, h2c, h2s, h3, h3e, h4⟩ := runE_spec l 0 [] J0 rfl (fun j hj => by omega) hJs hlt h
  refine wp_region_effV hm hok hoe hRB hRt h2 (fun e he => h2e e (Nat.zero_le _) he) (fun k hk => h2c k (Nat.zero_le _) hk) (fun k => h2s k (Nat.zero_le _)) (by rw [hj0]; exact hJ0) (fun k o ho hke vs w hb hd => ?_) (fun k o ho hke vs w hb hd hJ => ?_) (fun vs w hb hd hJ => h4 vs w hb (fun j hj => hd j (by omega)) (by rw [Nat.zero_add]; exact hJ))
  · have := h3 k o ho (by rw [Nat.zero_add]; exact hke) vs w hb (fun j hj => hd j (by omega))
    rwa [Nat.zero_add] at this
  · have := h3e k o ho (by rw [Nat.zero_add]; exact hke) vs w hb (fun j hj => hd j (by omega)) (by rw [Nat.zero_add]; exact hJ)
    rwa [Nat.zero_add] at this
end
end Go.Proofs.YtemegkapmgcffaaGreat
