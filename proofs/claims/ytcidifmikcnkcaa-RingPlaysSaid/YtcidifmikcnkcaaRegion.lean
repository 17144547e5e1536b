/- A region that draws its order, whose operations make new memory alone and whose values stay what they are behind new memory: one walk in the text's order serves every order. No program in sight. -/
import Derived.Test.YtcidifmikcnkcaaWords
import Derived.Orders
namespace Go.Proofs.Ytcidifmikcnkcaa
open Go.RowKit

section
variable {P : Program} {Q : Exit → Act → World → Prop}

/-- what later memory does not disturb -/
def Stable (T : Value → World → Prop) : Prop := ∀ v w w', Below w.heap.size w w' → T v w → T v w'

def waitsFor (o : Oper) (k : Nat) : Bool := o.after.any fun e => Region.binds .any e && e.on == k
def dstAt (l : List Oper) (j : Nat) : Option Tmp := (l[j]?).bind (·.dst)
/-- slot t is as it was when operation k comes up -/
def oldB (l : List Oper) (k t : Nat) : Bool := (List.range l.length).all fun j => dstAt l j != some t || (match l[j]? with | some o => waitsFor o k | none => true)
def okReg (l : List Oper) (n : Nat) : Bool := Region.noSelect l.toArray && (List.range l.length).all fun k => match l[k]? with
  | none => false
  | some o => (match o.dst with | some d => decide (d < n) | none => false) &&
    (List.range l.length).all (fun j => j == k || dstAt l j != o.dst) &&
    o.after.all (fun e => !Region.binds .any e || decide (e.on < k)) &&
    (o.looksAt l.toArray).all (fun t => oldB l k t || (List.range k).any (fun j => waitsFor o j && dstAt l j == some t))

/-- values, put where operations put them -/
def putL : List Oper → Nat → (Nat → Value) → Act → Act
  | [], _, _, a => a
  | o :: r, k, vs, a => putL r (k + 1) vs (a.put o.dst (vs k))

theorem put_size (a : Act) (d : Option Tmp) (v : Value) : (a.put d v).tmps.size = a.tmps.size := by cases d <;> simp [Act.put]
theorem put_defers (a : Act) (d : Option Tmp) (v : Value) : (a.put d v).defers = a.defers := by cases d <;> simp [Act.put]
theorem put_other (a : Act) (d : Option Tmp) (v : Value) (t : Nat) (h : d ≠ some t) : (a.put d v).tmps.getD t undef = a.tmps.getD t undef := by
  cases d with
  | none => rfl
  | some d =>
    have hd : d ≠ t := fun e => h (by rw [e])
    simp [Act.put, Array.getElem?_setIfInBounds_ne hd]
theorem put_at (a : Act) (d : Nat) (v : Value) (h : d < a.tmps.size) : (a.put (some d) v).tmps.getD d undef = v := by
  simp [Act.put, h]

theorem putL_size : ∀ (l : List Oper) (k : Nat) (vs : Nat → Value) (a : Act), (putL l k vs a).tmps.size = a.tmps.size
  | [], _, _, _ => rfl
  | o :: r, k, vs, a => by rw [putL, putL_size r, put_size]
theorem putL_defers : ∀ (l : List Oper) (k : Nat) (vs : Nat → Value) (a : Act), (putL l k vs a).defers = a.defers
  | [], _, _, _ => rfl
  | o :: r, k, vs, a => by rw [putL, putL_defers r, put_defers]
theorem putL_old : ∀ (l : List Oper) (k : Nat) (vs : Nat → Value) (a : Act) (t : Nat), (∀ j, dstAt l j ≠ some t) → (putL l k vs a).tmps.getD t undef = a.tmps.getD t undef
  | [], _, _, _, _, _ => rfl
  | o :: r, k, vs, a, t, h => by
    rw [putL, putL_old r _ _ _ t (fun j => by have := h (j + 1); simpa [dstAt] using this), put_other _ _ _ _ (by have := h 0; simpa [dstAt] using this)]
theorem putL_at : ∀ (l : List Oper) (k : Nat) (vs : Nat → Value) (a : Act) (j t : Nat), dstAt l j = some t → (∀ i, i ≠ j → dstAt l i ≠ some t) → t < a.tmps.size →
    (putL l k vs a).tmps.getD t undef = vs (k + j)
  | [], _, _, _, _, _, h, _, _ => by simp [dstAt] at h
  | o :: r, k, vs, a, 0, t, h, hu, ht => by
    rw [putL, putL_old r _ _ _ t (fun j => by have := hu (j + 1) (by omega); simpa [dstAt] using this)]
    have ho : o.dst = some t := by simpa [dstAt] using h
    rw [ho, put_at _ _ _ ht]; rfl
  | o :: r, k, vs, a, j + 1, t, h, hu, ht => by
    rw [putL, putL_at r (k + 1) vs _ j t (by simpa [dstAt] using h) (fun i hi => by have := hu (i + 1) (by omega); simpa [dstAt] using this) (by rw [put_size]; exact ht)]
    congr 1; omega

/-- what an operation must have come to -/
def upS (P : Program) (T : Value → World → Prop) (w : World) : Result Next → Prop
  | .ok (.value u) w' => Below w.heap.size w w' ∧ T u w'
  | .ok .skip w' => Below w.heap.size w w' ∧ T undef w'
  | .ok (.enter f args) w' => Below w.heap.size w w' ∧ Calls P f args w' (fun e w'' => ∃ v, e = .returned v ∧ Below w'.heap.size w' w'' ∧ T v w'')
  | _ => False
@[go_sem] theorem upS_value (P : Program) (T : Value → World → Prop) (w w' : World) (u : Value) : upS P T w (.ok (.value u) w') = (Below w.heap.size w w' ∧ T u w') := rfl
@[go_sem] theorem upS_skip (P : Program) (T : Value → World → Prop) (w w' : World) : upS P T w (.ok .skip w') = (Below w.heap.size w w' ∧ T undef w') := rfl
@[go_sem] theorem upS_enter (P : Program) (T : Value → World → Prop) (w w' : World) (f : FuncId) (args : Array Value) : upS P T w (.ok (.enter f args) w') =
  (Below w.heap.size w w' ∧ Calls P f args w' (fun e w'' => ∃ v, e = .returned v ∧ Below w'.heap.size w' w'' ∧ T v w'')) := rfl

/-- what one operation must do, carried out in this state -/
@[irreducible] def StepOK (P : Program) (ops : Array Oper) (T : Value → World → Prop) (o : Oper) (a : Act) (w : World) : Prop :=
  if Region.wanted o (yielded ops a.tmps) then upS P T w ((execOp a.eval o).run P w) else T undef w

theorem wp_of_upS {T : Value → World → Prop} {o : Oper} {a : Act} {w : World} {K : Act → World → Prop} (h : upS P T w ((execOp a.eval o).run P w))
    (hK : ∀ v w', Below w.heap.size w w' → T v w' → K (a.put o.dst v) w') : o.wp P a w K Q := by
  unfold Oper.wp
  generalize (execOp a.eval o).run P w = r at *
  cases r with
  | ok n w' =>
    cases n <;> simp only [upS] at h <;> simp only [Oper.upon]
    case value u => exact hK _ _ h.1 h.2
    case skip => exact hK _ _ h.1 h.2
    case enter f args =>
      obtain ⟨h1, h2⟩ := h
      refine h2.mono fun e w'' ⟨v, he, hb, ht⟩ => ?_
      subst he
      exact hK _ _ (h1.trans (hb.mono h1.size)) ht
  | halt x w' => simp only [upS] at h

structure RInv (l : List Oper) (T : Nat → Value → World → Prop) (a0 : Act) (w0 : World) (listed : Array Bool) (a : Act) (w : World) : Prop where
  below : Below w0.heap.size w0 w
  defers : a.defers = a0.defers
  size : a.tmps.size = a0.tmps.size
  lsize : listed.size = l.length
  old : ∀ t, (∀ j, dstAt l j = some t → listed.getD j true = false) → a.tmps.getD t undef = a0.tmps.getD t undef
  closed : ∀ j o, l[j]? = some o → listed.getD j true = true → ∀ i, waitsFor o i = true → listed.getD i true = true
  done : ∀ j d, j < l.length → dstAt l j = some d → listed.getD j true = true → T j (a.tmps.getD d undef) w

theorem okReg_spec {l : List Oper} {n : Nat} (h : okReg l n = true) : Region.noSelect l.toArray = true ∧ ∀ k o, l[k]? = some o →
    (∃ d, o.dst = some d ∧ d < n) ∧ (∀ j, j ≠ k → dstAt l j ≠ o.dst) ∧ (∀ e ∈ o.after, Region.binds .any e = true → e.on < k) ∧
    (∀ t ∈ o.looksAt l.toArray, oldB l k t = true ∨ ∃ j, j < k ∧ waitsFor o j = true ∧ dstAt l j = some t) := by
  unfold okReg at h
  rw [Bool.and_eq_true] at h
  refine ⟨h.1, fun k o ho => ?_⟩
  have hk : k < l.length := (List.getElem?_eq_some_iff.1 ho).1
  have h2 := List.all_eq_true.1 h.2 k (List.mem_range.2 hk)
  rw [ho] at h2
  simp only [Bool.and_eq_true] at h2
  obtain ⟨⟨⟨h3, h4⟩, h5⟩, h6⟩ := h2
  have hd : ∃ d, o.dst = some d ∧ d < n := by
    cases hd : o.dst with
    | none => rw [hd] at h3; cases h3
    | some d => rw [hd] at h3; exact ⟨d, rfl, by simpa using h3⟩
  refine ⟨hd, fun j hj he => ?_, fun e he hb => ?_, fun t ht => ?_⟩
  · obtain ⟨d, hd, _⟩ := hd
    have hjl : j < l.length := by
      apply Classical.byContradiction
      intro hn
      rw [dstAt, List.getElem?_eq_none (by omega), hd] at he
      cases he
    have := List.all_eq_true.1 h4 j (List.mem_range.2 hjl)
    simp [hj, he] at this
  · have := Array.all_eq_true'.1 h5 e he
    simpa [hb] using this
  · have := List.all_eq_true.1 h6 t ht
    rw [Bool.or_eq_true] at this
    rcases this with h | h
    · exact .inl h
    · obtain ⟨j, hj, hh⟩ := List.any_eq_true.1 h
      rw [Bool.and_eq_true] at hh
      exact .inr ⟨j, List.mem_range.1 hj, hh.1, by simpa using hh.2⟩

theorem cnt_set (p q : Nat → Bool) (i : Nat) (hp : p i = true) (hq : q i = false) (h : ∀ j, j ≠ i → q j = p j) : ∀ n, i < n → (List.range n).countP q + 1 = (List.range n).countP p := by
  have key : ∀ n, n ≤ i → (List.range n).countP q = (List.range n).countP p := by
    intro n
    induction n with
    | zero => intro _; rfl
    | succ n ih => intro hn; rw [List.range_succ, List.countP_append, List.countP_append, ih (by omega)]; simp [List.countP_cons, h n (by omega)]
  intro n
  induction n with
  | zero => intro h; omega
  | succ n ih =>
    intro hn
    rw [List.range_succ, List.countP_append, List.countP_append]
    by_cases hin : i = n
    · subst hin; rw [key i (Nat.le_refl _)]; simp [hp, hq]
    · have := ih (by omega); simp [List.countP_cons, h n (Ne.symm hin)]; omega

theorem wpAny_stable {l : List Oper} {T : Nat → Value → World → Prop} {a0 : Act} {w0 : World} (hok : okReg l a0.tmps.size = true) (hT : ∀ i, Stable (T i))
    (hstep : ∀ k o, l[k]? = some o → ∀ (vs : Nat → Value) (w : World), Below w0.heap.size w0 w → (∀ j, j < k → waitsFor o j = true → T j (vs j) w) → StepOK P l.toArray (T k) o (putL (l.take k) 0 vs a0) w)
    (hQ : ∀ (vs : Nat → Value) (w : World), Below w0.heap.size w0 w → (∀ j, j < l.length → T j (vs j) w) → Q .normal (putL l 0 vs a0) w) :
    ∀ (fuel : Nat) (listed : Array Bool) (a : Act) (w : World), RInv l T a0 w0 listed a w → (List.range l.length).countP (fun i => !listed.getD i true) ≤ fuel → wpAny P .any l.toArray Q fuel listed a w := by
  obtain ⟨hsel, hspec⟩ := okReg_spec hok
  -- all have come up: the end
  have fin : ∀ (listed : Array Bool) (a : Act) (w : World), RInv l T a0 w0 listed a w → Region.ready .any l.toArray listed = [] → Q .normal a w := by
    intro listed a w hI hr
    have hall : ∀ j, j < l.length → listed.getD j true = true := by
      intro j
      induction j using Nat.strongRecOn with
      | ind j ih =>
        intro hj
        apply Classical.byContradiction
        intro hn
        have hmem : j ∈ Region.ready .any l.toArray listed := by
          rw [mem_ready]
          refine ⟨by simpa using hn, l[j], by simp [hj], fun e he hb => ?_⟩
          have hlt := (hspec j l[j] (by simp [hj])).2.2.1 e he hb
          have h1 := ih e.on hlt (by omega)
          have hs : e.on < listed.size := by rw [hI.lsize]; omega
          simpa [hs] using h1
        rw [hr] at hmem; cases hmem
    let vs : Nat → Value := fun j => match dstAt l j with | some d => a.tmps.getD d undef | none => undef
    have hTs : ∀ j, j < l.length → T j (vs j) w := by
      intro j hj
      obtain ⟨d, hd, _⟩ := (hspec j l[j] (by simp [hj])).1
      have hda : dstAt l j = some d := by simp [dstAt, hj, hd]
      have := hI.done j d hj hda (hall j hj)
      simp only [vs, hda]; exact this
    have ha : a = putL l 0 vs a0 := by
      have h1 : a.tmps = (putL l 0 vs a0).tmps := by
        apply Array.ext
        · rw [putL_size, hI.size]
        · intro t h1 h2
          have key : a.tmps.getD t undef = (putL l 0 vs a0).tmps.getD t undef := by
            by_cases hw : ∃ j, dstAt l j = some t
            · obtain ⟨j, hj⟩ := hw
              have hjl : j < l.length := by
                apply Classical.byContradiction; intro hn
                rw [dstAt, List.getElem?_eq_none (by omega)] at hj; cases hj
              have hdj : l[j].dst = some t := by simpa [dstAt, hjl] using hj
              rw [putL_at l 0 vs a0 j t hj (fun i hi => by rw [← hdj]; exact (hspec j l[j] (by simp [hjl])).2.1 i hi) (by rw [← hI.size]; exact h1)]
              simp only [vs, Nat.zero_add, hj]
            · rw [putL_old l 0 vs a0 t (fun j hj => hw ⟨j, hj⟩)]
              exact hI.old t (fun j hj => absurd ⟨j, hj⟩ hw)
          simpa [h1, h2] using key
      have h2 : a.defers = (putL l 0 vs a0).defers := by rw [putL_defers, hI.defers]
      cases a; simp only at h1 h2; cases hx : putL l 0 vs a0; rw [hx] at h1 h2; simp only at h1 h2; rw [h1, h2]
    rw [ha]
    exact hQ vs w hI.below hTs
  intro fuel
  induction fuel with
  | zero =>
    intro listed a w hI hc
    have hr : Region.ready .any l.toArray listed = [] := by
      apply List.eq_nil_iff_forall_not_mem.2
      intro j hj
      obtain ⟨h0, o, ho, _⟩ := mem_ready.1 hj
      have hjl : j < l.length := by simpa using (Array.getElem?_eq_some_iff.1 ho).1
      have : 0 < (List.range l.length).countP (fun i => !listed.getD i true) := List.countP_pos_iff.2 ⟨j, List.mem_range.2 hjl, by rw [h0]; rfl⟩
      omega
    exact ⟨hr, fin _ _ _ hI hr⟩
  | succ fuel ih =>
    intro listed a w hI hc
    refine ⟨fin _ _ _ hI, fun k hk => ?_⟩
    obtain ⟨h0, o, ho, hdeps⟩ := mem_ready.1 hk
    have hol : l[k]? = some o := by simpa using ho
    have hkl : k < l.length := (List.getElem?_eq_some_iff.1 hol).1
    obtain ⟨⟨d, hd, hdn⟩, huniq, hafter, hlook⟩ := hspec k o hol
    let vs : Nat → Value := fun j => match dstAt l j with | some d => a.tmps.getD d undef | none => undef
    have hlisted : ∀ j, waitsFor o j = true → listed.getD j true = true ∧ j < k := by
      intro j hj
      obtain ⟨e, he, hb⟩ := Array.any_eq_true'.1 hj
      rw [Bool.and_eq_true] at hb
      have hon : e.on = j := by simpa using hb.2
      have h1 := hdeps e he hb.1
      have h2 := hafter e he hb.1
      rw [hon] at h1 h2
      have hs : j < listed.size := by rw [hI.lsize]; omega
      exact ⟨by simpa [hs] using h1, h2⟩
    have hTs : ∀ j, j < k → waitsFor o j = true → T j (vs j) w := by
      intro j hj hw
      obtain ⟨d', hd', _⟩ := (hspec j l[j] (by simp)).1
      have hda : dstAt l j = some d' := by simp [dstAt, show j < l.length by omega, hd']
      have := hI.done j d' (by omega) hda (hlisted j hw).1
      simp only [vs, hda]; exact this
    have hst := hstep k o hol vs w hI.below hTs
    -- it looks at slots that are the same here and there
    have hslot : ∀ t ∈ o.looksAt l.toArray, a.tmps.getD t undef = (putL (l.take k) 0 vs a0).tmps.getD t undef := by
      intro t ht
      rcases hlook t ht with hold | ⟨j, hjk, hwj, hdj⟩
      · have hnot : ∀ j, dstAt l j = some t → ∀ o', l[j]? = some o' → waitsFor o' k = true := by
          intro j hj o' ho'
          have hjl : j < l.length := (List.getElem?_eq_some_iff.1 ho').1
          have := List.all_eq_true.1 hold j (List.mem_range.2 hjl)
          simpa [hj, ho'] using this
        rw [hI.old t (fun j hj => ?_), putL_old _ _ _ _ _ (fun j hj => ?_)]
        · have hjl : j < l.length := by
            apply Classical.byContradiction; intro hn
            rw [dstAt, List.getElem?_take] at hj
            split at hj
            · omega
            · cases hj
          have hj' : dstAt l j = some t := by
            rw [dstAt, List.getElem?_take] at hj
            split at hj
            · exact hj
            · cases hj
          have hjk : j < k := by
            apply Classical.byContradiction; intro hn
            rw [dstAt, List.getElem?_take, if_neg hn] at hj; cases hj
          have hw := hnot j hj' l[j] (by simp [hjl])
          obtain ⟨e, he, hb⟩ := Array.any_eq_true'.1 hw
          rw [Bool.and_eq_true] at hb
          have hon : e.on = k := by simpa using hb.2
          have := (hspec j l[j] (by simp [hjl])).2.2.1 e he hb.1
          omega
        · have hjl : j < l.length := by
            apply Classical.byContradiction; intro hn
            rw [dstAt, List.getElem?_eq_none (by omega)] at hj; cases hj
          have hw := hnot j hj l[j] (by simp [hjl])
          cases hl : listed.getD j true with
          | false => rfl
          | true => exact absurd (hI.closed j l[j] (by simp [hjl]) hl k hw) (by rw [h0]; simp)
      · have hjl : j < l.length := by omega
        have hdj' : l[j].dst = some t := by simpa [dstAt, hjl] using hdj
        have h1 : dstAt (l.take k) j = some t := by rw [dstAt, List.getElem?_take, if_pos hjk]; exact hdj
        have h2 : ∀ i, i ≠ j → dstAt (l.take k) i ≠ some t := by
          intro i hi hh
          rw [dstAt, List.getElem?_take] at hh
          split at hh
          · exact (hspec j l[j] (by simp [hjl])).2.1 i hi (by rw [hdj']; exact hh)
          · cases hh
        have h3 : t < a0.tmps.size := by
          obtain ⟨d', hd', hlt⟩ := (hspec j l[j] (by simp [hjl])).1
          rw [hd'] at hdj'; cases hdj'; exact hlt
        rw [putL_at _ 0 vs a0 j t h1 h2 h3]
        simp only [vs, Nat.zero_add, hdj]
    have he : execOp a.eval o = execOp (putL (l.take k) 0 vs a0).eval o := execOp_congr o (fun cs b => Region.noSelect_spec hsel k o cs b ho) fun x hx => by
      cases x with
      | tmp t => exact hslot t (List.mem_append_left _ (List.mem_filterMap.2 ⟨.tmp t, by simpa using hx, rfl⟩))
      | const v => rfl
      | global g => rfl
      | func f => rfl
    have hwant : Region.wanted o (yielded l.toArray a.tmps) = Region.wanted o (yielded l.toArray (putL (l.take k) 0 vs a0).tmps) := by
      unfold Region.wanted
      cases hg : o.guard with
      | none => rfl
      | some gw =>
        obtain ⟨g, want⟩ := gw
        have hy : yielded l.toArray a.tmps g = yielded l.toArray (putL (l.take k) 0 vs a0).tmps g := by
          unfold yielded
          cases ht : ((l.toArray)[g]?).bind (·.dst) with
          | none => rfl
          | some t =>
            have hs := hslot t (List.mem_append_right _ (by rw [hg]; simpa using ht))
            have hsz : a.tmps.size = (putL (l.take k) 0 vs a0).tmps.size := (hI.size).trans (putL_size _ _ _ _).symm
            have h2 : a.tmps[t]? = (putL (l.take k) 0 vs a0).tmps[t]? := by
              by_cases hlt : t < a.tmps.size
              · have hlt2 : t < (putL (l.take k) 0 vs a0).tmps.size := hsz ▸ hlt
                simp [hlt, hlt2] at hs ⊢; exact hs
              · rw [Array.getElem?_eq_none (Nat.le_of_not_lt hlt), Array.getElem?_eq_none (hsz ▸ Nat.le_of_not_lt hlt)]
            simp only [Option.bind_some, h2]
        simp only [hy]
    -- what is left holds behind it
    have hnext : ∀ v w', Below w.heap.size w w' → T k v w' → wpAny P .any l.toArray Q fuel (listed.setIfInBounds k true) (a.put o.dst v) w' := by
      intro v w' hb hv
      have hks : k < listed.size := by rw [hI.lsize]; exact hkl
      have hset : ∀ j, (listed.setIfInBounds k true).getD j true = if j = k then true else listed.getD j true := by
        intro j
        by_cases hj : j = k
        · subst hj; simp [hks]
        · rw [if_neg hj, getD_set_ne true (Ne.symm hj)]
      apply ih
      · refine ⟨hI.below.trans (hb.mono hI.below.size), by rw [put_defers]; exact hI.defers, by rw [put_size]; exact hI.size, by simpa using hI.lsize, ?_, ?_, ?_⟩
        · intro t ht
          rw [put_other]
          · apply hI.old
            intro j hj
            have := ht j hj
            rw [hset] at this
            split at this
            · cases this
            · exact this
          · intro hdt
            have := ht k (by simp [dstAt, hol, hdt])
            rw [hset, if_pos rfl] at this; cases this
        · intro j o' ho' hl i hi
          rw [hset] at hl ⊢
          by_cases hik : i = k
          · rw [if_pos hik]
          · rw [if_neg hik]
            by_cases hjk : j = k
            · subst hjk; rw [hol] at ho'; cases ho'; exact (hlisted i hi).1
            · rw [if_neg hjk] at hl; exact hI.closed j o' ho' hl i hi
        · intro j d' hj hdj hl
          by_cases hjk : j = k
          · subst hjk
            have : o.dst = some d' := by simpa [dstAt, hol] using hdj
            rw [this, put_at _ _ _ (by rw [hI.size]; rw [hd] at this; cases this; exact hdn)]
            exact hv
          · rw [hset, if_neg hjk] at hl
            rw [put_other _ _ _ _ (fun h => huniq j hjk (by rw [hdj, h]))]
            exact hT j _ _ _ hb (hI.done j d' hj hdj hl)
      · have := cnt_set (fun i => !listed.getD i true) (fun i => !(listed.setIfInBounds k true).getD i true) k (by simp only [h0]; rfl) (by simp only [hset]; simp) (fun j hj => by simp only [hset, if_neg hj]) l.length hkl
        omega
    unfold wpOp
    rw [ho]
    unfold StepOK at hst
    rw [← hwant, ← he] at hst
    simp only
    split
    · rename_i hw
      rw [if_pos hw] at hst
      exact .inl (wp_of_upS hst hnext)
    · rename_i hw
      rw [if_neg hw] at hst
      exact hnext undef w (Below.refl _ _) hst

theorem wp_region_stable {id : Nat} {l : List Oper} {a0 : Act} {w0 : World} (hm : P.follows .mixedOrders = true) (hok : okReg l a0.tmps.size = true) (T : Nat → Value → World → Prop) (hT : ∀ i, Stable (T i))
    (hstep : ∀ k o, l[k]? = some o → ∀ (vs : Nat → Value) (w : World), Below w0.heap.size w0 w → (∀ j, j < k → waitsFor o j = true → T j (vs j) w) → StepOK P l.toArray (T k) o (putL (l.take k) 0 vs a0) w)
    (hQ : ∀ (vs : Nat → Value) (w : World), Below w0.heap.size w0 w → (∀ j, j < l.length → T j (vs j) w) → Q .normal (putL l 0 vs a0) w) :
    (Code.region id l.toArray true).wp P Q a0 w0 := by
  refine wp_region_any hm (wpAny_stable hok hT hstep hQ _ _ _ _ ⟨below_drewN (Below.refl _ _) 1, rfl, rfl, by simp, fun _ _ => rfl, ?_, ?_⟩ ?_)
  · intro j o ho hl
    have hj : j < l.length := (List.getElem?_eq_some_iff.1 ho).1
    simp [hj] at hl
  · intro j d hj _ hl
    simp [hj] at hl
  · exact Nat.le_trans List.countP_le_length (by simp)

end

/-- just this value -/
def isV (c : Value) : Value → World → Prop := fun v _ => v = c
theorem isV_mk (c : Value) (w : World) : isV c c w := rfl
theorem isV_stable (c : Value) : Stable (isV c) := fun _ _ _ _ h => h
/-- the predicate of operation j, out of those of the operations ahead of k, the last one first -/
def TR (Ts : List (Value → World → Prop)) (k j : Nat) : Value → World → Prop := Ts.getD (k - 1 - j) (fun _ _ => True)

section
variable {P : Program} {Q : Exit → Act → World → Prop}
/-- the walk of the text's order: for each operation what its value is -/
def RunL (P : Program) (Q : Exit → Act → World → Prop) (l0 : List Oper) (a0 : Act) (w0 : World) : Nat → List Oper → List (Value → World → Prop) → Prop
  | k, [], Ts => ∀ (vs : Nat → Value) (w : World), Below w0.heap.size w0 w → (∀ j, j < k → TR Ts k j (vs j) w) → Q .normal (putL l0 0 vs a0) w
  | k, o :: r, Ts => ∃ T, Stable T ∧ (∀ (vs : Nat → Value) (w : World), Below w0.heap.size w0 w → (∀ j, j < k → waitsFor o j = true → TR Ts k j (vs j) w) → StepOK P l0.toArray T o (putL (l0.take k) 0 vs a0) w) ∧
      RunL P Q l0 a0 w0 (k + 1) r (T :: Ts)

theorem runL_spec {l0 : List Oper} {a0 : Act} {w0 : World} : ∀ (r : List Oper) (k : Nat) (Ts : List (Value → World → Prop)), Ts.length = k → (∀ j, j < k → Stable (TR Ts k j)) → RunL P Q l0 a0 w0 k r Ts →
    ∃ T : Nat → Value → World → Prop, (∀ j, j < k → T j = TR Ts k j) ∧ (∀ i, Stable (T i)) ∧
      (∀ i o, r[i]? = some o → ∀ (vs : Nat → Value) (w : World), Below w0.heap.size w0 w → (∀ j, j < k + i → waitsFor o j = true → T j (vs j) w) → StepOK P l0.toArray (T (k + i)) o (putL (l0.take (k + i)) 0 vs a0) w) ∧
      (∀ (vs : Nat → Value) (w : World), Below w0.heap.size w0 w → (∀ j, j < k + r.length → T j (vs j) w) → Q .normal (putL l0 0 vs a0) w)
  | [], k, Ts, hl, hs, h => by
    refine ⟨fun j => if j < k then TR Ts k j else fun _ _ => True, fun j hj => by simp [hj], fun i => ?_, fun i o hi => by simp at hi, fun vs w hb hT => ?_⟩
    · by_cases hi : i < k
      · simp only [hi, if_true]; exact hs i hi
      · simp only [hi, if_false]; exact fun _ _ _ _ _ => trivial
    · refine h vs w hb (fun j hj => ?_)
      have := hT j (by simpa using hj)
      simpa [hj] using this
  | o :: r, k, Ts, hl, hs, h => by
    obtain ⟨T0, hst, hstep, hrest⟩ := h
    have hTR : ∀ j, j < k → TR (T0 :: Ts) (k + 1) j = TR Ts k j := by
      intro j hj
      unfold TR
      rw [show k + 1 - 1 - j = (k - 1 - j) + 1 by omega, List.getD_cons_succ]
    have hTk : TR (T0 :: Ts) (k + 1) k = T0 := by unfold TR; rw [show k + 1 - 1 - k = 0 by omega, List.getD_cons_zero]
    obtain ⟨T, h1, h2, h3, h4⟩ := runL_spec r (k + 1) (T0 :: Ts) (by simp [hl]) (fun j hj => by
      by_cases hjk : j = k
      · subst hjk; rw [hTk]; exact hst
      · rw [hTR j (by omega)]; exact hs j (by omega)) hrest
    have hT : ∀ j, j < k → T j = TR Ts k j := fun j hj => (h1 j (by omega)).trans (hTR j hj)
    have hk : T k = T0 := (h1 k (by omega)).trans hTk
    refine ⟨T, hT, h2, fun i o' hi vs w hb hd => ?_, fun vs w hb hd => h4 vs w hb (fun j hj => hd j (by simp; omega))⟩
    cases i with
    | zero =>
      simp at hi; subst hi
      rw [Nat.add_zero, hk]
      exact hstep vs w hb (fun j hj hw => by rw [← hT j hj]; exact hd j (by omega) hw)
    | succ i =>
      have := h3 i o' (by simpa using hi) vs w hb (fun j hj hw => hd j (by omega) hw)
      rwa [show k + 1 + i = k + (i + 1) by omega] at this

theorem wp_region_run {id : Nat} {l : List Oper} {a0 : Act} {w0 : World} (hm : P.follows .mixedOrders = true) (hok : okReg l a0.tmps.size = true) (h : RunL P Q l a0 w0 0 l []) :
    (Code.region id l.toArray true).wp P Q a0 w0 := by
  obtain ⟨T, _, h2, h3, h4⟩ := runL_spec l 0 [] rfl (fun j hj => by omega) h
  refine wp_region_stable hm hok T h2 (fun k o ho vs w hb hd => ?_) (fun vs w hb hd => h4 vs w hb (fun j hj => hd j (by omega)))
  have := h3 k o ho vs w hb (fun j hj => hd j (by omega))
  rwa [Nat.zero_add] at this

theorem RunL.pure {l0 : List Oper} {a0 : Act} {w0 : World} {k : Nat} {o : Oper} {r : List Oper} {Ts : List (Value → World → Prop)} {c : Value}
    (h : ∀ (vs : Nat → Value) (w : World), Below w0.heap.size w0 w → (∀ j, j < k → waitsFor o j = true → TR Ts k j (vs j) w) → StepOK P l0.toArray (isV c) o (putL (l0.take k) 0 vs a0) w)
    (hr : RunL P Q l0 a0 w0 (k + 1) r (isV c :: Ts)) : RunL P Q l0 a0 w0 k (o :: r) Ts := ⟨isV c, isV_stable c, h, hr⟩
theorem RunL.such {l0 : List Oper} {a0 : Act} {w0 : World} {k : Nat} {o : Oper} {r : List Oper} {Ts : List (Value → World → Prop)} (T : Value → World → Prop) (hT : Stable T)
    (h : ∀ (vs : Nat → Value) (w : World), Below w0.heap.size w0 w → (∀ j, j < k → waitsFor o j = true → TR Ts k j (vs j) w) → StepOK P l0.toArray T o (putL (l0.take k) 0 vs a0) w)
    (hr : RunL P Q l0 a0 w0 (k + 1) r (T :: Ts)) : RunL P Q l0 a0 w0 k (o :: r) Ts := ⟨T, hT, h, hr⟩
end

/-- a slice that reads as these bytes -/
def isB (l : List UInt8) : Value → World → Prop := fun v w => ∃ A n c, v = .slice A n c ∧ Sl w 1 A n c (bytesV l)
theorem isB_elim {l : List UInt8} {v : Value} {w : World} (h : isB l v w) : ∃ A n c, v = .slice A n c ∧ Sl w 1 A n c (bytesV l) := h
theorem isB_stable (l : List UInt8) : Stable (isB l) := fun _ _ _ hb ⟨A, n, c, e, h⟩ => ⟨A, n, c, e, h.below hb⟩

end Go.Proofs.Ytcidifmikcnkcaa
