import Derived.Test.YtcidifmikcnkcaaRegionE
/- As RegionE, and some of those that write have no slot for a value (stores). -/
namespace Go.Proofs.Ytcidifmikcnkcaa
open Go.RowKit
set_option linter.unusedSimpArgs false
set_option linter.unusedVariables false

section
variable {P : Program} {Q : Exit → Act → World → Prop}

/-- as okReg; only those that write (es) may lack a slot -/
def okRegN (l : List Oper) (n : Nat) (es : List Nat) : Bool := Region.noSelect l.toArray && (List.range l.length).all fun k => match l[k]? with
  | none => false
  | some o => (match o.dst with | some d => decide (d < n) | none => decide (k ∈ es)) &&
    (List.range l.length).all (fun j => j == k || o.dst.isNone || dstAt l j != o.dst) &&
    o.after.all (fun e => !Region.binds .any e || decide (e.on < k)) &&
    (o.looksAt l.toArray).all (fun t => oldB l k t || (List.range k).any (fun j => waitsFor o j && dstAt l j == some t))
theorem okRegN_spec {l : List Oper} {n : Nat} {es : List Nat} (h : okRegN l n es = true) : Region.noSelect l.toArray = true ∧ ∀ k o, l[k]? = some o →
    ((∀ d, o.dst = some d → d < n) ∧ (o.dst = none → k ∈ es)) ∧ (∀ d, o.dst = some d → ∀ j, j ≠ k → dstAt l j ≠ some d) ∧ (∀ e ∈ o.after, Region.binds .any e = true → e.on < k) ∧
    (∀ t ∈ o.looksAt l.toArray, oldB l k t = true ∨ ∃ j, j < k ∧ waitsFor o j = true ∧ dstAt l j = some t) := by
  unfold okRegN at h
  rw [Bool.and_eq_true] at h
  refine ⟨h.1, fun k o ho => ?_⟩
  have hk : k < l.length := (List.getElem?_eq_some_iff.1 ho).1
  have h2 := List.all_eq_true.1 h.2 k (List.mem_range.2 hk)
  rw [ho] at h2
  simp only [Bool.and_eq_true] at h2
  obtain ⟨⟨⟨h3, h4⟩, h5⟩, h6⟩ := h2
  refine ⟨⟨fun d hd => ?_, fun hd => ?_⟩, fun d hd j hj he => ?_, fun e he hb => ?_, fun t ht => ?_⟩
  · rw [hd] at h3; simpa using h3
  · rw [hd] at h3; simpa using h3
  · have hjl : j < l.length := by
      apply Classical.byContradiction
      intro hn
      rw [dstAt, List.getElem?_eq_none (by omega)] at he
      cases he
    have := List.all_eq_true.1 h4 j (List.mem_range.2 hjl)
    simp [hj, he, hd] at this
  · have := Array.all_eq_true'.1 h5 e he
    simpa [hb] using this
  · have := List.all_eq_true.1 h6 t ht
    rw [Bool.or_eq_true] at this
    rcases this with h | h
    · exact .inl h
    · obtain ⟨j, hj, hh⟩ := List.any_eq_true.1 h
      rw [Bool.and_eq_true] at hh
      exact .inr ⟨j, List.mem_range.1 hj, hh.1, by simpa using hh.2⟩

theorem wpAny_effN {l : List Oper} {R : World → World → Prop} {T : Nat → Value → World → Prop} {J : Nat → Value → World → Prop} {es : List Nat} {a0 : Act} {w0 : World} (hok : okRegN l a0.tmps.size es = true) (hoe : okEff l es = true)
    (hRB : ∀ w w', Below w.heap.size w w' → R w w') (hRt : ∀ w w1 w2, R w w1 → R w1 w2 → R w w2)
    (hT : ∀ i, StableR R (T i)) (hTe : ∀ e o, l[e]? = some o → e ∈ es → (∀ v w, J (e + 1) v w → T e v w) ∧ (o.dst = none → ∀ v w, T e v w)) (hJc : ∀ k, k ∉ es → J (k + 1) = J k) (hJs : ∀ k, Stable (J k)) (hJn : ∀ k o, l[k]? = some o → k ∈ es → o.dst = none → ∀ u v w, J (k + 1) u w → J (k + 1) v w)
    (hstep : ∀ k o, l[k]? = some o → k ∉ es → ∀ (vs : Nat → Value) (w : World), R w0 w → (∀ j, j < k → waitsFor o j = true → T j (vs j) w) → StepOK P l.toArray (T k) o (putL (l.take k) 0 vs a0) w)
    (hstepE : ∀ k o, l[k]? = some o → k ∈ es → ∀ (vs : Nat → Value) (w : World), R w0 w → (∀ j, j < k → waitsFor o j = true → T j (vs j) w) → J k (lastV (prevE es k) vs) w → StepE P l.toArray R (J (k + 1)) o (putL (l.take k) 0 vs a0) w)
    (hQ : ∀ (vs : Nat → Value) (w : World), R w0 w → (∀ j, j < l.length → T j (vs j) w) → J l.length (lastV (prevE es l.length) vs) w → Q .normal (putL l 0 vs a0) w) :
    ∀ (fuel : Nat) (listed : Array Bool) (a : Act) (w : World), EInv l R T J es a0 w0 listed a w → (List.range l.length).countP (fun i => !listed.getD i true) ≤ fuel → wpAny P .any l.toArray Q fuel listed a w := by
  obtain ⟨hsel, hspec⟩ := okRegN_spec hok
  have hes : ∀ k ∈ es, k < l.length ∧ ∀ e ∈ es, e < k → ∀ o, l[k]? = some o → waitsFor o e = true := by
    intro k hk
    have h1 := List.all_eq_true.1 hoe k hk
    rw [Bool.and_eq_true] at h1
    refine ⟨by simpa using h1.1, fun e he hlt o ho => ?_⟩
    have h2 := List.all_eq_true.1 h1.2 e he
    simpa [hlt, ho] using h2
  -- all have come up: the end
  have fin : ∀ (listed : Array Bool) (a : Act) (w : World), EInv l R T J es a0 w0 listed a w → Region.ready .any l.toArray listed = [] → Q .normal a w := by
    intro listed a w hI hr
    have hall : ∀ j, j < l.length → listed.getD j true = true := by
      intro j
      induction j using Nat.strongRecOn with
      | ind j ih =>
        intro hj
        apply Classical.byContradiction
        intro hn
        have hmem : j ∈ Region.ready .any l.toArray listed := by
          rw [mem_ready]
          refine ⟨by simpa using hn, l[j], by simp [hj], fun e he hb => ?_⟩
          have hlt := (hspec j l[j] (by simp [hj])).2.2.1 e he hb
          have h1 := ih e.on hlt (by omega)
          have hs : e.on < listed.size := by rw [hI.lsize]; omega
          simpa [hs] using h1
        rw [hr] at hmem; cases hmem
    have hTs : ∀ j, j < l.length → T j (valOf l a j) w := by
      intro j hj
      cases hd : l[j].dst with
      | none => exact (hTe j l[j] (by simp [hj]) ((hspec j l[j] (by simp [hj])).1.2 hd)).2 hd _ _
      | some d =>
        have hda : dstAt l j = some d := by simp [dstAt, hj, hd]
        have := hI.done j d hj hda (hall j hj)
        simp only [valOf, hda]; exact this
    have ha : a = putL l 0 (valOf l a) a0 := by
      have h1 : a.tmps = (putL l 0 (valOf l a) a0).tmps := by
        apply Array.ext
        · rw [putL_size, hI.size]
        · intro t h1 h2
          have key : a.tmps.getD t undef = (putL l 0 (valOf l a) a0).tmps.getD t undef := by
            by_cases hw : ∃ j, dstAt l j = some t
            · obtain ⟨j, hj⟩ := hw
              have hjl : j < l.length := by
                apply Classical.byContradiction; intro hn
                rw [dstAt, List.getElem?_eq_none (by omega)] at hj; cases hj
              have hdj : l[j].dst = some t := by simpa [dstAt, hjl] using hj
              rw [putL_at l 0 (valOf l a) a0 j t hj (fun i hi => (hspec j l[j] (by simp [hjl])).2.1 t hdj i hi) (by rw [← hI.size]; exact h1)]
              simp only [valOf, Nat.zero_add, hj]
            · rw [putL_old l 0 (valOf l a) a0 t (fun j hj => hw ⟨j, hj⟩)]
              exact hI.old t (fun j hj => absurd ⟨j, hj⟩ hw)
          simpa [h1, h2] using key
      have h2 : a.defers = (putL l 0 (valOf l a) a0).defers := by rw [putL_defers, hI.defers]
      generalize putL l 0 (valOf l a) a0 = b at h1 h2
      cases a; cases b; simp only at h1 h2; rw [h1, h2]
    obtain ⟨q, hq, hql, hJ⟩ := hI.eff
    have hgap : ∀ e ∈ es, q ≤ e → q + (l.length - q) ≤ e := by
      intro e he hqe
      have := (hql e he).1 (hall e (hes e he).1)
      omega
    have e1 := J_gap es hJc q (l.length - q) hgap
    have e2 := prevE_gap es q (l.length - q) hgap
    rw [show q + (l.length - q) = l.length by omega] at e1 e2
    rw [← e1, ← e2] at hJ
    rw [ha]
    exact hQ _ w hI.rel hTs hJ
  intro fuel
  induction fuel with
  | zero =>
    intro listed a w hI hc
    have hr : Region.ready .any l.toArray listed = [] := by
      apply List.eq_nil_iff_forall_not_mem.2
      intro j hj
      obtain ⟨h0, o, ho, _⟩ := mem_ready.1 hj
      have hjl : j < l.length := by simpa using (Array.getElem?_eq_some_iff.1 ho).1
      have : 0 < (List.range l.length).countP (fun i => !listed.getD i true) := List.countP_pos_iff.2 ⟨j, List.mem_range.2 hjl, by rw [h0]; rfl⟩
      omega
    exact ⟨hr, fin _ _ _ hI hr⟩
  | succ fuel ih =>
    intro listed a w hI hc
    refine ⟨fin _ _ _ hI, fun k hk => ?_⟩
    obtain ⟨h0, o, ho, hdeps⟩ := mem_ready.1 hk
    have hol : l[k]? = some o := by simpa using ho
    have hkl : k < l.length := (List.getElem?_eq_some_iff.1 hol).1
    obtain ⟨⟨hdn, hnone⟩, huniq, hafter, hlook⟩ := hspec k o hol
    have hlisted : ∀ j, waitsFor o j = true → listed.getD j true = true ∧ j < k := by
      intro j hj
      obtain ⟨e, he, hb⟩ := Array.any_eq_true'.1 hj
      rw [Bool.and_eq_true] at hb
      have hon : e.on = j := by simpa using hb.2
      have h1 := hdeps e he hb.1
      have h2 := hafter e he hb.1
      rw [hon] at h1 h2
      have hs : j < listed.size := by rw [hI.lsize]; omega
      exact ⟨by simpa [hs] using h1, h2⟩
    have hTs : ∀ j, j < k → waitsFor o j = true → T j (valOf l a j) w := by
      intro j hj hw
      have hjl : j < l.length := by omega
      cases hd' : l[j].dst with
      | none => exact (hTe j l[j] (by simp [hjl]) ((hspec j l[j] (by simp [hjl])).1.2 hd')).2 hd' _ _
      | some d' =>
        have hda : dstAt l j = some d' := by simp [dstAt, hjl, hd']
        have := hI.done j d' (by omega) hda (hlisted j hw).1
        simp only [valOf, hda]; exact this
    -- it looks at slots that are the same here and there
    have hslot : ∀ t ∈ o.looksAt l.toArray, a.tmps.getD t undef = (putL (l.take k) 0 (valOf l a) a0).tmps.getD t undef := by
      intro t ht
      rcases hlook t ht with hold | ⟨j, hjk, hwj, hdj⟩
      · have hnot : ∀ j, dstAt l j = some t → ∀ o', l[j]? = some o' → waitsFor o' k = true := by
          intro j hj o' ho'
          have hjl : j < l.length := (List.getElem?_eq_some_iff.1 ho').1
          have := List.all_eq_true.1 hold j (List.mem_range.2 hjl)
          simpa [hj, ho'] using this
        rw [hI.old t (fun j hj => ?_), putL_old _ _ _ _ _ (fun j hj => ?_)]
        · have hjl : j < l.length := by
            apply Classical.byContradiction; intro hn
            rw [dstAt, List.getElem?_take] at hj
            split at hj
            · omega
            · cases hj
          have hj' : dstAt l j = some t := by
            rw [dstAt, List.getElem?_take] at hj
            split at hj
            · exact hj
            · cases hj
          have hjk : j < k := by
            apply Classical.byContradiction; intro hn
            rw [dstAt, List.getElem?_take, if_neg hn] at hj; cases hj
          have hw := hnot j hj' l[j] (by simp [hjl])
          obtain ⟨e, he, hb⟩ := Array.any_eq_true'.1 hw
          rw [Bool.and_eq_true] at hb
          have hon : e.on = k := by simpa using hb.2
          have := (hspec j l[j] (by simp [hjl])).2.2.1 e he hb.1
          omega
        · have hjl : j < l.length := by
            apply Classical.byContradiction; intro hn
            rw [dstAt, List.getElem?_eq_none (by omega)] at hj; cases hj
          have hw := hnot j hj l[j] (by simp [hjl])
          cases hl : listed.getD j true with
          | false => rfl
          | true => exact absurd (hI.closed j l[j] (by simp [hjl]) hl k hw) (by rw [h0]; simp)
      · have hjl : j < l.length := by omega
        have hdj' : l[j].dst = some t := by simpa [dstAt, hjl] using hdj
        have h1 : dstAt (l.take k) j = some t := by rw [dstAt, List.getElem?_take, if_pos hjk]; exact hdj
        have h2 : ∀ i, i ≠ j → dstAt (l.take k) i ≠ some t := by
          intro i hi hh
          rw [dstAt, List.getElem?_take] at hh
          split at hh
          · exact (hspec j l[j] (by simp [hjl])).2.1 t hdj' i hi hh
          · cases hh
        have h3 : t < a0.tmps.size := (hspec j l[j] (by simp [hjl])).1.1 t hdj'
        rw [putL_at _ 0 (valOf l a) a0 j t h1 h2 h3]
        simp only [valOf, Nat.zero_add, hdj]
    have he : execOp a.eval o = execOp (putL (l.take k) 0 (valOf l a) a0).eval o := execOp_congr o (fun cs b => Region.noSelect_spec hsel k o cs b ho) fun x hx => by
      cases x with
      | tmp t => exact hslot t (List.mem_append_left _ (List.mem_filterMap.2 ⟨.tmp t, by simpa using hx, rfl⟩))
      | const v => rfl
      | global g => rfl
      | func f => rfl
    have hwant : Region.wanted o (yielded l.toArray a.tmps) = Region.wanted o (yielded l.toArray (putL (l.take k) 0 (valOf l a) a0).tmps) := by
      unfold Region.wanted
      cases hg : o.guard with
      | none => rfl
      | some gw =>
        obtain ⟨g, want⟩ := gw
        have hy : yielded l.toArray a.tmps g = yielded l.toArray (putL (l.take k) 0 (valOf l a) a0).tmps g := by
          unfold yielded
          cases ht : ((l.toArray)[g]?).bind (·.dst) with
          | none => rfl
          | some t =>
            have hs := hslot t (List.mem_append_right _ (by rw [hg]; simpa using ht))
            have hsz : a.tmps.size = (putL (l.take k) 0 (valOf l a) a0).tmps.size := (hI.size).trans (putL_size _ _ _ _).symm
            have h2 : a.tmps[t]? = (putL (l.take k) 0 (valOf l a) a0).tmps[t]? := by
              by_cases hlt : t < a.tmps.size
              · have hlt2 : t < (putL (l.take k) 0 (valOf l a) a0).tmps.size := hsz ▸ hlt
                simp [hlt, hlt2] at hs ⊢; exact hs
              · rw [Array.getElem?_eq_none (Nat.le_of_not_lt hlt), Array.getElem?_eq_none (hsz ▸ Nat.le_of_not_lt hlt)]
            simp only [Option.bind_some, h2]
        simp only [hy]
    have hks : k < listed.size := by rw [hI.lsize]; exact hkl
    have hset : ∀ j, (listed.setIfInBounds k true).getD j true = if j = k then true else listed.getD j true := by
      intro j
      by_cases hj : j = k
      · subst hj; simp [hks]
      · rw [if_neg hj, getD_set_ne true (Ne.symm hj)]
    have hval : ∀ v j, j ≠ k → valOf l (a.put o.dst v) j = valOf l a j := by
      intro v j hj
      unfold valOf
      cases hdj : dstAt l j with
      | none => rfl
      | some d' => exact put_other _ _ _ _ (fun h => huniq d' h j hj hdj)
    have hvalk : ∀ v d, o.dst = some d → valOf l (a.put o.dst v) k = v := by
      intro v d hd
      have hdk : dstAt l k = some d := by simp [dstAt, hol, hd]
      unfold valOf
      simp only [hdk, hd]
      exact put_at _ _ _ (by rw [hI.size]; exact hdn d hd)
    have hcnt : (List.range l.length).countP (fun i => !(listed.setIfInBounds k true).getD i true) ≤ fuel := by
      have := cnt_set (fun i => !listed.getD i true) (fun i => !(listed.setIfInBounds k true).getD i true) k (by simp only [h0]; rfl) (by simp only [hset]; simp) (fun j hj => by simp only [hset, if_neg hj]) l.length hkl
      omega
    -- what is left holds behind it
    have hnext : ∀ v w', R w w' → T k v w' → (∃ q, q ≤ l.length ∧ (∀ e ∈ es, (listed.setIfInBounds k true).getD e true = true ↔ e < q) ∧ J q (lastV (prevE es q) (valOf l (a.put o.dst v))) w') → wpAny P .any l.toArray Q fuel (listed.setIfInBounds k true) (a.put o.dst v) w' := by
      intro v w' hr hv heff
      apply ih
      · refine ⟨hRt _ _ _ hI.rel hr, by rw [put_defers]; exact hI.defers, by rw [put_size]; exact hI.size, by simpa using hI.lsize, ?_, ?_, ?_, heff⟩
        · intro t ht
          rw [put_other]
          · apply hI.old
            intro j hj
            have := ht j hj
            rw [hset] at this
            split at this
            · cases this
            · exact this
          · intro hdt
            have := ht k (by simp [dstAt, hol, hdt])
            rw [hset, if_pos rfl] at this; cases this
        · intro j o' ho' hl i hi
          rw [hset] at hl ⊢
          by_cases hik : i = k
          · rw [if_pos hik]
          · rw [if_neg hik]
            by_cases hjk : j = k
            · subst hjk; rw [hol] at ho'; cases ho'; exact (hlisted i hi).1
            · rw [if_neg hjk] at hl; exact hI.closed j o' ho' hl i hi
        · intro j d' hj hdj hl
          by_cases hjk : j = k
          · subst hjk
            have : o.dst = some d' := by simpa [dstAt, hol] using hdj
            rw [this, put_at _ _ _ (by rw [hI.size]; exact hdn d' this)]
            exact hv
          · rw [hset, if_neg hjk] at hl
            rw [put_other _ _ _ _ (fun h => huniq d' h j hjk hdj)]
            exact hT j _ _ _ hr (hI.done j d' hj hdj hl)
      · exact hcnt
    obtain ⟨q, hq, hql, hJ⟩ := hI.eff
    have hnlk : listed.getD k true ≠ true := by rw [h0]; simp
    by_cases hke : k ∈ es
    · -- one that writes
      have hqk : q ≤ k := by
        apply Classical.byContradiction
        intro hn
        exact hnlk ((hql k hke).2 (by omega))
      have hgap : ∀ e ∈ es, q ≤ e → q + (k - q) ≤ e := by
        intro e he hqe
        apply Classical.byContradiction
        intro hn
        have hw := (hes k hke).2 e he (by omega) o hol
        have := (hql e he).1 (hlisted e hw).1
        omega
      have e1 := J_gap es hJc q (k - q) hgap
      have e2 := prevE_gap es q (k - q) hgap
      rw [show q + (k - q) = k by omega] at e1 e2
      rw [← e1, ← e2] at hJ
      have hst := hstepE k o hol hke (valOf l a) w hI.rel hTs hJ
      have hnextE : ∀ v w', R w w' → J (k + 1) v w' → wpAny P .any l.toArray Q fuel (listed.setIfInBounds k true) (a.put o.dst v) w' := by
        intro v w' hr hj
        refine hnext v w' hr ((hTe k o hol hke).1 v w' hj) ⟨k + 1, by omega, fun e he => ?_, ?_⟩
        · rw [hset]
          by_cases hek : e = k
          · rw [if_pos hek, hek]; simp
          · rw [if_neg hek, hql e he]
            constructor
            · intro h; omega
            · intro h
              have hw := (hes k hke).2 e he (by omega) o hol
              exact (hql e he).1 (hlisted e hw).1
        · rw [prevE, if_pos hke, lastV]
          cases hd : o.dst with
          | none => exact hJn k o hol hke hd _ _ _ hj
          | some d => rw [← hd, hvalk v d hd]; exact hj
      unfold wpOp
      rw [ho]
      unfold StepE at hst
      rw [← hwant, ← he] at hst
      simp only
      split
      · rename_i hw
        rw [if_pos hw] at hst
        exact .inl (wp_of_upE hRt hst hnextE)
      · rename_i hw
        rw [if_neg hw] at hst
        exact hnextE undef w (hRB _ _ (Below.refl _ _)) hst
    · have hst := hstep k o hol hke (valOf l a) w hI.rel hTs
      have hnextP : ∀ v w', Below w.heap.size w w' → T k v w' → wpAny P .any l.toArray Q fuel (listed.setIfInBounds k true) (a.put o.dst v) w' := by
        intro v w' hb hv
        refine hnext v w' (hRB _ _ hb) hv ⟨q, hq, fun e he => ?_, ?_⟩
        · rw [hset, if_neg (show e ≠ k from fun h => hke (h ▸ he))]; exact hql e he
        · have hlv : lastV (prevE es q) (valOf l (a.put o.dst v)) = lastV (prevE es q) (valOf l a) := by
            unfold lastV
            cases hp : prevE es q with
            | none => rfl
            | some p => exact hval v p (show p ≠ k from fun h => hke (h ▸ (prevE_lt es q p hp).2))
          rw [hlv]
          exact hJs q _ _ _ hb hJ
      unfold wpOp
      rw [ho]
      unfold StepOK at hst
      rw [← hwant, ← he] at hst
      simp only
      split
      · rename_i hw
        rw [if_pos hw] at hst
        exact .inl (wp_of_upS hst hnextP)
      · rename_i hw
        rw [if_neg hw] at hst
        exact hnextP undef w (Below.refl _ _) hst

theorem wp_region_effN {id : Nat} {l : List Oper} {R : World → World → Prop} {T : Nat → Value → World → Prop} {J : Nat → Value → World → Prop} {es : List Nat} {a0 : Act} {w0 : World} (hm : P.follows .mixedOrders = true) (hok : okRegN l a0.tmps.size es = true) (hoe : okEff l es = true)
    (hRB : ∀ w w', Below w.heap.size w w' → R w w') (hRt : ∀ w w1 w2, R w w1 → R w1 w2 → R w w2)
    (hT : ∀ i, StableR R (T i)) (hTe : ∀ e o, l[e]? = some o → e ∈ es → (∀ v w, J (e + 1) v w → T e v w) ∧ (o.dst = none → ∀ v w, T e v w)) (hJc : ∀ k, k ∉ es → J (k + 1) = J k) (hJs : ∀ k, Stable (J k)) (hJn : ∀ k o, l[k]? = some o → k ∈ es → o.dst = none → ∀ u v w, J (k + 1) u w → J (k + 1) v w) (hJ0 : J 0 undef w0)
    (hstep : ∀ k o, l[k]? = some o → k ∉ es → ∀ (vs : Nat → Value) (w : World), R w0 w → (∀ j, j < k → waitsFor o j = true → T j (vs j) w) → StepOK P l.toArray (T k) o (putL (l.take k) 0 vs a0) w)
    (hstepE : ∀ k o, l[k]? = some o → k ∈ es → ∀ (vs : Nat → Value) (w : World), R w0 w → (∀ j, j < k → waitsFor o j = true → T j (vs j) w) → J k (lastV (prevE es k) vs) w → StepE P l.toArray R (J (k + 1)) o (putL (l.take k) 0 vs a0) w)
    (hQ : ∀ (vs : Nat → Value) (w : World), R w0 w → (∀ j, j < l.length → T j (vs j) w) → J l.length (lastV (prevE es l.length) vs) w → Q .normal (putL l 0 vs a0) w) :
    (Code.region id l.toArray true).wp P Q a0 w0 := by
  have hb := below_drewN (Below.refl w0.heap.size w0) 1
  refine wp_region_any hm (wpAny_effN hok hoe hRB hRt hT hTe hJc hJs hJn hstep hstepE hQ _ _ _ _ ⟨hRB _ _ hb, rfl, rfl, by simp, fun _ _ => rfl, ?_, ?_, ?_⟩ ?_)
  · intro j o ho hl
    have hj : j < l.length := (List.getElem?_eq_some_iff.1 ho).1
    simp [hj] at hl
  · intro j d hj _ hl
    simp [hj] at hl
  · refine ⟨0, Nat.zero_le _, fun e he => ?_, hJs 0 _ _ _ hb hJ0⟩
    have h1 := List.all_eq_true.1 hoe e he
    rw [Bool.and_eq_true] at h1
    have h2 : e < l.length := by simpa using h1.1
    simp [h2]
  · exact Nat.le_trans List.countP_le_length (by simp)

/-- the walk of the text's order, with operations that write (es) -/
def RunN (P : Program) (Q : Exit → Act → World → Prop) (R : World → World → Prop) (es : List Nat) (l0 : List Oper) (a0 : Act) (w0 : World) : Nat → List Oper → List (Value → World → Prop) → (Value → World → Prop) → Prop
  | k, [], Ts, J => ∀ (vs : Nat → Value) (w : World), R w0 w → (∀ j, j < k → TR Ts k j (vs j) w) → J (lastV (prevE es k) vs) w → Q .normal (putL l0 0 vs a0) w
  | k, o :: r, Ts, J => (k ∉ es ∧ ∃ T, StableR R T ∧ (∀ (vs : Nat → Value) (w : World), R w0 w → (∀ j, j < k → waitsFor o j = true → TR Ts k j (vs j) w) → StepOK P l0.toArray T o (putL (l0.take k) 0 vs a0) w) ∧ RunN P Q R es l0 a0 w0 (k + 1) r (T :: Ts) J) ∨
      (k ∈ es ∧ ∃ J' T0, Stable J' ∧ StableR R T0 ∧ (∀ v w, J' v w → T0 v w) ∧ (o.dst = none → ∀ v w, T0 v w) ∧ (o.dst = none → ∀ u v w, J' u w → J' v w) ∧ (∀ (vs : Nat → Value) (w : World), R w0 w → (∀ j, j < k → waitsFor o j = true → TR Ts k j (vs j) w) → J (lastV (prevE es k) vs) w → StepE P l0.toArray R J' o (putL (l0.take k) 0 vs a0) w) ∧ RunN P Q R es l0 a0 w0 (k + 1) r (T0 :: Ts) J')

theorem runN_spec {R : World → World → Prop} {es : List Nat} {l0 : List Oper} {a0 : Act} {w0 : World} : ∀ (r : List Oper) (k : Nat) (Ts : List (Value → World → Prop)) (J0 : Value → World → Prop), Ts.length = k → (∀ j, j < k → StableR R (TR Ts k j)) → Stable J0 → (∀ e, e ∈ es → e < k + r.length) → RunN P Q R es l0 a0 w0 k r Ts J0 →
    ∃ (T : Nat → Value → World → Prop) (J : Nat → Value → World → Prop), (∀ j, j < k → T j = TR Ts k j) ∧ J k = J0 ∧ (∀ i, StableR R (T i)) ∧ (∀ i o, r[i]? = some o → k + i ∈ es → (∀ v w, J (k + i + 1) v w → T (k + i) v w) ∧ (o.dst = none → ∀ v w, T (k + i) v w)) ∧ (∀ i, k ≤ i → i ∉ es → J (i + 1) = J i) ∧ (∀ i, k ≤ i → Stable (J i)) ∧ (∀ i o, r[i]? = some o → k + i ∈ es → o.dst = none → ∀ u v w, J (k + i + 1) u w → J (k + i + 1) v w) ∧
      (∀ i o, r[i]? = some o → k + i ∉ es → ∀ (vs : Nat → Value) (w : World), R w0 w → (∀ j, j < k + i → waitsFor o j = true → T j (vs j) w) → StepOK P l0.toArray (T (k + i)) o (putL (l0.take (k + i)) 0 vs a0) w) ∧
      (∀ i o, r[i]? = some o → k + i ∈ es → ∀ (vs : Nat → Value) (w : World), R w0 w → (∀ j, j < k + i → waitsFor o j = true → T j (vs j) w) → J (k + i) (lastV (prevE es (k + i)) vs) w → StepE P l0.toArray R (J (k + i + 1)) o (putL (l0.take (k + i)) 0 vs a0) w) ∧
      (∀ (vs : Nat → Value) (w : World), R w0 w → (∀ j, j < k + r.length → T j (vs j) w) → J (k + r.length) (lastV (prevE es (k + r.length)) vs) w → Q .normal (putL l0 0 vs a0) w)
  | [], k, Ts, J0, hl, hs, hj, hes, h => by
    refine ⟨fun j => if j < k then TR Ts k j else fun _ _ => True, fun _ => J0, fun j hj => by simp [hj], rfl, fun i => ?_, fun i o hi => by simp at hi, fun _ _ _ => rfl, fun _ _ => hj, fun i o hi => by simp at hi, fun i o hi => by simp at hi, fun i o hi => by simp at hi, fun vs w hb hT hJ => ?_⟩
    · by_cases hi : i < k
      · simp only [hi, if_true]; exact hs i hi
      · simp only [hi, if_false]; exact fun _ _ _ _ _ => trivial
    · refine h vs w hb (fun j hj => ?_) hJ
      have := hT j (by simpa using hj)
      simpa [hj] using this
  | o :: r, k, Ts, J0, hl, hs, hj, hes, h => by
    have hTR : ∀ (T0 : Value → World → Prop) j, j < k → TR (T0 :: Ts) (k + 1) j = TR Ts k j := by
      intro T0 j hj
      unfold TR
      rw [show k + 1 - 1 - j = (k - 1 - j) + 1 by omega, List.getD_cons_succ]
    have hTk : ∀ T0 : Value → World → Prop, TR (T0 :: Ts) (k + 1) k = T0 := by intro T0; unfold TR; rw [show k + 1 - 1 - k = 0 by omega, List.getD_cons_zero]
    have hes' : ∀ e, e ∈ es → e < k + 1 + r.length := by intro e he; have := hes e he; simp at this; omega
    rcases h with ⟨hke, T0, hst, hstep, hrest⟩ | ⟨hke, J', T0, hst, hTst, hJT, hTn, hnn, hstep, hrest⟩
    · obtain ⟨T, J, h1, hJ0, h2, h2e, h2c, h2s, h2n, h3, h3e, h4⟩ := runN_spec r (k + 1) (T0 :: Ts) J0 (by simp [hl]) (fun j hj => by
        by_cases hjk : j = k
        · subst hjk; rw [hTk]; exact hst
        · rw [hTR T0 j (by omega)]; exact hs j (by omega)) hj hes' hrest
      have hT : ∀ j, j < k → T j = TR Ts k j := fun j hj => (h1 j (by omega)).trans (hTR T0 j hj)
      have hk : T k = T0 := (h1 k (by omega)).trans (hTk T0)
      obtain ⟨JJ, hJJk, hJJ⟩ : ∃ JJ : Nat → Value → World → Prop, JJ k = J0 ∧ ∀ i, i ≠ k → JJ i = J i := ⟨fun i => if i = k then J0 else J i, by simp, fun i h => by simp [h]⟩
      refine ⟨T, JJ, hT, hJJk, h2, fun i o' hi hie => ?_, fun i hi hie => ?_, fun i hi => ?_, fun i o' hi hie hon => ?_, fun i o' hi hie vs w hb hd => ?_, fun i o' hi hie vs w hb hd hJ => ?_, fun vs w hb hd hJ => h4 vs w hb (fun j hj => hd j (by simp; omega)) ?_⟩
      · cases i with
        | zero => exact absurd hie hke
        | succ i =>
          rw [hJJ _ (by omega)]
          have := h2e i o' (by simpa using hi) (by rw [show k + 1 + i = k + (i + 1) by omega]; exact hie)
          rwa [show k + 1 + i = k + (i + 1) by omega] at this
      · by_cases hik : i = k
        · rw [hik, hJJk, hJJ _ (by omega), hJ0]
        · rw [hJJ _ hik, hJJ _ (by omega)]; exact h2c i (by omega) hie
      · by_cases hik : i = k
        · rw [hik, hJJk]; exact hj
        · rw [hJJ _ hik]; exact h2s i (by omega)
      · cases i with
        | zero => exact absurd hie hke
        | succ i =>
          rw [hJJ _ (by omega)]
          have := h2n i o' (by simpa using hi) (by rw [show k + 1 + i = k + (i + 1) by omega]; exact hie) hon
          rwa [show k + 1 + i = k + (i + 1) by omega] at this
      · cases i with
        | zero =>
          simp at hi; subst hi
          rw [Nat.add_zero, hk]
          exact hstep vs w hb (fun j hj hw => by rw [← hT j hj]; exact hd j (by omega) hw)
        | succ i =>
          have := h3 i o' (by simpa using hi) (by rw [show k + 1 + i = k + (i + 1) by omega]; exact hie) vs w hb (fun j hj hw => hd j (by omega) hw)
          rwa [show k + 1 + i = k + (i + 1) by omega] at this
      · cases i with
        | zero => exact absurd hie hke
        | succ i =>
          rw [hJJ _ (by omega)] at hJ ⊢
          have := h3e i o' (by simpa using hi) (by rw [show k + 1 + i = k + (i + 1) by omega]; exact hie) vs w hb (fun j hj hw => hd j (by omega) hw) (by rw [show k + 1 + i = k + (i + 1) by omega]; exact hJ)
          rwa [show k + 1 + i = k + (i + 1) by omega] at this
      · rw [hJJ _ (by simp)] at hJ
        rw [show k + 1 + r.length = k + (o :: r).length by simp; omega]
        exact hJ
    · obtain ⟨T, J, h1, hJ0, h2, h2e, h2c, h2s, h2n, h3, h3e, h4⟩ := runN_spec r (k + 1) (T0 :: Ts) J' (by simp [hl]) (fun j hj => by
        by_cases hjk : j = k
        · subst hjk; rw [hTk]; exact hTst
        · rw [hTR _ j (by omega)]; exact hs j (by omega)) hst hes' hrest
      have hT : ∀ j, j < k → T j = TR Ts k j := fun j hj => (h1 j (by omega)).trans (hTR _ j hj)
      have hk : T k = T0 := (h1 k (by omega)).trans (hTk _)
      obtain ⟨JJ, hJJk, hJJ⟩ : ∃ JJ : Nat → Value → World → Prop, JJ k = J0 ∧ ∀ i, i ≠ k → JJ i = J i := ⟨fun i => if i = k then J0 else J i, by simp, fun i h => by simp [h]⟩
      refine ⟨T, JJ, hT, hJJk, h2, fun i o' hi hie => ?_, fun i hi hie => ?_, fun i hi => ?_, fun i o' hi hie hon => ?_, fun i o' hi hie vs w hb hd => ?_, fun i o' hi hie vs w hb hd hJ => ?_, fun vs w hb hd hJ => h4 vs w hb (fun j hj => hd j (by simp; omega)) ?_⟩
      · cases i with
        | zero =>
          simp at hi; subst hi
          simp only [Nat.add_zero]
          rw [hJJ _ (by omega), hJ0, hk]
          exact ⟨hJT, hTn⟩
        | succ i =>
          rw [hJJ _ (by omega)]
          have := h2e i o' (by simpa using hi) (by rw [show k + 1 + i = k + (i + 1) by omega]; exact hie)
          rwa [show k + 1 + i = k + (i + 1) by omega] at this
      · by_cases hik : i = k
        · exact absurd hke (by rw [← hik]; exact hie)
        · rw [hJJ _ hik, hJJ _ (by omega)]; exact h2c i (by omega) hie
      · by_cases hik : i = k
        · rw [hik, hJJk]; exact hj
        · rw [hJJ _ hik]; exact h2s i (by omega)
      · cases i with
        | zero =>
          simp at hi; subst hi
          rw [Nat.add_zero, hJJ _ (by omega), hJ0]
          exact hnn hon
        | succ i =>
          rw [hJJ _ (by omega)]
          have := h2n i o' (by simpa using hi) (by rw [show k + 1 + i = k + (i + 1) by omega]; exact hie) hon
          rwa [show k + 1 + i = k + (i + 1) by omega] at this
      · cases i with
        | zero => exact absurd hke hie
        | succ i =>
          have := h3 i o' (by simpa using hi) (by rw [show k + 1 + i = k + (i + 1) by omega]; exact hie) vs w hb (fun j hj hw => hd j (by omega) hw)
          rwa [show k + 1 + i = k + (i + 1) by omega] at this
      · cases i with
        | zero =>
          simp at hi; subst hi
          rw [Nat.add_zero, hJJ _ (by omega), hJ0]
          rw [Nat.add_zero, hJJk] at hJ
          exact hstep vs w hb (fun j hj hw => by rw [← hT j hj]; exact hd j (by omega) hw) hJ
        | succ i =>
          rw [hJJ _ (by omega)] at hJ ⊢
          have := h3e i o' (by simpa using hi) (by rw [show k + 1 + i = k + (i + 1) by omega]; exact hie) vs w hb (fun j hj hw => hd j (by omega) hw) (by rw [show k + 1 + i = k + (i + 1) by omega]; exact hJ)
          rwa [show k + 1 + i = k + (i + 1) by omega] at this
      · rw [hJJ _ (by simp)] at hJ
        rw [show k + 1 + r.length = k + (o :: r).length by simp; omega]
        exact hJ

theorem wp_region_runN {id : Nat} {R : World → World → Prop} {l : List Oper} {a0 : Act} {w0 : World} (es : List Nat) (J0 : Value → World → Prop) (hm : P.follows .mixedOrders = true) (hok : okRegN l a0.tmps.size es = true) (hoe : okEff l es = true)
    (hRB : ∀ w w', Below w.heap.size w w' → R w w') (hRt : ∀ w w1 w2, R w w1 → R w1 w2 → R w w2) (hJs : Stable J0) (hJ0 : J0 undef w0) (h : RunN P Q R es l a0 w0 0 l [] J0) :
    (Code.region id l.toArray true).wp P Q a0 w0 := by
  have hlt : ∀ e, e ∈ es → e < 0 + l.length := by
    intro e he
    have h1 := List.all_eq_true.1 hoe e he
    rw [Bool.and_eq_true] at h1
    have h2 : e < l.length := by simpa using h1.1
    omega
  obtain ⟨T, J, _, hj0, h2, h2e, h2c, h2s, h2n, h3, h3e, h4⟩ := runN_spec l 0 [] J0 rfl (fun j hj => by omega) hJs hlt h
  refine wp_region_effN hm hok hoe hRB hRt h2 (fun e o ho he => by have := h2e e o ho (by rw [Nat.zero_add]; exact he); rwa [Nat.zero_add] at this) (fun k hk => h2c k (Nat.zero_le _) hk) (fun k => h2s k (Nat.zero_le _)) (fun k o ho hk hn => by have := h2n k o ho (by rw [Nat.zero_add]; exact hk) hn; rwa [Nat.zero_add] at this) (by rw [hj0]; exact hJ0) (fun k o ho hke vs w hb hd => ?_) (fun k o ho hke vs w hb hd hJ => ?_) (fun vs w hb hd hJ => h4 vs w hb (fun j hj => hd j (by omega)) (by rw [Nat.zero_add]; exact hJ))
  · have := h3 k o ho (by rw [Nat.zero_add]; exact hke) vs w hb (fun j hj => hd j (by omega))
    rwa [Nat.zero_add] at this
  · have := h3e k o ho (by rw [Nat.zero_add]; exact hke) vs w hb (fun j hj => hd j (by omega)) (by rw [Nat.zero_add]; exact hJ)
    rwa [Nat.zero_add] at this

section
variable {R : World → World → Prop} {es : List Nat} {l0 : List Oper} {a0 : Act} {w0 : World} {k : Nat} {o : Oper} {r : List Oper} {Ts : List (Value → World → Prop)} {J : Value → World → Prop}
theorem RunN.pure {c : Value} (hk : k ∉ es)
    (h : ∀ (vs : Nat → Value) (w : World), R w0 w → (∀ j, j < k → waitsFor o j = true → TR Ts k j (vs j) w) → StepOK P l0.toArray (isV c) o (putL (l0.take k) 0 vs a0) w)
    (hr : RunN P Q R es l0 a0 w0 (k + 1) r (isV c :: Ts) J) : RunN P Q R es l0 a0 w0 k (o :: r) Ts J := .inl ⟨hk, isV c, isV_stableR c, h, hr⟩
theorem RunN.such (hk : k ∉ es) (T : Value → World → Prop) (hT : StableR R T)
    (h : ∀ (vs : Nat → Value) (w : World), R w0 w → (∀ j, j < k → waitsFor o j = true → TR Ts k j (vs j) w) → StepOK P l0.toArray T o (putL (l0.take k) 0 vs a0) w)
    (hr : RunN P Q R es l0 a0 w0 (k + 1) r (T :: Ts) J) : RunN P Q R es l0 a0 w0 k (o :: r) Ts J := .inl ⟨hk, T, hT, h, hr⟩
theorem RunN.eff (hk : k ∈ es) (J' : Value → World → Prop) (hJ : Stable J') (hd : o.dst.isSome = true)
    (h : ∀ (vs : Nat → Value) (w : World), R w0 w → (∀ j, j < k → waitsFor o j = true → TR Ts k j (vs j) w) → J (lastV (prevE es k) vs) w → StepE P l0.toArray R J' o (putL (l0.take k) 0 vs a0) w)
    (hr : RunN P Q R es l0 a0 w0 (k + 1) r ((fun _ _ => True) :: Ts) J') : RunN P Q R es l0 a0 w0 k (o :: r) Ts J := .inr ⟨hk, J', _, hJ, fun _ _ _ _ _ => trivial, fun _ _ _ => trivial, fun _ _ _ => trivial, (fun hn => by rw [hn] at hd; cases hd), h, hr⟩
theorem RunN.effV {c : Value} (hk : k ∈ es) (J' : Value → World → Prop) (hJ : Stable J') (hd : o.dst.isSome = true) (hc : ∀ v w, J' v w → v = c)
    (h : ∀ (vs : Nat → Value) (w : World), R w0 w → (∀ j, j < k → waitsFor o j = true → TR Ts k j (vs j) w) → J (lastV (prevE es k) vs) w → StepE P l0.toArray R J' o (putL (l0.take k) 0 vs a0) w)
    (hr : RunN P Q R es l0 a0 w0 (k + 1) r (isV c :: Ts) J') : RunN P Q R es l0 a0 w0 k (o :: r) Ts J := .inr ⟨hk, J', isV c, hJ, isV_stableR c, hc, (fun hn => by rw [hn] at hd; cases hd), (fun hn => by rw [hn] at hd; cases hd), h, hr⟩
theorem RunN.store (hk : k ∈ es) (J' : World → Prop) (hJ : Stable fun _ w => J' w)
    (h : ∀ (vs : Nat → Value) (w : World), R w0 w → (∀ j, j < k → waitsFor o j = true → TR Ts k j (vs j) w) → J (lastV (prevE es k) vs) w → StepE P l0.toArray R (fun _ => J') o (putL (l0.take k) 0 vs a0) w)
    (hr : RunN P Q R es l0 a0 w0 (k + 1) r ((fun _ _ => True) :: Ts) (fun _ => J')) : RunN P Q R es l0 a0 w0 k (o :: r) Ts J := .inr ⟨hk, fun _ => J', _, hJ, fun _ _ _ _ _ => trivial, fun _ _ _ => trivial, fun _ _ _ => trivial, (fun _ _ _ _ h => h), h, hr⟩
end
end
end Go.Proofs.Ytcidifmikcnkcaa
