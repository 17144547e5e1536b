import Derived.Test.YtemegkapmgcffaaRegionT
import Derived.Test.YtemegkapmgcffaaRegionS
/- As RegionS, and the last operations (behind m) come in the text's order, each behind all others. -/
namespace Go.Proofs.Ytemegkapmgcffaa
open Go.RowKit
set_option linter.unusedSimpArgs false
set_option linter.unusedVariables false

section
variable {P : Program} {Q Q1 : Exit → Act → World → Prop}
theorem Oper_wp_exits {o : Oper} {a : Act} {w : World} {K K' : Act → World → Prop} (h : ∀ a w, K a w → K' a w) (hQ : ∀ ex a w, ex ≠ .normal → Q1 ex a w → Q ex a w)
    (hh : o.wp P a w K Q1) : o.wp P a w K' Q := by
  have hlo : LetsOut Q1 → LetsOut Q := fun ⟨a, w, h⟩ => ⟨a, w, hQ _ _ _ (by intro e; cases e) h⟩
  unfold Oper.wp at *
  generalize (execOp a.eval o).run P w = r at *
  cases r with
  | ok n w' =>
    cases n <;> simp only [Oper.upon] at hh ⊢ <;>
      first
        | exact h _ _ hh
        | exact Calls.mono hh (fun e w'' he => by cases e <;> first | exact h _ _ he | exact hlo he | exact hQ _ _ _ (by intro e; cases e) he)
        | exact Rows.mono hh (fun _ _ he => h _ _ he)
  | halt x w' => cases x <;> simp only [Oper.upon] at hh ⊢ <;> first | exact hh | exact hQ _ _ _ (by intro e; cases e) hh
def tailB (l : List Oper) (m : Nat) : Bool := decide (m ≤ l.length) && ((List.range m).all fun k => match l[k]? with
  | none => false
  | some o => o.guard.isNone && o.after.all (fun e => !Region.binds .any e || decide (e.on < k))) &&
  (List.range l.length).all fun k => decide (k < m) || match l[k]? with
    | none => false
    | some o => (List.range m).all (fun j => waitsFor o j)
theorem tailB_spec {l : List Oper} {m : Nat} (h : tailB l m = true) : m ≤ l.length ∧ (∀ k o, k < m → l[k]? = some o → o.guard = none ∧ ∀ e ∈ o.after, Region.binds .any e = true → e.on < k) ∧
    ∀ k o, m ≤ k → l[k]? = some o → ∀ j, j < m → waitsFor o j = true := by
  unfold tailB at h
  simp only [Bool.and_eq_true, decide_eq_true_eq] at h
  obtain ⟨⟨hm, h2⟩, h3⟩ := h
  refine ⟨hm, fun k o hk ho => ?_, fun k o hk ho j hj => ?_⟩
  · have := List.all_eq_true.1 h2 k (List.mem_range.2 hk)
    rw [ho] at this
    simp only [Bool.and_eq_true] at this
    refine ⟨by simpa using this.1, fun e he hb => ?_⟩
    have h5 := Array.all_eq_true'.1 this.2 e he
    simpa [hb] using h5
  · have := List.all_eq_true.1 h3 k (List.mem_range.2 (List.getElem?_eq_some_iff.1 ho).1)
    rw [ho] at this
    simp only [Bool.or_eq_true, decide_eq_true_eq] at this
    rcases this with h1 | h1
    · omega
    · exact List.all_eq_true.1 h1 j (List.mem_range.2 hj)
theorem wpAny_prefix {l : List Oper} {m : Nat} (ht : tailB l m = true) (hseq : Region.seqB .any l.toArray (l.length - m) m ((List.replicate m true ++ List.replicate (l.length - m) false).toArray) = true)
    (hQ : ∀ a w, Q1 .normal a w → wpList P l.toArray Q (l.drop m) a w) (hQ2 : ∀ ex a w, ex ≠ .normal → Q1 ex a w → Q ex a w) :
    ∀ (fuel : Nat) (listed : Array Bool) (a : Act) (w : World), listed.size = m → (List.range m).countP (fun i => !listed.getD i true) = fuel → wpAny P .any (l.take m).toArray Q1 fuel listed a w →
      wpAny P .any l.toArray Q (fuel + (l.length - m)) (listed ++ Array.replicate (l.length - m) false) a w := by
  obtain ⟨hml, hpre, htail⟩ := tailB_spec ht
  have hgetL : ∀ (listed : Array Bool) (b : Bool), listed.size = m → ∀ i, i < m → (listed ++ Array.replicate (l.length - m) false).getD i b = listed.getD i b := by
    intro listed b hs i hi
    simp only [Array.getD_eq_getD_getElem?]
    rw [Array.getElem?_append_left (by omega)]
  intro fuel
  induction fuel with
  | zero =>
    intro listed a w hs hc h
    have hall : ∀ j, j < m → listed.getD j true = true := by
      intro j hj
      have := List.countP_eq_zero.1 hc j (List.mem_range.2 hj)
      simpa using this
    have hli : listed ++ Array.replicate (l.length - m) false = (List.replicate m true ++ List.replicate (l.length - m) false).toArray := by
      have : listed = (List.replicate m true).toArray := by
        apply Array.ext
        · rw [hs]; simp
        · intro i h1 h2
          have := hall i (by omega)
          simp only [Array.getD_eq_getD_getElem?, Array.getElem?_eq_getElem h1, Option.getD_some] at this
          rw [this]; simp
      rw [this]
      apply Array.ext'
      simp
    have hlen : (l.drop m).length = l.length - m := by simp
    have := wpAny_of_seq (P := P) (md := .any) (ops := l.toArray) (Q' := Q) (l.drop m) m (listed ++ Array.replicate (l.length - m) false) a w (fun j => by simp [List.getElem?_drop]) (by rw [hlen, hli]; exact hseq) (hQ _ _ h.2)
    rw [hlen] at this
    rw [Nat.zero_add]
    exact this
  | succ fuel ih =>
    intro listed a w hs hc h
    obtain ⟨i0, hi0, hun⟩ : ∃ i0, i0 < m ∧ listed.getD i0 true = false := by
      have hp : 0 < (List.range m).countP (fun i => !listed.getD i true) := by omega
      obtain ⟨i0, h1, h2⟩ := List.countP_pos_iff.1 hp
      exact ⟨i0, List.mem_range.1 h1, by simpa using h2⟩
    have hbig : ∀ i, i ∈ Region.ready .any l.toArray (listed ++ Array.replicate (l.length - m) false) → i < m ∧ i ∈ Region.ready .any (l.take m).toArray listed := by
      intro i hi
      obtain ⟨h0, o, ho, hdeps⟩ := mem_ready.1 hi
      have hol : l[i]? = some o := by simpa using ho
      have him : i < m := by
        apply Classical.byContradiction
        intro hn
        obtain ⟨e, he, hb⟩ := Array.any_eq_true'.1 (htail i o (by omega) hol i0 hi0)
        rw [Bool.and_eq_true] at hb
        have hon : e.on = i0 := by simpa using hb.2
        have h2 := hdeps e he hb.1
        rw [hon, hgetL _ _ hs _ hi0] at h2
        have hs2 : i0 < listed.size := by omega
        simp [hs2] at h2 hun
        rw [hun] at h2; cases h2
      refine ⟨him, mem_ready.2 ⟨by rw [← hgetL _ _ hs _ him]; exact h0, o, by simp [List.getElem?_take, him, hol], fun e he hb => ?_⟩⟩
      have h2 := hdeps e he hb
      have := (hpre i o him hol).2 e he hb
      rwa [hgetL _ _ hs _ (by omega)] at h2
    have hready : Region.ready .any l.toArray (listed ++ Array.replicate (l.length - m) false) ≠ [] := by
      intro hr
      have hall : ∀ j, j < m → listed.getD j true = true := by
        intro j
        induction j using Nat.strongRecOn with
        | ind j ih2 =>
          intro hj
          apply Classical.byContradiction
          intro hn
          have hjl : j < l.length := by omega
          have hmem : j ∈ Region.ready .any l.toArray (listed ++ Array.replicate (l.length - m) false) := by
            rw [mem_ready]
            refine ⟨by rw [hgetL _ _ hs _ hj]; simpa using hn, l[j], by simp [hjl], fun e he hb => ?_⟩
            have hlt := (hpre j l[j] hj (by simp [hjl])).2 e he hb
            have h1 := ih2 e.on hlt (by omega)
            have hs2 : e.on < listed.size := by omega
            rw [hgetL _ _ hs _ (by omega)]
            simpa [hs2] using h1
          rw [hr] at hmem; cases hmem
      rw [hall i0 hi0] at hun; cases hun
    rw [show fuel + 1 + (l.length - m) = (fuel + (l.length - m)) + 1 by omega]
    refine ⟨fun hr => absurd hr hready, fun k hk => ?_⟩
    obtain ⟨hkm, hkp⟩ := hbig k hk
    have hw := h.2 k hkp
    obtain ⟨h0, o, ho, hdeps⟩ := mem_ready.1 hk
    have hol : l[k]? = some o := by simpa using ho
    have hop : ((l.take m).toArray)[k]? = some o := by simp [List.getElem?_take, hkm, hol]
    have hg := (hpre k o hkm hol).1
    have hset : (listed ++ Array.replicate (l.length - m) false).setIfInBounds k true = listed.setIfInBounds k true ++ Array.replicate (l.length - m) false := by
      exact Array.setIfInBounds_append_left (by omega)
    have hcnt : (List.range m).countP (fun i => !(listed.setIfInBounds k true).getD i true) = fuel := by
      have hks : k < listed.size := by omega
      have h00 : listed.getD k true = false := by rw [← hgetL _ _ hs _ hkm]; exact h0
      have := cnt_set (fun i => !listed.getD i true) (fun i => !(listed.setIfInBounds k true).getD i true) k (by simp only [h00]; rfl) (by simp [hks]) (fun j hj => by simp only [getD_set_ne true (Ne.symm hj)]) m hkm
      omega
    rw [hset]
    unfold wpOp at hw ⊢
    rw [hop] at hw
    rw [ho]
    simp only at hw ⊢
    have hwa : ∀ ops : Array Oper, Region.wanted o (yielded ops a.tmps) = true := fun ops => by unfold Region.wanted; rw [hg]
    rw [hwa] at hw ⊢
    simp only [if_true] at hw ⊢
    rcases hw with hw | ⟨h1, h2⟩
    · exact .inl (Oper_wp_exits (fun a' w' hk2 => ih _ _ _ (by simpa using hs) hcnt hk2) hQ2 hw)
    · obtain ⟨a9, w9, h9⟩ := h2
      exact .inr ⟨h1, a9, w9, hQ2 _ _ _ (by intro e; cases e) h9⟩
/-- what the walk of the first m operations must come to -/
def QT (P : Program) (Q : Exit → Act → World → Prop) (l : List Oper) (m : Nat) : Exit → Act → World → Prop := fun ex a w => match ex with | .normal => wpList P l.toArray Q (l.drop m) a w | ex => Q ex a w
theorem wp_region_tailS {id : Nat} {R : World → World → Prop} {l : List Oper} {a0 : Act} {w0 : World} (m : Nat) (es : List Nat) (src : Nat → Nat) (J0 : Value → World → Prop) (hm : P.follows .mixedOrders = true) (hok : okRegN (l.take m) a0.tmps.size es = true) (hoe : okEff (l.take m) es = true) (ht : tailB l m = true)
    (hseq : Region.seqB .any l.toArray (l.length - m) m ((List.replicate m true ++ List.replicate (l.length - m) false).toArray) = true)
    (hRB : ∀ w w', Below w.heap.size w w' → R w w') (hRt : ∀ w w1 w2, R w w1 → R w1 w2 → R w w2) (hJs : Stable J0) (hJ0 : J0 undef w0) (h : RunS P (QT P Q l m) R es src (l.take m) a0 w0 0 (l.take m) [] J0) :
    (Code.region id l.toArray true).wp P Q a0 w0 := by
  have hml := (tailB_spec ht).1
  have hlen : (l.take m).length = m := by simp; omega
  have hlt : ∀ e, e ∈ es → e < 0 + (l.take m).length := by
    intro e he
    have h1 := List.all_eq_true.1 hoe e he
    rw [Bool.and_eq_true] at h1
    have h2 : e < (l.take m).length := by simpa using h1.1
    omega
  obtain ⟨T, J, _, hj0, h2, h2e, h2c, h2s, h2n, h3, h3e, h4⟩ := runS_spec (l.take m) 0 [] J0 rfl (fun j hj => by omega) hJs hlt h
  have hb := below_drewN (Below.refl w0.heap.size w0) 1
  refine wp_region_any hm ?_
  have H := wpAny_effS (P := P) (Q := QT P Q l m) (src := src) hok hoe hRB hRt h2 (fun e he => h2e e (Nat.zero_le _) he) (fun k hk => h2c k (Nat.zero_le _) hk) (fun k => h2s k (Nat.zero_le _)) (fun k o ho hk => by have := h2n k o ho (by rw [Nat.zero_add]; exact hk); rwa [Nat.zero_add] at this) (fun k o ho hke vs w hb hd => by
      have := h3 k o ho (by rw [Nat.zero_add]; exact hke) vs w hb (fun j hj => hd j (by omega))
      rwa [Nat.zero_add] at this) (fun k o ho hke vs w hb hd hJ => by
      have := h3e k o ho (by rw [Nat.zero_add]; exact hke) vs w hb (fun j hj => hd j (by omega)) (by rw [Nat.zero_add]; exact hJ)
      rwa [Nat.zero_add] at this) (fun vs w hb hd hJ => h4 vs w hb (fun j hj => hd j (by omega)) (by rw [Nat.zero_add]; exact hJ))
    m (Array.replicate m false) a0 { w0 with drawn := w0.drawn + 1 } ⟨hRB _ _ hb, rfl, rfl, by simp; omega, fun _ _ => rfl, fun j o ho hl => by
      have hj : j < (l.take m).length := (List.getElem?_eq_some_iff.1 ho).1
      rw [hlen] at hj
      simp [hj] at hl, fun j d hj _ hl => by
      rw [hlen] at hj
      simp [hj] at hl, ⟨0, Nat.zero_le _, fun e he => by
      have h2 := hlt e he
      rw [hlen, Nat.zero_add] at h2
      simp [h2], by rw [hj0]; exact hJs _ _ _ hb hJ0⟩⟩ (by rw [hlen]; exact Nat.le_trans List.countP_le_length (by simp))
  have := wpAny_prefix (P := P) (Q := Q) (Q1 := QT P Q l m) ht hseq (fun _ _ h => h) (fun ex a w hne h => by cases ex <;> first | exact absurd rfl hne | exact h) m (Array.replicate m false) a0 _ (by simp) (by
      have : (List.range m).countP (fun i => !(Array.replicate m false).getD i true) = (List.range m).length := by
        rw [List.countP_eq_length]
        intro i hi
        have := List.mem_range.1 hi
        simp [this]
      rw [this]; simp) H
  have e1 : m + (l.length - m) = l.toArray.size := by simp; omega
  have e2 : Array.replicate m false ++ Array.replicate (l.length - m) false = Array.replicate l.toArray.size false := by
    rw [Array.replicate_append_replicate]; congr 1
  rw [e1, e2] at this
  exact this
end
end Go.Proofs.Ytemegkapmgcffaa
