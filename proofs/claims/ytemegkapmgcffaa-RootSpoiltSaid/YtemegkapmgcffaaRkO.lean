import Derived.Test.YtemegkapmgcffaaRkM
/- Roots: a slice that grows beside the disk. -/
namespace Go.Proofs.Ytemegkapmgcffaa
open Go.RowKit
set_option linter.unusedSimpArgs false
set_option linter.unusedVariables false

theorem App.same {base size n c : Nat} {e : TypeId} {w w' : World} {A : Option Addr} {cs : List Value} (h : App base e size w A n c cs) (hk : ∀ a, A = some a → w'.heap[a.block]? = w.heap[a.block]?) : App base e size w' A n c cs :=
  h.elim (fun h => .inl (own_same h hk)) (fun h => .inr ⟨sl_same h.1 hk, h.2⟩)
theorem App.held {base size n c : Nat} {e : TypeId} {w : World} {A : Option Addr} {cs : List Value} (h : App base e size w A n c cs) (hne : cs ≠ []) : ∀ a, A = some a → ∃ o, w.heap[a.block]? = some o := by
  intro a ha
  obtain ⟨v, t, hv⟩ := List.exists_cons_of_ne_nil hne
  obtain ⟨ad, h6, h7⟩ := h.sl.cells 0 v (by rw [hv]; rfl)
  rw [ha] at h6
  cases h6
  have h8 := World.block_lt_of_cell? _ _ h7
  rw [add_block] at h8
  exact ⟨_, Array.getElem?_eq_getElem h8⟩
/-- the slice's block is one of those that stay -/
def Wq (A : Option Addr) (K : List (Nat × Obj)) : Prop := ∀ a, A = some a → ∃ o, (a.block, o) ∈ K
section
variable {W w w' : World} {p : Nat} {D D' : Dk} {L L' : List Rsl} {Kw K0 : List (Nat × Obj)} {A A' : Option Addr} {size n c m d : Nat} {t : TypeId} {xs ys : List Value}
theorem App.stays (h : App W.heap.size t size w A n c xs) (hd : DskM W w p D L (Kw ++ K0)) (hd' : DskM W w' p D' L' (Kw ++ K0)) (hq : Wq A Kw) : App W.heap.size t size w' A n c xs :=
  h.same fun a ha => by
    obtain ⟨o, ho⟩ := hq a ha
    rw [hd.held (List.mem_append_left _ ho), hd'.held (List.mem_append_left _ ho)]
theorem DskM.appendRow (h : DskM W w p D L (Kw ++ K0)) (hq : Wq A Kw) (hA : ∀ a, A = some a → W.heap.size ≤ a.block)
    (hL : ∀ ρ, ρ ∈ L → bytesV ρ.x ≠ [] → ∀ a, ρ.A = some a → ∀ a', A = some a' → a.block ≠ a'.block) (hK0 : ∀ κ, κ ∈ K0 → ∀ a, A = some a → κ.1 ≠ a.block)
    (hat : AppTo W.heap.size t size w w' A A' m d ys) (hne : ys ≠ []) : ∃ Kw', Wq A' Kw' ∧ DskM W w' p D L (Kw' ++ K0) := by
  obtain ⟨F, h1, h2, h3, h4⟩ := h
  have hrow : ∀ q, rowOf W.heap.size A = some q → ∃ a, A = some a ∧ a.block = q := fun q hr => by
    unfold rowOf at hr
    cases A with
    | none => simp at hr
    | some a =>
      simp at hr
      exact ⟨a, rfl, hr.2⟩
  have hg := hat.grown
  have hnF : ∀ q, rowOf W.heap.size A = some q → ¬ F q := fun q hr => by
    obtain ⟨a, ha, rfl⟩ := hrow q hr
    obtain ⟨o, ho⟩ := hq a ha
    exact (h4 _ (List.mem_append_left _ ho)).2
  have hcg : Cg (fun k => rowOf W.heap.size A = some k) (fun k => rowOf W.heap.size A = some k) w w' := ⟨hg.os, hg.tape, hg.output, hg.size, fun k hk hn => hg.block k hk (fun e => hn e.symm), fun k hk => .inl hk⟩
  have hD : DkIs w' W.heap.size p D F := dk_awayR h1 hcg (fun q hq2 e => hnF q e hq2)
  have hB : Below W.heap.size W w' := h2.grown hg h2.size (fun k hk => rowOf_ge hk)
  have hRows : ∀ ρ, ρ ∈ L → Rws F w' ρ.A ρ.n ρ.c (bytesV ρ.x) := fun ρ hr => by
    have hr3 := h3 ρ hr
    by_cases h0 : bytesV ρ.x = []
    · have hs := hr3.1
      rw [h0] at hs ⊢
      exact ⟨⟨fun j u hj => by simp at hj, hs.len, hs.le, hs.none⟩, fun h => absurd rfl h⟩
    · refine ⟨sl_same hr3.1 (fun a ha => hcg.block _ (hr3.2 h0 a ha).1 (fun e => ?_)), fun _ a ha => ⟨Nat.lt_of_lt_of_le (hr3.2 h0 a ha).1 hcg.size, (hr3.2 h0 a ha).2⟩⟩
      obtain ⟨a', ha', he⟩ := hrow _ e
      exact hL ρ hr h0 a ha a' ha' he.symm
  have hK : ∀ κ, κ ∈ K0 → w'.heap[κ.1]? = some κ.2 ∧ ¬ F κ.1 := fun κ hk => by
    have g := h4 κ (List.mem_append_right _ hk)
    refine ⟨(hcg.block _ (heap_lt g.1) (fun e => ?_)).trans g.1, g.2⟩
    obtain ⟨a, ha, he⟩ := hrow _ e
    exact hK0 κ hk a ha he.symm
  cases A' with
  | none => exact ⟨[], (fun a ha => by cases ha), F, hD, hB, hRows, hK⟩
  | some a' =>
    obtain ⟨o, ho⟩ := hat.app.held hne a' rfl
    have hf : ¬ F a'.block := by
      rcases hat.lies a' rfl with ⟨a, ha, he⟩ | hge
      · obtain ⟨o2, ho2⟩ := hq a ha
        rw [← he]
        exact (h4 _ (List.mem_append_left _ ho2)).2
      · exact fun hf => by have := (h1.bound _ hf).2; omega
    refine ⟨[(a'.block, o)], (fun a ha => by cases ha; exact ⟨o, List.mem_cons_self ..⟩), F, hD, hB, hRows, fun κ hk => ?_⟩
    rcases List.mem_append.1 hk with h5 | h5
    · simp only [List.mem_cons, List.not_mem_nil, or_false] at h5
      subst h5
      exact ⟨ho, hf⟩
    · exact hK κ h5
end
end Go.Proofs.Ytemegkapmgcffaa
