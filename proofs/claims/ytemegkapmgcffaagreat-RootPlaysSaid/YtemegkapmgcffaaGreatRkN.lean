import Derived.Test.YtemegkapmgcffaaGreatRkM
/- Roots: is, beside blocks that stay; none; made noughts. -/
namespace Go.Proofs.YtemegkapmgcffaaGreat
open Go.RowKit
set_option linter.unusedSimpArgs false
set_option linter.unusedVariables false

theorem DskM.lit {W w : World} {p : Nat} {D : Dk} {L : List Rsl} {K : List (Nat × Obj)} (h : DskM W w p D L K) (l : List UInt8) (fr : Nat × Nat) : DskM W (w.alloc (.cells (bytesV l).toArray 5 fr)) p D (⟨some ⟨w.heap.size, 0, none⟩, l.length, l.length, l⟩ :: L) K := by
  have hb := below_alloc1 w (.cells (bytesV l).toArray 5 fr)
  have h2 := h.below hb
  obtain ⟨F0, g1, g2, g3, g4⟩ := h
  refine ⟨F0, g1.below hb, g2.trans (hb.mono g2.size), fun σ hr => ?_, fun κ hk => ?_⟩
  · rcases List.mem_cons.1 hr with h5 | h5
    · subst h5
      exact ⟨sl_lit_mark w l 5 fr, fun hne a ha => by
        cases ha
        exact ⟨by simp, fun hf => by have := (g1.bound _ hf).2; simp only at this; omega⟩⟩
    · exact (g3 σ h5).below hb
  · have g := g4 κ hk
    exact ⟨(hb.block _ (heap_lt g.1)).trans g.1, g.2⟩
end Go.Proofs.YtemegkapmgcffaaGreat
