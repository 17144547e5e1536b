import Derived.Test.YtemegkapmgcffaaGreatMRc
import Derived.Test.YtemegkapmgcffaaGreatMDe
/- Roots: a disk of the caller's own, slices of bytes beside it, and blocks beside it that stay as they are. -/
namespace Go.Proofs.YtemegkapmgcffaaGreat
open Go.RowKit
set_option linter.unusedSimpArgs false
set_option linter.unusedVariables false

def DskM (W w : World) (p : Nat) (D : Dk) (L : List Rsl) (K : List (Nat × Obj)) : Prop :=
  ∃ F, DkIs w W.heap.size p D F ∧ Below W.heap.size W w ∧ (∀ ρ, ρ ∈ L → Rws F w ρ.A ρ.n ρ.c (bytesV ρ.x)) ∧ ∀ κ, κ ∈ K → w.heap[κ.1]? = some κ.2 ∧ ¬ F κ.1
theorem heap_lt {w : World} {q : Nat} {o : Obj} (h : w.heap[q]? = some o) : q < w.heap.size := (Array.getElem?_eq_some_iff.1 h).1
section
variable {W w w' : World} {p : Nat} {D D' : Dk} {L L' : List Rsl} {K K' : List (Nat × Obj)}
theorem DskM.bel (h : DskM W w p D L K) : Below W.heap.size W w := by obtain ⟨F, h1, h2, h3⟩ := h; exact h2
theorem DskM.sub (h : DskM W w p D L K) (hs : ∀ ρ, ρ ∈ L' → ρ ∈ L) : DskM W w p D L' K := by obtain ⟨F, h1, h2, h3, h4⟩ := h; exact ⟨F, h1, h2, fun ρ hr => h3 ρ (hs ρ hr), h4⟩
theorem DskM.nil (h : DskM W w p D L K) : DskM W w p D [] K := h.sub (fun ρ hr => by cases hr)
theorem DskM.sl (h : DskM W w p D L K) {ρ : Rsl} (hr : ρ ∈ L) : Sl w 1 ρ.A ρ.n ρ.c (bytesV ρ.x) := by obtain ⟨F, h1, h2, h3, h4⟩ := h; exact (h3 ρ hr).1
theorem DskM.held (h : DskM W w p D L K) {q : Nat} {o : Obj} (hr : (q, o) ∈ K) : w.heap[q]? = some o := by obtain ⟨F, h1, h2, h3, h4⟩ := h; exact (h4 _ hr).1
theorem DskM.lt (h : DskM W w p D L K) {ρ : Rsl} (hr : ρ ∈ L) : bytesV ρ.x ≠ [] → ∀ a, ρ.A = some a → a.block < w.heap.size := by obtain ⟨F, h1, h2, h3, h4⟩ := h; exact fun hne a ha => ((h3 ρ hr).2 hne a ha).1
theorem DskM.good (h : DskM W w p D L K) : Good D := by obtain ⟨F, h1, h2, h3, h4⟩ := h; exact h1.good
theorem DskM.step {F F' : Nat → Prop} (h1 : DkIs w W.heap.size p D F) (h2 : Below W.heap.size W w) (h3 : ∀ ρ, ρ ∈ L → Rws F w ρ.A ρ.n ρ.c (bytesV ρ.x)) (h4 : ∀ κ, κ ∈ K → w.heap[κ.1]? = some κ.2 ∧ ¬ F κ.1)
    (k2 : DkIs w' W.heap.size p D' F') (k3 : Cg F F' w w') : DskM W w' p D' L K :=
  ⟨F', k2, h2.trans (k3.bel (fun q hq => (h1.bound q hq).1) h2.size), fun ρ hr => (h3 ρ hr).step k3, fun κ hk => by
    obtain ⟨g1, g2⟩ := h4 κ hk
    have hlt := heap_lt g1
    refine ⟨(k3.block _ hlt g2).trans g1, fun hf => ?_⟩
    rcases k3.new _ hf with h5 | h5
    · exact g2 h5
    · omega⟩
theorem DskM.below (h : DskM W w p D L K) (hb : Below w.heap.size w w') : DskM W w' p D L K := by
  obtain ⟨F, h1, h2, h3, h4⟩ := h
  exact DskM.step h1 h2 h3 h4 (h1.below hb) (Cg.below hb)
theorem DskM.of (h : Dsk W w p D) : DskM W w p D [] [] := by
  obtain ⟨F, h1, h2⟩ := h
  exact ⟨F, h1, h2, (fun ρ hr => by cases hr), (fun κ hr => by cases hr)⟩
theorem DskM.dsk (h : DskM W w p D L K) : Dsk W w p D := by obtain ⟨F, h1, h2, h3⟩ := h; exact ⟨F, h1, h2⟩
theorem DskM.dskL (h : DskM W w p D L K) : DskL W w p D L := by obtain ⟨F, h1, h2, h3, h4⟩ := h; exact ⟨F, h1, h2, h3⟩
/-- a new block beside the disk -/
theorem DskM.alloc (h : DskM W w p D L K) (o : Obj) : DskM W (w.alloc o) p D L ((w.heap.size, o) :: K) := by
  have hb := below_alloc1 w o
  obtain ⟨F, h1, h2, h3, h4⟩ := h
  obtain ⟨F2, k1, k2, k3, k4⟩ := DskM.step h1 h2 h3 h4 (h1.below hb) (Cg.below hb)
  refine ⟨F, h1.below hb, h2.trans (hb.mono h2.size), fun ρ hr => (h3 ρ hr).below hb, fun κ hk => ?_⟩
  rcases List.mem_cons.1 hk with h5 | h5
  · subst h5
    exact ⟨heap_alloc_new w o, fun hf => by have := (h1.bound _ hf).2; simp only at this; omega⟩
  · have g := h4 κ h5
    exact ⟨(hb.block _ (heap_lt g.1)).trans g.1, g.2⟩
/-- a slice that was there before the disk was -/
theorem DskM.old (h : DskM W w p D L K) {ρ : Rsl} (hs : Sl W 1 ρ.A ρ.n ρ.c (bytesV ρ.x)) : DskM W w p D (ρ :: L) K := by
  have h0 := (h.dskL.old hs)
  obtain ⟨F, h1, h2, h3, h4⟩ := h
  refine ⟨F, h1, h2, fun σ hr => ?_, h4⟩
  rcases List.mem_cons.1 hr with h5 | h5
  · subst h5
    refine ⟨hs.below h2, fun hne a ha => ?_⟩
    obtain ⟨v, t, hv⟩ := List.exists_cons_of_ne_nil hne
    obtain ⟨ad, h6, h7⟩ := hs.cells 0 v (by rw [hv]; rfl)
    rw [ha] at h6
    cases h6
    have h8 := World.block_lt_of_cell? _ _ h7
    rw [add_block] at h8
    exact ⟨Nat.lt_of_lt_of_le h8 h2.size, fun hf => by have := (h1.bound _ hf).1; omega⟩
  · exact h3 σ h5
/-- a slice that is newer than the disk -/
theorem DskM.new (h : DskM W w p D L K) (hb : Below w.heap.size w w') {B : Nat} {t : TypeId} {ρ : Rsl} (hB : w.heap.size ≤ B) (ho : Own B t 1 w' ρ.A ρ.n ρ.c (bytesV ρ.x)) : DskM W w' p D (ρ :: L) K := by
  obtain ⟨F, h1, h2, h3, h4⟩ := h
  refine ⟨F, h1.below hb, h2.trans (hb.mono h2.size), fun σ hr => ?_, fun κ hk => ?_⟩
  · rcases List.mem_cons.1 hr with h5 | h5
    · subst h5
      exact rws_own ho (fun q hq => Nat.lt_of_lt_of_le (h1.bound q hq).2 hB)
    · exact (h3 σ h5).below hb
  · have g := h4 κ hk
    exact ⟨(hb.block _ (heap_lt g.1)).trans g.1, g.2⟩
theorem DskM.op {P : Ending → Prop} {f : FuncId} {args : Array Value} (h : DskM W w p D L K)
    (hc : ∀ F, DkIs w W.heap.size p D F → (∀ ρ, ρ ∈ L → Rws F w ρ.A ρ.n ρ.c (bytesV ρ.x)) → Calls Tryz.prog f args w fun x w' => P x ∧ ∃ F', DkIs w' W.heap.size p D' F' ∧ Cg F F' w w') :
    Calls Tryz.prog f args w fun x w' => P x ∧ DskM W w' p D' L K := by
  obtain ⟨F, h1, h2, h3, h4⟩ := h
  exact (hc F h1 h3).mono fun x w' ⟨k1, F', k2, k3⟩ => ⟨k1, DskM.step h1 h2 h3 h4 k2 k3⟩
section
variable {s : ByteArray} {nm : Nm} {r : Int}
end
end
end Go.Proofs.YtemegkapmgcffaaGreat
