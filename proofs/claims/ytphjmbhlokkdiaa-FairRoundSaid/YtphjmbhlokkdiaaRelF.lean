import Derived.Test.YtphjmbhlokkdiaaFairK
/- A relation between worlds for drawn regions that lay a new api.Fair: only blocks that held a zero api.Fair, at B or above, change. -/
namespace Go.Proofs.Ytphjmbhlokkdiaa
open Go.RowKit Go.Maps Go.WideShapes Go.WideMaps
set_option linter.unusedSimpArgs false
set_option linter.unusedVariables false

def zeroF (w : World) (i : Nat) : Prop := ∀ (x : Addr) v, x.block = i → w.cell? x = some v → v ∈ frZ
structure RF (B : Nat) (w w' : World) : Prop where
  os : w'.os = w.os
  tape : w'.tape = w.tape
  output : w'.output = w.output
  size : w.heap.size ≤ w'.heap.size
  block : ∀ i, i < w.heap.size → w'.heap[i]? = w.heap[i]? ∨ (B ≤ i ∧ zeroF w i)
theorem RF.below {B : Nat} {w w' : World} (h : Below w.heap.size w w') : RF B w w' := ⟨h.os, h.tape, h.output, h.size, fun i hi => .inl (h.block i hi)⟩
theorem RF.trans {B : Nat} {w w1 w2 : World} (h : RF B w w1) (k : RF B w1 w2) : RF B w w2 := by
  refine ⟨k.os.trans h.os, k.tape.trans h.tape, k.output.trans h.output, Nat.le_trans h.size k.size, fun i hi => ?_⟩
  rcases h.block i hi with h1 | h1
  · rcases k.block i (Nat.lt_of_lt_of_le hi h.size) with k1 | ⟨k1, k2⟩
    · exact .inl (k1.trans h1)
    · exact .inr ⟨k1, fun x v hx hv => k2 x v hx ((World.cell?_of_block (by rw [hx]; exact h1)).trans hv)⟩
  · exact .inr h1
theorem RF.toBelow {B : Nat} {w w' : World} (h : RF B w w') : Below B w w' ∨ w.heap.size < B := by
  by_cases hB : w.heap.size < B
  · exact .inr hB
  · exact .inl ⟨h.os, h.tape, h.output, h.size, fun i hi => by
      rcases h.block i (by omega) with h1 | ⟨h1, _⟩
      · exact h1
      · omega⟩
theorem RF.keep {B : Nat} {w w' : World} (h : RF B w w') {a : Addr} {s : ByteArray} (hs : w.cell? a = some (.string s)) : w'.heap[a.block]? = w.heap[a.block]? := by
  rcases h.block a.block (World.block_lt_of_cell? _ _ hs) with h1 | ⟨_, h1⟩
  · exact h1
  · have := h1 a _ rfl hs
    simp [frZ] at this
/-- queues, one at least, stay -/
theorem RF.sl {B : Nat} {w w' : World} (h : RF B w w') {A : Option Addr} {n c : Nat} {ts : List Tn} (hs : Sl w 3 A n c (flatT ts)) (hne : ts ≠ []) : Sl w' 3 A n c (flatT ts) := by
  refine hs.block (fun ad ha hlt => ?_)
  subst ha
  match ts, hne with
  | t :: r, _ =>
    obtain ⟨a, h1, h2⟩ := hs.cells 0 (.string (bstr t.N)) rfl
    cases h1
    have := h.keep h2
    simpa [Addr.add] using this
theorem RF.store {B g : Nat} {t : TypeId} {base : Nat} {w w' : World} (h : w.grownBy w' (some g)) (hB : B ≤ g) (ho : Own base t 1 w (some ⟨g, 0, none⟩) 4 4 frZ) (hz : zeroF w g) : RF B w w' :=
  ⟨h.os, h.tape, h.output, h.size, fun i hi => by
    by_cases hg : i = g
    · subst hg; exact .inr ⟨hB, hz⟩
    · exact .inl (h.block i hi (by simpa using hg))⟩
theorem zeroF_new (w : World) (t : TypeId) : zeroF (w.alloc (.cells frZ.toArray t)) w.heap.size := by
  intro x v hx hv
  obtain ⟨b, o, s⟩ := x
  simp only at hx
  subst hx
  have h1 := heap_alloc_new w (.cells frZ.toArray t)
  unfold World.cell? at hv
  simp only [h1] at hv
  split at hv
  · cases hv
  · exact List.mem_of_getElem? (by simpa using hv)
end Go.Proofs.Ytphjmbhlokkdiaa
