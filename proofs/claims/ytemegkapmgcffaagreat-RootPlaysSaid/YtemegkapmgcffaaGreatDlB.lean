import Derived.Test.YtemegkapmgcffaaGreatDlA
/- The disk: a snap of it. -/
namespace Go.Proofs.YtemegkapmgcffaaGreat
open Go.RowKit
set_option linter.unusedSimpArgs false
set_option linter.unusedVariables false

/-- a row that is none of the disk's -/
def Rw (F : Nat → Prop) (w : World) (A : Option Addr) (n c : Nat) (vs : List Value) : Prop := Sl w 1 A n c vs ∧ (vs ≠ [] → ∀ a, A = some a → a.block < w.heap.size ∧ ¬ F a.block)
theorem Rw.sl {F : Nat → Prop} {w : World} {A : Option Addr} {n c : Nat} {vs : List Value} (h : Rw F w A n c vs) : Sl w 1 A n c vs := h.1
theorem Rw.step {F F' : Nat → Prop} {w w' : World} {A : Option Addr} {n c : Nat} {vs : List Value} (h : Rw F w A n c vs) (hc : Cg F F' w w') : Rw F' w' A n c vs := by
  by_cases h0 : vs = []
  · subst h0
    exact ⟨⟨fun j u hj => by simp at hj, h.1.len, h.1.le, h.1.none⟩, fun h => absurd rfl h⟩
  · refine ⟨sl_same h.1 (fun a ha => hc.block _ (h.2 h0 a ha).1 (h.2 h0 a ha).2), fun _ a ha => ⟨Nat.lt_of_lt_of_le (h.2 h0 a ha).1 hc.size, fun hf => ?_⟩⟩
    have h5 := h.2 h0 a ha
    rcases hc.new _ hf with h6 | h6
    · exact h5.2 h6
    · omega
theorem Rw.below {F : Nat → Prop} {w w' : World} {A : Option Addr} {n c : Nat} {vs : List Value} (h : Rw F w A n c vs) (hb : Below w.heap.size w w') : Rw F w' A n c vs := h.step (Cg.below hb)
def txV (D : Dk) : List Value := D.fs.map fun f => .string (bstr (readD D f.nm).1)
def sfV (D : Dk) : List Value := D.fs.map fun f => .int .i64 ((lookF D.fs f.nm).safe : Int)
section
variable {w : World} {base p : Nat} {D : Dk} {F : Nat → Prop}
end
end Go.Proofs.YtemegkapmgcffaaGreat
