import Derived.Test.YtphjmbhlokkdiaaFairK
namespace Go.Proofs.Ytphjmbhlokkdiaa
open Go.RowKit
set_option linter.unusedSimpArgs false
set_option linter.unusedVariables false

def Apart (A B : Option Addr) : Prop := ∀ a b, A = some a → B = some b → a.block ≠ b.block
def Lts (A : Option Addr) (w : World) : Prop := ∀ a, A = some a → a.block < w.heap.size
theorem Lts.size {A : Option Addr} {w w' : World} (h : Lts A w) (hs : w.heap.size ≤ w'.heap.size) : Lts A w' := fun a ha => Nat.lt_of_lt_of_le (h a ha) hs
theorem Apart.frm {w : World} {A A' B : Option Addr} (h : Apart A B) (hf : From w A A') (hB : Lts B w) : Apart A' B := by
  intro a b ha hb
  rcases hf a ha with ⟨a0, h0, e0⟩ | h1
  · rw [← e0]; exact h a0 b h0 hb
  · have := hB b hb; omega
theorem Apart.symm {A B : Option Addr} (h : Apart A B) : Apart B A := fun a b ha hb he => h b a hb ha he.symm
theorem App.apart {base size n c : Nat} {e : TypeId} {w w' : World} {A B : Option Addr} {cs : List Value} (h : App base e size w B n c cs) (hg : w.grownBy w' (rowOf base A)) (ha : Apart A B) : App base e size w' B n c cs :=
  h.kept hg (fun b hb he => by
    cases A with
    | none => simp [rowOf] at he
    | some a =>
      simp only [rowOf, Option.bind_some] at he
      by_cases hq : base ≤ a.block
      · rw [if_pos hq] at he
        exact ha a b rfl hb (Option.some.inj he).symm
      · rw [if_neg hq] at he; simp at he)
theorem App.lts {base size n c : Nat} {e : TypeId} {w : World} {A : Option Addr} {cs : List Value} (h : App base e size w A n c cs) (hn : cs ≠ []) : Lts A w := by
  intro a ha
  subst ha
  cases cs with
  | nil => exact absurd rfl hn
  | cons u r =>
    obtain ⟨a', h1, h2⟩ := h.sl.cells 0 u rfl
    cases h1
    have := World.block_lt_of_cell? _ _ h2
    simpa [Addr.add] using this
end Go.Proofs.Ytphjmbhlokkdiaa
