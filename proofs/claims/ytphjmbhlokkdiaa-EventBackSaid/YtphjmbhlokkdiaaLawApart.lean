import Derived.Test.YtphjmbhlokkdiaaFrameLaw
namespace Go.Proofs.Ytphjmbhlokkdiaa
open Go.RowKit
set_option linter.unusedSimpArgs false
set_option linter.unusedVariables false

theorem such_of_bool {f : FuncId} {args : Array Value} {w : World} {v : Value} (h : Calls Try.prog f args w fun e w' => e = .returned v ∧ Below w.heap.size w w') :
    Calls Try.prog f args w fun e w' => ∃ u, e = .returned u ∧ Below w.heap.size w w' ∧ isV v u w' :=
  h.mono fun e w' ⟨h1, h2⟩ => ⟨_, h1, h2, isV_mk _ _⟩

theorem frm_apart {a b : List UInt8} (ha0 : 0 < a.length) (ha : a.length ≤ 1048576) (hb0 : 0 < b.length) (hb : b.length ≤ 1048576) (n : Nat) (h1 : (frm a).length ≤ n ∨ (frm b).length ≤ n) (h : (frm a).take n = (frm b).take n) : a = b := by
  have key : ∀ {a b : List UInt8}, 0 < a.length → a.length ≤ 1048576 → 0 < b.length → b.length ≤ 1048576 → (frm a).length ≤ n → (frm a).take n = (frm b).take n → a = b := by
    intro a b ha0 ha hb0 hb h1 h
    rw [List.take_of_length_le h1] at h
    have e1 := fg_frm [] a ((frm b).drop n) 0 rfl ha0 ha
    have e2 := fg_frm [] b [] 0 rfl hb0 hb
    rw [h] at e1
    simp only [List.nil_append, List.take_append_drop, List.append_nil] at e1 e2
    rw [e2] at e1
    simp only [Prod.mk.injEq] at e1
    exact e1.1.symm
  rcases h1 with h1 | h1
  · exact key ha0 ha hb0 hb h1 h
  · exact (key hb0 hb ha0 ha h1 h.symm).symm

end Go.Proofs.Ytphjmbhlokkdiaa
