import Derived.Test.YtemegkapmgcffaaGreatR2F
import Derived.Test.YtemegkapmgcffaaGreatMWb
/- The document's disk, by value: predicates for drawn regions. -/
namespace Go.Proofs.YtemegkapmgcffaaGreat
open Go.RowKit
set_option linter.unusedSimpArgs false
set_option linter.unusedVariables false

def isTx (G : Nat → Prop) (L : List UInt8) : Value → World → Prop := fun v w => ∃ A c, v = .slice A L.length c ∧ Sl w 1 A L.length c (bytesV L) ∧ ∀ a, A = some a → a.block < w.heap.size ∧ G a.block
theorem isTx_st (G : Nat → Prop) (L : List UInt8) : Stable (isTx G L) := fun _ _ _ hb ⟨A, c, e, h1, h2⟩ => ⟨A, c, e, h1.below hb, fun a ha => ⟨Nat.lt_of_lt_of_le (h2 a ha).1 hb.size, (h2 a ha).2⟩⟩
def isFl2 (G : Nat → Prop) (nm : Nm) (L : List UInt8) (z : Int) : Value → World → Prop := fun v w => ∃ A c, v = .agg #[.string (bstr nm), .slice A L.length c, .int .i64 z] ∧ Sl w 1 A L.length c (bytesV L) ∧ ∀ a, A = some a → a.block < w.heap.size ∧ G a.block
theorem isFl2_st (G : Nat → Prop) (nm : Nm) (L : List UInt8) (z : Int) : Stable (isFl2 G nm L z) := fun _ _ _ hb ⟨A, c, e, h1, h2⟩ => ⟨A, c, e, h1.below hb, fun a ha => ⟨Nat.lt_of_lt_of_le (h2 a ha).1 hb.size, (h2 a ha).2⟩⟩
def isPut (G : Nat → Prop) (room fu : Int) (fs' : List Fl) : Value → World → Prop := fun v w => ∃ A n c es', v = .agg #[.int .i64 room, .slice A n c, .int .i64 fu, .bool false] ∧ R2 G w A n c es' ∧ es'.map FE.f = fs'
theorem isPut_st (G : Nat → Prop) (room fu : Int) (fs' : List Fl) : Stable (isPut G room fu fs') := fun _ _ _ hb ⟨A, n, c, es', e, h1, h2⟩ => ⟨A, n, c, es', e, h1.below hb, h2⟩
theorem sl_pre {w : World} {A : Option Addr} {m c : Nat} {l : List UInt8} (h1 : Sl w 1 A m c (bytesV l)) {n : Nat} (hn : n ≤ l.length) : Sl w 1 A n c (bytesV (l.take n)) := by
  have hl := h1.blen
  have h2 : bytesV (l.take n) = (bytesV l).take n := by unfold bytesV; rw [List.map_take]
  refine ⟨fun j u hj => ?_, ?_, by have := h1.le; omega, fun ha => ⟨by have := (h1.none ha).1; omega, (h1.none ha).2⟩⟩
  · rw [h2, List.getElem?_take] at hj
    split at hj
    · exact h1.cells j u hj
    · cases hj
  · rw [bytesV_length, List.length_take]
    omega
theorem text_such {G : Nat → Prop} {w : World} {A B : Option Addr} {n c m d : Nat} {l b : List UInt8} (hG : ∀ q, w.heap.size ≤ q → G q) (hs : Sl w 1 A n c (bytesV l)) (ht : Sl w 1 B m d (bytesV b)) (hn : n ≤ 400000) (hm : m ≤ 400000) :
    Calls Tryz.prog 45 #[.slice A n c, .slice B m d] w fun x w' => ∃ v, x = .returned v ∧ Below w.heap.size w w' ∧ isTx G (l ++ b) v w' :=
  (r2text_any A B n c m d l b w hs ht hn hm).mono fun x w' ⟨A', c', h1, h2, h3, h4⟩ => ⟨_, h1, h4, A', c', rfl, h2, fun a ha => ⟨(h3 a ha).2, hG _ (h3 a ha).1⟩⟩
theorem put_such {G : Nat → Prop} {w : World} {room fu : Int} {A : Option Addr} {n c : Nat} {es : List FE} (hG : ∀ q, w.heap.size ≤ q → G q) (hs : R2 G w A n c es) (hn : n ≤ 1000) (fn other : Nm) (FA : Option Addr) (fb : List UInt8) (fc : Nat) (fz : Nat) (hf : Sl w 1 FA fb.length fc (bytesV fb)) (hfl : bytesV fb ≠ [] → ∀ a, FA = some a → a.block < w.heap.size ∧ G a.block) :
    Calls Tryz.prog 44 #[.agg #[.int .i64 room, .slice A n c, .int .i64 fu, .bool false], .agg #[.string (bstr fn), .slice FA fb.length fc, .int .i64 (fz : Int)], .string (bstr other)] w fun x w' => ∃ v, x = .returned v ∧ Below w.heap.size w w' ∧ isPut G room fu (putF (es.map FE.f) ⟨fn, fb, fz⟩ other) v w' :=
  (r2put_any hG hs hn fn other FA fb fc fz hf hfl).mono fun x w' ⟨A', c', h1, h2, h3⟩ => ⟨_, h1, h3, A', _, c', _, rfl, h2, putE_map _ _ _⟩
end Go.Proofs.YtemegkapmgcffaaGreat
