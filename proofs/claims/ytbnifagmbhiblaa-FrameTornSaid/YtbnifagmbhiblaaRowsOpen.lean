import Derived.Test.YtbnifagmbhiblaaFramedB
import Derived.Test.YtbnifagmbhiblaaLawRow
import Derived.Deep.Matrix
import Derived.WalkKit
import Derived.ProofKit
namespace Go.Proofs.Ytbnifagmbhiblaa
open Go.RowKit Go.ChangeShapes Go.WideShapes

/-- lists of bytes that came in, in the words of Ls -/
theorem ls_open {H : Type} {enc : TypeId × Value → H} {w : World} {fuel : Nat} {a : Option Addr} {n c : Nat} {x : DataW H × List MemPlace}
    (h : DataW.trod enc Try.prog w 0 (fun _ => true) true fuel 63 [.slice a n c] = some x) : n ≤ maxLen ∧ ∃ qs, Ls w a n c qs := by
  rcases Go.Deep.open_int_rows Try.underlying63 Try.underlying26 Try.underlying5 (by kernel_rfl) (by kernel_rfl) h with ⟨hcs, _⟩ | ⟨ad, len, cap, A, L, C, Z, hcs, _, hl, hm, _, hrow⟩
  · simp only [List.cons.injEq, Value.slice.injEq, and_true] at hcs
    obtain ⟨rfl, rfl, rfl⟩ := hcs
    exact ⟨Nat.zero_le _, [], Sl.nil w 1, fun q hq => by cases hq⟩
  · simp only [List.cons.injEq, Value.slice.injEq, and_true] at hcs
    obtain ⟨rfl, rfl, rfl⟩ := hcs
    refine ⟨Nat.le_trans hl hm, ?_⟩
    have each : ∀ r, r < n → ∃ l : List UInt8, Sl w 1 (A r) (L r) (C r) (bytesV l) := by
      intro r hr
      obtain ⟨_, h2, h3, h4, h5, h6, h7⟩ := hrow r (by omega)
      cases hA : A r with
      | none =>
        have hc0 := h6 hA
        exact sl_of_row (zs := Z r) (.inl ⟨rfl, by omega, hc0, List.eq_nil_of_length_eq_zero (by rw [h4]; exact hc0)⟩)
      | some a' =>
        refine sl_of_row (.inr ⟨a', rfl, h2, h3, h4, fun i hi => ?_, h5⟩)
        exact (h7 a' hA).2 i (by rw [← h4]; exact hi)
    obtain ⟨y, hy⟩ := Go.Deep.choose_lt each
    refine ⟨(List.range n).map fun r => ⟨A r, L r, C r, y r⟩, ?_, ?_⟩
    · refine ⟨fun j u hj => ⟨ad, rfl, ?_⟩, by simp, hl, fun h => by cases h⟩
      simp only [List.map_map, List.getElem?_map] at hj
      by_cases hjn : j < n
      · rw [List.getElem?_range hjn] at hj
        simp only [Option.map_some, Option.some.injEq, Function.comp, Part.v] at hj
        rw [← hj]
        exact (hrow j (by omega)).1
      · rw [List.getElem?_eq_none (by simp; omega)] at hj; simp at hj
    · intro q hq
      simp only [List.mem_map, List.mem_range] at hq
      obtain ⟨r, hr, rfl⟩ := hq
      exact hy r hr
end Go.Proofs.Ytbnifagmbhiblaa
